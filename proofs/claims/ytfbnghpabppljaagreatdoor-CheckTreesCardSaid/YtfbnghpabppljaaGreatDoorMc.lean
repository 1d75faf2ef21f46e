/- EvCode, EvLaw, EvLim, EvSym, EvHeap, EvDrw, EvFz, EvSub. -/
import Derived.Scope
import Derived.Recover
import Derived.Below
import Derived.Test.YtfbnghpabppljaaGreatDoorMb
set_option linter.unusedSimpArgs false
set_option linter.unusedVariables false
set_option linter.unusedSectionVars false
set_option linter.defProp false
set_option maxRecDepth 20000
set_option maxHeartbeats 8000000
namespace Go.Proofs.YtfbnghpabppljaaGreatDoor.Ev
open Go
section
section
variable {P:Program} {G:List Nat} {n:Nat} {call:Call}
theorem xC.Nf{ρ:eR}{ds:List Deferred}(h:xC ρ [] ds):ds=[]:=by cases h;rfl
theorem GV{Q:Exit->Act->World->Prop}{a:Act}{w:World}{c:Code}(I:Nat->Act->World->Prop)(j:Nat)(h₀:I j a w)
  (round:∀j a w,I j a w->c.wp P (Exit.then (fun a' w'=>∃i,i<j/\I i a' w') Q) a w):(Code.loop c).wp P Q a w:=by
 intro b k cs;have key:∀j a w,I j a w->∃e a' w',Q e a' w'/\Arrives P (lone (b.at a (.code c::.inLoop c::k)) cs w) b k cs e a' w':=by
  intro j
  induction j using Nat.strongRecOn with
  |_ j ih=>
   intro a w hI;obtain⟨e,a₁,w₁,hq,tN⟩:=round j a w hI b (.inLoop c::k) cs;cases e with
   |normal=>
    obtain⟨i,aH,hI₁⟩:=hq;obtain⟨e₂,a₂,w₂,hq₂,ahU⟩:=ih i aH a₁ w₁ hI₁;exact⟨e₂,a₂,w₂,hq₂,.of_steps (Steps.trans tN (.one step_inLoop)) ahU⟩
   |exit id=>exact⟨_,a₁,w₁,hq,.pass (x:=.inLoop c) rfl (fun _ _=>.inl (by simp)) tN⟩
   |goto l=>exact⟨_,a₁,w₁,hq,.pass (x:=.inLoop c) rfl (fun _ _=>.inl (by simp)) tN⟩
   |ret=>exact⟨_,a₁,w₁,hq,.pass (x:=.inLoop c) rfl (fun _ _=>.inl (by simp)) tN⟩
   |panic ch=>exact⟨_,a₁,w₁,hq,.pass (x:=.inLoop c) rfl (fun _ _=>.inl (by simp)) tN⟩
   |outgrown=>exact⟨_,a₁,w₁,hq,.pass (x:=.inLoop c) rfl (fun _ _=>.inl (by simp)) tN⟩
 obtain⟨e,a',w',hq,tN⟩:=key j a w h₀;exact⟨e,a',w',hq,.of_steps (.one step_loop) tN⟩
theorem jZ(j9:P.follows .mixedOrders=true)(cm:rA P G call)(k:Nat){base:Nat}:∀(c:Code) (ic:ar),iL P G n c=some ic->
  ∀(ρ:eR) (m:Mem) (w:World) (fr:Fr) (a:Act) (out:Out),R base ρ m w->lx G ρ->Cc ρ n fr a->aB call k ic fr m=some out->c.wp P (Reach base n ρ m w out) a w
 | .skip,ic,hc,ρ,m,w,fr,a,out,hR,hG,hF,h=>by
  simp only[iL,bQ]at hc;subst hc;simp only[aB,bQ]at h;subst h;exact wp_skip ⟨rfl,ρ,hR,.refl _ _ _,hF⟩
 | .label l,ic,hc,ρ,m,w,fr,a,out,hR,hG,hF,h=>by
  simp only[iL,bQ]at hc;subst hc;simp only[aB,bQ]at h;subst h;exact wp_label ⟨rfl,ρ,hR,.refl _ _ _,hF⟩
 | .exit id,ic,hc,ρ,m,w,fr,a,out,hR,hG,hF,h=>by
  simp only[iL,bQ]at hc;subst hc;simp only[aB,bQ]at h;subst h;exact wp_exit ⟨rfl,ρ,hR,.refl _ _ _,hF⟩
 | .ret,ic,hc,ρ,m,w,fr,a,out,hR,hG,hF,h=>by
  simp only[iL,bQ]at hc;subst hc;simp only[aB,bQ]at h;subst h;exact wp_ret ⟨rfl,ρ,hR,.refl _ _ _,hF⟩
 | .region id ops false,ic,hc,ρ,m,w,fr,a,out,hR,hG,hF,h=>by
  simp only[iL]at hc;obtain⟨is,his,rfl⟩:=ah hc;simp only[aB]at h;refine wp_region ?_
  obtain⟨h1,h2⟩:=mapM_some _ his;refine FY cm is (List.range ops.size) (by simpa using h1.symm) (fun j i io hj BV=> ?_) ρ m w fr a out hR hG hF h
  have aH:j<ops.size:=by
   have:=(mu.1 hj).1;simpa using this
  rw[List.getElem?_range aH]at hj;cases hj;exact⟨ops[j],Array.getElem?_eq_getElem aH,h2 j ops[j] io (by simp[aH]) BV⟩
 | .region id ops true,ic,hc,ρ,m,w,fr,a,out,hR,hG,hF,h=>by
  simp only[iL]at hc;cases his:ops.toList.mapM (u0 P G n ops)with
  |none=>simp[his]at hc
  |some is=>
   simp only[his]at hc;obtain⟨chk,aer,rfl⟩:=ah hc;simp only[aB]at h;exact Om j9 cm his aer hR hG hF h
 | .seq x y,ic,hc,ρ,m,w,fr,a,out,hR,hG,hF,h=>by
  simp only[iL]at hc;cases hx:iL P G n x with
  |none=>simp[hx]at hc
  |some ix=>
  cases hy:iL P G n y with
  |none=>simp[hx,hy]at hc
  |some iy=>
  simp only[hx,hy,bQ]at hc;subst hc;simp only[aB]at h;cases h1:aB call k ix fr m with
  |none=>simp[h1]at h
  |some o1=>
   simp only[h1]at h;have hw:=jZ j9 cm k x ix hx ρ m w fr a o1 hR hG hF h1;refine wp_seq (wp_mono hw fun e a1 w1 hq=> ?_)
   cases o1 with
   |norm iq m1=>
    obtain⟨rfl,ρ1,n8,hs,rh⟩:=hq;simp only[Exit.then];have:=jZ j9 cm k y iy hy ρ1 m1 w1 iq a1 out n8 (hG.ext hs.ext) rh h;exact wp_mono this fun e a w hq=>hq.after hs
   |exit id iq m1=>
    simp only[bQ]at h;subst h;have:=hq;obtain⟨rfl,_⟩:=this;exact hq
   |ret iq m1=>
    simp only[bQ]at h;subst h;have:=hq;obtain⟨rfl,_⟩:=this;exact hq
   |jk v iq m1=>
    simp only[bQ]at h;subst h;have:=hq;obtain⟨_,_,rfl,_⟩:=this;exact hq
 | .cond c x y,ic,hc,ρ,m,w,fr,a,out,hR,hG,hF,h=>by
  simp only[iL]at hc;cases wa:fS G c with
  |none=>simp[wa]at hc
  |some c'=>
  cases hx:iL P G n x with
  |none=>simp[wa,hx]at hc
  |some ix=>
  cases hy:iL P G n y with
  |none=>simp[wa,hx,hy]at hc
  |some iy=>
  simp only[wa,hx,hy,bQ]at hc;subst hc;simp only[aB]at h;have wW:=j3 hG hF.tm wa;cases tJ:fr.eval c'<;>simp only[tJ,reduceCtorEq]at h
  rename_i t
  rw[tJ]at wW;generalize HO:a.eval c=av at wW;cases wW;refine wp_cond HO ?_
  cases t with
  |true=>exact jZ j9 cm k x ix hx ρ m w fr a out hR hG hF h
  |false=>exact jZ j9 cm k y iy hy ρ m w fr a out hR hG hF h
 | .block id x,ic,hc,ρ,m,w,fr,a,out,hR,hG,hF,h=>by
  simp only[iL]at hc;obtain⟨ix,hx,rfl⟩:=ah hc;simp only[aB]at h;cases h1:aB call k ix fr m with
  |none=>simp[h1]at h
  |some o1=>
   simp only[h1]at h;have hw:=jZ j9 cm k x ix hx ρ m w fr a o1 hR hG hF h1;refine wp_block (wp_mono hw fun e a1 w1 hq=> ?_)
   cases o1 with
   |norm iq m1=>
    simp only[bQ]at h;subst h;have:=hq;obtain⟨rfl,_⟩:=this;exact hq
   |exit j iq m1=>
    obtain⟨rfl,hq⟩:=hq;simp only[Exit.inBlock];cases hj:j.beq id<;>simp only[hj,cond_true,cond_false,bQ]at h<;>subst h
    ·rw[if_neg (my hj)];exact⟨rfl,hq⟩
    ·rw[if_pos (bf hj)];exact⟨rfl,hq⟩
   |ret iq m1=>
    simp only[bQ]at h;subst h;have:=hq;obtain⟨rfl,_⟩:=this;exact hq
   |jk v iq m1=>
    simp only[bQ]at h;subst h;have:=hq;obtain⟨_,_,rfl,_⟩:=this;exact hq
 | .loop x,ic,hc,ρ,m,w,fr,a,out,hR,hG,hF,h=>by
  simp only[iL]at hc;obtain⟨ix,hx,rfl⟩:=ah hc;simp only[aB]at h;refine GV (fun j a1 w1=>∃ρ1 m1 iq,R base ρ1 m1 w1/\Step ρ m w ρ1 m1 w1/\Cc ρ1 n iq a1/\iter (aB call k ix) j iq m1=some out) k ⟨ρ,m,fr,hR,.refl _ _ _,hF,h⟩ ?_
  rintro j a1 w1 ⟨ρ1,m1,iq,n8,hs,rh,WE⟩;cases j with
  |zero=>simp[iter]at WE
  |succ j=>
   simp only[iter]at WE;cases h1:aB call k ix iq m1 with
   |none=>simp[h1]at WE
   |some o1=>
    simp only[h1]at WE;have hw:=jZ j9 cm k x ix hx ρ1 m1 w1 iq a1 o1 n8 (hG.ext hs.ext) rh h1;refine wp_mono hw fun e a2 w2 hq=> ?_
    cases o1 with
    |norm HV m2=>
     obtain⟨rfl,ρ2,hR2,NH,jr⟩:=hq;exact⟨j,Nat.lt_succ_self j,ρ2,m2,HV,hR2,hs.trans NH,jr,WE⟩
    |exit id HV m2=>
     simp only[bQ]at WE;subst WE;have:=hq;obtain⟨rfl,_⟩:=this;exact hq.after hs
    |ret HV m2=>
     simp only[bQ]at WE;subst WE;have:=hq;obtain⟨rfl,_⟩:=this;exact hq.after hs
    |jk v HV m2=>
     simp only[bQ]at WE;subst WE;have:=hq;obtain⟨_,_,rfl,_⟩:=this;exact hq.after hs
 | .scope x,ic,hc,ρ,m,w,fr,a,out,hR,hG,hF,h=>by
  simp only[iL]at hc;refine wp_scope_straight (wp_mono (jZ j9 cm k x ic hc ρ m w fr a out hR hG hF h) fun e a1 w1 hq=> ?_)
  cases out with
  |norm iq m1=>have:=hq;obtain⟨rfl,_⟩:=this;exact hq
  |exit id iq m1=>have:=hq;obtain⟨rfl,_⟩:=this;exact hq
  |ret iq m1=>have:=hq;obtain⟨rfl,_⟩:=this;exact hq
  |jk v iq m1=>have:=hq;obtain⟨_,_,rfl,_⟩:=this;exact hq
 | .goto l,ic,hc,ρ,m,w,fr,a,out,hR,hG,hF,h=>by simp[iL]at hc
 | .refuse l,ic,hc,ρ,m,w,fr,a,out,hR,hG,hF,h=>by simp[iL]at hc
 | .rangeFunc f ps s b,ic,hc,ρ,m,w,fr,a,out,hR,hG,hF,h=>by simp[iL]at hc
theorem GP:∀(l:List EV) (i:Nat) (t:Tr EV) (k:Nat),(dh l i t).get k=if i<=k/\k<i+l.length then l[k- i]? else t.get k
 |[],i,t,k=>by rw[if_neg (fun h=>by have:=h.2;simp at this;omega)];rfl
 |v::l,i,t,k=>by
  simp only[dh];rw[GP l (i+1) (t.set i v) k,Tr.ct];by_cases h:k=i
  ·subst h;rw[if_neg (by omega),if_pos rfl,if_pos (by simp)];simp
  ·by_cases h2:i+1<=k/\k<i+1+l.length
   ·rw[if_pos h2,if_pos (by simp;omega),show k- i=(k-(i+1))+1 by omega];simp
   ·rw[if_neg h2,if_neg h,if_neg (by simp;omega)]
theorem wm{ρ:eR}{args:List EV}{aK:Array Value}(hv:gi ρ args aK.toList)(hn:aK.size<=n):Cc ρ n ⟨dh args 0 .leaf,[]⟩ {tmps:=aK++Array.replicate (n- aK.size) undef,defers:=[]}:=by
 have hl:=hv.length;simp at hl;refine⟨⟨by simp;omega,fun t=> ?_⟩,.nil⟩
 unfold Fr.get;simp only;rw[GP,Tr.zy];by_cases h:0<=t/\t<0+args.length
 ·rw[if_pos h];have aH:t<args.length:=by omega
  obtain⟨v',g1,g2⟩:=hv.get t args[t] (jE aH);rw[show t- 0=t by omega,jE aH];rw[Array.getD_eq_getD_getElem?,Array.getElem?_append_left (by omega)];rw[Array.getElem?_toList]at g1;rw[g1];exact g2
 ·rw[if_neg h];have aH:aK.size<=t:=by omega
  have e:(aK++Array.replicate (n- aK.size) undef).getD t undef=undef:=by
   rw[Array.getD_eq_getD_getElem?,Array.getElem?_append_right aH,Array.getElem?_replicate]
   split<;>rfl
  rw[e];exact .undef
theorem xq{base:Nat}{ρ:eR}{m:Mem}{w:World}{fr:Fr}{a:Act}(hR:R base ρ m w)(hF:FR ρ n fr a):∀(rs:List ResultVar) (irs:List ns) (vs:List EV),rs.mapM (z0 P)=some irs->b8 fr m irs=some vs->
  ∃vz,(rs.mapM fun r=>(match r with| .tmp t=>pure (a.tmps.getD t undef)| .cell ad t=>do loadVar t (<- asAddr (a.tmps.getD ad undef)):Sem Value)).run P w=.ok vz w/\gi ρ vs vz
 |[],irs,vs,hc,h=>by
  simp at hc;subst hc;simp[b8]at h;subst h;exact⟨[],rfl,.nil⟩
 |r::rs,irs,vs,hc,h=>by
  rw[List.mapM_cons]at hc;cases hr:z0 P r with
  |none=>simp[hr]at hc
  |some ir=>
  cases hrs:rs.mapM (z0 P)with
  |none=>simp[hr,hrs]at hc
  |some amS=>
  simp[hr,hrs]at hc;subst hc;simp only[b8]at h;cases hv:zF fr m ir with
  |none=>simp[hv]at h
  |some v=>
  simp only[hv]at h;obtain⟨vs0,h0,rfl⟩:=ah h;obtain⟨vz,r1,r2⟩:=xq hR hF rs amS vs0 hrs h0;cases r with
  |tmp t=>
   simp only[z0,bQ]at hr;subst hr;simp only[zF,bQ]at hv;subst hv;exact⟨a.tmps.getD t undef::vz,by simp only[List.mapM_cons,Sem.run_bind,Sem.run_pure,Result.andThen_ok,r1],.cons (hF.tmp t) r2⟩
  |cell ad t=>
   simp only[z0]at hr;obtain⟨g,hg,rfl⟩:=ah hr;simp only[zF]at hv;obtain⟨ad',v',e1,e2,e3⟩:=xw (P:=P) hR hg (hF.tmp ad) hv;have ea:(asAddr (a.tmps.getD ad undef)).run P w=.ok ad' w:=by rw[e1];rfl
   exact⟨v'::vz,by simp only[List.mapM_cons,Sem.run_bind,ea,Sem.run_pure,Result.andThen_ok,e2,r1],.cons e3 r2⟩
theorem Rz{ρ:eR}{vs:List EV}{vz:List Value}(h:gi ρ vs vz):VR ρ (one vs) (if hh:(⟨vz⟩:Array Value).size=1 then(⟨vz⟩:Array Value)[0]else .tuple ⟨vz⟩):=by
 cases h with
 |nil=>exact .tuple .nil
 |cons hx hs=>
  cases hs with
  |nil=>simpa[one]using hx
  |cons hy hs=>
   simp only[one];rw[dif_neg (by simp)];exact .tuple (.cons hx (.cons hy hs))
def Ly(P:Program)(G:List Nat)(g:Nat)(b:Option Nat)(FD:aC):Prop:=∃fn,P.funcs[g]?=some fn/\match b with
 |none=>bH P G fn=some FD
 |some d=>Qf P G fn=some (d,FD)
def Qt(P:Program)(G:List Nat)(f:Nat):jm->Prop
 | .go F=>∃fn,P.funcs[f]?=some fn/\bH P G fn=some F
 | .ext g=>∀base ρ m w args (aK:Array Value) v,R base ρ m w->gi ρ args aK.toList->g args=some v->∃v',(callFunc f aK).run P w=.ok (.value v') w/\VR ρ v v'
 | .pure g=>∀base ρ m w args (aK:Array Value) v,R base ρ m w->gi ρ args aK.toList->g args=some v->(callFunc f aK).run P w=.ok (.enter f aK) w/\Calls P f aK w (qf base ρ m w (.ret v m))
 | .spec g=>∀base ρ m w args (aK:Array Value) fin,R base ρ m w->lx G ρ->gi ρ args aK.toList->g args m=some fin->(callFunc f aK).run P w=.ok (.enter f aK) w/\Calls P f aK w (qf base ρ m w fin)
 | .GC F D=>(∃fn,P.funcs[f]?=some fn/\bH P G fn=some F)/\∀g b FD,m5 g D=some (b,FD)->Ly P G g b FD
theorem ya{base:Nat}{ρ:eR}{m:Mem}{w:World}{fr:Fr}{a:Act}{fn:Func}{r:List ns}(CA:fn.results.toList.mapM (z0 P)=some r)(hR:R base ρ m w)(hF:FR ρ n fr a){vs:List EV}(yv:b8 fr m r=some vs) :
  ∃v,(results fn a.tmps).run P w=.ok v w/\VR ρ (one vs) v:=by
 obtain⟨vz,r1,r2⟩:=xq (P:=P) hR hF fn.results.toList r vs CA yv;refine⟨_,?_,Rz r2⟩
 simp only[results,Sem.run_bind];rw[Array.mapM_eq_mapM_toList,Sem.run_map]
 erw [r1]
 rfl
theorem Ek{fn:Func}{F:aC}(hc:bH P G fn=some F):∃c b r,fn.body=some c/\(fn.name== "runtime.NumGoroutine")=false/\iL P G fn.ntmps c=some b/\fn.results.toList.mapM (z0 P)=some r/\F=⟨fn.ntmps,b,r⟩:=by
 unfold bH at hc;cases hb:fn.body with
 |none=>simp[hb]at hc
 |some c=>
 simp only[hb]at hc;cases BT:fn.name== "runtime.NumGoroutine" <;>simp only[BT,cond_true,cond_false,reduceCtorEq]at hc
 cases wa:iL P G fn.ntmps c with
 |none=>simp[wa]at hc
 |some b=>
 cases CA:fn.results.toList.mapM (z0 P)with
 |none=>simp[wa,CA]at hc
 |some r=>
 simp only[wa,CA,bQ]at hc;exact⟨c,b,r,rfl,rfl,wa,rfl,hc.symm⟩
theorem Tb{fn:Func}{d:Nat}{F:aC}(hc:Qf P G fn=some (d,F)):∃c b r,fn.body=some c/\(fn.name== "runtime.NumGoroutine")=false/\kE P G fn.ntmps c=some (d,b)/\fn.results.toList.mapM (z0 P)=some r/\F=⟨fn.ntmps,b,r⟩:=by
 unfold Qf at hc;cases hb:fn.body with
 |none=>simp[hb]at hc
 |some c=>
 simp only[hb]at hc;cases BT:fn.name== "runtime.NumGoroutine" <;>simp only[BT,cond_true,cond_false,reduceCtorEq]at hc
 cases wa:kE P G fn.ntmps c with
 |none=>simp[wa]at hc
 |some q=>
 obtain⟨d',b⟩:=q;cases CA:fn.results.toList.mapM (z0 P)with
 |none=>simp[wa,CA]at hc
 |some r=>
 simp only[wa,CA,bQ,sY]at hc;obtain⟨rfl,rfl⟩:=hc;exact⟨c,b,r,rfl,rfl,wa,rfl,rfl⟩
theorem wZ{f:Nat}{fn:Func}(hf:P.funcs[f]?=some fn){c:Code}(hb:fn.body=some c)(BT:(fn.name== "runtime.NumGoroutine")=false){aK:Array Value}{w:World}:(callFunc f aK).run P w=.ok (.enter f aK) w:=by
 simp[callFunc,hf,hb];simpa using BT
theorem Qh(j9:P.follows .mixedOrders=true)(cm:rA P G call)(k:Nat){base:Nat}{fn:Func}{c:Code}{b:ar}{r:List ns}(wa:iL P G fn.ntmps c=some b)(CA:fn.results.toList.mapM (z0 P)=some r){args:List EV}{m:Mem}{fin:Fin}(h:dv call k ⟨fn.ntmps,b,r⟩ args m=some fin)
  {ρ:eR} {w:World} {aK:Array Value} (hR:R base ρ m w) (hG:lx G ρ) (hv:gi ρ args aK.toList) :
  c.wp P (bodyPost P fn (qf base ρ m w fin)) {tmps:=aK++Array.replicate (fn.ntmps- aK.size) undef,defers:=[]} w:=by
 have hl:=hv.length;simp at hl;unfold dv at h;cases hargs:args.length.ble fn.ntmps with
 |false=>simp[hargs]at h
 |true=>
 simp only[hargs,cond_true]at h;have hn:aK.size<=fn.ntmps:=by have:=rI hargs;omega
 cases h1:aB call k b ⟨dh args 0 .leaf,[]⟩ m with
 |none=>simp[h1]at h
 |some o1=>
  simp only[h1]at h;have hw:=jZ j9 cm k c b wa ρ m w _ _ o1 hR hG (wm hv hn) h1;refine wp_mono hw fun e a1 w1 hq=> ?_
  have done:∀{iq:Fr} {m1:Mem} {ρ1:eR},R base ρ1 m1 w1->Step ρ m w ρ1 m1 w1->Cc ρ1 fn.ntmps iq a1->(match iq.defers with|[]=>(b8 iq m1 r).map fun vs=>Fin.ret (one vs) m1|_=>none)=some fin->
    a1.defers=[]/\∃v,(results fn a1.tmps).run P w1=.ok v w1/\qf base ρ m w fin (.returned v) w1:=by
   intro iq m1 ρ1 n8 hs rh xS;have hd:=rh.Fk;cases Fe:iq.defers with
   |cons x l=>simp[Fe]at xS
   |nil=>
    rw[Fe]at hd;simp only[Fe]at xS;obtain⟨vs,yv,rfl⟩:=ah xS;obtain⟨v,r1,r2⟩:=ya CA n8 rh.tm yv;exact⟨hd.Nf,v,r1,ρ1,v,rfl,r2,n8,hs⟩
  cases o1 with
  |norm iq m1=>
   obtain⟨rfl,ρ1,n8,hs,rh⟩:=hq;exact done n8 hs rh h
  |ret iq m1=>
   obtain⟨rfl,ρ1,n8,hs,rh⟩:=hq;exact done n8 hs rh h
  |exit id iq m1=>simp at h
  |jk v iq m1=>
   obtain⟨ρ1,v',rfl,vj,n8,hs,rh⟩:=hq;simp only at h;have hd:=rh.Fk;cases Fe:iq.defers with
   |cons x l=>simp[Fe]at h
   |nil=>
    rw[Fe]at hd;simp only[Fe,bQ]at h;subst h;exact⟨hd.Nf,ρ1,v',rfl,vj,n8,hs⟩
theorem Ep(j9:P.follows .mixedOrders=true)(cm:rA P G call)(k:Nat){base:Nat}{f:Nat}{fn:Func}(hf:P.funcs[f]?=some fn){F:aC}(hc:bH P G fn=some F){args:List EV}{m:Mem}{fin:Fin}(h:dv call k F args m=some fin)
  {ρ:eR} {w:World} {aK:Array Value} (hR:R base ρ m w) (hG:lx G ρ) (hv:gi ρ args aK.toList) :
  (callFunc f aK).run P w=.ok (.enter f aK) w/\Calls P f aK w (qf base ρ m w fin):=by
 obtain⟨c,b,r,hb,BT,wa,CA,rfl⟩:=Ek hc;exact⟨wZ hf hb BT,calls_of_wp hf hb (Qh j9 cm k wa CA h hR hG hv)⟩
def u4(ρ:eR)(u:Option EV)(md:FrameMode):Prop:=match u with
 |none=>md=.returning
 |some v=>∃v',md=.panicking [{v:=v',recovered:=false}]/\VR ρ v v'
theorem u4.ext{ρ ρ':eR}(e:Ext ρ ρ'){u:Option EV}{md:FrameMode}(h:u4 ρ u md):u4 ρ' u md:=by
 cases u with
 |none=>exact h
 |some v=>obtain⟨v',h1,h2⟩:=h;exact⟨v',h1,h2.ext e⟩
theorem u4.run{ρ:eR}{u:Option EV}{md:FrameMode}(h:u4 ρ u md):md≠.run:=by
 cases u with
 |none=>cases h;simp
 |some v=>obtain⟨v',rfl,_⟩:=h;simp
theorem u4.settle{ρ:eR}{u:Option EV}{md:FrameMode}(h:u4 ρ u md):Go.settle md=md:=by
 cases u with
 |none=>cases h;rfl
 |some v=>obtain⟨v',rfl,_⟩:=h;rfl
theorem u4.got{ρ:eR}{u:Option EV}{md:FrameMode}(h:u4 ρ u md)(c₀:Frame)(cs:List Frame)(hm:c₀.mode=md):∃v' u',VR ρ (u.getD .aP) v'/\Go.settle u'=.returning/\
  ((recoverD (c₀::cs)=none/\v'=.nilIface/\({c₀ with mode:=u'}:Frame)=c₀)\/recoverD (c₀::cs)=some (v',{c₀ with mode:=u'}::cs)):=by
 cases u with
 |none=>
  cases h;refine⟨.nilIface,.returning,.aP,rfl,.inl ⟨by simp[recoverD,hm],rfl,?_⟩⟩
  cases c₀;cases hm;rfl
 |some v=>
  obtain⟨v',rfl,hv⟩:=h;exact⟨v',.panicking [{v:=v',recovered:=true}],hv,rfl,.inr (by simp[recoverD,hm])⟩
theorem IL{c:Code}{Q Q':Exit->Act->List Frame->World->Prop}{a:Act}{cs:List Frame}{w:World}(h:c.wpS P Q a cs w)(hq:∀e a cs w,Q e a cs w->Q' e a cs w):c.wpS P Q' a cs w:=
 fun b k h1 h2=>let ⟨e,a',oM,w',q,r⟩:=h b k h1 h2;⟨e,a',oM,w',hq _ _ _ _ q,r⟩
theorem Sd{o:Oper}(h:PB o=true):o.guard=none/\∃ts,o.op=.call ⟨.builtin .recover,#[],ts⟩:=by
 unfold PB at h
 split at h
 ·rename_i xs ts h1 h2
  have:xs= #[]:=by simpa using h
  subst this;exact⟨h2,ts,h1⟩
 ·cases h
theorem BH(j9:P.follows .mixedOrders=true)(cm:rA P G call)(k:Nat){base:Nat}{u:Option EV}{md:FrameMode}{ρ:eR}{m:Mem}{w:World}(hR:R base ρ m w)(hG:lx G ρ)(hu:u4 ρ u md)(c₀:Frame)(cs:List Frame)(hm:c₀.mode=md) :
  ∀(c:Code) (d:Nat) (ic:ar),kE P G n c=some (d,ic)->∀(fr:Fr) (a:Act) (out:Out),Cc ρ n fr a->aB call k ic (fr.set d (u.getD .aP)) m=some out->
   c.wpS P (fun e a' oM w'=>(∃u',oM={c₀ with mode:=u'}::cs/\Go.settle u'=.returning)/\Reach base n ρ m w out e a' w') a (c₀::cs) w
 | .region id ops false,d,ic,hc,fr,a,out,hF,h=>by
  simp only[kE]at hc;cases Ws:ops.toList with
  |nil=>simp[Ws]at hc
  |cons o r=>
   simp only[Ws]at hc;cases ag8:PB o<;>simp only[ag8,cond_true,cond_false,reduceCtorEq]at hc
   cases pT:o.dst with
   |none=>simp[pT]at hc
   |some d'=>
   simp only[pT]at hc;cases aH:Nat.ble (d'+1) n<;>simp only[aH,cond_true,cond_false,reduceCtorEq]at hc
   obtain⟨is,his,uX⟩:=ah hc;simp only[sY]at uX;obtain⟨rfl,rfl⟩:=uX;obtain⟨oQ,ts,oF⟩:=Sd ag8;obtain⟨v',u',hv,fm,anJ⟩:=hu.got c₀ cs hm;simp only[aB]at h;have rh:Cc ρ n (fr.set d' (u.getD .aP)) (a.put o.dst v'):=by
    rw[pT];exact hF.put (d:=some d') (fun x hx=>by cases hx;exact rI aH) hv
   have ag1:ops.size=r.length+1:=by rw[<- Array.length_toList,Ws];rfl
   have ho:ops[0]?=some o:=by rw[<- Array.getElem?_toList,Ws];rfl
   obtain⟨h1,h2⟩:=mapM_some _ his;have ahc:wpOps P ops (Reach base n ρ m w out) ((List.range r.length).map Nat.succ) (a.put o.dst v') w:=by
    refine FY cm is _ (by simpa using h1.symm) (fun j i io hj BV=> ?_) ρ m w _ _ out hR hG rh h
    have aH:j<r.length:=by
     have:=(mu.1 hj).1;simpa using this
    rw[List.getElem?_map,List.getElem?_range aH]at hj;cases hj;have hrj:r[j]?=some r[j]:=jE aH;refine⟨r[j],?_,h2 j r[j] io hrj BV⟩
    rw[<- Array.getElem?_toList,Ws,List.getElem?_cons_succ,hrj]
   intro b kk hb sH;have hg:=stepG_op (P:=P) (b:=b) (k:=kk) (cs:=c₀::cs) (w:=w) (a:=a) (rest:=(List.range r.length).map Nat.succ) ho (by simp[Region.wanted,oQ]);have hr:(execOp a.eval o).run P w=.ok .recover w:=by
    unfold execOp;rw[oF]
    rfl
   have xS:∀v,(b.at a (.inRegion ops (0::(List.range r.length).map Nat.succ)::kk)).finish v=b.at (a.put o.dst v) (.inRegion ops ((List.range r.length).map Nat.succ)::kk):=by
    intro v;rw[Frame.finish_at,ho];rfl
   have hk:(b.at a (.inRegion ops (0::(List.range r.length).map Nat.succ)::kk)).kind=.deferred:=hb;have htr:=tryRecover_deferred hk (c₀::cs);have oD:step P (lone (b.at a (.inRegion ops (0::(List.range r.length).map Nat.succ)::kk)) (c₀::cs) w)=.next (lone (b.at (a.put o.dst v') (.inRegion ops ((List.range r.length).map Nat.succ)::kk)) ({c₀ with mode:=u'}::cs) w):=by
    refine step_lone_go ?_
    rw[hg,<- xS];rcases anJ with⟨g1,rfl,g3⟩|g1
    ·rw[g3];simp only[Frame.at]at htr⊢;simp[stepG.apply,hr,htr,g1]
    ·simp only[Frame.at]at htr⊢;simp[stepG.apply,hr,htr,g1]
   obtain⟨e,a',w',hq,tN⟩:=wp_ops _ _ _ ahc b kk ({c₀ with mode:=u'}::cs);refine⟨e,a',_,w',⟨⟨u',rfl,fm⟩,hq⟩,.of_steps (.head step_region ?_) tN⟩
   rw[ag1,List.range_succ_eq_map];exact .one oD
 | .seq x y,d,ic,hc,fr,a,out,hF,h=>by
  simp only[kE]at hc;cases hx:kE P G n x with
  |none=>simp[hx]at hc
  |some q=>
  obtain⟨d',ix⟩:=q;cases hy:iL P G n y with
  |none=>simp[hx,hy]at hc
  |some iy=>
  simp only[hx,hy,bQ,sY]at hc;obtain⟨rfl,rfl⟩:=hc;simp only[aB]at h;cases h1:aB call k ix (fr.set d' (u.getD .aP)) m with
  |none=>simp[h1]at h
  |some o1=>
   simp only[h1]at h;have hw:=BH j9 cm k hR hG hu c₀ cs hm x d' ix hx fr a o1 hF h1;refine wpS_seq (IL hw fun e a1 cs1 w1 ⟨nX,hq⟩=> ?_)
   cases o1 with
   |norm iq m1=>
    obtain⟨rfl,ρ1,n8,hs,rh⟩:=hq;have:=jZ j9 cm k y iy hy ρ1 m1 w1 iq a1 out n8 (hG.ext hs.ext) rh h;exact wpS_of_wp (wp_mono this fun e a w hq=>⟨nX,hq.after hs⟩)
   |exit id iq m1=>
    simp only[bQ]at h;subst h;have:=hq;obtain⟨rfl,_⟩:=this;exact⟨nX,hq⟩
   |ret iq m1=>
    simp only[bQ]at h;subst h;have:=hq;obtain⟨rfl,_⟩:=this;exact⟨nX,hq⟩
   |jk v iq m1=>
    simp only[bQ]at h;subst h;have:=hq;obtain⟨_,_,rfl,_⟩:=this;exact⟨nX,hq⟩
 | .region id ops true,d,ic,hc,_,_,_,_,_=>by simp[kE]at hc
 | .skip,d,ic,hc,_,_,_,_,_=>by simp[kE]at hc
 | .label _,d,ic,hc,_,_,_,_,_=>by simp[kE]at hc
 | .exit _,d,ic,hc,_,_,_,_,_=>by simp[kE]at hc
 | .ret,d,ic,hc,_,_,_,_,_=>by simp[kE]at hc
 | .cond _ _ _,d,ic,hc,_,_,_,_,_=>by simp[kE]at hc
 | .block _ _,d,ic,hc,_,_,_,_,_=>by simp[kE]at hc
 | .loop _,d,ic,hc,_,_,_,_,_=>by simp[kE]at hc
 | .scope _,d,ic,hc,_,_,_,_,_=>by simp[kE]at hc
 | .goto _,d,ic,hc,_,_,_,_,_=>by simp[kE]at hc
 | .refuse _,d,ic,hc,_,_,_,_,_=>by simp[kE]at hc
 | .rangeFunc _ _ _ _,d,ic,hc,_,_,_,_,_=>by simp[kE]at hc
theorem Li(j9:P.follows .mixedOrders=true)(cm:rA P G call)(k:Nat){base:Nat}{f:Nat}{fn:Func}(hf:P.funcs[f]?=some fn){d:Nat}{F:aC}(hc:Qf P G fn=some (d,F)){args:List EV}{m m':Mem}{u:Option EV}{md:FrameMode}(h:gK call k d F args u m=some m')
  {ρ:eR} {w:World} {aK:Array Value} (hR:R base ρ m w) (hG:lx G ρ) (hv:gi ρ args aK.toList) (hu:u4 ρ u md) :
  (callFunc f aK).run P w=.ok (.enter f aK) w/\CallsD P f aK md w fun e u' w'=>Go.settle u'=.returning/\∃v ρ',e=.returned v/\R base ρ' m' w'/\Step ρ m w ρ' m' w':=by
 obtain⟨c,b,r,hb,BT,wa,CA,rfl⟩:=Tb hc;refine⟨wZ hf hb BT,callsD_of_wpS hf hb fun c₀ cs hm=> ?_⟩
 have hl:=hv.length;simp at hl;unfold gK at h;cases hargs:args.length.ble fn.ntmps with
 |false=>simp[hargs]at h
 |true=>
 simp only[hargs,cond_true]at h;have hn:aK.size<=fn.ntmps:=by have:=rI hargs;omega
 cases h1:aB call k b (Fr.set ⟨dh args 0 .leaf,[]⟩ d (u.getD .aP)) m with
 |none=>simp[h1]at h
 |some o1=>
  simp only[h1]at h;have hw:=BH j9 cm k hR hG hu c₀ cs hm c d b wa _ _ o1 (wm hv hn) h1;refine IL hw fun e a1 cs1 w1 ⟨⟨u',nX,fm⟩,hq⟩=> ?_
  have done:∀{iq:Fr} {m1:Mem} {ρ1:eR},R base ρ1 m1 w1->Step ρ m w ρ1 m1 w1->Cc ρ1 fn.ntmps iq a1->(match iq.defers with|[]=>(b8 iq m1 r).map fun _=>m1|_=>none)=some m'->
    a1.defers=[]/\∃u',cs1={c₀ with mode:=u'}::cs/\∃v,(results fn a1.tmps).run P w1=.ok v w1/\Go.settle u'=.returning/\∃v2 ρ',Ending.returned v=.returned v2/\R base ρ' m' w1/\Step ρ m w ρ' m' w1:=by
   intro iq m1 ρ1 n8 hs rh xS;have hd:=rh.Fk;cases Fe:iq.defers with
   |cons x l=>simp[Fe]at xS
   |nil=>
    rw[Fe]at hd;simp only[Fe]at xS;obtain⟨vs,yv,rfl⟩:=ah xS;obtain⟨v,r1,r2⟩:=ya CA n8 rh.tm yv;exact⟨hd.Nf,u',nX,v,r1,fm,v,ρ1,rfl,n8,hs⟩
  cases o1 with
  |norm iq m1=>
   obtain⟨rfl,ρ1,n8,hs,rh⟩:=hq;exact done n8 hs rh h
  |ret iq m1=>
   obtain⟨rfl,ρ1,n8,hs,rh⟩:=hq;exact done n8 hs rh h
  |exit id iq m1=>simp at h
  |jk v iq m1=>simp at h
theorem nE(j9:P.follows .mixedOrders=true)(cm:rA P G call)(k:Nat){base:Nat}{fn:Func}{irs:List ns}(CA:fn.results.toList.mapM (z0 P)=some irs){D:List (Nat×Option Nat×aC)}(hD:∀g b FD,m5 g D=some (b,FD)->Ly P G g b FD){fr:Fr}{a:Act}{ρ0:eR}{m0:Mem}{w0:World}{fin:Fin} :
  ∀(ds:List (Nat×List EV)) (vr:List Deferred) (u:Option EV) (md:FrameMode) (ρ:eR) (m:Mem) (w:World),xC ρ ds vr->u4 ρ u md->R base ρ m w->lx G ρ->FR ρ n fr a->Step ρ0 m0 w0 ρ m w->dD call k irs D fr ds u m=some fin->Leaves P fn a.tmps (qf base ρ0 m0 w0 fin) vr md w
 |[],vr,u,md,ρ,m,w,BY,hu,hR,hG,hF,hs,h=>by
  cases BY;cases u with
  |none=>
   cases hu;simp only[dD]at h;obtain⟨vs,yv,rfl⟩:=ah h;obtain⟨v,r1,r2⟩:=ya CA hR hF yv;exact⟨v,r1,ρ,v,rfl,r2,hR,hs⟩
  |some v=>
   obtain⟨v',rfl,hv⟩:=hu;simp only[dD,bQ]at h;subst h;exact⟨ρ,v',rfl,hv,hR,hs⟩
 |(g,args)::ds,vr,u,md,ρ,m,w,BY,hu,hR,hG,hF,hs,h=>by
  cases BY with
  | @cons _ dd _ dds aeq BY=>
  obtain⟨c',Z4,hargs⟩:=aeq;simp only at Z4 hargs;have WU:gi ρ args (dd.args++c').toList:=by rw[Array.toList_append];exact hargs
  have hinv:∀{w:World},(callFunc g (dd.args++c')).run P w=.ok (.enter g (dd.args++c')) w->(invoke dd.target dd.args).run P w=.ok (.enter g (dd.args++c')) w:=by
   intro w hh;rw[Z4];exact hh
  simp only[dD]at h;cases Fe:m5 g D with
  |none=>simp[Fe]at h
  |some q=>
  obtain⟨b,FD⟩:=q;obtain⟨fn2,aem,LM⟩:=hD g b FD Fe;cases b with
  |some d=>
   simp only[Fe]at h;simp only at LM;cases hb:gK call k d FD args u m with
   |none=>simp[hb]at h
   |some m1=>
    simp only[hb]at h;obtain⟨aen,NR⟩:=Li j9 cm k aem LM hb hR hG WU hu;refine⟨hu.run,_,_,g,_,Z4,hinv aen,NR.mono fun e u' w' hq=> ?_⟩
    obtain⟨fm,v,ρ',rfl,n8,ub⟩:=hq;show Leaves P fn a.tmps _ dds (Go.settle u') w';rw[fm];exact nE j9 cm k CA hD ds dds none .returning ρ' m1 w' (BY.ext ub.ext) rfl n8 (hG.ext ub.ext) (hF.ext ub.ext) (hs.trans ub) h
  |none=>
   simp only[Fe]at h;simp only at LM;obtain⟨c,b,r,acF,BT,wa,anb,rfl⟩:=Ek LM;cases hb:dv call k ⟨fn2.ntmps,b,r⟩ args m with
   |none=>simp[hb]at h
   |some aiw=>
    simp only[hb]at h;have NR:=callsD_of_wp (u:=md) aem acF (Qh j9 cm k wa anb hb hR hG WU);refine⟨hu.run,_,_,g,_,Z4,hinv (wZ aem acF BT),NR.mono fun e u' w' hq=> ?_⟩
    obtain⟨rfl,hq⟩:=hq;cases aiw with
    |ret v m1=>
     obtain⟨ρ',v',rfl,vj,n8,ub⟩:=hq;show Leaves P fn a.tmps _ dds (Go.settle u') w';rw[hu.settle];exact nE j9 cm k CA hD ds dds u u' ρ' m1 w' (BY.ext ub.ext) (hu.ext ub.ext) n8 (hG.ext ub.ext) (hF.ext ub.ext) (hs.trans ub) h
    |jk v m1=>
     cases u with
     |some x=>cases h
     |none=>
      obtain⟨ρ',v',rfl,vj,n8,ub⟩:=hq;cases hu;exact nE j9 cm k CA hD ds dds (some v) _ ρ' m1 w' (BY.ext ub.ext) ⟨v',rfl,vj⟩ n8 (hG.ext ub.ext) (hF.ext ub.ext) (hs.trans ub) h
theorem Lm(j9:P.follows .mixedOrders=true)(cm:rA P G call)(k:Nat){base:Nat}{f:Nat}{fn:Func}(hf:P.funcs[f]?=some fn){F:aC}(hc:bH P G fn=some F){D:List (Nat×Option Nat×aC)}(hD:∀g b FD,m5 g D=some (b,FD)->Ly P G g b FD){args:List EV}{m:Mem}{fin:Fin}(h:lj call k F D args m=some fin)
  {ρ:eR} {w:World} {aK:Array Value} (hR:R base ρ m w) (hG:lx G ρ) (hv:gi ρ args aK.toList) :
  (callFunc f aK).run P w=.ok (.enter f aK) w/\Calls P f aK w (qf base ρ m w fin):=by
 obtain⟨c,b,r,hb,BT,wa,CA,rfl⟩:=Ek hc;refine⟨wZ hf hb BT,calls_of_wp_defers hf hb ?_⟩
 have hl:=hv.length;simp at hl;unfold lj at h;cases hargs:args.length.ble fn.ntmps with
 |false=>simp[hargs]at h
 |true=>
 simp only[hargs,cond_true]at h;have hn:aK.size<=fn.ntmps:=by have:=rI hargs;omega
 cases h1:aB call k b ⟨dh args 0 .leaf,[]⟩ m with
 |none=>simp[h1]at h
 |some o1=>
  simp only[h1]at h;have hw:=jZ j9 cm k c b wa ρ m w _ _ o1 hR hG (wm hv hn) h1;refine wp_mono hw fun e a1 w1 hq=> ?_
  cases o1 with
  |norm iq m1=>
   obtain⟨rfl,ρ1,n8,hs,rh⟩:=hq;exact nE j9 cm k CA hD _ _ none .returning ρ1 m1 w1 rh.Fk rfl n8 (hG.ext hs.ext) rh.tm hs h
  |ret iq m1=>
   obtain⟨rfl,ρ1,n8,hs,rh⟩:=hq;exact nE j9 cm k CA hD _ _ none .returning ρ1 m1 w1 rh.Fk rfl n8 (hG.ext hs.ext) rh.tm hs h
  |exit id iq m1=>simp at h
  |jk v iq m1=>
   obtain⟨ρ1,v',rfl,vj,n8,hs,rh⟩:=hq;exact nE j9 cm k CA hD _ _ (some v) _ ρ1 m1 w1 rh.Fk ⟨v',rfl,vj⟩ n8 (hG.ext hs.ext) rh.tm hs h
theorem D8(j9:P.follows .mixedOrders=true){T:Nat->Option jm}(hT:∀f e,T f=some e->Qt P G f e):∀k,rA P G (bc T k)
 |0=>fun f args m fin h=>by simp[bc]at h
 |k+1=>fun f args m fin h base ρ w aK hR hG hv=>by
  simp only[bc]at h;cases he:T f with
  |none=>simp[he]at h
  |some e=>
   simp only[he]at h;have ez:=hT f e he;cases e with
   |go F=>
    obtain⟨fn,hf,hc⟩:=ez;exact .inl (Ep j9 (D8 j9 hT k) k hf hc h hR hG hv)
   |ext g=>
    simp only[kM]at h;obtain⟨v,hg,rfl⟩:=ah h;obtain⟨v',h1,h2⟩:=ez base ρ m w args aK v hR hv hg;exact .inr ⟨v,v',rfl,h1,h2⟩
   |pure g=>
    simp only[kM]at h;obtain⟨v,hg,rfl⟩:=ah h;exact .inl (ez base ρ m w args aK v hR hv hg)
   |spec g=>
    simp only[kM]at h;exact .inl (ez base ρ m w args aK fin hR hG hv h)
   |GC F D=>
    obtain⟨⟨fn,hf,hc⟩,hD⟩:=ez;exact .inl (Lm j9 (D8 j9 hT k) k hf hc hD h hR hG hv)
end
end
section
open Go Go.RowKit
theorem R8{P:Program}{G:List Nat}(j9:P.follows .mixedOrders=true){T:Nat->Option jm}(hT:∀f e,T f=some e->Qt P G f e){k f:Nat}{F:aC}(hf:T f=some (.go F))
  {args:List EV} {m m':Mem} {b:Bool} (h:bc T k f args m=some (.ret (.bool b) m')) {ρ:eR} {w:World} {aK:Array Value} (hR:R w.heap.size ρ m w) (hG:lx G ρ)
  (sH:∀b L,ρ b=some L->Live m b->L.ro=true) (hv:gi ρ args aK.toList):Calls P f aK w fun e w'=>e=.returned (.bool b)/\Below w.heap.size w w':=by
 cases k with
 |zero=>simp[bc]at h
 |succ k=>
  simp only[bc,hf,kM]at h;obtain⟨fn,h1,h2⟩:=hT f _ hf;obtain⟨_,hc⟩:=Ep j9 (D8 j9 hT k) k h1 h2 h hR hG hv;refine hc.mono fun e w' hp=> ?_
  obtain⟨ρ',v',rfl,vj,_,hs⟩:=hp;cases vj;refine⟨rfl,hs.os,hs.tape,hs.output,hs.size,fun i hi=>hs.kept i hi ?_⟩
  rintro⟨b,L,h1,h2,h3,_⟩;rw[sH b L h1 h2]at h3;cases h3
def as3(n:Nat):eR:=fun b=>if b<n then some ⟨b,0,(match tabl b with|some l=>l.length|none=>0),1,true⟩else none
def agA(n:Nat):Mem:=⟨n,.leaf⟩
theorem JP(n b:Nat):(agA n).get b=.dead:=by unfold Mem.get agA;simp only[Tr.zy];rfl
def ql(c c':Call):Prop:=∀f a m r,c f a m=some r->c' f a m=some r
theorem wX{c c':Call}(h:ql c c'){f:EV}{a:List EV}{m:Mem}{r:Fin}(e:ie c f a m=some r):ie c' f a m=some r:=by
 cases f<;>simp only[ie,reduceCtorEq]at e ⊢
 exact h _ _ _ _ e
theorem rn{c c':Call}(h:ql c c'):∀(ops:List bd) (fr:Fr) (m:Mem) (r:Out),jx c ops fr m=some r->jx c' ops fr m=some r
 |[],fr,m,r,e=>e
 |o::ops,fr,m,r,e=>by
  simp only[jx]at e⊢;cases hw:bt fr o.guard with
  |none=>simp[hw]at e
  |some b=>
  cases b with
  |false=>simp only[hw]at e⊢;exact rn h ops _ _ _ e
  |true=>
   simp only[hw]at e⊢;cases ho:o.op with
   |val op=>
    simp only[ho]at e⊢;cases hv:aL fr.eval op m with
    |none=>simp[hv]at e
    |some q=>obtain⟨v,m1⟩:=q;simp only[hv]at e⊢;exact rn h ops _ _ _ e
   |call f args=>
    simp only[ho]at e⊢;cases hv:ie c (fr.eval f) (args.map fr.eval) m with
    |none=>simp[hv]at e
    |some q=>
     rw[wX h hv];cases q with
     |ret v m1=>simp only[hv]at e⊢;exact rn h ops _ _ _ e
     |jk v m1=>simp only[hv]at e⊢;exact e
   |panic x=>simp only[ho]at e⊢;exact e
   |defer f args=>
    simp only[ho]at e ⊢
    split at e
    ·exact rn h ops _ _ _ e
    ·cases e
theorem lG{c c':Call}(h:ql c c'){chk:List (Nat×Nat)}{B0:Nat}:∀(ops:List bd) (i:Nat) (fr:Fr) (m:Mem) (sn:List (Nat×Mem)) (se:List Seen) (r:Out),ei c chk B0 ops i fr m sn se=some r->ei c' chk B0 ops i fr m sn se=some r
 |[],i,fr,m,sn,se,r,e=>e
 |o::ops,i,fr,m,sn,se,r,e=>by
  simp only[ei]at e⊢;cases hw:bt fr o.guard with
  |none=>simp[hw]at e
  |some b=>
  cases b with
  |false=>simp only[hw]at e⊢;exact lG h ops _ _ _ _ _ _ e
  |true=>
   simp only[hw]at e⊢;cases ho:o.op with
   |panic x=>simp[ho]at e
   |defer f x=>simp[ho]at e
   |call f args=>
    simp only[ho]at e⊢;cases hv:ie c (fr.eval f) (args.map fr.eval) m with
    |none=>simp[hv]at e
    |some q=>
     rw[wX h hv];cases q with
     |jk v m1=>simp[hv]at e
     |ret v m1=>
      simp only[hv]at e⊢;cases hk:bq chk i m1 se<;>simp only[hk,cond_true,cond_false,reduceCtorEq]at e ⊢
      exact lG h ops _ _ _ _ _ _ e
   |val op=>
    simp only[ho]at e ⊢
    split at e
    ·cases hv:aL fr.eval op m with
     |none=>simp[hv]at e
     |some q=>obtain⟨v,m1⟩:=q;simp only[hv]at e⊢;exact lG h ops _ _ _ _ _ _ e
    ·cases hv:aL fr.eval op ⟨B0+i,m.ja⟩with
     |none=>simp[hv]at e
     |some q=>obtain⟨v,m1⟩:=q;simp only[hv]at e⊢;exact lG h ops _ _ _ _ _ _ e
    ·split at e
     ·rename_i agg x _
      cases hl:m.load agg (fr.eval x)with
      |none=>simp[hl]at e
      |some v=>
       simp only[hl]at e⊢;cases hf:Ge (fr.eval x)<;>simp only[hf,cond_true,cond_false]at e ⊢
       ·cases hk:bW chk i agg (fr.eval x) v sn<;>simp only[hk,cond_true,cond_false,reduceCtorEq]at e ⊢
        exact lG h ops _ _ _ _ _ _ e
       ·cases hk:ey chk i m.next sn<;>simp only[hk,cond_true,cond_false,reduceCtorEq]at e ⊢
        exact lG h ops _ _ _ _ _ _ e
     ·cases e
    ·rename_i h0 h1 h2
     cases hv:aL fr.eval op m with
     |none=>simp[hv]at e
     |some q=>
      obtain⟨v,m1⟩:=q;simp only[hv]at e⊢;cases hk:bq chk i m1 se<;>simp only[hk,cond_true,cond_false,reduceCtorEq]at e ⊢
      exact lG h ops _ _ _ _ _ _ e
theorem zf{b b':Fr->Mem->Option Out}(h:∀fr m r,b fr m=some r->b' fr m=some r):∀(n n':Nat),n<=n'->∀(fr:Fr) (m:Mem) (r:Out),iter b n fr m=some r->iter b' n' fr m=some r
 |0,n',_,fr,m,r,e=>by simp[iter]at e
 |n+1,0,hn,fr,m,r,e=>by omega
 |n+1,n'+1,hn,fr,m,r,e=>by
  simp only[iter]at e⊢;cases hb:b fr m with
  |none=>simp[hb]at e
  |some o=>
   rw[h _ _ _ hb];simp only[hb]at e;cases o with
   |norm iq m1=>exact zf h n n' (by omega) iq m1 r e
   |exit id iq m1=>exact e
   |ret iq m1=>exact e
   |jk v iq m1=>exact e
theorem fO{c c':Call}(h:ql c c'){n n':Nat}(hn:n<=n'):∀(x:ar) (fr:Fr) (m:Mem) (r:Out),aB c n x fr m=some r->aB c' n' x fr m=some r
 | .skip,fr,m,r,e=>e
 | .ret,fr,m,r,e=>e
 | .exit id,fr,m,r,e=>e
 | .region ops,fr,m,r,e=>by simp only[aB]at e⊢;exact rn h _ _ _ _ e
 | .draw ops chk,fr,m,r,e=>by simp only[aB]at e⊢;exact lG h _ _ _ _ _ _ _ e
 | .seq a b,fr,m,r,e=>by
  simp only[aB]at e⊢;cases ha:aB c n a fr m with
  |none=>simp[ha]at e
  |some o=>
   rw[fO h hn a _ _ _ ha];simp only[ha]at e;cases o with
   |norm iq m1=>exact fO h hn b _ _ _ e
   |exit id iq m1=>exact e
   |ret iq m1=>exact e
   |jk v iq m1=>exact e
 | .cond x a b,fr,m,r,e=>by
  simp only[aB]at e ⊢
  split at e
  ·rename_i t _
   cases t<;>simp only[cond_true,cond_false]at e ⊢
   ·exact fO h hn b _ _ _ e
   ·exact fO h hn a _ _ _ e
  ·cases e
 | .block id a,fr,m,r,e=>by
  simp only[aB]at e⊢;cases ha:aB c n a fr m with
  |none=>simp[ha]at e
  |some o=>
   rw[fO h hn a _ _ _ ha];simp only[ha]at e;exact e
 | .loop a,fr,m,r,e=>by
  simp only[aB]at e⊢;exact zf (fun fr m r=>fO h hn a fr m r) n n' hn fr m r e
theorem qL{c c':Call}(h:ql c c'){n n':Nat}(hn:n<=n'){F:aC}{args:List EV}{m:Mem}{r:Fin}(e:dv c n F args m=some r):dv c' n' F args m=some r:=by
 unfold dv at e⊢;cases hl:args.length.ble F.ntmps<;>simp only[hl,cond_true,cond_false,reduceCtorEq]at e ⊢
 cases hc:aB c n F.body ⟨dh args 0 .leaf,[]⟩ m with
 |none=>simp[hc]at e
 |some o=>
  rw[fO h hn _ _ _ _ hc];simp only[hc]at e;exact e
theorem x9{c c':Call}(h:ql c c'){n n':Nat}(hn:n<=n'){d:Nat}{F:aC}{args:List EV}{u:Option EV}{m m':Mem}(e:gK c n d F args u m=some m'):gK c' n' d F args u m=some m':=by
 unfold gK at e⊢;cases hl:args.length.ble F.ntmps<;>simp only[hl,cond_true,cond_false,reduceCtorEq]at e ⊢
 cases hc:aB c n F.body (Fr.set ⟨dh args 0 .leaf,[]⟩ d (u.getD .aP)) m with
 |none=>simp[hc]at e
 |some o=>
  rw[fO h hn _ _ _ _ hc];simp only[hc]at e;exact e
theorem jY{c c':Call}(h:ql c c'){n n':Nat}(hn:n<=n'){rs:List ns}{D:List (Nat×Option Nat×aC)}{fr:Fr}:∀(ds:List (Nat×List EV)) (u:Option EV) (m:Mem) (r:Fin),dD c n rs D fr ds u m=some r->dD c' n' rs D fr ds u m=some r
 |[],none,m,r,e=>e
 |[],some v,m,r,e=>e
 |(g,args)::ds,u,m,r,e=>by
  simp only[dD]at e⊢;cases hd:m5 g D with
  |none=>simp[hd]at e
  |some q=>
   obtain⟨b,F⟩:=q;cases b with
   |some d=>
    simp only[hd]at e⊢;cases hb:gK c n d F args u m with
    |none=>simp[hb]at e
    |some m1=>
     rw[x9 h hn hb];simp only[hb]at e;exact jY h hn ds none m1 r e
   |none=>
    simp only[hd]at e⊢;cases hb:dv c n F args m with
    |none=>simp[hb]at e
    |some fin=>
     rw[qL h hn hb];simp only[hb]at e;cases fin with
     |ret v m1=>exact jY h hn ds u m1 r e
     |jk v m1=>
      cases u with
      |none=>exact jY h hn ds (some v) m1 r e
      |some x=>cases e
theorem Ea{c c':Call}(h:ql c c'){n n':Nat}(hn:n<=n'){F:aC}{D:List (Nat×Option Nat×aC)}{args:List EV}{m:Mem}{r:Fin}(e:lj c n F D args m=some r):lj c' n' F D args m=some r:=by
 unfold lj at e⊢;cases hl:args.length.ble F.ntmps<;>simp only[hl,cond_true,cond_false,reduceCtorEq]at e ⊢
 cases hc:aB c n F.body ⟨dh args 0 .leaf,[]⟩ m with
 |none=>simp[hc]at e
 |some o=>
  rw[fO h hn _ _ _ _ hc];simp only[hc]at e;cases o with
  |norm fr m=>exact jY h hn _ _ _ _ e
  |ret fr m=>exact jY h hn _ _ _ _ e
  |jk v fr m=>exact jY h hn _ _ _ _ e
  |exit id fr m=>exact e
theorem mZ(T:Nat->Option jm):∀(k k':Nat),k<=k'->ql (bc T k) (bc T k')
 |0,k',_=>fun f a m r e=>by simp[bc]at e
 |k+1,0,h=>by omega
 |k+1,k'+1,h=>fun f a m r e=>by
  simp only[bc]at e⊢;cases hT:T f with
  |none=>simp[hT]at e
  |some x=>
   simp only[hT]at e⊢;cases x with
   |go F=>simp only[kM]at e⊢;exact qL (mZ T k k' (by omega)) (by omega) e
   |ext g=>exact e
   |pure g=>exact e
   |spec g=>exact e
   |GC F D=>simp only[kM]at e⊢;exact Ea (mZ T k k' (by omega)) (by omega) e
mutual
def Flat:EV->Bool
 | .ptr _ _| .slice _ _ _ _| .map _| .fz _ _ _| .gu _ _ _ _=>false
 | .func _ x y=>fL x&&fL y
 | .iface _ v=>Flat v
 | .agg x| .tuple x=>fL x
 |_=>true
def fL:List EV->Bool
 |[]=>true
 |v::x=>Flat v&&fL x
end
mutual
theorem VR.flat{ρ ρ':eR}:∀{v:EV} {v':Value},VR ρ v v'->Flat v=true->VR ρ' v v'
 |_,_,.undef,_=>.undef
 |_,_,.bool b,_=>.bool b
 |_,_,.int k n,_=>.int k n
 |_,_,.str s,_=>.str s
 |_,_,.bM,_=>.bM
 |_,_,.ptr _,h=>by simp[Flat]at h
 |_,_,.aa,_=>.aa
 |_,_,.slice _ _ _ _,h=>by simp[Flat]at h
 |_,_,.gN _ _ _,h=>by simp[Flat]at h
 |_,_,.jA,h=>by simp[Flat]at h
 |_,_,.bN,_=>.bN
 |_,_,.map _,h=>by simp[Flat]at h
 |_,_,.bS,_=>.bS
 |_,_,.func hx hy,h=>by simp only[Flat,rC]at h;exact .func (gi.flat hx h.1) (gi.flat hy h.2)
 |_,_,.aP,_=>.aP
 |_,_,.iface hv,h=>.iface (VR.flat hv (by simpa only[Flat]using h))
 |_,_,.agg hx hf,h=>.agg (gi.flat hx (by simpa only[Flat]using h)) hf
 |_,_,.tuple hx,h=>.tuple (gi.flat hx (by simpa only[Flat]using h))
theorem gi.flat{ρ ρ':eR}:∀{x:List EV} {x':List Value},gi ρ x x'->fL x=true->gi ρ' x x'
 |_,_,.nil,_=>.nil
 |_,_,.cons hv hs,h=>by simp only[fL,rC]at h;exact .cons (VR.flat hv h.1) (gi.flat hs h.2)
end
theorem VR.Y6{ρ ρ':eR}{s:List UInt8}{v':Value}(h:VR ρ' (.str s) v'):VR ρ (.str s) v':=by
 generalize hx:EV.str s=x at h;cases h<;>cases hx
 exact .str _
theorem VR.Vo{ρ ρ':eR}{b off:Nat}{v':Value}(h:VR ρ' (.slice b off 0 (some 0)) v'):VR ρ (.slice b off 0 (some 0)) v':=by
 cases h with
 |jA=>exact .jA
 |gN h' hc ho=>exact .jA
mutual
theorem VR.back{ρ ρ':eR}(e:Ext ρ ρ'):∀{v:EV} {u v':Value},VR ρ v u->VR ρ' v v'->VR ρ v v'
 |_,_,_,.undef,h=>by cases h;exact .undef
 |_,_,_,.bool _,h=>by cases h;exact .bool _
 |_,_,_,.int _ _,h=>by cases h;exact .int _ _
 |_,_,_,.str _,h=>h.Y6
 |_,_,_,.bM,h=>by cases h;exact .bM
 |_,_,_,.ptr h,h2=>by cases h2 with|ptr h'=>have:=e _ _ h;rw[h']at this;cases this;exact .ptr h
 |_,_,_,.aa,h=>by cases h;exact .aa
 |_,_,_,.slice h _ _ _,h2=>by cases h2 with|slice h' hc ho hr=>have:=e _ _ h;rw[h']at this;cases this;exact .slice h hc ho hr
 |_,_,_,.gN h _ _,h2=>by
  cases h2 with
  |gN h' hc ho=>have:=e _ _ h;rw[h']at this;cases this;exact .gN h hc ho
  |jA=>exact .jA
 |_,_,_,.jA,h2=>h2.Vo
 |_,_,_,.bN,h=>by cases h;exact .bN
 |_,_,_,.map h,h2=>by cases h2 with|map h'=>have:=e _ _ h;rw[h']at this;cases this;exact .map h
 |_,_,_,.bS,h=>by cases h;exact .bS
 |_,_,_,.func hx hy,h2=>by cases h2 with|func Cy hy'=>exact .func (gi.back e hx Cy) (gi.back e hy hy')
 |_,_,_,.aP,h=>by cases h;exact .aP
 |_,_,_,.iface h,h2=>by cases h2 with|iface h'=>exact .iface (VR.back e h h')
 |_,_,_,.agg h _,h2=>by cases h2 with|agg h' hf=>exact .agg (gi.back e h h') hf
 |_,_,_,.tuple h,h2=>by cases h2 with|tuple h'=>exact .tuple (gi.back e h h')
theorem gi.back{ρ ρ':eR}(e:Ext ρ ρ'):∀{x:List EV} {u v:List Value},gi ρ x u->gi ρ' x v->gi ρ x v
 |_,_,_,.nil,h=>by cases h;exact .nil
 |_,_,_,.cons h hs,h2=>by cases h2 with|cons h' Cz=>exact .cons (VR.back e h h') (gi.back e hs Cz)
end
def aq1(g:List EV->Mem->Option EV):List EV->Mem->Option Fin:=fun args m=>(g args m).map fun v=>.ret v m
def up(T:Nat->Option jm)(f:Nat)(e:jm):Nat->Option jm:=fun g=>bif g.beq f then some e else T g
end
section
open Classical in
noncomputable def Yy{α:Type}(g:Nat->Option α):Option α:=if h:∃r,∃k,g k=some r then some (Classical.choose h)else none
def EE{α:Type}(g:Nat->Option α):Prop:=∀k k' r,k<=k'->g k=some r->g k'=some r
theorem EE.YT{α:Type}{g:Nat->Option α}(h:EE g){k k':Nat}{r r':α}(e:g k=some r)(e':g k'=some r'):r=r':=by
 have h1:=h k (max k k') r (Nat.le_max_left _ _) e;have h2:=h k' (max k k') r' (Nat.le_max_right _ _) e';rw[h1]at h2;cases h2;rfl
theorem sa{α:Type}{g:Nat->Option α}(h:EE g){r:α}:Yy g=some r↔∃k,g k=some r:=by
 unfold Yy;constructor
 ·intro e
  split at e
  ·rename_i hx
   cases e;exact Classical.choose_spec hx
  ·cases e
 ·rintro⟨k,hk⟩;have hx:∃r,∃k,g k=some r:=⟨r,k,hk⟩
  rw[dif_pos hx];obtain⟨k',DL⟩:=Classical.choose_spec hx;rw[h.YT hk DL]
theorem dT{α:Type}{a b:Option α}(h:∀r,a=some r↔b=some r):a=b:=by
 cases b with
 |some y=>exact(h y).2 rfl
 |none=>
  cases a with
  |none=>rfl
  |some x=>exact absurd ((h x).1 rfl) (by simp)
section
variable (T:Nat->Option jm)
noncomputable def run(f:Nat)(args:List EV)(m:Mem):Option Fin:=Yy fun k=>bc T k f args m
noncomputable def exec(c:ar)(fr:Fr)(m:Mem):Option Out:=Yy fun k=>aB (bc T k) k c fr m
noncomputable def pK(l:List bd)(fr:Fr)(m:Mem):Option Out:=Yy fun k=>jx (bc T k) l fr m
noncomputable def np(chk:List (Nat×Nat))(B0:Nat)(l:List bd)(i:Nat)(fr:Fr)(m:Mem)(sn:List (Nat×Mem))(se:List Seen):Option Out:=Yy fun k=>ei (bc T k) chk B0 l i fr m sn se
end
section
variable {T:Nat->Option jm}
theorem Dx{f:Nat}{args:List EV}{m:Mem}:EE fun k=>bc T k f args m:=fun k k' _ h e=>mZ T k k' h _ _ _ _ e
theorem lE{c:ar}{fr:Fr}{m:Mem}:EE fun k=>aB (bc T k) k c fr m:=fun k k' _ h e=>fO (mZ T k k' h) h _ _ _ _ e
theorem Ga{l:List bd}{fr:Fr}{m:Mem}:EE fun k=>jx (bc T k) l fr m:=fun k k' _ h e=>rn (mZ T k k' h) _ _ _ _ e
theorem JK{chk:List (Nat×Nat)}{B0:Nat}{l:List bd}{i:Nat}{fr:Fr}{m:Mem}{sn:List (Nat×Mem)}{se:List Seen}:EE fun k=>ei (bc T k) chk B0 l i fr m sn se:=fun k k' _ h e=>lG (mZ T k k' h) _ _ _ _ _ _ _ e
theorem qy{f:Nat}{args:List EV}{m:Mem}{r:Fin}:run T f args m=some r↔∃k,bc T k f args m=some r:=sa Dx
theorem cw{c:ar}{fr:Fr}{m:Mem}{r:Out}:exec T c fr m=some r↔∃k,aB (bc T k) k c fr m=some r:=sa lE
theorem gO{l:List bd}{fr:Fr}{m:Mem}{r:Out}:pK T l fr m=some r↔∃k,jx (bc T k) l fr m=some r:=sa Ga
theorem iG{chk:List (Nat×Nat)}{B0:Nat}{l:List bd}{i:Nat}{fr:Fr}{m:Mem}{sn:List (Nat×Mem)}{se:List Seen}{r:Out}:np T chk B0 l i fr m sn se=some r↔∃k,ei (bc T k) chk B0 l i fr m sn se=some r:=sa JK
theorem Gu{fr:Fr}{m:Mem}:exec T .skip fr m=some (.norm fr m):=cw.2 ⟨0,rfl⟩
theorem KE{fr:Fr}{m:Mem}:exec T .ret fr m=some (.ret fr m):=cw.2 ⟨0,rfl⟩
theorem Gv{id:Nat}{fr:Fr}{m:Mem}:exec T (.exit id) fr m=some (.exit id fr m):=cw.2 ⟨0,rfl⟩
theorem BC{l:List bd}{fr:Fr}{m:Mem}:exec T (.region l) fr m=pK T l fr m:=rfl
theorem SG{l:List bd}{chk:List (Nat×Nat)}{fr:Fr}{m:Mem}:exec T (.draw l chk) fr m=np T chk m.next l 0 fr ⟨m.next+l.length,m.ja⟩ [] []:=rfl
def nt(o:Option Out)(k:Fr->Mem->Option Out):Option Out:=match o with
 |some (.norm fr m)=>k fr m
 |o=>o
theorem wq{a b:ar}{fr:Fr}{m:Mem}:exec T (.seq a b) fr m=nt (exec T a fr m) (exec T b):=by
 refine dT fun r=> ?_
 rw[cw];constructor
 ·rintro⟨k,h⟩;simp only[aB]at h;cases ha:aB (bc T k) k a fr m with
  |none=>simp[ha]at h
  |some o=>
   rw[cw.2 ⟨k,ha⟩];simp only[ha]at h;cases o with
   |norm iq m1=>exact cw.2 ⟨k,h⟩
   |exit id iq m1=>exact h
   |ret iq m1=>exact h
   |jk v iq m1=>exact h
 ·intro h;cases ha:exec T a fr m with
  |none=>simp[ha,nt]at h
  |some o=>
   obtain⟨k1,h1⟩:=cw.1 ha;simp only[ha,nt]at h;cases o with
   |norm iq m1=>
    obtain⟨k2,h2⟩:=cw.1 h;refine⟨max k1 k2,?_⟩
    simp only[aB];have e1:=lE _ _ _ (Nat.le_max_left k1 k2) h1;have e2:=lE _ _ _ (Nat.le_max_right k1 k2) h2;simp only at e1 e2;rw[e1];exact e2
   |exit id iq m1=>refine⟨k1,?_⟩;simp only[aB,h1];exact h
   |ret iq m1=>refine⟨k1,?_⟩;simp only[aB,h1];exact h
   |jk v iq m1=>refine⟨k1,?_⟩;simp only[aB,h1];exact h
theorem Gw{c:bm}{a b:ar}{fr:Fr}{m:Mem}{t:Bool}(h:fr.eval c=.bool t):exec T (.cond c a b) fr m=bif t then exec T a fr m else exec T b fr m:=by
 refine dT fun r=> ?_
 rw[cw];simp only[aB,h];cases t
 ·simp only[cond_false];exact cw.symm
 ·simp only[cond_true];exact cw.symm
def re(id:Nat)(o:Option Out):Option Out:=match o with
 |some (.exit j fr m)=>bif j.beq id then some (.norm fr m)else some (.exit j fr m)
 |o=>o
theorem D5{id:Nat}{a:ar}{fr:Fr}{m:Mem}:exec T (.block id a) fr m=re id (exec T a fr m):=by
 refine dT fun r=> ?_
 rw[cw];constructor
 ·rintro⟨k,h⟩;simp only[aB]at h;cases ha:aB (bc T k) k a fr m with
  |none=>simp[ha]at h
  |some o=>rw[cw.2 ⟨k,ha⟩];rw[ha]at h;exact h
 ·intro h;cases ha:exec T a fr m with
  |none=>simp[ha,re]at h
  |some o=>
   obtain⟨k1,h1⟩:=cw.1 ha;rw[ha]at h;refine⟨k1,?_⟩;simp only[aB,h1];exact h
theorem qK{a:ar}{fr:Fr}{m:Mem}:exec T (.loop a) fr m=nt (exec T a fr m) (exec T (.loop a)):=by
 refine dT fun r=> ?_
 rw[cw];constructor
 ·rintro⟨k,h⟩;simp only[aB]at h;cases k with
  |zero=>simp[iter]at h
  |succ k=>
   have h':(match aB (bc T (k+1)) (k+1) a fr m with|some (.norm fr m)=>iter (aB (bc T (k+1)) (k+1) a) k fr m|o=>o)=some r:=by
    rw[<- h];rfl
   cases ha:aB (bc T (k+1)) (k+1) a fr m with
   |none=>simp[ha]at h'
   |some o=>
    rw[cw.2 ⟨k+1,ha⟩];simp only[ha]at h';cases o with
    |norm iq m1=>
     refine cw.2 ⟨k+1,?_⟩
     simp only[aB];exact zf (fun fr m r e=>e) k (k+1) (by omega) _ _ _ h'
    |exit id iq m1=>exact h'
    |ret iq m1=>exact h'
    |jk v iq m1=>exact h'
 ·intro h;cases ha:exec T a fr m with
  |none=>simp[ha,nt]at h
  |some o=>
   obtain⟨k1,h1⟩:=cw.1 ha;simp only[ha,nt]at h;have key:∀k2,(∀r1,iter (aB (bc T k2) k2 a) k2 fr m=some r1->True)->True:=fun _ _=>trivial
   cases o with
   |norm iq m1=>
    obtain⟨k2,h2⟩:=cw.1 h;simp only[aB]at h2;refine⟨max k1 k2+1,?_⟩
    have e1:=lE _ _ _ (show k1<=max k1 k2+1 by omega) h1;simp only at e1;simp only[aB,iter,e1];exact zf (fun fr m r e=>fO (mZ T k2 (max k1 k2+1) (by omega)) (by omega) a fr m r e) k2 (max k1 k2) (by omega) _ _ _ h2
   |exit id iq m1=>
    refine⟨k1+1,?_⟩
    have e1:=lE _ _ _ (show k1<=k1+1 by omega) h1;simp only at e1;simp only[aB,iter,e1];exact h
   |ret iq m1=>
    refine⟨k1+1,?_⟩
    have e1:=lE _ _ _ (show k1<=k1+1 by omega) h1;simp only at e1;simp only[aB,iter,e1];exact h
   |jk v iq m1=>
    refine⟨k1+1,?_⟩
    have e1:=lE _ _ _ (show k1<=k1+1 by omega) h1;simp only at e1;simp only[aB,iter,e1];exact h
theorem Ju{fr:Fr}{m:Mem}:pK T [] fr m=some (.norm fr m):=gO.2 ⟨0,rfl⟩
def iZ(o:Option R1)(k:EV->Mem->Option Out):Option Out:=match o with
 |some (.val v m)=>k v m
 |none=>none
def rM(o:Option Fin)(fr:Fr)(k:EV->Mem->Option Out):Option Out:=match o with
 |some (.ret v m)=>k v m
 |some (.jk v m)=>some (.jk v fr m)
 |none=>none
theorem Dj{d:Option Nat}{op:oa}{l:List bd}{fr:Fr}{m:Mem}:pK T (⟨d,.val op,none⟩::l) fr m=iZ (aL fr.eval op m) fun v m=>pK T l (fr.put d v) m:=by
 refine dT fun r=> ?_
 rw[gO];simp only[jx,bt];cases h:aL fr.eval op m with
 |none=>simp[iZ]
 |some q=>obtain⟨v,m1⟩:=q;simp only[iZ];exact gO.symm
theorem MZ{d:Option Nat}{op:Aj}{t:Nat}{w:Bool}{l:List bd}{fr:Fr}{m:Mem}{b:Bool}(h:fr.get t=.bool b) :
  pK T (⟨d,op,some (t,w)⟩::l) fr m=bif b==w then pK T (⟨d,op,none⟩::l) fr m else pK T l (fr.put d .undef) m:=by
 refine dT fun r=> ?_
 rw[gO];simp only[jx,bt,h];cases hb:b==w
 ·simp only[cond_false];exact gO.symm
 ·simp only[cond_true];rw[gO];simp only[jx,bt]
theorem MY{d:Option Nat}{x:bm}{l:List bd}{fr:Fr}{m:Mem}{t:Nat}{v:EV}(h:fr.eval x=.iface t v):pK T (⟨d,.panic x,none⟩::l) fr m=some (.jk (.iface t v) fr m):=by
 refine gO.2 ⟨0,?_⟩
 simp only[jx,bt,h]
def ti(F:aC)(o:Option Out):Option Fin:=match o with
 |some (.norm fr m)|some (.ret fr m)=>match fr.defers with
  |[]=>(b8 fr m F.results).map fun vs=>.ret (one vs) m
  |_=>none
 |some (.jk v fr m)=>match fr.defers with
  |[]=>some (.jk v m)
  |_=>none
 |_=>none
theorem MJ{f:Nat}{F:aC}(hf:T f=some (.go F)){args:List EV}{m:Mem}(hn:args.length<=F.ntmps):run T f args m=ti F (exec T F.body ⟨dh args 0 .leaf,[]⟩ m):=by
 have hb:args.length.ble F.ntmps=true:=sx hn;refine dT fun r=> ?_
 rw[qy];constructor
 ·rintro⟨k,h⟩;cases k with
  |zero=>simp[bc]at h
  |succ k=>
   simp only[bc,hf,kM,dv,hb,cond_true]at h;cases hc:aB (bc T k) k F.body ⟨dh args 0 .leaf,[]⟩ m with
   |none=>simp[hc]at h
   |some o=>
    rw[cw.2 ⟨k,hc⟩];simp only[hc]at h;cases o<;>exact h
 ·intro h;cases hc:exec T F.body ⟨dh args 0 .leaf,[]⟩ m with
  |none=>simp[hc,ti]at h
  |some o=>
   obtain⟨k,hk⟩:=cw.1 hc;rw[hc]at h;refine⟨k+1,?_⟩
   simp only[bc,hf,kM,dv,hb,cond_true,hk];cases o<;>exact h
theorem vC{f:Nat}{g:List EV->Mem->Option Fin}(hf:T f=some (.spec g)){args:List EV}{m:Mem}:run T f args m=g args m:=by
 refine dT fun r=> ?_
 rw[qy];constructor
 ·rintro⟨k,h⟩;cases k with
  |zero=>simp[bc]at h
  |succ k=>simpa only[bc,hf,kM]using h
 ·intro h;exact⟨1,by simpa only[bc,hf,kM]using h⟩
theorem run_pure{f:Nat}{g:List EV->Option EV}(hf:T f=some (.pure g)){args:List EV}{m:Mem}:run T f args m=(g args).map fun v=>.ret v m:=by
 refine dT fun r=> ?_
 rw[qy];constructor
 ·rintro⟨k,h⟩;cases k with
  |zero=>simp[bc]at h
  |succ k=>simpa only[bc,hf,kM]using h
 ·intro h;exact⟨1,by simpa only[bc,hf,kM]using h⟩
section
variable (T)
noncomputable def Er(F:aC)(args:List EV)(m:Mem):Option Fin:=Yy fun k=>dv (bc T k) k F args m
noncomputable def Iq(d:Nat)(F:aC)(args:List EV)(u:Option EV)(m:Mem):Option Mem:=Yy fun k=>gK (bc T k) k d F args u m
noncomputable def nn(rs:List ns)(D:List (Nat×Option Nat×aC))(fr:Fr)(ds:List (Nat×List EV))(u:Option EV)(m:Mem):Option Fin:=Yy fun k=>dD (bc T k) k rs D fr ds u m
end
theorem xN{F:aC}{args:List EV}{m:Mem}:EE fun k=>dv (bc T k) k F args m:=fun k k' _ h e=>qL (mZ T k k' h) h e
theorem Bv{d:Nat}{F:aC}{args:List EV}{u:Option EV}{m:Mem}:EE fun k=>gK (bc T k) k d F args u m:=fun k k' _ h e=>x9 (mZ T k k' h) h e
theorem rW{rs:List ns}{D:List (Nat×Option Nat×aC)}{fr:Fr}{ds:List (Nat×List EV)}{u:Option EV}{m:Mem}:EE fun k=>dD (bc T k) k rs D fr ds u m:=fun k k' _ h e=>jY (mZ T k k' h) h _ _ _ _ e
theorem A9{F:aC}{args:List EV}{m:Mem}{r:Fin}:Er T F args m=some r↔∃k,dv (bc T k) k F args m=some r:=sa xN
theorem ym{d:Nat}{F:aC}{args:List EV}{u:Option EV}{m:Mem}{r:Mem}:Iq T d F args u m=some r↔∃k,gK (bc T k) k d F args u m=some r:=sa Bv
theorem gn{rs:List ns}{D:List (Nat×Option Nat×aC)}{fr:Fr}{ds:List (Nat×List EV)}{u:Option EV}{m:Mem}{r:Fin}:nn T rs D fr ds u m=some r↔∃k,dD (bc T k) k rs D fr ds u m=some r:=sa rW
theorem Lk{F:aC}{args:List EV}{m:Mem}(hn:args.length<=F.ntmps):Er T F args m=ti F (exec T F.body ⟨dh args 0 .leaf,[]⟩ m):=by
 have hb:args.length.ble F.ntmps=true:=sx hn;refine dT fun r=> ?_
 rw[A9];constructor
 ·rintro⟨k,h⟩;simp only[dv,hb,cond_true]at h;cases hc:aB (bc T k) k F.body ⟨dh args 0 .leaf,[]⟩ m with
  |none=>simp[hc]at h
  |some o=>
   rw[cw.2 ⟨k,hc⟩];simp only[hc]at h;cases o<;>exact h
 ·intro h;cases hc:exec T F.body ⟨dh args 0 .leaf,[]⟩ m with
  |none=>simp[hc,ti]at h
  |some o=>
   obtain⟨k,hk⟩:=cw.1 hc;rw[hc]at h;refine⟨k,?_⟩
   simp only[dv,hb,cond_true,hk];cases o<;>exact h
def Zr(rs:List ns)(o:Option Out):Option Mem:=match o with
 |some (.norm fr m)=>match fr.defers with
  |[]=>(b8 fr m rs).map fun _=>m
  |_=>none
 |some (.ret fr m)=>match fr.defers with
  |[]=>(b8 fr m rs).map fun _=>m
  |_=>none
 |_=>none
theorem Te{d:Nat}{F:aC}{args:List EV}{u:Option EV}{m:Mem}(hn:args.length<=F.ntmps):Iq T d F args u m=Zr F.results (exec T F.body (Fr.set ⟨dh args 0 .leaf,[]⟩ d (u.getD .aP)) m):=by
 have hb:args.length.ble F.ntmps=true:=sx hn;refine dT fun r=> ?_
 rw[ym];constructor
 ·rintro⟨k,h⟩;simp only[gK,hb,cond_true]at h;cases hc:aB (bc T k) k F.body (Fr.set ⟨dh args 0 .leaf,[]⟩ d (u.getD .aP)) m with
  |none=>simp[hc]at h
  |some o=>
   rw[cw.2 ⟨k,hc⟩];simp only[hc]at h;cases o<;>exact h
 ·intro h;cases hc:exec T F.body (Fr.set ⟨dh args 0 .leaf,[]⟩ d (u.getD .aP)) m with
  |none=>simp[hc,Zr]at h
  |some o=>
   obtain⟨k,hk⟩:=cw.1 hc;rw[hc]at h;refine⟨k,?_⟩
   simp only[gK,hb,cond_true,hk];cases o<;>exact h
theorem lf{rs:List ns}{D:List (Nat×Option Nat×aC)}{fr:Fr}{m:Mem}:nn T rs D fr [] none m=(b8 fr m rs).map fun vs=>.ret (one vs) m:=by
 refine dT fun r=> ?_
 rw[gn];simp only[dD,exists_const]
theorem Nz{rs:List ns}{D:List (Nat×Option Nat×aC)}{fr:Fr}{v:EV}{m:Mem}:nn T rs D fr [] (some v) m=some (.jk v m):=by
 refine dT fun r=> ?_
 rw[gn];simp only[dD,exists_const]
theorem Ny{rs:List ns}{D:List (Nat×Option Nat×aC)}{fr:Fr}{g d:Nat}{F:aC}{args:List EV}{ds:List (Nat×List EV)}{u:Option EV}{m:Mem}(hd:m5 g D=some (some d,F)) :
  nn T rs D fr ((g,args)::ds) u m=(Iq T d F args u m).bind fun m=>nn T rs D fr ds none m:=by
 refine dT fun r=> ?_
 rw[gn];simp only[dD,hd];constructor
 ·rintro⟨k,h⟩;cases hb:gK (bc T k) k d F args u m with
  |none=>simp[hb]at h
  |some m1=>
   simp only[hb]at h;rw[ym.2 ⟨k,hb⟩];exact gn.2 ⟨k,h⟩
 ·intro h;obtain⟨m1,h1,h2⟩:=Option.bind_eq_some_iff.1 h;obtain⟨k1,e1⟩:=ym.1 h1;obtain⟨k2,e2⟩:=gn.1 h2;refine⟨max k1 k2,?_⟩
  have g1:=Bv _ _ _ (Nat.le_max_left k1 k2) e1;have g2:=rW _ _ _ (Nat.le_max_right k1 k2) e2;simp only at g1 g2;simp only[g1];exact g2
def NB(u:Option EV)(k:Option EV->Mem->Option Fin):Option Fin->Option Fin
 |some (.ret _ m)=>k u m
 |some (.jk v m)=>match u with
  |none=>k (some v) m
  |some _=>none
 |none=>none
theorem Bw{rs:List ns}{D:List (Nat×Option Nat×aC)}{fr:Fr}{g:Nat}{F:aC}{args:List EV}{ds:List (Nat×List EV)}{u:Option EV}{m:Mem}(hd:m5 g D=some (none,F)) :
  nn T rs D fr ((g,args)::ds) u m=NB u (fun u m=>nn T rs D fr ds u m) (Er T F args m):=by
 refine dT fun r=> ?_
 rw[gn];simp only[dD,hd];constructor
 ·rintro⟨k,h⟩;cases hb:dv (bc T k) k F args m with
  |none=>simp[hb]at h
  |some fin=>
   simp only[hb]at h;rw[A9.2 ⟨k,hb⟩];cases fin with
   |ret v m1=>exact gn.2 ⟨k,h⟩
   |jk v m1=>
    cases u with
    |none=>exact gn.2 ⟨k,h⟩
    |some x=>cases h
 ·intro h;cases hb:Er T F args m with
  |none=>simp[hb,NB]at h
  |some fin=>
   obtain⟨k1,e1⟩:=A9.1 hb;rw[hb]at h;have A3:∀{u2:Option EV} {m2:Mem},nn T rs D fr ds u2 m2=some r->∃k2,k1<=k2/\dD (bc T k2) k2 rs D fr ds u2 m2=some r:=fun e=>by
    obtain⟨k2,e2⟩:=gn.1 e;exact⟨max k1 k2,Nat.le_max_left _ _,rW _ _ _ (Nat.le_max_right k1 k2) e2⟩
   cases fin with
   |ret v m1=>
    obtain⟨k2,hk,e2⟩:=A3 h;have g1:=xN _ _ _ hk e1;simp only at g1;exact⟨k2,by simp only[g1];exact e2⟩
   |jk v m1=>
    cases u with
    |none=>
     obtain⟨k2,hk,e2⟩:=A3 h;have g1:=xN _ _ _ hk e1;simp only at g1;exact⟨k2,by simp only[g1];exact e2⟩
    |some x=>cases h
noncomputable def UW(T:Nat->Option jm)(rs:List ns)(D:List (Nat×Option Nat×aC))(o:Option Out):Option Fin:=match o with
 |some (.norm fr m)=>nn T rs D fr fr.defers none m
 |some (.ret fr m)=>nn T rs D fr fr.defers none m
 |some (.jk v fr m)=>nn T rs D fr fr.defers (some v) m
 |_=>none
theorem O8{f:Nat}{F:aC}{D:List (Nat×Option Nat×aC)}(hf:T f=some (.GC F D)){args:List EV}{m:Mem}(hn:args.length<=F.ntmps):run T f args m=UW T F.results D (exec T F.body ⟨dh args 0 .leaf,[]⟩ m):=by
 have hb:args.length.ble F.ntmps=true:=sx hn;refine dT fun r=> ?_
 rw[qy];constructor
 ·rintro⟨k,h⟩;cases k with
  |zero=>simp[bc]at h
  |succ k=>
   simp only[bc,hf,kM,lj,hb,cond_true]at h;cases hc:aB (bc T k) k F.body ⟨dh args 0 .leaf,[]⟩ m with
   |none=>simp[hc]at h
   |some o=>
    rw[cw.2 ⟨k,hc⟩];simp only[hc]at h;cases o with
    |norm fr m1=>exact gn.2 ⟨k,h⟩
    |ret fr m1=>exact gn.2 ⟨k,h⟩
    |jk v fr m1=>exact gn.2 ⟨k,h⟩
    |exit id fr m1=>cases h
 ·intro h;cases hc:exec T F.body ⟨dh args 0 .leaf,[]⟩ m with
  |none=>simp[hc,UW]at h
  |some o=>
   obtain⟨k1,e1⟩:=cw.1 hc;rw[hc]at h;have A3:∀{fr:Fr} {ds:List (Nat×List EV)} {u2:Option EV} {m2:Mem},nn T F.results D fr ds u2 m2=some r->∃k2,k1<=k2/\dD (bc T k2) k2 F.results D fr ds u2 m2=some r:=fun e=>by
    obtain⟨k2,e2⟩:=gn.1 e;exact⟨max k1 k2,Nat.le_max_left _ _,rW _ _ _ (Nat.le_max_right k1 k2) e2⟩
   cases o with
   |exit id fr m1=>cases h
   |norm fr m1=>
    obtain⟨k2,hk,e2⟩:=A3 h;have g1:=lE _ _ _ hk e1;simp only at g1;exact⟨k2+1,by simp only[bc,hf,kM,lj,hb,cond_true,g1];exact e2⟩
   |ret fr m1=>
    obtain⟨k2,hk,e2⟩:=A3 h;have g1:=lE _ _ _ hk e1;simp only at g1;exact⟨k2+1,by simp only[bc,hf,kM,lj,hb,cond_true,g1];exact e2⟩
   |jk v fr m1=>
    obtain⟨k2,hk,e2⟩:=A3 h;have g1:=lE _ _ _ hk e1;simp only at g1;exact⟨k2+1,by simp only[bc,hf,kM,lj,hb,cond_true,g1];exact e2⟩
end
end
section
def mP:Fr:=⟨.leaf,[]⟩
theorem tQ(t:Nat):mP.get t=.undef:=by unfold Fr.get mP;simp only[Tr.zy];rfl
theorem BA:mP.defers=[]:=rfl
def MG(b:Bool)(v r:EV):EV:=bif b then v else r
@[congr] theorem ac8 {b b' : Bool} {v r : EV} (h : b = b') : MG b v r = MG b' v r := by rw [h]
theorem UB{v r:EV}:MG true v r=v:=rfl
theorem Kp(fr:Fr)(d t:Nat)(v:EV):(fr.set d v).get t=MG (t==d) v (fr.get t):=by
 rw[Fr.ct];by_cases h:t=d
 ·simp[MG,h]
 ·simp[MG,h,beq_eq_false_iff_ne.2 h]
theorem UC{v r:EV}:MG false v r=r:=rfl
def kF:List EV->Nat->Fr->Fr
 |[],_,fr=>fr
 |v::r,i,fr=>kF r (i+1) (fr.set i v)
theorem tW:∀(l:List EV) (i:Nat) (t:Tr EV),kF l i ⟨t,[]⟩=⟨dh l i t,[]⟩
 |[],i,t=>rfl
 |v::l,i,t=>by simp only[kF,dh,Fr.set];exact tW l (i+1) _
theorem Ji(fr:Fr)(d:Nat)(v:EV):fr.put (some d) v=fr.set d v:=rfl
theorem Jj(fr:Fr)(v:EV):fr.put none v=fr:=rfl
theorem C6(fr:Fr)(d:Nat)(v:EV):(fr.set d v).defers=fr.defers:=rfl
theorem Xr(fr:Fr)(t:Nat):fr.eval (.tmp t)=fr.get t:=rfl
theorem eval_const(fr:Fr)(v:EV):fr.eval (.const v)=v:=rfl
theorem RB(m:Mem)(v:EV):jb m (some v)=some (.val v m):=rfl
theorem RC(m:Mem)(v:EV):w8 (some (v,m))=some (.val v m):=rfl
theorem Vq(m:Mem):ofM (some m)=some (.val .undef m):=rfl
@[congr] theorem abS {o o' : Option R1} {k : EV -> Mem -> Option Out} (h : o = o') : iZ o k = iZ o' k := by rw [h]
@[congr] theorem abY {o o' : Option Fin} {fr : Fr} {k : EV -> Mem -> Option Out} (h : o = o') : rM o fr k = rM o' fr k := by rw [h]
@[congr] theorem abW {o o' : Option Out} {k : Fr -> Mem -> Option Out} (h : o = o') : nt o k = nt o' k := by rw [h]
theorem L9{v:EV}{m:Mem}{k:EV->Mem->Option Out}:iZ (some (.val v m)) k=k v m:=rfl
theorem QN{v:EV}{m:Mem}{fr:Fr}{k:EV->Mem->Option Out}:rM (some (.ret v m)) fr k=k v m:=rfl
theorem Mb{fr:Fr}{m:Mem}{k:Fr->Mem->Option Out}:nt (some (.norm fr m)) k=k fr m:=rfl
theorem QL{fr:Fr}{m:Mem}{k:Fr->Mem->Option Out}:nt (some (.ret fr m)) k=some (.ret fr m):=rfl
theorem Md{id:Nat}{fr:Fr}{m:Mem}{k:Fr->Mem->Option Out}:nt (some (.exit id fr m)) k=some (.exit id fr m):=rfl
theorem Nw{id:Nat}{fr:Fr}{m:Mem}:re id (some (.norm fr m))=some (.norm fr m):=rfl
theorem R6{id:Nat}{fr:Fr}{m:Mem}:re id (some (.ret fr m))=some (.ret fr m):=rfl
def MF(b:Bool)(x y:Option Out):Option Out:=bif b then x else y
@[congr] theorem ac7 {b b' : Bool} {x y : Option Out} (h : b = b') : MF b x y = MF b' x y := by rw [h]
theorem ac5{x y:Option Out}:MF true x y=x:=rfl
theorem ac6{x y:Option Out}:MF false x y=y:=rfl
theorem Nx{id j:Nat}{fr:Fr}{m:Mem}:re id (some (.exit j fr m))=MF (j==id) (some (.norm fr m)) (some (.exit j fr m)):=by
 by_cases h:j=id
 ·subst h;simp[re,MF]
 ·simp[re,MF,jC h,beq_eq_false_iff_ne.2 h]
def pI(rs:List ns)(o:Option Out):Option Fin:=match o with
 |some (.norm fr m)|some (.ret fr m)=>match fr.defers with
  |[]=>(b8 fr m rs).map fun vs=>.ret (one vs) m
  |_=>none
 |some (.jk v fr m)=>match fr.defers with
  |[]=>some (.jk v m)
  |_=>none
 |_=>none
theorem Co(F:aC)(o:Option Out):ti F o=pI F.results o:=by cases o with|none=>rfl|some o=>cases o<;>rfl
theorem US{rs:List ns}{fr:Fr}{m:Mem}:pI rs (some (.ret fr m))=match fr.defers with|[]=>(b8 fr m rs).map fun vs=>.ret (one vs) m|_=>none:=rfl
theorem Rh{rs:List ns}{fr:Fr}{m:Mem}:pI rs (some (.norm fr m))=match fr.defers with|[]=>(b8 fr m rs).map fun vs=>.ret (one vs) m|_=>none:=rfl
theorem UU{rs:List ns}{fr:Fr}{m:Mem}{v:EV}:pI rs (some (.jk v fr m))=match fr.defers with|[]=>some (.jk v m)|_=>none:=rfl
theorem Zp{fr:Fr}{m:Mem}:b8 fr m []=some []:=rfl
theorem Zo{fr:Fr}{m:Mem}{t:Nat}{rs:List ns}:b8 fr m (.tmp t::rs)=(b8 fr m rs).map (fr.get t:: ·):=rfl
theorem ZA(v:EV):one [v]=v:=rfl
theorem Zz(v u:EV)(l:List EV):one (v::u::l)=.tuple (v::u::l):=rfl
theorem ZB:one []=.tuple []:=rfl
section
variable {k l:IntKind} {a b:Int}
def agR(k:IntKind)(x y:Int):Int:=k.wrap (BitVec.ofInt k.bits x&&&BitVec.ofInt k.bits y).toNat
def ior(k:IntKind)(x y:Int):Int:=k.wrap (BitVec.ofInt k.bits x|||BitVec.ofInt k.bits y).toNat
def agO(k:IntKind)(x y:Int):Int:=k.wrap (BitVec.ofInt k.bits x^^^BitVec.ofInt k.bits y).toNat
def PC(k:IntKind)(x y:Int):Int:=k.wrap (BitVec.ofInt k.bits x&&& ~~~BitVec.ofInt k.bits y).toNat
theorem abK:eV .add (.int k a) (.int k b)=some (.int k (k.wrap (a+b))):=by simp only[eV,dN,cond_true,pU]
theorem abB:eV .sub (.int k a) (.int k b)=some (.int k (k.wrap (a- b))):=by simp only[eV,dN,cond_true,pU]
theorem abE:eV .mul (.int k a) (.int k b)=some (.int k (k.wrap (a*b))):=by simp only[eV,dN,cond_true,pU]
theorem abD:eV .quo (.int k a) (.int k b)=if b=0 then none else some (.int k (k.wrap (a.tdiv b))):=by simp only[eV,dN,cond_true,pU]
theorem abC:eV .rem (.int k a) (.int k b)=if b=0 then none else some (.int k (a.tmod b)):=by simp only[eV,dN,cond_true,pU]
theorem abJ:eV .and (.int k a) (.int k b)=some (.int k (agR k a b)):=by simp only[eV,dN,cond_true,pU,sP,Option.map_some,agR]
theorem aeQ:eV .or (.int k a) (.int k b)=some (.int k (ior k a b)):=by simp only[eV,dN,cond_true,pU,sP,Option.map_some,ior]
theorem abA:eV .xor (.int k a) (.int k b)=some (.int k (agO k a b)):=by simp only[eV,dN,cond_true,pU,sP,Option.map_some,agO]
theorem OL:eV .andNot (.int k a) (.int k b)=some (.int k (PC k a b)):=by simp only[eV,dN,cond_true,pU,sP,Option.map_some,PC]
theorem abF:eV .lss (.int k a) (.int k b)=some (.bool (decide (a<b))):=by simp only[eV,dN,cond_true,pU]
theorem abG:eV .leq (.int k a) (.int k b)=some (.bool (decide (a<=b))):=by simp only[eV,dN,cond_true,pU]
theorem abH:eV .gtr (.int k a) (.int k b)=some (.bool (decide (b<a))):=by simp only[eV,dN,cond_true,pU]
theorem abI:eV .geq (.int k a) (.int k b)=some (.bool (decide (b<=a))):=by simp only[eV,dN,cond_true,pU]
theorem Qk:eV .shl (.int k a) (.int l b)=if b<0 then none else some (.int k (k.wrap (a*2^min b.toNat k.bits))):=by simp only[eV,uJ]
theorem Qj:eV .shr (.int k a) (.int l b)=if b<0 then none else some (.int k (a.fdiv (2^min b.toNat k.bits))):=by simp only[eV,uJ]
theorem Lq(h1:0<=b)(h2:b<64):eV .shl (.int .i64 a) (.int l b)=some (.int .i64 (IntKind.i64.wrap (a*2^b.toNat))):=by rw[Qk,if_neg (by omega),show IntKind.i64.bits=64 from rfl,Nat.min_eq_left (by omega)]
theorem Lo(h1:0<=b)(h2:b<64):eV .shr (.int .i64 a) (.int l b)=some (.int .i64 (a.fdiv (2^b.toNat))):=by rw[Qj,if_neg (by omega),show IntKind.i64.bits=64 from rfl,Nat.min_eq_left (by omega)]
theorem Lp(h1:0<=b)(h2:b<64):eV .shl (.int .u64 a) (.int l b)=some (.int .u64 (IntKind.u64.wrap (a*2^b.toNat))):=by rw[Qk,if_neg (by omega),show IntKind.u64.bits=64 from rfl,Nat.min_eq_left (by omega)]
theorem Ln(h1:0<=b)(h2:b<64):eV .shr (.int .u64 a) (.int l b)=some (.int .u64 (a.fdiv (2^b.toNat))):=by rw[Qj,if_neg (by omega),show IntKind.u64.bits=64 from rfl,Nat.min_eq_left (by omega)]
theorem eq_int:ft (.bG 1) (.int k a) (.int k b)=some (decide (a=b)):=by simp only[ft,ew,dN,cond_true]
theorem acU:D6 .neg (.int k a)=some (.int k (k.wrap (0- a))):=rfl
theorem aeN{m:Mem}:l8 (.int l) m (.int k a)=some (.int l (l.wrap a),m):=rfl
end
theorem Xs{ρ:bm->EV}{m:Mem}(x:bm):aL ρ (.tA x) m=some (.val (ρ x) m):=rfl
theorem N9{ρ:bm->EV}{m:Mem}(zero:List EV)(parts:List (Nat×Nat×bm)):aL ρ (.build zero parts) m=jb m ((eQ zero (parts.map fun p=>(p.1,p.2.1,ρ p.2.2))).map .agg):=rfl
theorem SI{ρ:bm->EV}{m:Mem}(agg:Option Nat)(a:bm):aL ρ (.load agg a) m=jb m (m.load agg (ρ a)):=rfl
theorem N2{ρ:bm->EV}{m:Mem}(size:Nat)(a x:bm):aL ρ (.store size a x) m=ofM (m.store size (ρ a) (ρ x)):=rfl
theorem N6{ρ:bm->EV}{m:Mem}(x:bm):aL ρ (.lU x) m=match ρ x with
  | .ptr b off=>some (.val (.ptr b off) m)
  | .func f a c=>some (.val (.func f a c) m)
  | .iface t v=>some (.val (.iface t v) m)
  | .gu e els i k=>some (.val (.gu e els i k) m)
  |_=>none:=rfl
theorem Xx{ρ:bm->EV}{m:Mem}(op:BinOp)(x y:bm):aL ρ (.bin op x y) m=jb m (eV op (ρ x) (ρ y)):=rfl
theorem abc{ρ:bm->EV}{m:Mem}(neg:Bool)(t:ua)(x y:bm):aL ρ (.eq neg t x y) m=jb m ((ft t (ρ x) (ρ y)).map fun b=>.bool (neg^^b)):=rfl
theorem abb{ρ:bm->EV}{m:Mem}(op:UnOp)(x:bm):aL ρ (.un op x) m=jb m (D6 op (ρ x)):=rfl
theorem SL{ρ:bm->EV}{m:Mem}(c:Cv)(x:bm):aL ρ (.conv c x) m=w8 (l8 c m (ρ x)):=rfl
theorem N7{ρ:bm->EV}{m:Mem}(t:Nat)(x:bm):aL ρ (.iface t x) m=some (.val (.iface t (ρ x)) m):=rfl
theorem SH{ρ:bm->EV}{m:Mem}(f:Nat)(a c:List bm):aL ρ (.AJ f a c) m=some (.val (.func f (a.map ρ) (c.map ρ)) m):=rfl
theorem H2{ρ:bm->EV}{m:Mem}(elem esz:Nat)(zero:List EV)(len cap:bm):aL ρ (.jI elem esz zero len cap) m=match ρ len,ρ cap with
  | .int .i64 (.ofNat l),.int .i64 (.ofNat c)=>bif (bif l.ble c then c.ble room else false)then
    some (.val (.slice m.next 0 l (some c)) (m.new (.cells (eA c zero) esz elem false)))else none
  |_,_=>none:=rfl
theorem N3{ρ:bm->EV}{m:Mem}(x:bm)(lo hi:Option bm):aL ρ (.ob x lo hi) m=match ρ x with
  | .str s=>match aS (hi.map ρ) s.length s.length with
   |some h=>match aS (lo.map ρ) 0 h with
    |some l=>some (.val (.str ((s.take h).drop l)) m)
    |none=>none
   |none=>none
  |_=>none:=rfl
theorem N4{ρ:bm->EV}{m:Mem}(n esz:Nat)(x:bm)(lo hi max:Option bm):aL ρ (.xp n esz x lo hi max) m=match ρ x with
  | .ptr b off=>jb m (cW esz b off n (some n) (lo.map ρ) (hi.map ρ) (max.map ρ))
  |_=>none:=rfl
theorem N8{ρ:bm->EV}{m:Mem}(off:Nat)(x:bm):aL ρ (.xA off x) m=match ρ x with
  | .ptr b o=>some (.val (.ptr b (o+off)) m)
  | .gu e els i k=>some (.val (.gu e els i (k+off)) m)
  |_=>none:=rfl
theorem Xv{ρ:bm->EV}{m:Mem}(agg:Option Nat)(off:Nat)(x:bm):aL ρ (.CC agg off x) m=match ρ x with
  | .agg cs=>jb m (partOf agg cs off)
  |_=>none:=rfl
theorem Fi{ρ:bm->EV}{m:Mem}(n esz:Nat)(x i:bm):aL ρ (.oC n esz x i) m=match ρ x with
  | .ptr b off=>match idx n (ρ i)with
   |some i=>some (.val (.ptr b (off+i*esz)) m)
   |none=>none
  |_=>none:=rfl
theorem KN{ρ:bm->EV}{m:Mem}(x i:bm):aL ρ (.kB x i) m=match ρ x with
  | .str s=>match idx s.length (ρ i)with
   |some i=>match s[i]? with
    |some c=>some (.val (.int .u8 (c.toNat:Int)) m)
    |none=>none
   |none=>none
  |_=>none:=rfl
theorem KO{ρ:bm->EV}{m:Mem}(n esz:Nat)(agg:Option Nat)(x i:bm):aL ρ (.vU n esz agg x i) m=match ρ x with
  | .agg cs=>match idx n (ρ i)with
   |some i=>jb m (partOf agg cs (i*esz))
   |none=>none
  |_=>none:=rfl
theorem KI{ρ:bm->EV}{m:Mem}(kt:Nat)(zero:EV)(ok:Bool)(mp k:bm):aL ρ (.lookup kt zero ok mp k) m=match ρ mp with
  | .bN=>bif oB kt (ρ k)then some (.val (bif ok then .tuple [zero,.bool false]else zero) m)else none
  | .map b=>match m.get b with
   | .map es=>bif jB kt (ρ k) es then
     match find (ρ k) es with
     |some v=>some (.val (bif ok then .tuple [v,.bool true]else v) m)
     |none=>some (.val (bif ok then .tuple [zero,.bool false]else zero) m)
    else none
   |_=>none
  |_=>none:=rfl
theorem KH{ρ:bm->EV}{m:Mem}(kt:Nat)(mp k x:bm):aL ρ (.pi kt mp k x) m=match ρ mp with
  | .map b=>match m.get b with
   | .map es=>bif jB kt (ρ k) es then some (.val .undef (m.set b (.map (update (ρ k) (ρ x) es))))else none
   |_=>none
  |_=>none:=rfl
theorem KQ{ρ:bm->EV}{m:Mem}(kt:Nat)(mp k:bm):aL ρ (.delete kt mp k) m=match ρ mp with
  | .bN=>bif oB kt (ρ k)then some (.val (.tuple []) m)else none
  | .map b=>match m.get b with
   | .map es=>bif jB kt (ρ k) es then some (.val (.tuple []) (m.set b (.map (erase (ρ k) es))))else none
   |_=>none
  |_=>none:=rfl
theorem KL{ρ:bm->EV}{m:Mem}(mp:bm):aL ρ (.sG mp) m=match ρ mp with
  | .bN=>some (.val (.int .i64 0) m)
  | .map b=>match m.get b with
   | .map es=>some (.val (.int .i64 (es.length:Int)) m)
   |_=>none
  |_=>none:=rfl
theorem H0{ρ:bm->EV}{m:Mem}(t:Nat)(x:bm):aL ρ (.rN t x) m=match ρ x with
  | .iface u v=>bif t.beq u then some (.val v m)else none
  |_=>none:=rfl
theorem H3{ρ:bm->EV}{m:Mem}(x:bm)(i:Nat):aL ρ (.extract x i) m=match ρ x with
  | .tuple vs=>jb m vs[i]?
  |_=>none:=rfl
theorem KJ{ρ:bm->EV}{m:Mem}(x:bm):aL ρ (.gj x) m=match ρ x with
  | .str s=>some (.val (.int .i64 (s.length:Int)) m)
  |_=>none:=rfl
theorem KM{ρ:bm->EV}{m:Mem}(n:Nat):aL ρ (.vS n) m=some (.val (.int .i64 (n:Int)) m):=rfl
theorem Xw{ρ:bm->EV}{m:Mem}(x:bm):aL ρ (.cap x) m=match ρ x with
  | .aa=>some (.val (.int .i64 0) m)
  | .slice _ _ _ (some c)=>some (.val (.int .i64 (c:Int)) m)
  |_=>none:=rfl
theorem Xu{ρ:bm->EV}{m:Mem}(args:List bm):aL ρ (.max args) m=jb m (sl (args.map ρ)):=rfl
theorem Xt{ρ:bm->EV}{m:Mem}(args:List bm):aL ρ (.min args) m=jb m (BD (args.map ρ)):=rfl
theorem KR{ρ:bm->EV}{m:Mem}(elem esz bytes:Nat)(s x:bm):aL ρ (.append elem esz bytes s x) m=w8 (cM m elem esz (ρ s) (ρ x)):=rfl
theorem SK{ρ:bm->EV}{m:Mem}(esz:Nat)(d s:bm):aL ρ (.copy esz d s) m=w8 (x7 m esz (ρ d) (ρ s)):=rfl
open Classical in
noncomputable def bo(p:Prop):EV:=.bool (decide p)
open Classical in
noncomputable def gv(p:Prop)(v:EV):EV:=if p then v else .undef
open Classical in
noncomputable def iF{α:Type}(p:Prop)(x y:α):α:=if p then x else y
theorem Th{p:Prop}[h:Decidable p]:EV.bool (decide p)=bo p:=by unfold bo;congr
theorem Fp{p:Prop}[h:Decidable p]:EV.bool (!decide p)=bo (¬p):=by
 unfold bo;by_cases hp:p<;>simp[hp]
theorem fu:bo True=.bool true:=by simp[bo]
theorem fh:bo False=.bool false:=by simp[bo]
theorem gQ{p:Prop}(h:p):bo p=.bool true:=by simp[bo,h]
theorem ij{p:Prop}(h:¬p):bo p=.bool false:=by simp[bo,h]
theorem aau{v:EV}:gv True v=v:=by simp[gv]
theorem W0{v:EV}:gv False v=.undef:=by simp[gv]
theorem NE{α:Type}{p:Prop}(h:p){x y:α}:iF p x y=x:=by simp[iF,h]
theorem NF{α:Type}{p:Prop}(h:¬p){x y:α}:iF p x y=y:=by simp[iF,h]
@[congr] theorem agS {α : Type} {p p' : Prop} {x x' y y' : α} (h : p = p') (h1 : p' -> x = x') (h2 : ¬ p' -> y = y') : iF p x y = iF p' x' y' := by
 subst h;by_cases hp:p
 ·rw[NE hp,NE hp];exact h1 hp
 ·rw[NF hp,NF hp];exact h2 hp
def cE(v:EV)(x y:Option Out):Option Out:=match v with
 | .bool true=>x
 | .bool false=>y
 |_=>none
@[congr] theorem aiZ {v v' : EV} {x y : Option Out} (h : v = v') : cE v x y = cE v' x y := by rw [h]
theorem ai0{p:Prop}{x y:Option Out}:cE (bo p) x y=iF p x y:=by by_cases h:p<;>simp[bo,iF,cE,h]
theorem aoH{x y:Option Out}:cE (.bool true) x y=x:=rfl
theorem aoI{x y:Option Out}:cE (.bool false) x y=y:=rfl
theorem NZ{T:Nat->Option jm}{c:bm}{a b:ar}{fr:Fr}{m:Mem}:exec T (.cond c a b) fr m=cE (fr.eval c) (exec T a fr m) (exec T b fr m):=by
 cases h:fr.eval c
 case bool t=>rw[Gw h];cases t<;>rfl
 all_goals
  refine dT fun r=> ?_
  rw[cw];simp only[aB,h,reduceCtorEq,exists_const,cE]
open Classical in
noncomputable def mK(p:Prop)(m:Mem)(o:Option R1)(k:EV->Mem->Option Out):Option Out:=if p then iZ o k else k .undef m
open Classical in
noncomputable def oU(p:Prop)(fr:Fr)(m:Mem)(o:Option Fin)(k:EV->Mem->Option Out):Option Out:=if p then rM o fr k else k .undef m
@[congr] theorem abV {p p' : Prop} {m : Mem} {o o' : Option R1} {k : EV -> Mem -> Option Out} (h : p = p') (ho : p' -> o = o') : mK p m o k = mK p' m o' k := by
 subst h;by_cases hp:p<;>simp only[mK,hp,if_true,if_false];rw[ho hp]
@[congr] theorem abU {p p' : Prop} {fr : Fr} {m : Mem} {o o' : Option Fin} {k : EV -> Mem -> Option Out} (h : p = p') (ho : p' -> o = o') : oU p fr m o k = oU p' fr m o' k := by
 subst h;by_cases hp:p<;>simp only[oU,hp,if_true,if_false];rw[ho hp]
theorem QK{p:Prop}{m m':Mem}{v:EV}{k:EV->Mem->Option Out}(he:p->m'=m):mK p m (some (.val v m')) k=k (gv p v) m:=by
 by_cases h:p
 ·rw[he h];simp[mK,gv,iZ,h]
 ·simp[mK,gv,h]
theorem QJ{p:Prop}{fr:Fr}{m m':Mem}{v:EV}{k:EV->Mem->Option Out}(he:p->m'=m):oU p fr m (some (.ret v m')) k=k (gv p v) m:=by
 by_cases h:p
 ·rw[he h];simp[oU,gv,rM,h]
 ·simp[oU,gv,h]
theorem dS{m:Mem}{o:Option R1}{k:EV->Mem->Option Out}:mK True m o k=iZ o k:=by simp[mK]
theorem cT{m:Mem}{o:Option R1}{k:EV->Mem->Option Out}:mK False m o k=k .undef m:=by simp[mK]
def gE(v:EV)(w:Bool)(x y:Option Out):Option Out:=match v with
 | .bool b=>bif b==w then x else y
 | .undef=>y
 |_=>none
@[congr] theorem ail {v v' : EV} {w : Bool} {x y : Option Out} (h : v = v') : gE v w x y = gE v' w x y := by rw [h]
def gV(v:EV)(w:Bool)(m:Mem)(o:Option R1)(k:EV->Mem->Option Out):Option Out:=gE v w (iZ o k) (k .undef m)
def gC(v:EV)(w:Bool)(fr:Fr)(m:Mem)(o:Option Fin)(k:EV->Mem->Option Out):Option Out:=gE v w (rM o fr k) (k .undef m)
@[congr] theorem aif {v v' : EV} {w : Bool} {m : Mem} {o : Option R1} {k : EV -> Mem -> Option Out} (h : v = v') : gV v w m o k = gV v' w m o k := by rw [h]
@[congr] theorem aiq {v v' : EV} {w : Bool} {fr : Fr} {m : Mem} {o : Option Fin} {k : EV -> Mem -> Option Out} (h : v = v') : gC v w fr m o k = gC v' w fr m o k := by rw [h]
section
variable {p q:Prop} {b:Bool} {w:Bool} {fr:Fr} {m:Mem} {o:Option R1} {c:Option Fin} {k:EV->Mem->Option Out}
theorem Xa:gV .undef w m o k=k .undef m:=rfl
theorem Xc:gC .undef w fr m c k=k .undef m:=rfl
theorem aaC:gV (bo p) true m o k=mK p m o k:=by by_cases h:p<;>simp[gV,gE,bo,mK,h]
theorem aaD:gV (bo p) false m o k=mK (¬p) m o k:=by by_cases h:p<;>simp[gV,gE,bo,mK,h]
theorem aib:gV (.bool true) true m o k=iZ o k:=rfl
theorem aic:gV (.bool true) false m o k=k .undef m:=rfl
theorem aid:gV (.bool false) true m o k=k .undef m:=rfl
theorem aie:gV (.bool false) false m o k=iZ o k:=rfl
theorem aaw:gV (gv p (bo q)) true m o k=mK (p/\q) m o k:=by by_cases h:p<;>by_cases h':q<;>simp[gV,gE,bo,gv,mK,h,h']
theorem aax:gV (gv p (bo q)) false m o k=mK (p/\¬q) m o k:=by by_cases h:p<;>by_cases h':q<;>simp[gV,gE,bo,gv,mK,h,h']
theorem aay:gV (gv p (.bool true)) true m o k=mK p m o k:=by by_cases h:p<;>simp[gV,gE,gv,mK,h]
theorem aaz:gV (gv p (.bool true)) false m o k=k .undef m:=by by_cases h:p<;>simp[gV,gE,gv,h]
theorem aaA:gV (gv p (.bool false)) true m o k=k .undef m:=by by_cases h:p<;>simp[gV,gE,gv,h]
theorem aaB:gV (gv p (.bool false)) false m o k=mK p m o k:=by by_cases h:p<;>simp[gV,gE,gv,mK,h]
theorem aaU:gC (bo p) true fr m c k=oU p fr m c k:=by by_cases h:p<;>simp[gC,gE,bo,oU,h]
theorem aaV:gC (bo p) false fr m c k=oU (¬p) fr m c k:=by by_cases h:p<;>simp[gC,gE,bo,oU,h]
theorem aim:gC (.bool true) true fr m c k=rM c fr k:=rfl
theorem ain:gC (.bool true) false fr m c k=k .undef m:=rfl
theorem aio:gC (.bool false) true fr m c k=k .undef m:=rfl
theorem aip:gC (.bool false) false fr m c k=rM c fr k:=rfl
theorem aaO:gC (gv p (bo q)) true fr m c k=oU (p/\q) fr m c k:=by by_cases h:p<;>by_cases h':q<;>simp[gC,gE,bo,gv,oU,h,h']
theorem aaP:gC (gv p (bo q)) false fr m c k=oU (p/\¬q) fr m c k:=by by_cases h:p<;>by_cases h':q<;>simp[gC,gE,bo,gv,oU,h,h']
theorem aaQ:gC (gv p (.bool true)) true fr m c k=oU p fr m c k:=by by_cases h:p<;>simp[gC,gE,gv,oU,h]
theorem aaR:gC (gv p (.bool true)) false fr m c k=k .undef m:=by by_cases h:p<;>simp[gC,gE,gv,h]
theorem aaS:gC (gv p (.bool false)) true fr m c k=k .undef m:=by by_cases h:p<;>simp[gC,gE,gv,h]
theorem aaT:gC (gv p (.bool false)) false fr m c k=oU p fr m c k:=by by_cases h:p<;>simp[gC,gE,gv,oU,h]
end
theorem vF{T:Nat->Option jm}{d:Option Nat}{op:Aj}{t:Nat}{w:Bool}{l:List bd}{fr:Fr}{m:Mem} :
  pK T (⟨d,op,some (t,w)⟩::l) fr m=gE (fr.get t) w (pK T (⟨d,op,none⟩::l) fr m) (pK T l (fr.put d .undef) m):=by
 cases h:fr.get t
 case bool b=>rw[MZ h];rfl
 case undef=>
  refine dT fun r=> ?_
  rw[gO];simp only[jx,bt,h,gE];exact gO.symm
 all_goals
  refine dT fun r=> ?_
  rw[gO];simp only[jx,bt,h,reduceCtorEq,exists_const,gE]
theorem Ry{T:Nat->Option jm}{d:Option Nat}{op:oa}{t:Nat}{w:Bool}{l:List bd}{fr:Fr}{m:Mem} :
  pK T (⟨d,.val op,some (t,w)⟩::l) fr m=gV (fr.get t) w m (aL fr.eval op m) (fun v m=>pK T l (fr.put d v) m):=by rw[vF,Dj];rfl
noncomputable def Au(T:Nat->Option jm)(f:EV)(args:List EV)(m:Mem):Option Fin:=match f with
 | .func g a c=>run T g (a++args++c) m
 |_=>none
theorem wL{T:Nat->Option jm}{g:Nat}{a c args:List EV}{m:Mem}:Au T (.func g a c) args m=run T g (a++args++c) m:=rfl
theorem xL{T:Nat->Option jm}{d:Option Nat}{x:bm}{args:List bm}{l:List bd}{fr:Fr}{m:Mem} :
  pK T (⟨d,.call x args,none⟩::l) fr m=rM (Au T (fr.eval x) (args.map fr.eval) m) fr fun v m=>pK T l (fr.put d v) m:=by
 refine dT fun r=> ?_
 rw[gO];simp only[jx,bt];cases hx:fr.eval x
 case func g a c=>
  simp only[ie,Au];constructor
  ·rintro⟨k,h⟩;cases hc:bc T k g (a++args.map fr.eval++c) m with
   |none=>rw[hc]at h;cases h
   |some q=>
    rw[qy.2 ⟨k,hc⟩];simp only[hc]at h;cases q with
    |ret v m1=>exact gO.2 ⟨k,h⟩
    |jk v m1=>exact h
  ·intro h;cases hc:run T g (a++args.map fr.eval++c) m with
   |none=>rw[hc]at h;cases h
   |some q=>
    obtain⟨k1,h1⟩:=qy.1 hc;rw[hc]at h;cases q with
    |ret v m1=>
     simp only[rM]at h;obtain⟨k2,h2⟩:=gO.1 h;refine⟨max k1 k2,?_⟩
     have e1:=Dx _ _ _ (Nat.le_max_left k1 k2) h1;have e2:=Ga _ _ _ (Nat.le_max_right k1 k2) h2;simp only at e1 e2;rw[e1];exact e2
    |jk v m1=>exact⟨k1,by rw[h1];exact h⟩
 all_goals simp[ie,Au,rM]
theorem Jv{T:Nat->Option jm}{d:Option Nat}{x:bm}{args:List bm}{t:Nat}{w:Bool}{l:List bd}{fr:Fr}{m:Mem} :
  pK T (⟨d,.call x args,some (t,w)⟩::l) fr m=gC (fr.get t) w fr m (Au T (fr.eval x) (args.map fr.eval) m) (fun v m=>pK T l (fr.put d v) m):=by rw[vF,xL];rfl
def nw(c a b:EV)(m:Mem):Option R1:=match c with
 | .bool t=>some (.val (bif t then a else b) m)
 |_=>none
theorem N5{ρ:bm->EV}{c x y:bm}{m:Mem}:aL ρ (.pick c x y) m=nw (ρ c) (ρ x) (ρ y) m:=by
 simp only[aL];unfold nw;cases ρ c<;>rfl
section
variable {p q r:Prop} {a b:EV} {m:Mem} {c d:Bool}
theorem U3:nw (bo p) (gv p (bo q)) (.bool false) m=some (.val (bo (p/\q)) m):=by by_cases h:p<;>by_cases h':q<;>simp[nw,gv,bo,h,h']
theorem MU:nw (bo p) (gv p (.bool true)) (.bool false) m=some (.val (bo p) m):=by by_cases h:p<;>simp[nw,gv,bo,h]
theorem MV:nw (bo p) (gv p (.bool false)) (.bool false) m=some (.val (.bool false) m):=by by_cases h:p<;>simp[nw,gv,bo,h]
theorem Zv(hr:r=¬p):nw (bo p) (.bool true) (gv r (bo q)) m=some (.val (bo (p\/q)) m):=by subst hr;by_cases h:p<;>by_cases h':q<;>simp[nw,gv,bo,h,h']
theorem Rp(hr:r=¬p):nw (bo p) (.bool true) (gv r (.bool true)) m=some (.val (.bool true) m):=by subst hr;by_cases h:p<;>simp[nw,gv,bo,h]
theorem Rq(hr:r=¬p):nw (bo p) (.bool true) (gv r (.bool false)) m=some (.val (bo p) m):=by subst hr;by_cases h:p<;>simp[nw,gv,bo,h]
theorem Rr:nw (bo p) (bo q) (.bool false) m=some (.val (bo (p/\q)) m):=by by_cases h:p<;>by_cases h':q<;>simp[nw,bo,h,h']
theorem U2:nw (bo p) (.bool true) (bo q) m=some (.val (bo (p\/q)) m):=by by_cases h:p<;>by_cases h':q<;>simp[nw,bo,h,h']
theorem adm:nw (.bool true) a b m=some (.val a m):=rfl
theorem adn:nw (.bool false) a b m=some (.val b m):=rfl
end
theorem QC{p:Prop}:D6 .not (bo p)=some (bo (¬p)):=by by_cases h:p<;>simp[D6,bo,h]
theorem aeJ{p q:Prop}:ft (.bG 0) (bo p) (bo q)=some (@decide (p=q) (Classical.propDecidable _)):=by by_cases h:p<;>by_cases h':q<;>simp[ft,ew,bo,h,h']
theorem abh{p:Prop}:ft (.bG 0) (bo p) (.bool true)=some (@decide p (Classical.propDecidable _)):=by by_cases h:p<;>simp[ft,ew,bo,h]
theorem abi{p:Prop}:ft (.bG 0) (bo p) (.bool false)=some (@decide (¬p) (Classical.propDecidable _)):=by by_cases h:p<;>simp[ft,ew,bo,h]
theorem abe{p:Prop}:ft (.bG 0) (.bool true) (bo p)=some (@decide p (Classical.propDecidable _)):=by by_cases h:p<;>simp[ft,ew,bo,h]
theorem abg{p:Prop}:ft (.bG 0) (.bool false) (bo p)=some (@decide (¬p) (Classical.propDecidable _)):=by by_cases h:p<;>simp[ft,ew,bo,h]
theorem aiz:ft (.bG 0) (.bool true) (.bool true)=some true:=rfl
theorem aiK:ft (.bG 0) (.bool false) (.bool false)=some true:=rfl
theorem aiA:ft (.bG 0) (.bool true) (.bool false)=some false:=rfl
theorem aiI:ft (.bG 0) (.bool false) (.bool true)=some false:=rfl
theorem TP:D6 .not (.bool true)=some (.bool false):=rfl
theorem TQ:D6 .not (.bool false)=some (.bool true):=rfl
theorem aeI{a b:List UInt8}:ft (.bG 2) (.str a) (.str b)=some (decide (a=b)):=by simp only[ft,ew,dN,cond_true,gJ]
theorem T5{p:Prop}{a b:Option Out}{k:Fr->Mem->Option Out}:nt (iF p a b) k=iF p (nt a k) (nt b k):=by unfold iF;split<;>rfl
theorem VV{id:Nat}{p:Prop}{a b:Option Out}:re id (iF p a b)=iF p (re id a) (re id b):=by unfold iF;split<;>rfl
theorem T4{p:Prop}{a b:Option R1}{k:EV->Mem->Option Out}:iZ (iF p a b) k=iF p (iZ a k) (iZ b k):=by unfold iF;split<;>rfl
theorem T7{p:Prop}{a b:Option Fin}{fr:Fr}{k:EV->Mem->Option Out}:rM (iF p a b) fr k=iF p (rM a fr k) (rM b fr k):=by unfold iF;split<;>rfl
theorem Zq{rs:List ns}{p:Prop}{a b:Option Out}:pI rs (iF p a b)=iF p (pI rs a) (pI rs b):=by unfold iF;split<;>rfl
theorem Zj{T:Nat->Option jm}{f:Nat}{F:aC}(hf:T f=some (.go F)){args:List EV}{m:Mem}(hn:args.length<=F.ntmps):run T f args m=pI F.results (exec T F.body (kF args 0 mP) m):=by
 rw[MJ hf hn,Co];unfold mP;rw[tW]
theorem ap{n:Nat}{k:IntKind}{i:Nat}(h:i<n):idx n (.int k (i:Int))=some i:=by
 have:(i+1).ble n=true:=sx h;show (bif (i+1).ble n then some i else none)=_;rw[this];rfl
theorem Wh{n:Nat}{k:IntKind}(h:0<n):idx n (.int k 0)=some 0:=ap (i:=0) h
theorem ig{d n:Nat}:aS none d n=some d:=rfl
theorem lm{d n i:Nat}{k:IntKind}(h:i<=n):aS (some (.int k (i:Int))) d n=some i:=by
 show (bif i.ble n then some i else none)=_;rw[sx h];rfl
theorem Wi(n:Int):IntKind.i64.wrap n=if n % 18446744073709551616>=9223372036854775808 then n % 18446744073709551616- 18446744073709551616 else n % 18446744073709551616:=by
 have e:IntKind.i64.wrap n=if (true&&decide (n % 18446744073709551616>=9223372036854775808))=true then n % 18446744073709551616- 18446744073709551616 else n % 18446744073709551616:=rfl
 rw[e];simp only[Bool.true_and,decide_eq_true_eq]
theorem wrap_i64{n:Int}(h1: -9223372036854775808<=n)(h2:n<9223372036854775808):IntKind.i64.wrap n=n:=by
 rw[Wi];split<;>omega
theorem told{T:Nat->Option jm}{c:ar}{fr:Fr}{m:Mem}{X:Option Out}(hX:exec T c fr m=X){α:Type}{o:α->Out}{Q:α->Prop}(h:∃x,exec T c fr m=some (o x)/\Q x):∃x,X=some (o x)/\Q x:=by
 rw[hX]at h;exact h
end
section
class Has (T:Nat->Option jm) (f:Nat) (e:outParam jm):Prop where
 has:T f=some e
def nb(n i:Nat):Nat:=n+i
def ext(m:Mem)(xs:List bX):Mem:=xs.foldl Mem.new m
theorem Vz{m:Mem}{x:bX}:m.new x=ext m [x]:=rfl
theorem aa4{m:Mem}{xs ys:List bX}:ext (ext m xs) ys=ext m (xs++ys):=by unfold ext;rw[List.foldl_append]
theorem lV{n i j:Nat}:nb (nb n i) j=nb n (i+j):=Nat.add_assoc n i j
theorem ak{m:Mem}{xs:List bX}:(ext m xs).next=nb m.next xs.length:=by
 unfold ext nb
 induction xs generalizing m with
 |nil=>rfl
 |cons x xs ih=>rw[List.foldl_cons,ih];show m.next+1+_=_;rw[List.length_cons];omega
theorem aj{m:Mem}{b:Nat}{x:bX}:(m.set b x).next=m.next:=rfl
theorem fI{m:Mem}{x:bX}:(m.new x).next=m.next+1:=rfl
theorem cN{m:Mem}{x:bX}{b:Nat}:(m.new x).get b=if b=m.next then x else m.get b:=by
 unfold Mem.get Mem.new;simp only;rw[Tr.ct];split<;>rfl
theorem ct{m:Mem}{x:bX}{b c:Nat}:(m.set c x).get b=if b=c then x else m.get b:=by
 unfold Mem.get Mem.set;simp only;rw[Tr.ct];split<;>rfl
theorem aN{m:Mem}{x:bX}{b:Nat}:(m.set b x).get b=x:=by rw[ct,if_pos rfl]
theorem af{m:Mem}{x:bX}{b c:Nat}(h:b≠c):(m.set c x).get b=m.get b:=by rw[ct,if_neg h]
theorem ai{m:Mem}{xs:List bX}{b:Nat}(h:b<m.next):(ext m xs).get b=m.get b:=by
 unfold ext
 induction xs generalizing m with
 |nil=>rfl
 |cons x xs ih=>rw[List.foldl_cons,ih (by rw[fI];omega),cN,if_neg (by omega)]
theorem aw{m:Mem}{xs:List bX}{n i:Nat}(hn:m.next=n)(h:i<xs.length):(ext m xs).get (nb n i)=xs[i]?.getD .dead:=by
 subst hn;unfold ext nb
 induction xs generalizing m i with
 |nil=>simp at h
 |cons x xs ih=>
  rw[List.foldl_cons];cases i with
  |zero=>
   have:=ai (m:=m.new x) (xs:=xs) (b:=m.next) (by rw[fI];omega);unfold ext at this;rw[Nat.add_zero,this,cN,if_pos rfl];rfl
  |succ i=>
   have:=ih (m:=m.new x) (i:=i) (by simpa using h);rw[fI,show m.next+1+i=m.next+(i+1)by omega]at this;rw[this];rfl
def jy(m m':Mem):Prop:=∀b,b<m.next->m'.get b=m.get b
theorem jX{m:Mem}:jy m m:=fun _ _=>rfl
theorem lF{m:Mem}{xs:List bX}:jy m (ext m xs):=fun _ h=>ai h
def ldB(x:bX)(agg:Option Nat)(off:Nat):Option EV:=match x with
 | .cells cs _ _ _=>partOf agg cs off
 |_=>none
theorem R0{m:Mem}{agg:Option Nat}{b off:Nat}:m.load agg (.ptr b off)=ldB (m.get b) agg off:=by
 simp only[Mem.load,ldB];cases m.get b<;>rfl
theorem R7{cs:List EV}{e t:Nat}{ro:Bool}{agg:Option Nat}{off:Nat}:ldB (.cells cs e t ro) agg off=partOf agg cs off:=rfl
theorem Rt{cs:List EV}{off:Nat}:partOf none cs off=cs[off]?:=rfl
theorem Rs{cs:List EV}{off n:Nat}(h:off+n<=cs.length):partOf (some n) cs off=some (.agg ((cs.drop off).take n)):=by
 show (bif (off+n).ble cs.length then some (EV.agg ((cs.drop off).take n))else none)=_;rw[sx h];rfl
def stB(m:Mem)(size b off:Nat)(vs:Option (List EV)):Option Mem:=match vs with
 |some vs=>bif vs.length.beq size then m.write b off vs else none
 |none=>none
theorem Mh{m:Mem}{size b off:Nat}{x:EV}:m.store size (.ptr b off) x=stB m size b off x.cells:=by
 simp only[Mem.store,stB];cases x.cells<;>rfl
theorem Um{m:Mem}{size b off:Nat}{vs:List EV}(h:vs.length=size):stB m size b off (some vs)=m.write b off vs:=by
 show (bif vs.length.beq size then m.write b off vs else none)=_;rw[h,dN];rfl
def wrB(m:Mem)(b off:Nat)(vs:List EV)(x:bX):Option Mem:=match x with
 | .cells cs esz elem ro=>bif ro then none else(kW cs off vs).map fun cs=>m.set b (.cells cs esz elem ro)
 |_=>none
theorem TK{m:Mem}{b off:Nat}{vs:List EV}:m.write b off vs=wrB m b off vs (m.get b):=by simp only[Mem.write,wrB];cases m.get b<;>rfl
theorem Qv{m:Mem}{b off:Nat}{vs cs:List EV}{e t:Nat}(h:off+vs.length<=cs.length):wrB m b off vs (.cells cs e t false)=some (m.set b (.cells (cs.take off++vs++cs.drop (off+vs.length)) e t false)):=by
 show (bif false then none else(kW cs off vs).map fun cs=>m.set b (.cells cs e t false))=_;unfold kW;rw[sx h];rfl
theorem S8{k:IntKind}{n:Int}:(EV.int k n).cells=some [.int k n]:=rfl
theorem OB{b:Bool}:(EV.bool b).cells=some [.bool b]:=rfl
theorem XZ{p:Prop}:(bo p).cells=some [bo p]:=rfl
theorem S4{s:List UInt8}:(EV.str s).cells=some [.str s]:=rfl
theorem Il:EV.bM.cells=some [.bM]:=rfl
theorem S6{b o:Nat}:(EV.ptr b o).cells=some [.ptr b o]:=rfl
theorem Eh:EV.aa.cells=some [.aa]:=rfl
theorem K6{b o l:Nat}{c:Option Nat}:(EV.slice b o l c).cells=some [.slice b o l c]:=rfl
theorem Im:EV.bN.cells=some [.bN]:=rfl
theorem S7{b:Nat}:(EV.map b).cells=some [.map b]:=rfl
theorem Fm:EV.bS.cells=some [.bS]:=rfl
theorem Oz{f:Nat}{x y:List EV}:(EV.func f x y).cells=some [.func f x y]:=rfl
theorem Ei:EV.aP.cells=some [.aP]:=rfl
theorem K7{t:Nat}{v:EV}:(EV.iface t v).cells=some [.iface t v]:=rfl
theorem S9{cs:List EV}:(EV.agg cs).cells=some cs:=rfl
def PY(cs:List EV)(off size:Nat)(vs:Option (List EV))(r:List (Nat×Nat×EV)):Option (List EV):=match vs with
 |some vs=>bif vs.length.beq size then match kW cs off vs with
  |some cs=>eQ cs r
  |none=>none
  else none
 |none=>none
theorem DZ{cs:List EV}:eQ cs []=some cs:=rfl
theorem Gt{cs:List EV}{off size:Nat}{v:EV}{r:List (Nat×Nat×EV)}:eQ cs ((off,size,v)::r)=PY cs off size v.cells r:=by simp only[PY,eQ];cases v.cells<;>rfl
theorem D2{cs:List EV}{off size:Nat}{vs:List EV}{r:List (Nat×Nat×EV)}(h:vs.length=size)(h2:off+vs.length<=cs.length):PY cs off size (some vs) r=eQ (cs.take off++vs++cs.drop (off+vs.length)) r:=by
 show (bif vs.length.beq size then match kW cs off vs with|some cs=>eQ cs r|none=>none else none)=_;unfold kW;rw[h,dN,sx (by rw[<- h];exact h2)];rfl
def aeO(elem:Nat)(m:Mem)(vs:Option (List EV)):Option R1:=match vs with
 |some cs=>some (.val (.ptr (nb m.next 0) 0) (ext m [.cells cs cs.length elem false]))
 |none=>none
theorem SM{ρ:bm->EV}{m:Mem}{elem:Nat}{x:bm}:aL ρ (.box elem x) m=aeO elem m (ρ x).cells:=by
 simp only[aL];unfold aeO;cases(ρ x).cells<;>rfl
theorem Td{elem:Nat}{m:Mem}{cs:List EV}:aeO elem m (some cs)=some (.val (.ptr (nb m.next 0) 0) (ext m [.cells cs cs.length elem false])):=rfl
theorem KS{ρ:bm->EV}{m:Mem}{elem:Nat}{zero:List EV}:aL ρ (.alloc elem zero) m=some (.val (.ptr (nb m.next 0) 0) (ext m [.cells zero zero.length elem false])):=rfl
theorem KG{ρ:bm->EV}{m:Mem}:aL ρ .uR m=some (.val (.map (nb m.next 0)) (ext m [.map []])):=rfl
theorem U1{α:Type}(x y:α)(p:List Bool):∀t:Tr α,(t.put x p).put y p=t.put y p:=by
 induction p with
 |nil=>intro t;cases t<;>rfl
 |cons b p ih=>intro t;cases t<;>cases b<;>simp[Tr.put,ih]
theorem put_comm{α:Type}(x y:α)(p:List Bool):∀(q:List Bool) (t:Tr α),p≠q->(t.put x p).put y q=(t.put y q).put x p:=by
 induction p with
 |nil=>
  intro q t h;cases q with
  |nil=>exact absurd rfl h
  |cons c q=>cases t<;>cases c<;>simp[Tr.put]
 |cons b p ih=>
  intro q t h;cases q with
  |nil=>cases t<;>cases b<;>simp[Tr.put]
  |cons c q=>
   by_cases LN:b=c
   ·subst LN;have hpq:p≠q:=fun e=>h (by rw[e])
    cases t<;>cases b<;>simp[Tr.put,ih _ _ hpq]
   ·cases t<;>cases b<;>cases c<;>simp[Tr.put]at LN ⊢
theorem ZL{m:Mem}{b:Nat}{x y:bX}(h:b<m.next):(m.new y).set b x=(m.set b x).new y:=by
 unfold Mem.set Mem.new Tr.set;simp only;rw[put_comm _ _ _ _ _ (fun e=>by have:=Jn e;omega)]
theorem Hh{m:Mem}{x y:bX}:(m.new y).set m.next x=m.new x:=by
 unfold Mem.set Mem.new Tr.set;simp only;rw[U1]
theorem Bi{m:Mem}{xs:List bX}{b:Nat}{x:bX}(h:b<m.next):(ext m xs).set b x=ext (m.set b x) xs:=by
 unfold ext
 induction xs generalizing m with
 |nil=>rfl
 |cons y ys ih=>rw[List.foldl_cons,ih (by rw[fI];omega),ZL h];rfl
theorem C5{m:Mem}{xs:List bX}{n i:Nat}{x:bX}(hn:m.next=n)(h:i<xs.length):(ext m xs).set (nb n i) x=ext m (xs.set i x):=by
 subst hn
 induction xs generalizing m i with
 |nil=>simp at h
 |cons y ys ih=>
  cases i with
  |zero=>
   have:=Bi (m:=m.new y) (xs:=ys) (b:=m.next) (x:=x) (by rw[fI];omega);rw[Hh]at this;exact this
  |succ i=>
   have:=ih (m:=m.new y) (i:=i) (by simpa using h);rw[fI]at this;unfold nb at this⊢;rw[show m.next+(i+1)=m.next+1+i by omega];exact this
open Classical in
noncomputable def amJ(T:Nat->Option jm)(f:Nat):List EV->Mem->Option EV:=fun args m=>match run T f args m with
 |some (.ret v m')=>if Flat v=true/\jy m m' then some v else none
 |_=>none
end
section
theorem Zb(x:bm):dG (.tA x)=0:=rfl
theorem Q7(elem:Nat)(zero:List EV):dG (.alloc elem zero)=1:=rfl
theorem Zh(elem:Nat)(x:bm):dG (.box elem x)=1:=rfl
theorem Q6(zero:List EV)(parts:List (Nat×Nat×bm)):dG (.build zero parts)=0:=rfl
theorem Mt(elem esz len:Nat)(zero:List EV)(parts:List (Nat×bm)):dG (.aG elem esz len zero parts)=1:=rfl
theorem QY(size:Nat)(a x:bm):dG (.store size a x)=3:=rfl
theorem Q1(x:bm):dG (.lU x)=0:=rfl
theorem Zi(op:BinOp)(x y:bm):dG (.bin op x y)=0:=rfl
theorem ac3(neg:Bool)(t:ua)(x y:bm):dG (.eq neg t x y)=0:=rfl
theorem ac2(op:UnOp)(x:bm):dG (.un op x)=0:=rfl
theorem Q3(t:Nat)(x:bm):dG (.iface t x)=0:=rfl
theorem Uq(f:Nat)(a c:List bm):dG (.AJ f a c)=0:=rfl
theorem Q2  :dG (.uR)=1:=rfl
theorem I4(elem esz:Nat)(zero:List EV)(len cap:bm):dG (.jI elem esz zero len cap)=1:=rfl
theorem QZ(x:bm)(lo hi:Option bm):dG (.ob x lo hi)=0:=rfl
theorem Uo(esz:Nat)(x:bm)(lo hi max:Option bm):dG (.pE esz x lo hi max)=3:=rfl
theorem Q0(n esz:Nat)(x:bm)(lo hi max:Option bm):dG (.xp n esz x lo hi max)=0:=rfl
theorem Q5(off:Nat)(x:bm):dG (.xA off x)=0:=rfl
theorem Zf(agg:Option Nat)(off:Nat)(x:bm):dG (.CC agg off x)=0:=rfl
theorem Q4(esz:Nat)(x i:bm):dG (.eZ esz x i)=0:=rfl
theorem G4(n esz:Nat)(x i:bm):dG (.oC n esz x i)=0:=rfl
theorem Mp(x i:bm):dG (.kB x i)=0:=rfl
theorem Mq(n esz:Nat)(agg:Option Nat)(x i:bm):dG (.vU n esz agg x i)=0:=rfl
theorem Mj(kt:Nat)(zero:EV)(ok:Bool)(mp k:bm):dG (.lookup kt zero ok mp k)=3:=rfl
theorem Mi(kt:Nat)(mp k x:bm):dG (.pi kt mp k x)=3:=rfl
theorem Mr(kt:Nat)(mp k:bm):dG (.delete kt mp k)=3:=rfl
theorem Ml(mp:bm):dG (.sG mp)=3:=rfl
theorem I3(t:Nat)(x:bm):dG (.rN t x)=0:=rfl
theorem I5(x:bm)(i:Nat):dG (.extract x i)=0:=rfl
theorem Ze(x:bm):dG (.len x)=0:=rfl
theorem Mk(x:bm):dG (.gj x)=0:=rfl
theorem Mn(n:Nat):dG (.vS n)=0:=rfl
theorem Zg(x:bm):dG (.cap x)=0:=rfl
theorem Zd(args:List bm):dG (.max args)=0:=rfl
theorem Zc(args:List bm):dG (.min args)=0:=rfl
theorem Mu(elem esz bytes:Nat)(s x:bm):dG (.append elem esz bytes s x)=3:=rfl
theorem Ut(esz:Nat)(d s:bm):dG (.copy esz d s)=3:=rfl
theorem Up{x y z:bm}:dG (.pick x y z)=0:=rfl
theorem Ms{k:IntKind}{x:bm}:dG (.conv (.int k) x)=0:=rfl
theorem I7{x:bm}:dG (.conv .same x)=0:=rfl
theorem G5{e:Nat}{x:bm}:dG (.conv (.bytes e) x)=1:=rfl
theorem I6{x:bm}:dG (.conv .text x)=3:=rfl
def bump(m:Mem)(k:Nat):Mem:=⟨m.next+k,m.ja⟩
theorem fK{m:Mem}{k b:Nat}:(bump m k).get b=m.get b:=rfl
theorem au{m:Mem}{k:Nat}:(bump m k).next=nb m.next k:=rfl
theorem Uz{m:Mem}{k b:Nat}{x:bX}:(bump m k).set b x=bump (m.set b x) k:=rfl
theorem R3{m:Mem}{k:Nat}{agg:Option Nat}{a:EV}:(bump m k).load agg a=m.load agg a:=rfl
theorem agx{n i j:Nat}:nb n i<nb n j↔i<j:=by unfold nb;omega
theorem adA{n i j:Nat}:nb n i=nb n j↔i=j:=by unfold nb;omega
theorem agC{b n i:Nat}(h:b<n):b<nb n i:=by unfold nb;omega
theorem Kq{m:Mem}{xs:List bX}{n i j:Nat}(hn:m.next=nb n j)(h:j<=i)(h2:i- j<xs.length):(ext m xs).get (nb n i)=xs[i- j]?.getD .dead:=by
 have:=aw (m:=m) (xs:=xs) (n:=nb n j) (i:=i- j) hn h2;rw[lV,show j+(i- j)=i by omega]at this;exact this
theorem Jb{m:Mem}{xs:List bX}{n i j:Nat}{x:bX}(hn:m.next=nb n j)(h:j<=i)(h2:i- j<xs.length):(ext m xs).set (nb n i) x=ext m (xs.set (i- j) x):=by
 have:=C5 (m:=m) (xs:=xs) (n:=nb n j) (i:=i- j) (x:=x) hn h2;rw[lV,show j+(i- j)=i by omega]at this;exact this
theorem fk{m m':Mem}{k:Nat}(h:jy m m'):jy m (bump m' k):=h
theorem pj{m m':Mem}{xs:List bX}(h:jy m m')(hn:m.next<=m'.next):jy m (ext m' xs):=fun c hc=>by rw[ai (by omega)];exact h c hc
theorem aq{n i:Nat}:n<=nb n i:=by unfold nb;omega
mutual
def Told:EV->Bool
 | .fz t _ els=> !(t.beq 0)&&Ba els
 | .gu _ _ _ _=>false
 | .func _ x y=>m9 x&&m9 y
 | .iface _ v=>Told v
 | .agg x| .tuple x=>m9 x
 |_=>true
def m9:List EV->Bool
 |[]=>true
 |v::x=>Told v&&m9 x
def Ba:List (List EV)->Bool
 |[]=>true
 |v::x=>m9 v&&Ba x
end
mutual
theorem qH:∀v:EV,Told v=true->EV.same v v=true
 | .undef,_| .bM,_| .aa,_| .bN,_| .bS,_| .aP,_=>rfl
 | .bool b,_=>by cases b<;>rfl
 | .int k n,_=>by
  have h1:(cx k).beq (cx k)=true:=Nat.beq_refl _;have h2:uj n n=true:=by cases n<;>exact Nat.beq_refl _
  simp only[EV.same,h1,cond_true,h2]
 | .str s,_=>by simp only[EV.same,gJ,decide_true]
 | .ptr a i,_=>by simp only[EV.same,Nat.beq_refl,cond_true]
 | .slice a i n c,_=>by
  have h:yL c c=true:=by cases c<;>simp[yL]
  simp only[EV.same,Nat.beq_refl,cond_true,h]
 | .map a,_=>by simp only[EV.same,Nat.beq_refl]
 | .func f x y,h=>by
  simp only[Told,rC]at h;simp only[EV.same,Nat.beq_refl,cond_true,o8 x h.1,o8 y h.2]
 | .iface t v,h=>by simp only[EV.same,Nat.beq_refl,cond_true,qH v (by simpa only[Told]using h)]
 | .agg x,h=>by simp only[EV.same,o8 x (by simpa only[Told]using h)]
 | .tuple x,h=>by simp only[EV.same,o8 x (by simpa only[Told]using h)]
 | .fz t e els,h=>by
  simp only[Told,rC,Bool.not_eq_true']at h;simp only[EV.same,h.1,cond_false,Nat.beq_refl,cond_true,Bk els h.2]
 | .gu _ _ _ _,h=>by simp[Told]at h
theorem o8:∀x:List EV,m9 x=true->EV.oV x x=true
 |[],_=>rfl
 |v::x,h=>by
  simp only[m9,rC]at h;simp only[EV.oV,qH v h.1,cond_true,o8 x h.2]
theorem Bk:∀x:List (List EV),Ba x=true->EV.sy x x=true
 |[],_=>rfl
 |v::x,h=>by
  simp only[Ba,rC]at h;simp only[EV.sy,o8 v h.1,cond_true,Bk x h.2]
end
section
variable {T:Nat->Option jm} {chk:List (Nat×Nat)} {B0 i:Nat} {l:List bd} {fr:Fr} {m:Mem} {sn:List (Nat×Mem)} {se:List Seen} {d:Option Nat}
theorem NY:exec T (.draw l chk) fr m=np T chk m.next l 0 fr (bump m l.length) [] []:=rfl
theorem Qa:np T chk B0 [] i fr m sn se=some (.norm fr m):=iG.2 ⟨0,rfl⟩
def uQ(o:Option EV)(k:EV->Option Out):Option Out:=match o with
 |some v=>k v
 |none=>none
@[congr] theorem abT {o o' : Option EV} {k : EV -> Option Out} (h : o = o') : uQ o k = uQ o' k := by rw [h]
theorem Ma{v:EV}{k:EV->Option Out}:uQ (some v) k=k v:=rfl
def Cw(b:Bool)(o:Option Out):Option Out:=bif b then o else none
@[congr] theorem aft {b b' : Bool} {o : Option Out} (h : b = b') : Cw b o = Cw b' o := by rw [h]
theorem pR{o:Option Out}:Cw true o=o:=rfl
theorem Oi{op:oa}(h:dG op=0):np T chk B0 (⟨d,.val op,none⟩::l) i fr m sn se=iZ (aL fr.eval op m) fun v _=>np T chk B0 l (i+1) (fr.put d v) m sn se:=by
 refine dT fun r=> ?_
 rw[iG];simp only[ei,bt,h];cases aL fr.eval op m with
 |none=>simp[iZ]
 |some q=>obtain⟨v,m1⟩:=q;simp only[iZ];exact iG.symm
theorem Oh{op:oa}(h:dG op=1):np T chk B0 (⟨d,.val op,none⟩::l) i fr m sn se=iZ (aL fr.eval op ⟨B0+i,m.ja⟩) fun v m1=>np T chk B0 l (i+1) (fr.put d v) ⟨m.next,m1.ja⟩ sn se:=by
 refine dT fun r=> ?_
 rw[iG];simp only[ei,bt,h];cases aL fr.eval op ⟨B0+i,m.ja⟩with
 |none=>simp[iZ]
 |some q=>obtain⟨v,m1⟩:=q;simp only[iZ];exact iG.symm
theorem Ib{op:oa}(h:dG op=3):np T chk B0 (⟨d,.val op,none⟩::l) i fr m sn se=iZ (aL fr.eval op m) fun v m'=>Cw (bq chk i m' se) (np T chk B0 l (i+1) (fr.put d v) m' ((i,m)::sn) se):=by
 refine dT fun r=> ?_
 rw[iG];simp only[ei,bt,h];cases aL fr.eval op m with
 |none=>simp[iZ]
 |some q=>
  obtain⟨v,m1⟩:=q;simp only[iZ];cases bq chk i m1 se
  ·simp[Cw]
  ·simp only[Cw,cond_true];exact iG.symm
def YC(a:EV)(x y:Option Out):Option Out:=bif Ge a then x else y
@[congr] theorem afs {a a' : EV} {x y : Option Out} (h : a = a') : YC a x y = YC a' x y := by rw [h]
theorem ZZ{b o:Nat}{x y:Option Out}:YC (.ptr b o) x y=y:=rfl
theorem Wg{e i k:Nat}{els:List (List EV)}{x y:Option Out}:YC (.gu e els i k) x y=x:=rfl
theorem zM{agg:Option Nat}{a:bm}:np T chk B0 (⟨d,.val (.load agg a),none⟩::l) i fr m sn se=uQ (m.load agg (fr.eval a)) fun v=>YC (fr.eval a) (Cw (ey chk i m.next sn) (np T chk B0 l (i+1) (fr.put d v) m sn se)) (Cw (bW chk i agg (fr.eval a) v sn) (np T chk B0 l (i+1) (fr.put d v) m sn (⟨i,agg,fr.eval a,v⟩::se))):=by
 refine dT fun r=> ?_
 rw[iG];simp only[ei,bt,dG];cases m.load agg (fr.eval a)with
 |none=>simp[uQ]
 |some v=>
  simp only[uQ,YC];cases Ge (fr.eval a)
  ·simp only[cond_false];cases bW chk i agg (fr.eval a) v sn
   ·simp[Cw]
   ·simp only[Cw,cond_true];exact iG.symm
  ·simp only[cond_true];cases ey chk i m.next sn
   ·simp[Cw]
   ·simp only[Cw,cond_true];exact iG.symm
def tb(o:Option Fin)(k:EV->Mem->Option Out):Option Out:=match o with
 |some (.ret v m)=>k v m
 |_=>none
@[congr] theorem abX {o o' : Option Fin} {k : EV -> Mem -> Option Out} (h : o = o') : tb o k = tb o' k := by rw [h]
theorem QM{v:EV}{m:Mem}{k:EV->Mem->Option Out}:tb (some (.ret v m)) k=k v m:=rfl
theorem zO{x:bm}{args:List bm}:np T chk B0 (⟨d,.call x args,none⟩::l) i fr m sn se=tb (Au T (fr.eval x) (args.map fr.eval) m) fun v m'=>Cw (bq chk i m' se) (np T chk B0 l (i+1) (fr.put d v) m' ((i,m)::sn) se):=by
 refine dT fun r=> ?_
 rw[iG];simp only[ei,bt];cases hx:fr.eval x
 case func g a c=>
  simp only[ie,Au];constructor
  ·rintro⟨k,h⟩;cases hc:bc T k g (a++args.map fr.eval++c) m with
   |none=>rw[hc]at h;cases h
   |some q=>
    rw[qy.2 ⟨k,hc⟩];simp only[hc]at h;cases q with
    |ret v m1=>
     simp only[tb];cases hk:bq chk i m1 se
     ·simp[hk]at h
     ·simp only[hk,cond_true]at h;simp only[Cw,cond_true];exact iG.2 ⟨k,h⟩
    |jk v m1=>simp at h
  ·intro h;cases hc:run T g (a++args.map fr.eval++c) m with
   |none=>rw[hc]at h;cases h
   |some q=>
    obtain⟨k1,h1⟩:=qy.1 hc;rw[hc]at h;cases q with
    |ret v m1=>
     simp only[tb]at h;cases hk:bq chk i m1 se
     ·simp[hk,Cw]at h
     ·simp only[hk,Cw,cond_true]at h;obtain⟨k2,h2⟩:=iG.1 h;refine⟨max k1 k2,?_⟩
      have e1:=Dx _ _ _ (Nat.le_max_left k1 k2) h1;have e2:=JK _ _ _ (Nat.le_max_right k1 k2) h2;simp only at e1 e2;simp only[e1,hk,cond_true];exact e2
    |jk v m1=>cases h
 all_goals simp[ie,Au,tb]
def Vw(i:Nat)(chk:List (Nat×Nat)):Bool:=chk.all fun p=>p.1 !=i
def Pk(j:Nat)(chk:List (Nat×Nat)):Bool:=chk.all fun p=>p.2 !=j
theorem ZJ:Vw i []=true:=rfl
theorem Jx{a b:Nat}:Vw i ((a,b)::chk)=(a !=i&&Vw i chk):=rfl
theorem ZK:Pk i []=true:=rfl
theorem Jz{a b:Nat}:Pk i ((a,b)::chk)=(b !=i&&Pk i chk):=rfl
theorem yW{j:Nat}:∀{chk:List (Nat×Nat)},Vw i chk=true->cr i j chk=false
 |[],_=>rfl
 |(a,b)::chk,h=>by
  simp only[Jx,rC,bne_iff_ne,ne_eq]at h;simp only[cr,jC h.1,cond_false];exact yW h.2
theorem yX{j:Nat}:∀{chk:List (Nat×Nat)},Pk j chk=true->cr i j chk=false
 |[],_=>rfl
 |(a,b)::chk,h=>by
  simp only[Jz,rC,bne_iff_ne,ne_eq]at h;simp only[cr,jC h.1,cond_false];rw[yX h.2];cases a.beq i<;>rfl
theorem I8{agg:Option Nat}{a v:EV}(h:Vw i chk=true):∀sn,bW chk i agg a v sn=true
 |[]=>rfl
 |(j,m1)::sn=>by simp only[bW,yW h,cond_false];exact I8 h sn
theorem Pg{n:Nat}(h:Vw i chk=true):∀sn,ey chk i n sn=true
 |[]=>rfl
 |(j,m1)::sn=>by simp only[ey,yW h,cond_false];exact Pg h sn
theorem C8{m:Mem}(h:Pk i chk=true):∀se,bq chk i m se=true
 |[]=>rfl
 |x::se=>by simp only[bq,yX h,cond_false];exact C8 h se
def Lv(chk:List (Nat×Nat))(se se':List Seen):Prop:=∀j m,bq chk j m se=bq chk j m se'
def Lu(chk:List (Nat×Nat))(sn C3:List (Nat×Mem)):Prop:=(∀i agg a v,bW chk i agg a v sn=bW chk i agg a v C3)/\∀i n,ey chk i n sn=ey chk i n C3
theorem Lv.cons{se se':List Seen}(h:Lv chk se se')(x:Seen):Lv chk (x::se) (x::se'):=fun j m=>by simp only[bq,h j m]
theorem Lu.cons{sn C3:List (Nat×Mem)}(h:Lu chk sn C3)(x:Nat×Mem):Lu chk (x::sn) (x::C3):=⟨fun i agg a v=>by obtain⟨j,m⟩:=x;simp only[bW,h.1 i agg a v],fun i n=>by obtain⟨j,m⟩:=x;simp only[ey,h.2 i n]⟩
theorem BE{call:Call}:∀(l:List bd) (i:Nat) (fr:Fr) (m:Mem) (sn C3:List (Nat×Mem)) (se se':List Seen),Lu chk sn C3->Lv chk se se'->ei call chk B0 l i fr m sn se=ei call chk B0 l i fr m C3 se'
 |[],i,fr,m,sn,C3,se,se',_,_=>rfl
 |o::r,i,fr,m,sn,C3,se,se',h2,h1=>by
  have ih:=fun i fr m sn C3 se se' h2 h1=>BE (call:=call) r i fr m sn C3 se se' h2 h1
  simp only[ei];cases bt fr o.guard with
  |none=>rfl
  |some b=>
  cases b with
  |false=>exact ih _ _ _ _ _ _ _ h2 h1
  |true=>
   simp only;cases o.op with
   |val op=>
    simp only
    split
    ·cases aL fr.eval op m with
     |none=>rfl
     |some q=>obtain⟨v,m1⟩:=q;exact ih _ _ _ _ _ _ _ h2 h1
    ·cases aL fr.eval op ⟨B0+i,m.ja⟩with
     |none=>rfl
     |some q=>obtain⟨v,m1⟩:=q;exact ih _ _ _ _ _ _ _ h2 h1
    ·split
     ·rename_i agg x _
      cases m.load agg (fr.eval x)with
      |none=>rfl
      |some v=>
       simp only[h2.1 i agg (fr.eval x) v,h2.2 i m.next];cases Ge (fr.eval x)
       ·simp only[cond_false];cases bW chk i agg (fr.eval x) v C3
        ·rfl
        ·simp only[cond_true];exact ih _ _ _ _ _ _ _ h2 (h1.cons _)
       ·simp only[cond_true];cases ey chk i m.next C3
        ·rfl
        ·simp only[cond_true];exact ih _ _ _ _ _ _ _ h2 h1
     ·rfl
    ·cases aL fr.eval op m with
     |none=>rfl
     |some q=>
      obtain⟨v,m1⟩:=q;simp only[h1 i m1];cases bq chk i m1 se'
      ·rfl
      ·simp only[cond_true];exact ih _ _ _ _ _ _ _ (h2.cons _) h1
   |call f args=>
    simp only;cases ie call (fr.eval f) (args.map fr.eval) m with
    |none=>rfl
    |some q=>
     cases q with
     |ret v m1=>
      simp only[h1 i m1];cases bq chk i m1 se'
      ·rfl
      ·simp only[cond_true];exact ih _ _ _ _ _ _ _ (h2.cons _) h1
     |jk v m1=>rfl
   |panic x=>rfl
   |defer f x=>rfl
theorem KZ{C3:List (Nat×Mem)}{se':List Seen}(h2:Lu chk sn C3)(h1:Lv chk se se'):np T chk B0 l i fr m sn se=np T chk B0 l i fr m C3 se':=by
 unfold np;congr 1;funext k;exact BE l i fr m sn C3 se se' h2 h1
theorem XI{j:Nat}{agg:Option Nat}{a v:EV}(h:Vw j chk=true):np T chk B0 l i fr m sn (⟨j,agg,a,v⟩::se)=np T chk B0 l i fr m sn se:=
 KZ ⟨fun _ _ _ _=>rfl,fun _ _=>rfl⟩ fun k m=>by simp only[bq,yW h,cond_false]
theorem KY{j:Nat}{m1:Mem}(h:Pk j chk=true):np T chk B0 l i fr m ((j,m1)::sn) se=np T chk B0 l i fr m sn se:=
 KZ ⟨fun i agg a v=>by simp only[bW,yX h,cond_false],fun i n=>by simp only[ey,yX h,cond_false]⟩ fun _ _=>rfl
theorem GA{agg:Option Nat}{a:bm}(h:Vw i chk=true):np T chk B0 (⟨d,.val (.load agg a),none⟩::l) i fr m sn se=uQ (m.load agg (fr.eval a)) fun v=>np T chk B0 l (i+1) (fr.put d v) m sn se:=by
 rw[zM];cases m.load agg (fr.eval a)with
 |none=>rfl
 |some v=>simp only[uQ,I8 h,Pg h,pR,XI h,YC];cases Ge (fr.eval a)<;>rfl
theorem SS{agg:Option Nat}{a:bm}(_h:Vw i chk=false):np T chk B0 (⟨d,.val (.load agg a),none⟩::l) i fr m sn se=uQ (m.load agg (fr.eval a)) fun v=>YC (fr.eval a) (Cw (ey chk i m.next sn) (np T chk B0 l (i+1) (fr.put d v) m sn se)) (Cw (bW chk i agg (fr.eval a) v sn) (np T chk B0 l (i+1) (fr.put d v) m sn (⟨i,agg,fr.eval a,v⟩::se))):=zM
theorem P9{op:oa}(h:dG op=3)(h0:Pk i chk=true):np T chk B0 (⟨d,.val op,none⟩::l) i fr m sn se=iZ (aL fr.eval op m) fun v m'=>np T chk B0 l (i+1) (fr.put d v) m' sn se:=by
 rw[Ib h];cases aL fr.eval op m with
 |none=>rfl
 |some q=>obtain⟨v,m1⟩:=q;simp only[iZ,C8 h0,pR,KY h0]
theorem abn{op:oa}(h:dG op=3)(_h0:Pk i chk=false):np T chk B0 (⟨d,.val op,none⟩::l) i fr m sn se=iZ (aL fr.eval op m) fun v m'=>Cw (bq chk i m' se) (np T chk B0 l (i+1) (fr.put d v) m' ((i,m)::sn) se):=Ib h
theorem GB{x:bm}{args:List bm}(h0:Pk i chk=true):np T chk B0 (⟨d,.call x args,none⟩::l) i fr m sn se=tb (Au T (fr.eval x) (args.map fr.eval) m) fun v m'=>np T chk B0 l (i+1) (fr.put d v) m' sn se:=by
 rw[zO];cases Au T (fr.eval x) (args.map fr.eval) m with
 |none=>rfl
 |some q=>cases q with
  |ret v m1=>simp only[tb,C8 h0,pR,KY h0]
  |jk v m1=>rfl
theorem SU{x:bm}{args:List bm}(_h0:Pk i chk=false):np T chk B0 (⟨d,.call x args,none⟩::l) i fr m sn se=tb (Au T (fr.eval x) (args.map fr.eval) m) fun v m'=>Cw (bq chk i m' se) (np T chk B0 l (i+1) (fr.put d v) m' ((i,m)::sn) se):=zO
theorem mD{op:Aj}{t:Nat}{w:Bool}:np T chk B0 (⟨d,op,some (t,w)⟩::l) i fr m sn se=gE (fr.get t) w (np T chk B0 (⟨d,op,none⟩::l) i fr m sn se) (np T chk B0 l (i+1) (fr.put d .undef) m sn se):=by
 cases h:fr.get t
 case bool b=>
  refine dT fun r=> ?_
  rw[iG];simp only[ei,bt,h,gE];cases hb:b==w
  ·simp only[cond_false];exact iG.symm
  ·simp only[cond_true];rw[iG];simp only[ei,bt]
 case undef=>
  refine dT fun r=> ?_
  rw[iG];simp only[ei,bt,h,gE];exact iG.symm
 all_goals
  refine dT fun r=> ?_
  rw[iG];simp only[ei,bt,h,reduceCtorEq,exists_const,gE]
def adj(o:Option Fin):Option R1:=match o with
 |some (.ret v m)=>some (.val v m)
 |_=>none
theorem UQ{v:EV}{m:Mem}:adj (some (.ret v m))=some (.val v m):=rfl
theorem T6{o:Option Fin}{k:EV->Mem->Option Out}:tb o k=iZ (adj o) k:=by cases o with|none=>rfl|some q=>cases q<;>rfl
theorem abp{op:oa}{t:Nat}{w:Bool}(h:dG op=0):np T chk B0 (⟨d,.val op,some (t,w)⟩::l) i fr m sn se=gV (fr.get t) w m (aL fr.eval op m) fun v _=>np T chk B0 l (i+1) (fr.put d v) m sn se:=by rw[mD,Oi h];rfl
theorem abo{op:oa}{t:Nat}{w:Bool}(h:dG op=1):np T chk B0 (⟨d,.val op,some (t,w)⟩::l) i fr m sn se=gE (fr.get t) w (iZ (aL fr.eval op ⟨B0+i,m.ja⟩) fun v m1=>np T chk B0 l (i+1) (fr.put d v) ⟨m.next,m1.ja⟩ sn se) (np T chk B0 l (i+1) (fr.put d .undef) m sn se):=by rw[mD,Oh h]
theorem XM{agg:Option Nat}{a:bm}{t:Nat}{w:Bool}(h:Vw i chk=true):np T chk B0 (⟨d,.val (.load agg a),some (t,w)⟩::l) i fr m sn se=gV (fr.get t) w m (jb m (m.load agg (fr.eval a))) fun v _=>np T chk B0 l (i+1) (fr.put d v) m sn se:=by
 rw[mD,GA h];unfold gV;cases m.load agg (fr.eval a)<;>rfl
theorem XL{agg:Option Nat}{a:bm}{t:Nat}{w:Bool}(_h:Vw i chk=false):np T chk B0 (⟨d,.val (.load agg a),some (t,w)⟩::l) i fr m sn se=gE (fr.get t) w (uQ (m.load agg (fr.eval a)) fun v=>YC (fr.eval a) (Cw (ey chk i m.next sn) (np T chk B0 l (i+1) (fr.put d v) m sn se)) (Cw (bW chk i agg (fr.eval a) v sn) (np T chk B0 l (i+1) (fr.put d v) m sn (⟨i,agg,fr.eval a,v⟩::se)))) (np T chk B0 l (i+1) (fr.put d .undef) m sn se):=by rw[mD,zM]
theorem XK{op:oa}{t:Nat}{w:Bool}(h:dG op=3)(h0:Pk i chk=true):np T chk B0 (⟨d,.val op,some (t,w)⟩::l) i fr m sn se=gV (fr.get t) w m (aL fr.eval op m) fun v m'=>np T chk B0 l (i+1) (fr.put d v) m' sn se:=by rw[mD,P9 h h0];rfl
theorem XJ{op:oa}{t:Nat}{w:Bool}(h:dG op=3)(_h0:Pk i chk=false):np T chk B0 (⟨d,.val op,some (t,w)⟩::l) i fr m sn se=gE (fr.get t) w (iZ (aL fr.eval op m) fun v m'=>Cw (bq chk i m' se) (np T chk B0 l (i+1) (fr.put d v) m' ((i,m)::sn) se)) (np T chk B0 l (i+1) (fr.put d .undef) m sn se):=by rw[mD,Ib h]
theorem Ol{x:bm}{args:List bm}{t:Nat}{w:Bool}(h0:Pk i chk=true):np T chk B0 (⟨d,.call x args,some (t,w)⟩::l) i fr m sn se=gV (fr.get t) w m (adj (Au T (fr.eval x) (args.map fr.eval) m)) fun v m'=>np T chk B0 l (i+1) (fr.put d v) m' sn se:=by rw[mD,GB h0,T6];rfl
theorem Oj{x:bm}{args:List bm}{t:Nat}{w:Bool}(_h0:Pk i chk=false):np T chk B0 (⟨d,.call x args,some (t,w)⟩::l) i fr m sn se=gE (fr.get t) w (tb (Au T (fr.eval x) (args.map fr.eval) m) fun v m'=>Cw (bq chk i m' se) (np T chk B0 l (i+1) (fr.put d v) m' ((i,m)::sn) se)) (np T chk B0 l (i+1) (fr.put d .undef) m sn se):=by rw[mD,zO]
section
variable {p q:Prop} {x y:Option Out}
theorem aaM:gE (bo p) true x y=iF p x y:=by by_cases h:p<;>simp[gE,bo,iF,h]
theorem aaN:gE (bo p) false x y=iF p y x:=by by_cases h:p<;>simp[gE,bo,iF,h]
theorem aih:gE (.bool true) true x y=x:=rfl
theorem aii:gE (.bool true) false x y=y:=rfl
theorem aij:gE (.bool false) true x y=y:=rfl
theorem aik:gE (.bool false) false x y=x:=rfl
theorem Xb{w:Bool}:gE .undef w x y=y:=rfl
theorem aaG:gE (gv p (bo q)) true x y=iF (p/\q) x y:=by by_cases h:p<;>by_cases h':q<;>simp[gE,bo,gv,iF,h,h']
theorem aaH:gE (gv p (bo q)) false x y=iF (p/\¬q) x y:=by by_cases h:p<;>by_cases h':q<;>simp[gE,bo,gv,iF,h,h']
theorem aaI:gE (gv p (.bool true)) true x y=iF p x y:=by by_cases h:p<;>simp[gE,gv,iF,h]
theorem aaJ:gE (gv p (.bool true)) false x y=y:=by by_cases h:p<;>simp[gE,gv,h]
theorem aaK:gE (gv p (.bool false)) true x y=y:=by by_cases h:p<;>simp[gE,gv,h]
theorem aaL:gE (gv p (.bool false)) false x y=iF p x y:=by by_cases h:p<;>simp[gE,gv,iF,h]
end
theorem abw{j:Nat}:bq chk j m []=true:=rfl
theorem XV{j:Nat}{s:Seen}:bq chk j m (s::se)=((!cr s.i j chk||m.fi s.agg s.a s.v)&&bq chk j m se):=by
 simp only[bq];cases cr s.i j chk<;>simp
theorem Uv{agg:Option Nat}{a v:EV}:bW chk i agg a v []=true:=rfl
theorem Q8{agg:Option Nat}{a v:EV}{j:Nat}{m1:Mem}:bW chk i agg a v ((j,m1)::sn)=((!cr i j chk||m1.fi agg a v)&&bW chk i agg a v sn):=by
 simp only[bW];cases cr i j chk<;>simp
theorem ZC{n:Nat}:ey chk i n []=true:=rfl
theorem Vl{n j:Nat}{m1:Mem}:ey chk i n ((j,m1)::sn)=((!cr i j chk||m1.next.beq n)&&ey chk i n sn):=by
 simp only[ey];cases cr i j chk<;>cases m1.next.beq n<;>simp
theorem U5{j:Nat}:cr i j []=false:=rfl
theorem Rv{j a b:Nat}:cr i j ((a,b)::chk)=((a==i&&b==j)||cr i j chk):=by
 simp only[cr];have e:∀x y:Nat,x.beq y=(x==y):=fun x y=>by
  by_cases h:x=y
  ·subst h;simp
  ·rw[jC h];simp[h]
 rw[e,e];cases a==i<;>cases b==j<;>simp
def Ar(o:Option EV)(v:EV):Bool:=match o with
 |some x=>EV.same x v
 |none=>false
theorem QW{agg:Option Nat}{a v:EV}:m.fi agg a v=Ar (m.load agg a) v:=by simp only[Mem.fi,Ar];cases m.load agg a<;>rfl
theorem rO{v:EV}(h:Told v=true):Ar (some v) v=true:=qH v h
theorem QI{b:Bool}:Told (.bool b)=true:=rfl
theorem YV{p:Prop}:Told (bo p)=true:=rfl
theorem TX{k:IntKind}{n:Int}:Told (.int k n)=true:=rfl
theorem TU{s:List UInt8}:Told (.str s)=true:=rfl
theorem IS:Told .bM=true:=rfl
theorem TV{b o:Nat}:Told (.ptr b o)=true:=rfl
theorem EY:Told .aa=true:=rfl
theorem LZ{b o l:Nat}{c:Option Nat}:Told (.slice b o l c)=true:=rfl
theorem IT:Told .bN=true:=rfl
theorem TW{b:Nat}:Told (.map b)=true:=rfl
theorem GZ:Told .bS=true:=rfl
theorem EZ:Told .aP=true:=rfl
theorem LX:Told .undef=true:=rfl
theorem TY{x:List EV}:Told (.agg x)=m9 x:=by simp only[Told]
theorem LY{x:List EV}:Told (.tuple x)=m9 x:=by simp only[Told]
theorem L4{t:Nat}{v:EV}:Told (.iface t v)=Told v:=by simp only[Told]
theorem QH{f:Nat}{x y:List EV}:Told (.func f x y)=(m9 x&&m9 y):=by simp only[Told]
theorem QG:m9 []=true:=rfl
theorem LW{v:EV}{x:List EV}:m9 (v::x)=(Told v&&m9 x):=by simp only[m9]
end
theorem aeK{fs:List (Option Nat×Nat×ua)}{a b:List EV}:ft (.agg fs) (.agg a) (.agg b)=rq fs a b:=rfl
def Ex(o r:Option Bool):Option Bool:=match o with
 |some true=>r
 |o=>o
def aeG(t:ua)(x y:Option EV)(r:Option Bool):Option Bool:=match x,y with
 |some x,some y=>Ex (ft t x y) r
 |_,_=>none
theorem abd{a b:List EV}:rq [] a b=some true:=rfl
theorem XA{g:Option Nat}{off:Nat}{t:ua}{r:List (Option Nat×Nat×ua)}{a b:List EV}:rq ((g,off,t)::r) a b=aeG t (partOf g a off) (partOf g b off) (rq r a b):=by
 simp only[rq,aeG,Ex];cases partOf g a off<;>cases partOf g b off<;>rfl
theorem SQ{t:ua}{x y:EV}{r:Option Bool}:aeG t (some x) (some y) r=Ex (ft t x y) r:=rfl
theorem Tl{r:Option Bool}:Ex (some true) r=r:=rfl
theorem ON{r:Option Bool}:Ex (some false) r=some false:=rfl
theorem aeS{p:Prop}[Decidable p]:Ex (some (decide p)) (some true)=some (decide p):=by by_cases h:p<;>simp[Ex,h]
theorem aeT{p:Prop}[Decidable p]:Ex (some (decide p)) (some false)=some false:=by by_cases h:p<;>simp[Ex,h]
theorem Yb{p q:Prop}[Decidable p][Decidable q]:Ex (some (decide p)) (some (decide q))=some (decide (p/\q)):=by by_cases h:p<;>by_cases h':q<;>simp[Ex,h,h']
def rcE(o:Option EV)(r:Option (List EV)):Option (List EV):=match o with
 |some v=>r.map (v:: ·)
 |none=>none
theorem UR{fr:Fr}{m:Mem}{t:Nat}{agg:Option Nat}{rs:List ns}:b8 fr m (.cell t agg::rs)=rcE (m.load agg (fr.get t)) (b8 fr m rs):=by
 simp only[b8,zF,rcE];cases m.load agg (fr.get t)<;>rfl
theorem UZ{v:EV}{r:Option (List EV)}:rcE (some v) r=r.map (v:: ·):=rfl
theorem aiD{b o:Nat}:ft (.bG 3) (.ptr b o) .bM=some false:=rfl
theorem aiF{b o:Nat}:ft (.bG 3) .bM (.ptr b o)=some false:=rfl
theorem aiG:ft (.bG 3) .bM .bM=some true:=rfl
theorem aiB{b o l:Nat}{c:Option Nat}:ft (.bG 4) (.slice b o l c) .aa=some false:=rfl
theorem aiE{b o l:Nat}{c:Option Nat}:ft (.bG 4) .aa (.slice b o l c)=some false:=rfl
theorem abf:ft (.bG 4) .aa .aa=some true:=rfl
def ase(m:Mem)(o:Option Fin)(v:EV):Prop:=∃m',o=some (.ret v m')/\jy m m'
theorem qF{p q:Prop}(h:p↔q):bo p=bo q:=by rw[propext h]
theorem IR{p:Prop}(h:p):EV.bool true=bo p:=(gQ h).symm
theorem mY{p:Prop}(h:¬p):EV.bool false=bo p:=(ij h).symm
def bsE(e esz:Nat)(m:Mem)(vs:Option (List EV)):Option R1:=match vs with
 |some vs=>bif vs.length.beq esz then some (.val (.slice (nb m.next 0) 0 1 (some 1)) (Ev.ext m [.cells vs esz e false]))else none
 |none=>none
theorem Lg{e esz:Nat}{m:Mem}{vs:List EV}(h:vs.length=esz):bsE e esz m (some vs)=some (.val (.slice (nb m.next 0) 0 1 (some 1)) (Ev.ext m [.cells vs esz e false])):=by
 show (bif vs.length.beq esz then _ else _)=_;rw[h,dN];rfl
theorem H4{ρ:bm->EV}{m:Mem}{e esz:Nat}{zero:List EV}{x:bm}(hz:zero.length=esz):aL ρ (.aG e esz 1 zero [(0,x)]) m=bsE e esz m (ρ x).cells:=by
 simp only[aL,List.map_cons,List.map_nil,Gt,Nat.zero_mul];have hc:eA 1 zero=zero:=by simp[eA]
 rw[hc];cases hx:(ρ x).cells with
 |none=>rfl
 |some vs=>
  by_cases hl:vs.length=esz
  ·rw[Lg hl,D2 hl (by omega)];simp only[DZ,List.take_zero,List.nil_append,Nat.zero_add];rw[List.drop_eq_nil_of_le (by omega),List.append_nil];rfl
  ·simp only[bsE,PY,jC hl,cond_false]
theorem H5{ρ:bm->EV}{m:Mem}{e esz:Nat}{zero:List EV}:aL ρ (.aG e esz 0 zero []) m=some (.val (.slice (nb m.next 0) 0 0 (some 0)) (Ev.ext m [.cells [] esz e false])):=by
 simp only[aL,List.map_nil,DZ,eA,List.replicate_zero,List.flatten_nil];rfl
end
section
structure de where
 jU:Nat->Option Nat
 tag:Nat->Option (Nat×Nat×Option Nat)
 jq:Nat->Option bX
def de.low(θ:de):de:=⟨fun _=>none,fun _=>none,θ.jq⟩
mutual
inductive SV:de->EV->EV->Prop
 |undef {θ:de}:SV θ .undef .undef
 |bool {θ:de} (b:Bool):SV θ (.bool b) (.bool b)
 |int {θ:de} (k:IntKind) (n:Int):SV θ (.int k n) (.int k n)
 |str {θ:de} (s:List UInt8):SV θ (.str s) (.str s)
 |bM {θ:de}:SV θ .bM .bM
 |ptr {θ:de} {b c off:Nat} (h:θ.jU b=some c):SV θ (.ptr b off) (.ptr c off)
 |aa {θ:de}:SV θ .aa .aa
 |slice {θ:de} {b c off len:Nat} {cap:Option Nat} (h:θ.jU b=some c):SV θ (.slice b off len cap) (.slice c off len cap)
 |bN {θ:de}:SV θ .bN .bN
 |map {θ:de} {b c:Nat} (h:θ.jU b=some c):SV θ (.map b) (.map c)
 |bS {θ:de}:SV θ .bS .bS
 |func {θ:de} {f:Nat} {x y x' y':List EV} (hx:et θ x x') (hy:et θ y y'):SV θ (.func f x y) (.func f x' y')
 |aP {θ:de}:SV θ .aP .aP
 |iface {θ:de} {t:Nat} {v v':EV} (h:SV θ v v'):SV θ (.iface t v) (.iface t v')
 |agg {θ:de} {x x':List EV} (h:et θ x x'):SV θ (.agg x) (.agg x')
 |tuple {θ:de} {x x':List EV} (h:et θ x x'):SV θ (.tuple x) (.tuple x')
 |fz {θ:de} {t esz:Nat} {els:List (List EV)} {b off:Nat} {cap:Option Nat} (h:SR θ esz els b off) (ht:t=0\/θ.tag t=some (b,off,cap)) (hc:∀c,cap=some c->els.length<=c):SV θ (.fz t esz els) (.slice b off els.length cap)
 |AX {θ:de} {t esz b off:Nat} (ht:t=0\/θ.tag t=some (b,off,some 0)):SV θ (.fz t esz []) (.slice b off 0 (some 0))
 |gu {θ:de} {esz:Nat} {els:List (List EV)} {b off i k o:Nat} (h:SR θ esz els b off) (hi:i<els.length) (ho:o=off+i*esz+k):SV θ (.gu esz els i k) (.ptr b o)
inductive et:de->List EV->List EV->Prop
 |nil {θ:de}:et θ [] []
 |cons {θ:de} {v v':EV} {x x':List EV} (h:SV θ v v') (hs:et θ x x'):et θ (v::x) (v'::x')
inductive SR:de->Nat->List (List EV)->Nat->Nat->Prop
 |mk {θ:de} {esz:Nat} {els:List (List EV)} {b off k:Nat} {cs:List EV} {ro:Bool} (hs:θ.jq b=some (.cells cs esz k ro)) (hl:∀el∈els,el.length=esz) (hn:off+els.length*esz<=cs.length)
  (hx:et θ.low els.flatten ((cs.drop off).take (els.length*esz))):SR θ esz els b off
end
structure de.Ext(θ θ':de):Prop where
 jU:∀b c,θ.jU b=some c->θ'.jU b=some c
 tag:∀t x,θ.tag t=some x->θ'.tag t=some x
 jq:∀b B,θ.jq b=some B->θ'.jq b=some B
theorem de.Ext.refl(θ:de):de.Ext θ θ:=⟨fun _ _ h=>h,fun _ _ h=>h,fun _ _ h=>h⟩
theorem de.Ext.trans{θ θ' θ'':de}(h:de.Ext θ θ')(k:de.Ext θ' θ''):de.Ext θ θ'':=⟨fun b c e=>k.jU b c (h.jU b c e),fun t x e=>k.tag t x (h.tag t x e),fun b B e=>k.jq b B (h.jq b B e)⟩
theorem de.Ext.low{θ θ':de}(e:de.Ext θ θ'):de.Ext θ.low θ'.low:=⟨fun _ _ h=>h,fun _ _ h=>h,e.jq⟩
theorem de.Px(θ:de):de.Ext θ.low θ:=⟨fun _ _ h=>(by simp[de.low]at h),fun _ _ h=>(by simp[de.low]at h),fun _ _ h=>h⟩
mutual
theorem SV.ext:∀{θ θ':de},de.Ext θ θ'->∀{v v':EV},SV θ v v'->SV θ' v v'
 |_,_,_,_,_,.undef=>.undef
 |_,_,_,_,_,.bool b=>.bool b
 |_,_,_,_,_,.int k n=>.int k n
 |_,_,_,_,_,.str s=>.str s
 |_,_,_,_,_,.bM=>.bM
 |_,_,e,_,_,.ptr h=>.ptr (e.jU _ _ h)
 |_,_,_,_,_,.aa=>.aa
 |_,_,e,_,_,.slice h=>.slice (e.jU _ _ h)
 |_,_,_,_,_,.bN=>.bN
 |_,_,e,_,_,.map h=>.map (e.jU _ _ h)
 |_,_,_,_,_,.bS=>.bS
 |_,_,e,_,_,.func hx hy=>.func (et.ext e hx) (et.ext e hy)
 |_,_,_,_,_,.aP=>.aP
 |_,_,e,_,_,.iface h=>.iface (SV.ext e h)
 |_,_,e,_,_,.agg h=>.agg (et.ext e h)
 |_,_,e,_,_,.tuple h=>.tuple (et.ext e h)
 |_,_,e,_,_,.fz h ht hc=>.fz (SR.ext e h) (ht.imp id (e.tag _ _)) hc
 |_,_,e,_,_,.AX ht=>.AX (ht.imp id (e.tag _ _))
 |_,_,e,_,_,.gu h hi ho=>.gu (SR.ext e h) hi ho
theorem et.ext:∀{θ θ':de},de.Ext θ θ'->∀{v v':List EV},et θ v v'->et θ' v v'
 |_,_,_,_,_,.nil=>.nil
 |_,_,e,_,_,.cons h hs=>.cons (SV.ext e h) (et.ext e hs)
theorem SR.ext:∀{θ θ':de},de.Ext θ θ'->∀{esz:Nat} {els:List (List EV)} {b off:Nat},SR θ esz els b off->SR θ' esz els b off
 |_,_,e,_,_,_,_,.mk hs hl hn hx=>.mk (e.jq _ _ hs) hl hn (et.ext e.low hx)
end
section
variable {θ:de}
theorem et.length:∀{x x':List EV},et θ x x'->x.length=x'.length
 |_,_,.nil=>rfl
 |_,_,.cons _ hs=>by simp[et.length hs]
theorem et.get:∀{x x':List EV},et θ x x'->∀{i:Nat} {v:EV},x[i]?=some v->∃v',x'[i]?=some v'/\SV θ v v'
 |_,_,.nil,i,v,h=>by simp at h
 |_,_,.cons (v':=a') h0 hs,i,v,h=>by
  cases i with
  |zero=>simp at h;subst h;exact⟨a',rfl,h0⟩
  |succ i=>simp at h;obtain⟨v',hv,hr⟩:=et.get hs h;exact⟨v',by simpa using hv,hr⟩
theorem et.sB:∀{x x':List EV},x.length=x'.length->(∀(i:Nat) (v v':EV),x[i]?=some v->x'[i]?=some v'->SV θ v v')->et θ x x'
 |[],[],_,_=>.nil
 |[],_::_,h,_=>by simp at h
 |_::_,[],h,_=>by simp at h
 |a::x,a'::x',h,hg=>.cons (hg 0 a a' rfl rfl) (et.sB (by simpa using h) fun i v v' hv tE=>hg (i+1) v v' (by simpa using hv) (by simpa using tE))
theorem et.append:∀{x y x' y':List EV},et θ x x'->et θ y y'->et θ (x++y) (x'++y')
 |_,_,_,_,.nil,h=>h
 |_,_,_,_,.cons h hs,k=>.cons h (et.append hs k)
theorem et.take{x x':List EV}(h:et θ x x')(n:Nat):et θ (x.take n) (x'.take n):=by
 refine et.sB (by simp[h.length]) fun i v v' hv tE=> ?_
 rw[List.getElem?_take]at hv tE
 split at hv
 ·rename_i aH
  obtain⟨u,hu,hr⟩:=h.get hv;rw[if_pos aH,hu]at tE;cases tE;exact hr
 ·cases hv
theorem et.drop{x x':List EV}(h:et θ x x')(n:Nat):et θ (x.drop n) (x'.drop n):=by
 refine et.sB (by simp[h.length]) fun i v v' hv tE=> ?_
 rw[List.getElem?_drop]at hv tE;obtain⟨u,hu,hr⟩:=h.get hv;rw[hu]at tE;cases tE;exact hr
theorem et.map{α:Type}(f g:α->EV):∀{l:List α},(∀a∈l,SV θ (f a) (g a))->et θ (l.map f) (l.map g)
 |[],_=>.nil
 |a::l,h=>.cons (h a (by simp)) (et.map f g fun b hb=>h b (by simp[hb]))
theorem et.replicate{v v':EV}(h:SV θ v v'):∀n:Nat,et θ (List.replicate n v) (List.replicate n v')
 |0=>.nil
 |n+1=>.cons h (et.replicate h n)
mutual
theorem SV.of_flat:∀{v:EV},Flat v=true->SV θ v v
 | .undef,_=>.undef
 | .bool b,_=>.bool b
 | .int k n,_=>.int k n
 | .str s,_=>.str s
 | .bM,_=>.bM
 | .ptr _ _,h=>by simp[Flat]at h
 | .aa,_=>.aa
 | .slice _ _ _ _,h=>by simp[Flat]at h
 | .bN,_=>.bN
 | .map _,h=>by simp[Flat]at h
 | .bS,_=>.bS
 | .func f x y,h=>by simp only[Flat,rC]at h;exact .func (et.of_flat h.1) (et.of_flat h.2)
 | .aP,_=>.aP
 | .iface t v,h=>.iface (SV.of_flat (by simpa only[Flat]using h))
 | .agg x,h=>.agg (et.of_flat (by simpa only[Flat]using h))
 | .tuple x,h=>.tuple (et.of_flat (by simpa only[Flat]using h))
 | .fz _ _ _,h=>by simp[Flat]at h
 | .gu _ _ _ _,h=>by simp[Flat]at h
theorem et.of_flat:∀{x:List EV},fL x=true->et θ x x
 |[],_=>.nil
 |v::x,h=>by simp only[fL,rC]at h;exact .cons (SV.of_flat h.1) (et.of_flat h.2)
end
mutual
theorem SV.flat:∀{v v':EV},SV θ v v'->Flat v=true->v'=v
 |_,_,.undef,_|_,_,.bool _,_|_,_,.int _ _,_|_,_,.str _,_|_,_,.bM,_|_,_,.aa,_|_,_,.bN,_|_,_,.bS,_|_,_,.aP,_=>rfl
 |_,_,.ptr _,h=>by simp[Flat]at h
 |_,_,.slice _,h=>by simp[Flat]at h
 |_,_,.map _,h=>by simp[Flat]at h
 |_,_,.func hx hy,h=>by simp only[Flat,rC]at h;rw[et.flat hx h.1,et.flat hy h.2]
 |_,_,.iface hv,h=>by rw[SV.flat hv (by simpa only[Flat]using h)]
 |_,_,.agg hx,h=>by rw[et.flat hx (by simpa only[Flat]using h)]
 |_,_,.tuple hx,h=>by rw[et.flat hx (by simpa only[Flat]using h)]
 |_,_,.fz _ _ _,h=>by simp[Flat]at h
 |_,_,.AX _,h=>by simp[Flat]at h
 |_,_,.gu _ _ _,h=>by simp[Flat]at h
theorem et.flat:∀{x x':List EV},et θ x x'->fL x=true->x'=x
 |_,_,.nil,_=>rfl
 |_,_,.cons h hs,k=>by simp only[fL,rC]at k;rw[SV.flat h k.1,et.flat hs k.2]
end
mutual
theorem SV.fn:∀{a b c:EV},SV θ a b->SV θ a c->Told a=true->b=c
 |_,_,_,.undef,h,_=>by cases h;rfl
 |_,_,_,.bool _,h,_=>by cases h;rfl
 |_,_,_,.int _ _,h,_=>by cases h;rfl
 |_,_,_,.str _,h,_=>by cases h;rfl
 |_,_,_,.bM,h,_=>by cases h;rfl
 |_,_,_,.ptr h,k,_=>by cases k with|ptr k=>rw[h]at k;cases k;rfl
 |_,_,_,.aa,h,_=>by cases h;rfl
 |_,_,_,.slice h,k,_=>by cases k with|slice k=>rw[h]at k;cases k;rfl
 |_,_,_,.bN,h,_=>by cases h;rfl
 |_,_,_,.map h,k,_=>by cases k with|map k=>rw[h]at k;cases k;rfl
 |_,_,_,.bS,h,_=>by cases h;rfl
 |_,_,_,.func hx hy,k,t=>by
  simp only[Told,rC]at t;cases k with|func kx ky=>rw[et.fn hx kx t.1,et.fn hy ky t.2]
 |_,_,_,.aP,h,_=>by cases h;rfl
 |_,_,_,.iface h,k,t=>by cases k with|iface k=>rw[SV.fn h k (by simpa only[Told]using t)]
 |_,_,_,.agg h,k,t=>by cases k with|agg k=>rw[et.fn h k (by simpa only[Told]using t)]
 |_,_,_,.tuple h,k,t=>by cases k with|tuple k=>rw[et.fn h k (by simpa only[Told]using t)]
 |_,_,_,.fz _ ht _,k,t=>by
  simp only[Told,rC,Bool.not_eq_true']at t;have fR:=my t.1;cases k with
  |fz _ kt _=>
   rcases ht with ht|ht
   ·exact absurd ht fR
   ·rcases kt with kt|kt
    ·exact absurd kt fR
    ·rw[ht]at kt;cases kt;rfl
  |AX kt=>
   rcases ht with ht|ht
   ·exact absurd ht fR
   ·rcases kt with kt|kt
    ·exact absurd kt fR
    ·rw[ht]at kt;cases kt;rfl
 |_,_,_,.AX ht,k,t=>by
  simp only[Told,rC,Bool.not_eq_true']at t;have fR:=my t.1;generalize hn:([]:List (List EV))=els at k;cases k with
  |fz _ kt _=>
   subst hn;rcases ht with ht|ht
   ·exact absurd ht fR
   ·rcases kt with kt|kt
    ·exact absurd kt fR
    ·rw[ht]at kt;cases kt;rfl
  |AX kt=>
   rcases ht with ht|ht
   ·exact absurd ht fR
   ·rcases kt with kt|kt
    ·exact absurd kt fR
    ·rw[ht]at kt;cases kt;rfl
 |_,_,_,.gu _ _ _,_,t=>by simp[Told]at t
theorem et.fn:∀{a b c:List EV},et θ a b->et θ a c->m9 a=true->b=c
 |_,_,_,.nil,h,_=>by cases h;rfl
 |_,_,_,.cons h hs,k,t=>by
  simp only[m9,rC]at t;cases k with|cons k ks=>rw[SV.fn h k t.1,et.fn hs ks t.2]
end
mutual
theorem SV.told:∀{a b:EV},SV θ a b->Told b=true
 |_,_,.undef|_,_,.bool _|_,_,.int _ _|_,_,.str _|_,_,.bM|_,_,.ptr _|_,_,.aa|_,_,.slice _|_,_,.bN|_,_,.map _|_,_,.bS|_,_,.aP|_,_,.fz _ _ _|_,_,.AX _|_,_,.gu _ _ _=>rfl
 |_,_,.func hx hy=>by simp only[Told,et.told hx,et.told hy,Bool.and_self]
 |_,_,.iface h=>by simp only[Told];exact SV.told h
 |_,_,.agg h=>by simp only[Told];exact et.told h
 |_,_,.tuple h=>by simp only[Told];exact et.told h
theorem et.told:∀{a b:List EV},et θ a b->m9 b=true
 |_,_,.nil=>rfl
 |_,_,.cons h hs=>by simp only[m9,SV.told h,et.told hs,Bool.and_self]
end
mutual
theorem ug:∀{a:EV},EV.same a a=true->Told a=true
 | .undef,_| .bool _,_| .int _ _,_| .str _,_| .bM,_| .ptr _ _,_| .aa,_| .slice _ _ _ _,_| .bN,_| .map _,_| .bS,_| .aP,_=>rfl
 | .func f x y,h=>by
  simp only[EV.same,Nat.beq_refl,cond_true]at h;cases hx:EV.oV x x<;>simp only[hx,cond_true,cond_false,rF]at h
  simp only[Told,kp hx,kp h,Bool.and_self]
 | .iface t v,h=>by simp only[EV.same,Nat.beq_refl,cond_true]at h;simp only[Told];exact ug h
 | .agg x,h=>by simp only[EV.same]at h;simp only[Told];exact kp h
 | .tuple x,h=>by simp only[EV.same]at h;simp only[Told];exact kp h
 | .fz t e els,h=>by
  simp only[EV.same,Nat.beq_refl,cond_true]at h;cases ht:t.beq 0<;>simp only[ht,cond_true,cond_false,rF]at h
  simp only[Told,ht,Bool.not_false,Bool.true_and];exact ta h
 | .gu _ _ _ _,h=>by simp[EV.same]at h
theorem kp:∀{a:List EV},EV.oV a a=true->m9 a=true
 |[],_=>rfl
 |v::x,h=>by
  simp only[EV.oV]at h;cases hx:EV.same v v<;>simp only[hx,cond_true,cond_false,rF]at h
  simp only[m9,ug hx,kp h,Bool.and_self]
theorem ta:∀{a:List (List EV)},EV.sy a a=true->Ba a=true
 |[],_=>rfl
 |v::x,h=>by
  simp only[EV.sy]at h;cases hx:EV.oV v v<;>simp only[hx,cond_true,cond_false,rF]at h
  simp only[Ba,kp hx,ta h,Bool.and_self]
end
theorem SV.same{a b a' b':EV}(ha:SV θ a a')(hb:SV θ b b')(h:EV.same a b=true):EV.same a' b'=true:=by
 have e:=yK h;subst e;rw[SV.fn ha hb (ug h)];exact qH _ hb.told
theorem SV.cells{v v':EV}{cs:List EV}(h:SV θ v v')(hc:v.cells=some cs):∃oM,v'.cells=some oM/\et θ cs oM:=by
 cases h<;>simp only[EV.cells,reduceCtorEq,bQ]at hc<;>subst hc
 case agg h=>exact⟨_,rfl,h⟩
 case AX h=>exact⟨_,rfl,.cons (.AX h) .nil⟩
 all_goals exact⟨_,rfl,.cons (by constructor<;>assumption) .nil⟩
theorem et.part{x x':List EV}(h:et θ x x'){g:Option Nat}{off:Nat}{v:EV}(hp:partOf g x off=some v):∃v',partOf g x' off=some v'/\SV θ v v':=by
 cases g with
 |none=>exact h.get hp
 |some n=>
  simp only[partOf]at hp⊢;rw[<- h.length];cases hb:(off+n).ble x.length<;>simp only[hb,cond_true,cond_false,reduceCtorEq,bQ]at hp ⊢
  subst hp;exact⟨_,rfl,.agg ((h.drop off).take n)⟩
theorem et.kW{x x' vs vz r:List EV}(h:et θ x x')(hv:et θ vs vz){off:Nat}(hp:Ev.kW x off vs=some r):∃r',Ev.kW x' off vz=some r'/\et θ r r':=by
 unfold Ev.kW at hp⊢;rw[<- h.length,<- hv.length];cases hb:(off+vs.length).ble x.length<;>simp only[hb,cond_true,cond_false,reduceCtorEq,bQ]at hp ⊢
 subst hp;exact⟨_,rfl,((h.take off).append hv).append (h.drop _)⟩
end
inductive qe(θ:de):List (EV×EV)->List (EV×EV)->Prop
 |nil:qe θ [] []
 |cons {k v k' v':EV} {x x':List (EV×EV)} (hk:SV θ k k') (hv:SV θ v v') (h:qe θ x x'):qe θ ((k,v)::x) ((k',v')::x')
theorem qe.ext{θ θ':de}(e:de.Ext θ θ'):∀{x x':List (EV×EV)},qe θ x x'->qe θ' x x'
 |_,_,.nil=>.nil
 |_,_,.cons hk hv h=>.cons (hk.ext e) (hv.ext e) (qe.ext e h)
def OX(θ:de):bX->bX->Prop
 | .dead,_=>True
 | .cells cs e k ro,B=>∃oM,B=.cells oM e k ro/\et θ cs oM
 | .map es,B=>∃sX,B=.map sX/\qe θ es sX
theorem OX.ext{θ θ':de}(e:de.Ext θ θ'){B B':bX}(h:OX θ B B'):OX θ' B B':=by
 cases B with
 |dead=>trivial
 |cells cs k t ro=>obtain⟨oM,h1,h2⟩:=h;exact⟨oM,h1,h2.ext e⟩
 |map es=>obtain⟨sX,h1,h2⟩:=h;exact⟨sX,h1,h2.ext e⟩
structure MemB(θ:de)(m m':Mem):Prop where
 dW:∀b c,θ.jU b=some c->OX θ (m.get b) (m'.get c)
 cl:∀b,θ.jU b=none->m.get b=.dead
structure MemS(θ:de)(m m':Mem):Prop extends MemB θ m m' where
 jq:∀b B,θ.jq b=some B->m'.get b=B
structure sw(θ:de)(n n':Nat):Prop where
 jU:∀b c,θ.jU b=some c->b<n/\c<n'
 inj:∀a b c,θ.jU a=some c->θ.jU b=some c->a=b
 off:∀b c,θ.jU b=some c->θ.jq c=none
 jq:∀b B,θ.jq b=some B->b<n'
theorem MemB.ext{θ θ':de}{m m':Mem}(h:MemB θ m m')(e:de.Ext θ θ')(hd:∀b c,θ.jU b=none->θ'.jU b=some c->m.get b=.dead):MemB θ' m m':=by
 refine⟨fun b c hb=> ?_,fun b hb=> ?_⟩
 ·cases hr:θ.jU b with
  |none=>rw[h.cl b hr];trivial
  |some d=>
   have:=e.jU b d hr;rw[hb]at this;cases this;exact(h.dW b c hr).ext e
 ·cases hr:θ.jU b with
  |none=>exact h.cl b hr
  |some d=>rw[e.jU b d hr]at hb;cases hb
def de.more(θ:de)(b c:Nat):de:=⟨fun x=>if x=b then some c else θ.jU x,θ.tag,θ.jq⟩
structure Ae(θ:de)(b c:Nat):Prop where
 l:θ.jU b=none
 r:∀a,θ.jU a≠some c
 s:θ.jq c=none
theorem sw.fresh{θ:de}{n n':Nat}(h:sw θ n n'){b c:Nat}(hb:n<=b)(hc:n'<=c):Ae θ b c:=by
 refine⟨?_,fun a ha=> ?_,?_⟩
 ·cases e:θ.jU b with
  |none=>rfl
  |some d=>have:=(h.jU b d e).1;omega
 ·have:=(h.jU a c ha).2;omega
 ·cases e:θ.jq c with
  |none=>rfl
  |some d=>have:=h.jq c d e;omega
theorem Ae.ext{θ:de}{b c:Nat}(h:Ae θ b c):de.Ext θ (θ.more b c):=by
 refine⟨fun x y e=> ?_,fun _ _ e=>e,fun _ _ e=>e⟩
 show (if x=b then some c else θ.jU x)=some y;by_cases hx:x=b
 ·subst hx;rw[h.l]at e;cases e
 ·rw[if_neg hx];exact e
theorem qA{θ:de}{b c:Nat}:(θ.more b c).jU b=some c:=if_pos rfl
theorem sw.more{θ:de}{n n' b c:Nat}(h:sw θ n n')(f:Ae θ b c){k k':Nat}(hb:b<k)(hc:c<k')(hk:n<=k)(DL:n'<=k'):sw (θ.more b c) k k':=by
 have jU:∀x y,(θ.more b c).jU x=some y->(x=b/\y=c)\/θ.jU x=some y:=by
  intro x y e;have e':(if x=b then some c else θ.jU x)=some y:=e;by_cases hx:x=b
  ·rw[if_pos hx]at e';cases e';exact .inl ⟨hx,rfl⟩
  ·rw[if_neg hx]at e';exact .inr e'
 refine⟨fun x y e=> ?_,fun x y z e1 e2=> ?_,fun x y e=> ?_,fun x B e=> ?_⟩
 ·rcases jU x y e with⟨rfl,rfl⟩|e
  ·exact⟨hb,hc⟩
  ·have:=h.jU x y e;omega
 ·rcases jU x z e1 with⟨rfl,rfl⟩|e1<;>rcases jU y _ e2 with⟨h1,h2⟩|e2
  ·exact h1.symm
  ·exact absurd e2 (f.r y)
  ·exact absurd e1 (h2▸f.r x)
  ·exact h.inj x y z e1 e2
 ·rcases jU x y e with⟨rfl,rfl⟩|e
  ·exact f.s
  ·exact h.off x y e
 ·have:=h.jq x B e;omega
theorem MemS.more{θ:de}{m m':Mem}{b c:Nat}(h:MemS θ m m')(f:Ae θ b c){B B':bX}(hB:OX (θ.more b c) B B'):MemS (θ.more b c) (Mem.new ⟨b,m.ja⟩ B) (Mem.new ⟨c,m'.ja⟩ B'):=by
 have g1:∀x,(Mem.new ⟨b,m.ja⟩ B).get x=if x=b then B else m.get x:=fun x=>cN
 have g2:∀x,(Mem.new ⟨c,m'.ja⟩ B').get x=if x=c then B' else m'.get x:=fun x=>cN
 refine⟨⟨fun x y e=> ?_,fun x e=> ?_⟩,fun x C e=> ?_⟩
 ·have e':(if x=b then some c else θ.jU x)=some y:=e;by_cases hx:x=b
  ·rw[if_pos hx]at e';cases e';rw[g1,g2,if_pos hx,if_pos rfl];exact hB
  ·rw[if_neg hx]at e';have hy:y≠c:=fun q=>f.r x (q▸e')
   rw[g1,g2,if_neg hx,if_neg hy];exact(h.dW x y e').ext f.ext
 ·have e':(if x=b then some c else θ.jU x)=none:=e;by_cases hx:x=b
  ·rw[if_pos hx]at e';cases e'
  ·rw[if_neg hx]at e';rw[g1,if_neg hx];exact h.cl x e'
 ·have hx:x≠c:=fun q=>by
   have e':θ.jq x=some C:=e;subst q;rw[f.s]at e';cases e'
  rw[g2,if_neg hx];exact h.jq x C e
theorem MemS.set{θ:de}{m m':Mem}{n n' b c:Nat}(h:MemS θ m m')(k:sw θ n n')(hb:θ.jU b=some c){B B':bX}(hB:OX θ B B'):MemS θ (m.set b B) (m'.set c B'):=by
 refine⟨⟨fun x y e=> ?_,fun x e=> ?_⟩,fun x C e=> ?_⟩
 ·by_cases hx:x=b
  ·subst hx;rw[hb]at e;cases e;rw[aN,aN];exact hB
  ·have hy:y≠c:=fun q=>hx (k.inj x b c (q▸e) hb)
   rw[af hx,af hy];exact h.dW x y e
 ·have hx:x≠b:=fun q=>by subst q;rw[hb]at e;cases e
  rw[af hx];exact h.cl x e
 ·have hx:x≠c:=fun q=>by subst q;rw[k.off b x hb]at e;cases e
  rw[af hx];exact h.jq x C e
end
section
def lQ(l:List (List UInt8)):List (List EV):=l.map fun s=>[.str s]
def glV(l:List (List UInt8)):EV:=.gu 1 [[.fz 0 1 (lQ l)]] 0 0
def Y5:EV->EV
 | .ptr g 0=>match xW g with
  |some l=>glV l
  |none=>.ptr g 0
 |v=>v
def Wd:EV->Bool
 | .ptr g 0=>(xW g).isSome
 |_=>false
def lL:bm->bm
 | .tmp t=>.tmp t
 | .const v=>.const (Y5 v)
def akL(l:List Int):bX:=.cells (l.map (.int .u64)) 1 0 true
def mc(θ:de):Prop:=(∀g l,xW g=some l->SV θ (glV l) (.ptr g 0))/\∀g l,tabl g=some l->θ.jq g=some (akL l)
theorem mc.ext{θ θ':de}(h:mc θ)(e:de.Ext θ θ'):mc θ':=⟨fun g l hg=>(h.1 g l hg).ext e,fun g l hg=>e.jq _ _ (h.2 g l hg)⟩
theorem SR.amI{θ:de}{esz:Nat}{els:List (List EV)}{b off:Nat}(h:SR θ esz els b off):SR θ.low esz els b off:=by cases h with|mk hs hl hn hx=>exact .mk hs hl hn hx
theorem mc.down{θ θ':de}(h:mc θ)(e:de.Ext θ.low θ'):mc θ':=by
 refine⟨fun g l hg=> ?_,fun g l hg=>e.jq _ _ (h.2 g l hg)⟩
 have:=h.1 g l hg;unfold glV at this⊢;cases this with|gu hr hi ho=>exact .gu (hr.amI.ext e) hi ho
structure je(θ:de)(m m':Mem):Prop extends MemS θ m m' where
 ok:sw θ m.next m'.next
 EU:mc θ
theorem FF{v:EV}(h:Flat v=true):Y5 v=v:=by
 cases v<;>first|rfl|(simp[Flat]at h)
theorem Y4{θ:de}(hg:mc θ){v:EV}(h:(Flat v||Wd v)=true):SV θ (Y5 v) v:=by
 cases hf:Flat v with
 |true=>rw[FF hf];exact SV.of_flat hf
 |false=>
  rw[hf,Bool.false_or]at h;cases v with
  |ptr g off=>
   cases off with
   |zero=>
    simp only[Wd]at h;cases Ke:xW g with
    |none=>rw[Ke]at h;cases h
    |some l=>simp only[Y5,Ke];exact hg.1 g l Ke
   |succ n=>simp[Wd]at h
  |_=>simp[Wd]at h
def oa.xd(f:bm->bm):oa->oa
 | .tA x=>.tA (f x)
 | .pick c a b=>.pick (f c) (f a) (f b)
 | .alloc e z=>.alloc e z
 | .box e x=>.box e (f x)
 | .build z ps=>.build z (ps.map fun p=>(p.1,p.2.1,f p.2.2))
 | .aG e z n zr ps=>.aG e z n zr (ps.map fun p=>(p.1,f p.2))
 | .load a x=>.load a (f x)
 | .store n a x=>.store n (f a) (f x)
 | .lU x=>.lU (f x)
 | .bin o x y=>.bin o (f x) (f y)
 | .eq n t x y=>.eq n t (f x) (f y)
 | .un o x=>.un o (f x)
 | .conv c x=>.conv c (f x)
 | .iface t x=>.iface t (f x)
 | .AJ g a c=>.AJ g (a.map f) (c.map f)
 | .uR=>.uR
 | .jI e z zr l c=>.jI e z zr (f l) (f c)
 | .ob x l h=>.ob (f x) (l.map f) (h.map f)
 | .pE e x l h m=>.pE e (f x) (l.map f) (h.map f) (m.map f)
 | .xp n e x l h m=>.xp n e (f x) (l.map f) (h.map f) (m.map f)
 | .xA o x=>.xA o (f x)
 | .CC a o x=>.CC a o (f x)
 | .eZ e x i=>.eZ e (f x) (f i)
 | .oC n e x i=>.oC n e (f x) (f i)
 | .kB x i=>.kB (f x) (f i)
 | .vU n e a x i=>.vU n e a (f x) (f i)
 | .lookup k z o m x=>.lookup k z o (f m) (f x)
 | .pi k m x y=>.pi k (f m) (f x) (f y)
 | .delete k m x=>.delete k (f m) (f x)
 | .sG m=>.sG (f m)
 | .rN t x=>.rN t (f x)
 | .extract x i=>.extract (f x) i
 | .len x=>.len (f x)
 | .gj x=>.gj (f x)
 | .vS n=>.vS n
 | .cap x=>.cap (f x)
 | .max l=>.max (l.map f)
 | .min l=>.min (l.map f)
 | .append e z b s x=>.append e z b (f s) (f x)
 | .copy e d s=>.copy e (f d) (f s)
theorem Ur{f:bm->bm}{op:oa}:dG (op.xd f)=dG op:=by
 cases op with
 |conv c x=>cases c<;>rfl
 |_=>rfl
theorem Gx{ρ:bm->EV}{f:bm->bm}{op:oa}{m:Mem}:aL ρ (op.xd f) m=aL (fun x=>ρ (f x)) op m:=by
 cases op with
 |pE e x l h mx=>
  simp only[oa.xd,aL,Option.map_map,Function.comp_def];cases mx<;>rfl
 |_=>first|rfl|(simp only[oa.xd,aL,List.map_map,Option.map_map,Function.comp_def])
theorem mV{α:Type}{f:α->α}:∀{l:List α},(∀x∈l,f x=x)->l.map f=l
 |[],_=>rfl
 |a::l,h=>by rw[List.map_cons,h a (by simp),mV fun x hx=>h x (by simp[hx])]
theorem pJ{f:bm->bm}{o:Option bm}(h:∀x∈Di o,f x=x):o.map f=o:=by
 cases o with
 |none=>rfl
 |some x=>rw[Option.map_some,h x (by simp[Di])]
theorem RX{f:bm->bm}{op:oa}(h:∀x∈ku op,f x=x):op.xd f=op:=by
 cases op with
 |build z ps=>
  simp only[oa.xd];rw[mV fun p hp=>by rw[h p.2.2 (by simp only[ku,List.mem_map];exact⟨p,hp,rfl⟩)]]
 |aG e z n zr ps=>
  simp only[oa.xd];rw[mV fun p hp=>by rw[h p.2 (by simp only[ku,List.mem_map];exact⟨p,hp,rfl⟩)]]
 |AJ g a c=>
  simp only[oa.xd];rw[mV fun x hx=>h x (by simp only[ku,Ag];exact .inl hx),mV fun x hx=>h x (by simp only[ku,Ag];exact .inr hx)]
 |ob x l hh=>
  simp only[oa.xd];rw[h x (by simp[ku]),pJ fun y hy=>h y (by simp only[ku,qn,Ag];exact .inr (.inl hy)),pJ fun y hy=>h y (by simp only[ku,qn,Ag];exact .inr (.inr hy))]
 |pE e x l hh mm=>
  simp only[oa.xd];rw[h x (by simp[ku]),pJ fun y hy=>h y (by simp only[ku,qn,Ag];exact .inr (.inl hy)),pJ fun y hy=>h y (by simp only[ku,qn,Ag];exact .inr (.inr (.inl hy))),pJ fun y hy=>h y (by simp only[ku,qn,Ag];exact .inr (.inr (.inr hy)))]
 |xp n e x l hh mm=>
  simp only[oa.xd];rw[h x (by simp[ku]),pJ fun y hy=>h y (by simp only[ku,qn,Ag];exact .inr (.inl hy)),pJ fun y hy=>h y (by simp only[ku,qn,Ag];exact .inr (.inr (.inl hy))),pJ fun y hy=>h y (by simp only[ku,qn,Ag];exact .inr (.inr (.inr hy)))]
 |max l=>simp only[oa.xd];rw[mV fun x hx=>h x (by simp only[ku];exact hx)]
 |min l=>simp only[oa.xd];rw[mV fun x hx=>h x (by simp only[ku];exact hx)]
 |_=>simp only[ku,qn,List.not_mem_nil,or_false,forall_eq_or_imp,forall_eq]at h<;>simp only[oa.xd,h]
def Aj.sub:Aj->Aj
 | .val op=>.val (op.xd lL)
 | .call f xs=>.call (lL f) (xs.map lL)
 | .panic x=>.panic (lL x)
 | .defer f xs=>.defer (lL f) (xs.map lL)
def bd.sub(o:bd):bd:=⟨o.dst,o.op.sub,o.guard⟩
def ar.sub:ar->ar
 | .skip=>.skip
 | .region ops=>.region (ops.map bd.sub)
 | .draw ops chk=>.draw (ops.map bd.sub) chk
 | .seq a b=>.seq a.sub b.sub
 | .cond c a b=>.cond (lL c) a.sub b.sub
 | .block id a=>.block id a.sub
 | .loop a=>.loop a.sub
 | .exit id=>.exit id
 | .ret=>.ret
def aC.sub(F:aC):aC:=⟨F.ntmps,F.body.sub,F.results⟩
def ady:bm->Bool
 | .tmp _=>true
 | .const v=>Flat v
def Vx(x:Aj):Bool:=(qQ x).all ady
def tr:ar->Bool
 | .region ops| .draw ops _=>ops.all fun o=>Vx o.op
 | .seq a b=>tr a&&tr b
 | .cond c a b=>ady c&&tr a&&tr b
 | .block _ a| .loop a=>tr a
 |_=>true
theorem Jy{x:bm}(h:ady x=true):lL x=x:=by
 cases x with
 |tmp t=>rfl
 |const v=>simp only[lL,FF (show Flat v=true from h)]
theorem RJ{x:Aj}(h:Vx x=true):x.sub=x:=by
 have hx:∀y∈qQ x,lL y=y:=fun y hy=>Jy (List.all_eq_true.1 h y hy)
 cases x with
 |val op=>simp only[Aj.sub];rw[RX hx]
 |call f xs=>
  simp only[Aj.sub];rw[hx f (by simp[qQ]),mV fun y hy=>hx y (by simp[qQ,hy])]
 |panic y=>simp only[Aj.sub];rw[hx y (by simp[qQ])]
 |defer f xs=>
  simp only[Aj.sub];rw[hx f (by simp[qQ]),mV fun y hy=>hx y (by simp[qQ,hy])]
theorem F5{ops:List bd}(h:ops.all (fun o=>Vx o.op)=true):ops.map bd.sub=ops:=
 mV fun o ho=>by unfold bd.sub;rw[RJ (List.all_eq_true.1 h o ho)]
theorem pf:∀{c:ar},tr c=true->c.sub=c
 | .skip,_=>rfl
 | .region ops,h=>by simp only[ar.sub];rw[F5 (by simpa only[tr]using h)]
 | .draw ops chk,h=>by simp only[ar.sub];rw[F5 (by simpa only[tr]using h)]
 | .seq a b,h=>by simp only[tr,rC]at h;simp only[ar.sub];rw[pf h.1,pf h.2]
 | .cond c a b,h=>by simp only[tr,rC]at h;simp only[ar.sub];rw[Jy h.1.1,pf h.1.2,pf h.2]
 | .block id a,h=>by simp only[tr]at h;simp only[ar.sub];rw[pf h]
 | .loop a,h=>by simp only[tr]at h;simp only[ar.sub];rw[pf h]
 | .exit id,_=>rfl
 | .ret,_=>rfl
end
end Go.Proofs.YtfbnghpabppljaaGreatDoor.Ev
