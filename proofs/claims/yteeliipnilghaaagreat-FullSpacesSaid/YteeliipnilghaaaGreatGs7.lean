/- Part 7 of the proof that is ended in the last text: small logic, what the functions compute, walks, plain laws. -/
import Derived.Test.YteeliipnilghaaaGreatGs6
import Derived.KernelRfl
open Bool renaming and_eq_false_iff->k8,and_eq_true->ca,eq_false_iff->fX,eq_iff_iff->h5,false_eq_true->gT,false_ne_true->jS,false_or->hK,not_eq_true'->gG,not_false->hF,not_true->c7,or_eq_false_iff->hY,or_eq_true->hA,true_and->jF,true_or->lr
open Classical renaming byContradiction->kd
open Int renaming toNat_natCast->bR
open List renaming any_eq_false->ik,any_eq_true->h6,append_assoc->eY,append_nil->gH,cons.inj->eO,drop_eq_getElem_cons->cw,drop_length->gF,drop_of_length_le->iA,drop_zero->ei,eq_nil_of_length_eq_zero->gR,exists_of_findSome?_eq_some->dX,ext_getElem?->jZ,findSome?_append->kp,findSome?_cons->ih,findSome?_eq_none_iff->fZ,flatMap_cons->hz,flatten_cons->kO,foldl_cons->hZ,getElem?_append_left->dS,getElem?_drop->ia,getElem?_eq_getElem->aR,getElem?_eq_none->fk,getElem?_eq_some_iff->ba,getElem?_map->iY,getElem?_range->kC,getElem?_take->gK,getElem_map->j5,getElem_mem->fa,getElem_of_mem->hN,length_append->dj,length_cons->cT,length_erase_of_mem->kI,length_map->gJ,length_nil->gI,length_range->iW,length_reverse->kh,length_set->gu,length_singleton->iK,length_take->fe,map_append->ja,map_congr_left->j1,map_cons->ea,map_map->lq,map_nil->hP,map_singleton->ko,mem_append->cg,mem_append_left->eS,mem_append_right->fw,mem_cons->cG,mem_cons_of_mem->eD,mem_cons_self->iz,mem_erase_of_ne->lp,mem_flatMap->g_,mem_iff_getElem->il,mem_iff_getElem?->lh,mem_map->ho,mem_of_getElem?->b_,mem_range->j3,mem_singleton->dm,nil_append->ie,nodup_append->eT,nodup_cons->hJ,nodup_nil->kK,pairwise_iff_getElem->iq,perm_ext_iff_of_nodup->jJ,range->dR,singleton_append->jX,take->k1,take_add_one->j8,take_length->iH,take_of_length_le->hp
open Nat renaming add_zero->jI,eq_zero_or_pos->km,le_mul_of_pos_right->kL,le_refl->cP,le_trans->fR,lt_or_ge->fO,zero_add->ji,zero_le->fY
open Option renaming bind->dP,bind_some->ae,getD_none->je,getD_some->ij,map_eq_some_iff->cF,map_none->iE,map_some->fs,some.inj->ee,some.injEq->aM
open Prod renaming fst->j2,mk.injEq->cI
noncomputable section
namespace I
section
variable{F:Nat}{l:List al}
abbrev bQ:=List (List UInt8)×List Target
def q7(nm:List UInt8)(x:List UInt8):Bool:=decide (nm=x)
def xZ(p:bQ)(nm:List UInt8)(t:Target):bQ:=match eK (q7 nm) p.1 with
 |some k=>(p.1,p.2.set k t)
 |none=>(p.1++[nm],p.2++[t])
def tJ(ci:Int):List Method->Nat->bQ->bQ
 |[],_,p=>p
 |m::r,k,p=>tJ ci r (k+1) (xZ p m.Name ⟨ci,k⟩)
def fq(l:List al)(i:Int):List Method:=((idx l i).map (·.bn)).getD []
def A6(l:List al):List Int->bQ->bQ
 |[],p=>p
 |ci::r,p=>A6 l r (tJ ci (fq l ci) 0 p)
def ic(l:List al)(n:Int):bQ:=A6 l (dH l n).reverse ([],[])
theorem UY{p:bQ}{nm:List UInt8}{t:Target}(h:p.1.length=p.2.length):(xZ p nm t).1.length=(xZ p nm t).2.length/\(xZ p nm t).1.length<=p.1.length+1:=by
 unfold xZ;cases eK (q7 nm) p.1 with
 |some k=>simp[h]
 |none=>simp[h]
theorem UX{ci:Int}:∀ {r:List Method}{k:Nat}{p:bQ},p.1.length=p.2.length->(tJ ci r k p).1.length=(tJ ci r k p).2.length/\(tJ ci r k p).1.length<=p.1.length+r.length
 |[],_,p,h=>⟨h,cP _⟩
 |m::r,k,p,h=>by obtain⟨a,J⟩:=UY (nm:=m.Name) (t:=⟨ci,k⟩) h;obtain⟨b,c⟩:=UX (ci:=ci) (r:=r) (k:=k+1) a;exact⟨b,by simp only[tJ,cT];omega⟩
theorem aDn{ns:List (List UInt8)}(h:Small F ns.length)(nm:List UInt8):NG F ns nm=some (((eK (q7 nm) ns).map λ n:Nat=>(n:Int)).getD (-1)):=by unfold NG;have l1:CY ns nm F 0=some (cz ((eK (q7 nm) ns).map λ n:Nat=>(n:Int))):=Wa (q7 nm) _ h.1 (λ k i x ad=>by rw[CY,bH (ba.1 ad).1,lA,br ad,ae];rfl) (λ k=>by rw[CY,bG];rfl) h.2;rw[l1,lg];cases eK (q7 nm) ns<;>rfl
theorem an0(g:1100<F)(ci:Int)(c:al)(hc:c.bn.length<=8):∀(d i f:Nat)(p:bQ),i+d=c.bn.length->d<f->p.1.length=p.2.length->p.1.length+d<=1000 ->
 B8 F ci c f p.1 p.2 (i:Int)=some (tJ ci (c.bn.drop i) i p)
 |0,i,f,p,hi,h,e,_=>by
  obtain⟨f,rfl⟩:∃b,f=b+1:=⟨f-1,by omega⟩
  have:i=c.bn.length:=by omega
  subst this;rw[B8,bG,iA (cP _)];rfl
 |d+1,i,f,p,hi,h,e,n=>by
  obtain⟨f,rfl⟩:∃b,f=b+1:=⟨f-1,by omega⟩
  have a:i<c.bn.length:=by omega
  obtain⟨j,J⟩:=UY (nm:=c.bn[i].Name) (t:=⟨ci,i⟩) e;have next:=an0 g ci c hc d (i+1) f (xZ p c.bn[i].Name ⟨ci,i⟩) (by omega) (by omega) j (by omega)
  rw[B8,bH a,lA,br (aR a),ae,aDn ⟨by omega,by omega⟩,ae,cw a,tJ,<-next];unfold xZ;cases m:eK (q7 c.bn[i].Name) p.1 with
  |some k=>have o:=aat m;simp only[fs,ij];rw[lu (show(0 :Int)<=(k:Int) by omega),lA,br (aR (show k<p.2.length by omega)),ae,ae,ae,eE a (by omega)];simp
  |none=>simp only[iE,je];rw[lx (show¬(0 :Int)<= -1 by decide),lK];unfold bE;rw[lz (by simp only[cT,gI];omega),ae,lz (by simp only[cT,gI];omega),ae,ae,eE a (by omega)]
theorem ala(h:Right l)(i:Int):(fq l i).length<=8:=by
 unfold fq;cases ad:idx l i with
 |none=>simp
 |some x=>obtain⟨_,_,J⟩:=np ad;exact h.methods x (b_ J)
theorem anZ(a:1100<F)(h:Right l)(m:List (List UInt8×Int))(s:List Int):∀(rem:List Int)(p:bQ),(∀x∈rem,0<=x/\x<l.length)->p.1.length=p.2.length->p.1.length+8*rem.length<=900 ->
 B7 F ⟨l,m,s⟩ rem p.1 p.2=some (A6 l rem p)
 |[],p,_,_,_=>by simp[B7,A6]
 |x::rem,p,ad,b,f=>by
  obtain⟨c,hc,_⟩:=zS (l:=l) (ad x (by simp)).1 (ad x (by simp)).2;have d:fq l x=c.bn:=by unfold fq;rw[hc];rfl
  have g:=ala h x;have e:=g;rw[d]at e;simp only[cT]at f;obtain⟨i,j⟩:=UX (ci:=x) (r:=fq l x) (k:=0) b;rw[B7];show(dP (α:=(List (List UInt8))×(List Target)) ((idx l x).bind λ n=>_) _)=_
  rw[hc,ae];have:=an0 a x c e c.bn.length 0 F p (by omega) (by omega) b (by omega);rw[show((0 :Nat):Int)=0 from rfl]at this;rw[this,ei,ae,ae,A6,<-d];exact anZ a h m s rem _ (λ y hy=>ad y (by simp[hy])) i (by omega)
theorem jc.aFA(h:jc l)(a:1100<F)(m:List (List UInt8×Int)){n:Int}(b:0<=n)(c:n<l.length):F4 F ⟨l,m,dx l⟩ n=some (ic l n):=by obtain⟨_,e,d⟩:=h.chain b c;unfold F4;have:=h.Zv a m b c;simp only at this⊢;rw[this,ae];unfold Nw;rw[ae,anZ a h.right m (dx l) _ ([],[]) (λ x ad=>d x (by simpa using ad)) rfl (by simp;omega)];rfl
theorem aLk(ns:List (List UInt8))(m:Method)(h:Small F ns.length):tB ns m F 0=some (((eK (q7 m.Name) ns).getD ns.length:Nat):Int):=by
 have key:∀(d i f:Nat),i+d=ns.length->d<f->tB ns m f (i:Int)=some ((i+(eK (q7 m.Name) (ns.drop i)).getD d:Nat):Int):=by
  intro d;induction d with
  |zero=>
   intro i f hi c;obtain⟨f,rfl⟩:∃b,f=b+1:=⟨f-1,by omega⟩
   have:i=ns.length:=by omega
   subst this;rw[tB,bG,iA (cP _)];rfl
  |succ d g=>
   intro i f hi c;obtain⟨f,rfl⟩:∃b,f=b+1:=⟨f-1,by omega⟩
   have a:i<ns.length:=by omega
   rw[tB,bH a,lA,br (aR a),ae,cw a,eK];by_cases e:ns[i]=m.Name;rw[lu e,lz (by simp[q7,e])];simp
   ·rw[lx e,ly (by simp[q7];exact λ h=>e h.symm)];simp only[hF,lA];rw[eE a h.1,g (i+1) f (by omega) (by omega)];congr 2;cases eK (q7 m.Name) (ns.drop (i+1))with
    |none=>simp;omega
    |some k=>simp;omega
 have:=key ns.length 0 F (by omega) h.2;simpa using this
theorem an6(j:1100<F)(gD:List Int)(n:Nat)(ci:Int)(c:al)(a:gD[n]? =some ci)(e:idx l ci=some c)(hc:c.bn.length<=8):∀(d i f:Nat)(p:bQ),i+d=c.bn.length->d<f->p.1.length=p.2.length->p.1.length+d<=1000 ->
 Ev F l gD (n:Int) f p.2 p.1 (i:Int)=some ((tJ ci (c.bn.drop i) i p).2,(tJ ci (c.bn.drop i) i p).1)
 |0,i,f,p,hi,m,g,_=>by
  obtain⟨f,rfl⟩:∃h,f=h+1:=⟨f-1,by omega⟩
  have:i=c.bn.length:=by omega
  subst this;rw[Ev,br a,ae,e,ae,bG,iA (cP _)];rfl
 |d+1,i,f,p,hi,m,g,r=>by
  obtain⟨f,rfl⟩:∃h,f=h+1:=⟨f-1,by omega⟩
  have b:i<c.bn.length:=by omega
  obtain⟨o,J⟩:=UY (nm:=c.bn[i].Name) (t:=⟨ci,i⟩) g;have next:=an6 j gD n ci c a e hc d (i+1) f (xZ p c.bn[i].Name ⟨ci,i⟩) (by omega) (by omega) o (by omega)
  rw[Ev,br a,ae,e,ae,bH b,lA,ae,e,ae,br (aR b),ae,aLk p.1 _ ⟨by omega,by omega⟩,ae,cw b,tJ,<-next];unfold xZ;cases q:eK (q7 c.bn[i].Name) p.1 with
  |some k=>have s:=aat q;simp only[ij];rw[lx (show¬((k:Nat):Int)=(p.1.length:Int) by omega),lK,ae];simp only[br a,ae];rw[br (aR (show k<p.2.length by omega)),ae,ae,eE b (by omega)];simp
  |none=>simp only[je,decide_true,lA];unfold bE;rw[lz (by simp only[cT,gI];omega),ae,lz (by simp only[cT,gI];omega),ae,ae];simp only[br a,ae];rw[br (i:=p.1.length) (x:=(⟨0,0⟩:Target)) (by rw[g];simp),ae,ae,eE b (by omega)];simp[g,List.set_append]
theorem jc.aKb(h:jc l)(m:1100<F){n:Int}(v:0<=n)(o:n<l.length):KC F l n=some (ic l n):=by
 obtain⟨_,C,w⟩:=h.chain v o;unfold KC;rw[S8 m h.right o,ae];have key:∀(d i f:Nat)(p:bQ),i+d=(dH l n).reverse.length->d<f->p.1.length=p.2.length->p.1.length+8*d<=900 ->Eu F l (dH l n).reverse f p.2 p.1 (i:Int)=some ((A6 l ((dH l n).reverse.drop i) p).2,(A6 l ((dH l n).reverse.drop i) p).1):=by
  intro d;induction d with
  |zero=>
   intro i f p hi y _ _;obtain⟨f,rfl⟩:∃b,f=b+1:=⟨f-1,by omega⟩
   have:i=(dH l n).reverse.length:=by omega
   subst this;rw[Eu,bG,iA (cP _)];rfl
  |succ d z=>
   intro i f p hi y q D;obtain⟨f,rfl⟩:∃b,f=b+1:=⟨f-1,by omega⟩
   have a:i<(dH l n).reverse.length:=by omega
   obtain⟨ci,e⟩:∃x,(dH l n).reverse[i]? =some x:=⟨(dH l n).reverse[i],aR a⟩
   have ag:=w ci (by simpa using b_ e);obtain⟨c,hc,_⟩:=zS (l:=l) ag.1 ag.2;have g:fq l ci=c.bn:=by unfold fq;rw[hc];rfl
   have A:=ala h.right ci;have s:=A;rw[g]at s;obtain⟨t,B⟩:=UX (ci:=ci) (r:=fq l ci) (k:=0) q;have u:=an6 (l:=l) m (dH l n).reverse i ci c e hc s c.bn.length 0 F p (by omega) (by omega) q (by omega);rw[show((0 :Nat):Int)=0 from rfl]at u;have j:(dH l n).reverse[i]=ci:=by have:=aR a;rw[e]at this;exact(ee this).symm
   rw[Eu,bH a,lA,u,ei,ae,ae,eE (n:=(dH l n).length) (by simpa using a) (by omega),cw a,j,A6,g];rw[g]at t B;exact z (i+1) f _ (by omega) (by omega) t (by omega)
 have:=key (dH l n).reverse.length 0 F ([],[]) (by omega) (by simp;omega) rfl (by simp;omega);rw[show((0 :Nat):Int)=0 from rfl,ei]at this;simp only at this;rw[this];rfl
end
theorem xY{α β:Type}{l:List α}(T:Nat->List β->Nat->Option (List β))(g:α->List β)(B M:Nat)(bO:∀x∈l,(g x).length<=B)
 (aj:∀k (i:Nat) x acc,l[i]? =some x->acc.length+B<=M->T (k+1) acc i=T k (acc++g x) (i+1))(a:∀k acc,T (k+1) acc l.length=some acc){F:Nat}(b:l.length<F){acc:List β}(c:acc.length+B*l.length<=M) :
 T F acc 0=some (acc++l.flatMap g):=by
 have key:∀(d i k:Nat)(acc:List β),i+d=l.length->d<k->acc.length+B*d<=M->T k acc i=some (acc++(l.drop i).flatMap g):=by
  intro d;induction d with
  |zero=>
   intro i k acc h e _;obtain⟨k,rfl⟩:∃k',k=k'+1:=⟨k-1,by omega⟩
   have hi:i=l.length:=by omega
   subst hi;rw[a,iA (cP _)];simp
  |succ d f=>
   intro i k acc h e j;obtain⟨k,rfl⟩:∃k',k=k'+1:=⟨k-1,by omega⟩
   have hi:i<l.length:=by omega
   have ag:=bO l[i] (fa hi);rw[Nat.mul_succ]at j;rw[aj k i l[i] acc (aR hi) (by omega),f (i+1) k _ (by omega) (by omega) (by simp only[dj];omega),cw hi,hz,eY]
 have:=key l.length 0 F acc (by omega) b c
 simpa using this
theorem alR{α β:Type}{g:α->Option β}{a:α}:[a].findSome? g=g a:=by rw[ih];cases g a<;>rfl
theorem K8{α β cp:Type}(f:α->List β)(g:β->Option cp):∀l:List α,(l.flatMap f).findSome? g=l.findSome? λ x=>(f x).findSome? g
 |[]=>rfl
 |x::r=>by rw[hz,kp,ih,K8 f g r];cases(f x).findSome? g<;>rfl
theorem Bm{α β:Type}{g:α->List β}{B:Nat}:∀ {l:List α},(∀x∈l,(g x).length<=B)->(l.flatMap g).length<=B*l.length
 |[],_=>by simp
 |x::r,h=>by have a:=h x (by simp);have J:=Bm (l:=r) (λ y hy=>h y (by simp[hy]));simp only[hz,dj,cT,Nat.mul_succ];omega
def ew(k:Kind):List (List UInt8):=if k.al=[]then[]else[k.al]
def mt(m:Method):List (List UInt8):=m.cD.flatMap ew++ew m.Returns++m.cL.map (·.al)
def iu(c:al):List (List UInt8):=c.Fields.flatMap (λ f=>ew f.Kind)++c.bn.flatMap mt
def va(l:List al):List (List UInt8):=l.flatMap iu
def lj(l:List al)(s:List UInt8):Option Int:=if 0<=cY l s then none else some 5
theorem y3(k:Kind):(ew k).length<=1:=by unfold ew;split<;>simp
section
variable{F:Nat}{l:List al}
theorem alb(h:Right l){c:al}(hc:c∈l){m:Method}(a:m∈c.bn):(mt m).length<=9:=by have b:=h.method c hc m a;have J:=Bm (l:=m.cD) (g:=ew) (B:=1) (λ k _=>y3 k);have d:=y3 m.Returns;unfold mt;simp only[dj,gJ];omega
theorem agi(h:Right l){c:al}(hc:c∈l):(iu c).length<=78:=by have b:=Bm (l:=c.Fields) (g:=λ f=>ew f.Kind) (B:=1) (λ f _=>y3 f.Kind);have J:=Bm (l:=c.bn) (g:=mt) (B:=9) (λ m a=>alb h hc a);have d:=h.fields c hc;have e:=h.methods c hc;unfold iu;simp only[dj];omega
theorem im{b:Nat}{α:Type}{acc r:List α}(h:(acc.length+r.length)*b<=140737488355328):bE b acc r=some (acc++r):=by unfold bE;rw[lz h]
theorem acH{acc:List (List UInt8)}(h:acc.length<=5000)(k:Kind):F5 k acc=some (acc++ew k):=by
 unfold F5 ew;by_cases e:k.al=[]
 ·rw[lu e,lz e];simp
 ·rw[lx e,ly e];simp only[hF,lA];rw[im (by simp only[cT,gI];omega)];rfl
theorem aLn(z:1100<F)(h:Right l)(m:List (List UInt8×Int))(s:List Int):zo F ⟨l,m,s⟩ F [] 0=some (va l):=by
 have d:=h.len;have:=xY (l:=l) (λ k acc i=>zo F ⟨l,m,s⟩ k acc (i:Int)) iu 78 2000 (λ c hc=>agi h hc) (λ k i c acc ad a=>by
  have hc:=b_ ad;have A:=h.fields c hc;have C:=h.methods c hc;have hi:=(ba.1 ad).1;have o:∀acc:List (List UInt8),acc.length<=2000 ->zp c F acc 0=some (acc++c.Fields.flatMap λ f=>ew f.Kind):=λ acc j=>xY (l:=c.Fields) (λ k acc i=>zp c k acc (i:Int)) (λ f=>ew f.Kind) 1 3000 (λ f _=>y3 f.Kind) (λ k i f acc ad a=>by have hi:=(ba.1 ad).1;rw[zp,bH hi,lA,br ad,ae,acH (by omega),ae,eE hi (by omega)]) (λ k acc=>by rw[zp,bG];rfl) (by omega) (by omega)
  have p:∀acc:List (List UInt8),acc.length<=2100 ->uD F c F acc 0=some (acc++c.bn.flatMap mt):=λ acc j=>
   xY (l:=c.bn) (λ k acc i=>uD F c k acc (i:Int)) mt 9 3000 (λ m b=>alb h hc b) (λ k i m acc ad a=>by
    have b:=b_ ad;have hi:=(ba.1 ad).1;obtain⟨D,E⟩:=h.method c hc m b;have q:zq m F acc 0=some (acc++m.cD.flatMap ew):=xY (l:=m.cD) (λ k acc i=>zq m k acc (i:Int)) ew 1 3100 (λ k _=>y3 k) (λ k i x acc ad a=>by have hi:=(ba.1 ad).1;rw[zq,bH hi,lA,br ad,ae,acH (by omega),ae,eE hi (by omega)]) (λ k acc=>by rw[zq,bG];rfl) (by omega) (by omega);have t:=Bm (l:=m.cD) (g:=ew) (B:=1) (λ k _=>y3 k);have u:=y3 m.Returns;have v:∀acc:List (List UInt8),acc.length<=3200 ->uE m F acc 0=some (acc++m.cL.flatMap λ h=>[h.al]):=λ acc j=>xY (l:=m.cL) (λ k acc i=>uE m k acc (i:Int)) (λ h=>[h.al]) 1 3300 (λ k _=>by simp) (λ k i x acc ad a=>by have hi:=(ba.1 ad).1;rw[uE,bH hi,lA,br ad,ae,im (by simp only[cT,gI];omega),ae,eE hi (by omega)]) (λ k acc=>by rw[uE,bG];rfl) (by omega) (by omega)
    rw[uD,bH hi,lA,br ad,ae,q,ae,acH (k:=(⟨m.Returns.Kind,m.Returns.al⟩:Kind)) (by simp only[dj];omega),ae,
     v _ (by simp only[dj];have:(ew (⟨m.Returns.Kind,m.Returns.al⟩:Kind)).length<=1:=y3 _;omega),ae,ae,eE hi (by omega)]
    have e:(m.cL.flatMap λ h=>[h.al])=m.cL.map (·.al):=by
     induction m.cL with
     |nil=>rfl
     |cons x r w=>rw[hz,w];rfl
    rw[e];unfold mt;simp only[eY]) (λ k acc=>by rw[uD,bG];rfl) (by omega) (by omega)
  have t:=Bm (l:=c.Fields) (g:=λ f=>ew f.Kind) (B:=1) (λ f _=>y3 f.Kind);rw[zo];have y:decide ((i:Int)<((⟨l,m,s⟩:bt).l.length:Int))=true:=bH (n:=l.length) hi;rw[y,lA];show(dP (α:=List (List UInt8)) ((idx l (i:Int)).bind λ G=>_) _)=_
  rw[br ad,ae,o acc (by omega),ae,p _ (by simp only[dj];omega),ae,ae,eE hi (by omega)];unfold iu;simp only[eY]) (λ k acc=>by
   rw[zo];show cond (decide ((l.length:Int)<(l.length:Int))) _ _=_
   rw[bG];rfl) (F:=F) (by omega) (acc:=[]) (by simp;omega)
 simpa[va]using this
theorem Z8(s:List UInt8):(cB (ft 0 l) s).isSome=decide (0<=cY l s):=by
 rw[I7];unfold cY;cases eK (gU s) l with
 |none=>simp
 |some i=>simp
theorem aLl(b:1100<F)(h:Right l)(s:List Int):My F ⟨l,ft 0 l,s⟩=some (((va l).findSome? (lj l)).getD 0):=by
 have a:=h.len;unfold My;have d:=aLn b h (ft 0 l) s;have su:(va l).length<=780:=by have:=Bm (l:=l) (g:=iu) (B:=78) (λ c hc=>agi h hc);unfold va;omega
 rw[d,ae];have f:B9 ⟨l,ft 0 l,s⟩ (va l) F 0=some (cz ((va l).findSome? (lj l))):=each (lj l) (by omega) (λ k i x ad=>by
  rw[B9,bH (ba.1 ad).1,lA,br ad,ae];show cond (!(cB (ft 0 l) x).isSome) _ _=_
  rw[Z8];unfold lj;by_cases e:0<=cY l x;rw[lu e,lz e];rfl
  ·rw[lx e,ly e];rfl) (λ k=>by rw[B9,bG];rfl) (by omega)
 rw[f];cases(va l).findSome? (lj l)<;>rfl
def p'(l:List al)(k:Kind):Option Int:=(ew k).findSome? (lj l)
theorem an7{s:List UInt8}:lj l s=none\/lj l s=some 5:=by unfold lj;split<;>simp
theorem vW{α:Type}{g:α->Option Int}{e:Int}(a:∀x,g x=none\/g x=some e):∀r:List α,r.findSome? g=none\/r.findSome? g=some e
 |[]=>.inl rfl
 |x::r=>by rw[ih];rcases a x with h |h;rw[h];exact vW a r;rw[h];exact .inr rfl
theorem aDO(k:Kind):p' l k=if k.al=[]\/0<=cY l k.al then none else some 5:=by
 unfold p' ew lj;by_cases e:k.al=[]
 ·simp[e]
 ·by_cases e2:0<=cY l k.al<;>simp[e,e2]
theorem US(h:Small F l.length){a:List Kind}(b:Small F a.length):Ew F l a=some (a.findSome? (p' l)).isNone:=by
 unfold Ew;have l1:=each (l:=a) (L:=AU F a l) (λ k=>(p' l k).map λ _=>false) b.1 (λ k i x ad=>by
  rw[AU,bH (ba.1 ad).1,lA,br ad,ae,ae,AN h,ae,aDO];by_cases e:x.al=[]
  ·rw[lz (.inl e),lu e];rfl
  ·rw[lx e];by_cases e2:0<=cY l x.al;rw[lz (.inr e2),lx (show¬cY l x.al<0 by omega)];rfl
   ·rw[ly (by simp[e,e2]),lu (show cY l x.al<0 by omega)];rfl) (λ k=>by rw[AU,bG];rfl) b.2
 rw[l1,PX];cases a.findSome? (p' l)<;>rfl
theorem YU{o:Option Int}(h:o=none\/o=some 5)(Y:Option (Way Int Unit)):cond (!o.isNone) (some (.out 5)) Y=hW o Y:=by rcases h with h |h<;>rw[h]<;>rfl
theorem Y6(k:Kind):p' l k=none\/p' l k=some 5:=vW (λ _=>an7) _
theorem NU{o a:Option Int}{Y:Option (Way Int Unit)}:hW o (hW a Y)=hW (o.or a) Y:=by cases o<;>rfl
theorem aLm(r:1100<F)(h:Right l):AL F l F 0=some (cz ((va l).findSome? (lj l))):=by
 have b:=h.len;have:=each (l:=l) (L:=AL F l) (λ c=>(iu c).findSome? (lj l)) (by omega) (λ k n c ad=>by
  have hc:=b_ ad;have s:=h.fields c hc;have t:=h.methods c hc;have j:DU F l (n:Int) F 0=some (cz (c.Fields.findSome? λ f=>p' l f.Kind)):=each (l:=c.Fields) (λ f=>p' l f.Kind) (by omega) (λ k i f hy=>by rw[DU,br ad,ae,bH (ba.1 hy).1,lA,ae,br hy,ae,US ⟨by omega,by omega⟩ ⟨by simp,by simp;omega⟩,ae];have e:[(⟨f.Kind.Kind,f.Kind.al⟩:Kind)].findSome? (p' l)=p' l f.Kind:=alR;rw[e];exact YU (Y6 _) _) (λ k=>by rw[DU,br ad,ae,bG];rfl) (by omega);have o:DV F l (n:Int) F 0=some (cz (c.bn.findSome? λ m=>(mt m).findSome? (lj l))):=each (l:=c.bn) (λ m=>(mt m).findSome? (lj l)) (by omega) (λ k i m hy=>by
   have p:=b_ hy;obtain⟨u,v⟩:=h.method c hc m p;have q:DW F l m F 0=some (cz (m.cL.findSome? λ x=>lj l x.al)):=each (l:=m.cL) (λ x=>lj l x.al) (by omega) (λ k i x d=>by
    rw[DW,bH (ba.1 d).1,lA,br d,ae,AN ⟨by omega,by omega⟩,ae];unfold lj;by_cases e2:0<=cY l x.al;rw[lz e2,lx (show¬cY l x.al<0 by omega)];rfl
    ·rw[ly e2,lu (show cY l x.al<0 by omega)];rfl) (λ k=>by rw[DW,bG];rfl) (by omega)
   have e:[(⟨m.Returns.Kind,m.Returns.al⟩:Kind)].findSome? (p' l)=p' l m.Returns:=alR;rw[DV,br ad,ae,bH (ba.1 hy).1,lA,ae,br hy,ae,US ⟨by omega,by omega⟩ ⟨by omega,by omega⟩,ae,US ⟨by omega,by omega⟩ ⟨by simp,by simp;omega⟩,ae,q,e,qp];rw[YU (Y6 _),YU (vW (λ k=>Y6 k) _),NU,NU,sX,qn];congr 1;unfold mt;rw[kp,kp,K8,List.findSome?_map];cases g:m.cD.findSome? (p' l)with
   |some a=>have:(m.cD.findSome? λ x=>(ew x).findSome? (lj l))=some a:=g;rw[this];rfl
   |none=>have:(m.cD.findSome? λ x=>(ew x).findSome? (lj l))=none:=g;rw[this];rfl) (λ k=>by rw[DV,br ad,ae,bG];rfl) (by omega)
  rw[AL,bH (ba.1 ad).1,lA,j,o,qp,qp,NU,sX,qn];congr 1;unfold iu;rw[kp,K8,K8];rfl) (λ k=>by rw[AL,bG];rfl) (F:=F) (by omega)
 rw[this,va,K8]
end
theorem Rm{cU β:Type} [DecidableEq cU]{k:cU}{v:β}:∀m:List (cU×β),(gP m k v).length=if(cB m k).isSome then m.length else m.length+1
 |[]=>rfl
 |p::r=>by simp only[gP,cB];by_cases h:p.1=k;simp[h];simp only[ly h,cT,Rm r];split<;>rfl
theorem MG{cU β:Type} [DecidableEq cU]{k s:cU}{v:β}:∀m:List (cU×β),(cB (gP m k v) s).isSome=true↔s=k\/(cB m s).isSome=true
 |[]=>by simp only[gP,cB];by_cases h:k=s;simp[h];simp[h];exact λ e=>h e.symm
 |p::r=>by have a:=MG (k:=k) (s:=s) (v:=v) r;simp only[gP];by_cases h:p.1=k;rw[lz h];simp only[cB];by_cases e:k=s;simp[e];have e2: ¬p.1=s:=λ x=>e (h.symm.trans x);rw[ly e,ly e2];constructor;exact λ x=>.inr x;rintro(x |x);exact absurd x.symm e;exact x;rw[ly h];simp only[cB];by_cases e:p.1=s;simp[e];rw[ly e,ly e];exact a
def yb(ns:List (List UInt8)):Option Int:=if ns.Nodup then none else some 6
section
variable{F:Nat}{l:List al}
theorem aob(r:1100<F){ns:List (List UInt8)}(t:ns.length<=1000):IR F ns=some (decide (¬ns.Nodup)):=by
 have key:∀(d i k:Nat)(m:List (List UInt8×Bool)),i+d=ns.length->d<k->(∀s,(cB m s).isSome=true↔s∈ns.take i)->m.length<=i->(m.length=i↔(ns.take i).Nodup) ->
  ∃g,B_ ns k m (i:Int)=some g/\g.length<=ns.length/\(g.length=ns.length↔ns.Nodup):=by
  intro d
  induction d with
  |zero=>
   intro i k m hi o f J c;obtain⟨k,rfl⟩:∃k',k=k'+1:=⟨k-1,by omega⟩
   have:i=ns.length:=by omega
   subst this;rw[iH]at c;exact⟨m,by rw[B_,bG];rfl,J,c⟩
  |succ d p=>
   intro i k m hi o f J c;obtain⟨k,rfl⟩:∃k',k=k'+1:=⟨k-1,by omega⟩
   have j:i<ns.length:=by omega
   have e1:ns.take (i+1)=ns.take i++[ns[i]]:=by rw[j8,aR j];rfl
   rw[B_,bH j,lA,br (aR j),ae,eE j (by omega)];refine p (i+1) k _ (by omega) (by omega) (λ s=>?_) ?_ ?_;rw[MG,f,e1,cg,dm];constructor;rintro(h |h);exact .inr h;exact .inl h;rintro(h |h);exact .inr h;exact .inl h;rw[Rm];split<;>omega;rw[Rm,e1,eT];by_cases n:(cB m ns[i]).isSome=true;rw[lz n];have:=(f ns[i]).1 n;constructor;intro h;omega;rintro⟨_,_,h⟩;exact absurd rfl (h _ this _ (by simp));rw[ly n];have:ns[i]∉ns.take i:=λ h=>n ((f ns[i]).2 h);constructor;intro h;exact⟨c.1 (by omega),by simp,λ a q b ag e=>by rw[dm]at ag;subst ag;exact this (e▸q)⟩;rintro⟨h,_,_⟩;have:=c.2 h;omega
 obtain⟨g,f,J,c⟩:=key ns.length 0 F [] (by omega) (by omega) (λ s=>by simp[cB]) (by simp) (by simp);unfold IR;rw[show(0 :Int)=((0 :Nat):Int) from rfl,f,ae];congr 1;by_cases aK:ns.Nodup;have:=c.2 aK;rw[lx (by omega),lx (by simp[aK])];have:g.length≠ns.length:=λ e=>aK (c.1 e);rw[lu (by omega),lu aK]
def Vr{α:Type}(nm:α->List UInt8)(r:List α):Option Int:=(dR r.length).findSome? λ k=>(dR k).findSome? λ j=>if(r[j]?).map nm=(r[k]?).map nm then some 6 else none
theorem agv{α:Type}(nm:α->List UInt8)(r:List α):Vr nm r=yb (r.map nm):=by have c:Vr nm r=none\/Vr nm r=some 6:=vW (λ k=>vW (λ j=>by split<;>simp) _) _;unfold yb;by_cases aK:(r.map nm).Nodup;rw[lz aK];rcases c with h |h;exact h;exfalso;obtain⟨k,a,b⟩:=dX h;obtain⟨j,ax,J⟩:=dX b;simp only[j3]at a ax;split at J;rename_i e;have:=iq.1 aK j k (by simp;omega) (by simpa using a) ax;apply this;rw[aR (by omega),aR a]at e;simpa using e;cases J;rw[ly aK];rcases c with h |h;exfalso;apply aK;refine iq.2 λ j k ax a wl e=>?_;have b:=fZ.1 h k (by simpa using a);have J:=fZ.1 b j (by simpa using wl);simp only[gJ]at ax a;rw[aR ax,aR a]at J;simp only[j5]at e;rw[lz (by simp[e])]at J;cases J;exact h
theorem axB(b:1100<F)(r:List Field)(c:r.length<=1000):DN F r F 0=some (cz (yb (r.map (·.Name)))):=by
 rw[<-agv];exact mg _ (by omega) (λ k i hi=>by
  have a:DO r (i:Int) F 0=some (cz ((dR i).findSome? λ j=>if(r[j]?).map (·.Name)=(r[i]?).map (·.Name)then some 6 else none)):=mg _ (by omega) (λ k j ax=>by
   rw[DO,bH ax,lA,br (aR (show j<r.length by omega)),ae,br (aR hi),ae,aR (show j<r.length by omega),aR hi];simp only[fs,aM];by_cases e:r[j].Name=r[i].Name;rw[lu e,lz e];rfl
   ·rw[lx e,ly e];rfl) (λ k=>by rw[DO,bG];rfl) (by omega)
  rw[DN,bH hi,lA,a,qp,sX,qn]) (λ k=>by rw[DN,bG];rfl) (by omega)
theorem axC(b:1100<F)(c:al)(d:c.bn.length<=1000):vH F c F 0=some (cz (yb (c.bn.map (·.Name)))):=by
 rw[<-agv];exact mg _ (by omega) (λ k i hi=>by
  have a:vI c (i:Int) F 0=some (cz ((dR i).findSome? λ j=>if(c.bn[j]?).map (·.Name)=(c.bn[i]?).map (·.Name)then some 6 else none)):=mg _ (by omega) (λ k j ax=>by
   rw[vI,bH ax,lA,br (aR (show j<c.bn.length by omega)),ae,br (aR hi),ae,aR (show j<c.bn.length by omega),aR hi];simp only[fs,aM];by_cases e:c.bn[j].Name=c.bn[i].Name;rw[lu e,lz e];rfl
   ·rw[lx e,ly e];rfl) (λ k=>by rw[vI,bG];rfl) (by omega)
  rw[vH,bH hi,lA,a,qp,sX,qn]) (λ k=>by rw[vH,bG];rfl) (by omega)
def CA(l:List al)(i:Nat):Option Int:=(yb ((gi l i).map (·.Name))).or (yb ((fq l i).map (·.Name)))
theorem ah1(h:jc l){n:Int}(a:0<=n)(b:n<l.length):(gi l n).length<=60:=by obtain⟨_,c,_⟩:=h.chain a b;have:=Wd h.right (dH l n).reverse;unfold gi;simp only[kh]at this;omega
theorem agw{ns:List (List UInt8)}{Y:Option (Way Int Unit)}:cond (decide (¬ns.Nodup)) (some (.out 6)) Y=hW (yb ns) Y:=by unfold yb;by_cases h:ns.Nodup;rw[lz h,lx (by simp[h])];rfl;rw[ly h,lu h];rfl
theorem ak'{i:Nat}{c:al}(h:l[i]? =some c):fq l (i:Int)=c.bn:=by unfold fq;rw[br h];rfl
theorem aHd(a:1100<F)(h:jc l):DX F l F 0=some (cz ((dR l.length).findSome? (CA l))):=by
 have b:=h.right.len;exact mg _ (by omega) (λ k i hi=>by
  obtain⟨c,ad⟩:∃x,l[i]? =some x:=⟨l[i],aR hi⟩
  have d:=h.right.methods c (b_ ad);have e:=ah1 h (n:=(i:Int)) (by omega) (by omega);rw[DX,bH hi,lA,h.abV a (by omega) (by omega),ae,axB a _ (by omega),qp,br ad,ae,axC a c (by omega),qp,NU,sX,qn];unfold CA;rw[ak' ad]) (λ k=>by rw[DX,bG];rfl) (by omega)
theorem aHc(a:1100<F)(h:jc l)(m:List (List UInt8×Int)):Mx F ⟨l,m,dx l⟩=some (((dR l.length).findSome? (CA l)).getD 0):=by
 have e:=h.right.len;have:=mg (n:=l.length) (L:=B6 F ⟨l,m,dx l⟩) (CA l) (by omega) (λ k i hi=>by
  obtain⟨c,ad⟩:∃x,l[i]? =some x:=⟨l[i],aR hi⟩
  have s:=h.right.methods c (b_ ad);have t:=ah1 h (n:=(i:Int)) (by omega) (by omega);have g:zn (gi l i) F [] 0=some ((gi l i).map (·.Name)):=by
   have:=xY (l:=gi l i) (λ k acc i'=>zn (gi l i) k acc (i':Int)) (λ f=>[f.Name]) 1 3000 (λ f _=>by simp) (λ k j x acc ad o=>by have ax:=(ba.1 ad).1;rw[zn,bH ax,lA,br ad,ae,im (by simp only[cT,gI];omega),ae,eE ax (by omega)]) (λ k acc=>by rw[zn,bG];rfl) (F:=F) (by omega) (acc:=[]) (by simp;omega);rw[show(0 :Int)=((0 :Nat):Int) from rfl,this];congr 1;rw[ie];induction gi l i with
   |nil=>rfl
   |cons x r b=>rw[hz,b];rfl
  have p:uC c F [] 0=some (c.bn.map (·.Name)):=by
   have:=xY (l:=c.bn) (λ k acc i'=>uC c k acc (i':Int)) (λ f=>[f.Name]) 1 3000 (λ f _=>by simp) (λ k j x acc ad o=>by have ax:=(ba.1 ad).1;rw[uC,bH ax,lA,br ad,ae,im (by simp only[cT,gI];omega),ae,eE ax (by omega)]) (λ k acc=>by rw[uC,bG];rfl) (F:=F) (by omega) (acc:=[]) (by simp;omega);rw[show(0 :Int)=((0 :Nat):Int) from rfl,this];congr 1;rw[ie];induction c.bn with
   |nil=>rfl
   |cons x r b=>rw[hz,b];rfl
  rw[B6];have q:decide ((i:Int)<((⟨l,m,dx l⟩:bt).l.length:Int))=true:=bH (n:=l.length) hi;have d:=h.Zw a m (n:=(i:Int)) (by omega) (by omega);rw[q,lA];show di (α:=Unit) ((idx l (i:Int)).bind λ u=>(wE F ⟨l,m,dx l⟩ (i:Int)).bind λ v=>_) _=_
  rw[br ad,ae,d,ae,g,ae,p,ae,aob a (by simp;omega),ae,aob a (by simp;omega),ae,agw,agw,NU,sX,qn];unfold CA;rw[ak' ad]) (λ k=>by
   rw[B6];show cond (decide ((l.length:Int)<(l.length:Int))) _ _=_
   rw[bG];rfl) (F:=F) (by omega)
 unfold Mx;rw[this];cases(dR l.length).findSome? (CA l)<;>rfl
theorem ant{a b:List Kind}(h:a.length<=1000)(ag:b.length<=1000)(j:1100<F):xX F a b=some (decide (a=b)):=by
 unfold xX;by_cases f:a.length=b.length
 ·rw[lu (show(a.length:Int)=(b.length:Int) by omega)];simp only[c7,lK]
  have l1:r6 a b F 0=some (cz ((dR a.length).findSome? λ i=>if a[i]? =b[i]? then none else some false)):=mg _ (by omega) (λ k i hi=>by
   rw[r6,bH hi,lA,br (aR hi),ae,br (aR (show i<b.length by omega)),ae,aR hi,aR (show i<b.length by omega)];simp only[aM];by_cases e:a[i]=b[i];rw[lu e,lz e];rfl
   ·rw[lx e,ly e];rfl) (λ k=>by rw[r6,bG];rfl) (by omega)
  rw[l1,lg];cases d:(dR a.length).findSome? λ i=>if a[i]? =b[i]? then none else some false with
  |some e=>obtain⟨i,hi,c⟩:=dX d;split at c;cases c;rename_i g;injection c with c;subst c;rw[lx (λ e=>g (by rw[e]))];rfl
  |none=>rw[lu];rfl;apply jZ;intro i;by_cases hi:i<a.length;have:=fZ.1 d i (by simpa using hi);split at this;assumption;cases this;rw[fk (by omega),fk (by omega)]
 ·rw[lx (show¬(a.length:Int)=(b.length:Int) by omega),lx (λ e=>f (by rw[e]))];rfl
theorem ay0{a b:List Kind}(c:a.length<=1000)(ag:b.length<=1000)(d:1100<F):NC F a b=some (decide (a=b)):=by
 rw[<-ant c ag d];unfold NC xX;have e:∀k n,Gv a b k n=r6 a b k n:=by
  intro k;induction k with
  |zero=>intro n;rfl
  |succ k f=>intro n;rw[Gv,r6];simp only[f]
 rw[e]
def Vh(a b:Method):Bool:=decide (a.Name=b.Name)&&(a.Static||b.Static|| !decide (a.cD=b.cD)|| !decide (a.Returns=b.Returns))
def sb(a b:Method):Option Int:=if Vh a b then some 4 else none
def x'(l:List al)(c:al)(u:Int):Option Int:=c.bn.findSome? λ a=>(fq l u).findSome? (sb a)
def IY(l:List al)(c:al)(i:Nat):Option Int:=(dH l i).tail.findSome? (x' l c)
theorem awX(a b:Method):sb a b=none\/sb a b=some 4:=by unfold sb;split<;>simp
theorem af7(c:al)(u:Int):x' l c u=none\/x' l c u=some 4:=vW (λ _=>vW (λ _=>awX _ _) _) _
theorem azX{α:Type}{g:α->Option Int}{e:Int}(a:∀x,g x=none\/g x=some e)(r:List α):r.reverse.findSome? g=r.findSome? g:=by rcases vW a r with h |h;rw[h,fZ];intro x ad;exact fZ.1 h x (by simpa using ad);rw[h];rcases vW a r.reverse with J |J;obtain⟨x,ad,b⟩:=dX h;have:=fZ.1 J x (by simpa using ad);rw[b]at this;cases this;exact J
theorem aFZ(o:1100<F)(h:jc l)(m:List (List UInt8×Int)):Mw F ⟨l,m,dx l⟩=some (((dR l.length).findSome? λ i=>(l[i]?).bind λ c=>IY l c i).getD 0):=by
 have p:=h.right.len;have:=mg (n:=l.length) (L:=B3 F ⟨l,m,dx l⟩) (λ i=>(l[i]?).bind λ c=>IY l c i) (by omega) (λ k i hi=>by
  obtain⟨c,ad⟩:∃x,l[i]? =some x:=⟨l[i],aR hi⟩
  have q:=b_ ad;have N:=h.right.methods c q;obtain⟨v,O,w⟩:=h.chain (n:=(i:Int)) (by omega) (by omega);obtain⟨r,s⟩:=acN v (by omega);have y:∀(a:Method),a∈c.bn->∀(u:al),u∈l->uB F a u F 0=some (cz (u.bn.findSome? (sb a))):=λ a e u d=>each (sb a) (by have:=h.right.methods u d;omega) (λ k j b ag=>by
   have z:=b_ ag;have A:=h.right.method c q a e;have P:=h.right.method u d b z;rw[uB,bH (ba.1 ag).1,lA,br ag,ae];unfold Q8;simp only;rw[ay0 (by omega) (by omega) o];unfold sb Vh;show cond _ (dP (cond _ (dP _ λ r=>cond r (some (decide (a.Returns=b.Returns))) _) _) _) _=_
   by_cases t:a.Name=b.Name;rw[lu t];simp only[ae,lA,jF];cases a.Static<;>cases b.Static<;>cases decide (a.cD=b.cD)<;>cases decide (a.Returns=b.Returns)<;>rfl
   ·rw[lx t];rfl) (λ k=>by rw[uB,bG];rfl) (by have:=h.right.methods u d;omega)
  have B:∀(x:Int),0<=x->x<l.length->B5 F ⟨l,m,dx l⟩ c x F 0=some (cz (x' l c x)):=λ x C D=>each (λ a=>(fq l x).findSome? (sb a)) (by omega) (λ k j a e=>by
   obtain⟨u,d,_⟩:=zS (l:=l) C D;have E:u∈l:=by obtain⟨_,_,J⟩:=np d;exact b_ J
   have G:fq l x=u.bn:=by unfold fq;rw[d];rfl
   rw[B5,bH (ba.1 e).1,lA,br e,ae];show di (α:=Unit) ((idx l x).bind λ Q=>_) _=_
   rw[d,ae,y a (b_ e) u E,qp,sX,qn,G]) (λ k=>by rw[B5,bG];rfl) (by omega)
  have H:B4 F ⟨l,m,dx l⟩ c (dH l i).tail F 0=some (cz ((dH l i).tail.findSome? (x' l c))):=each (x' l c) (by simp;omega) (λ k j x f=>by have ag:=w x (List.mem_of_mem_tail (b_ f));rw[B4,bH (ba.1 f).1,lA,br f,ae,B x ag.1 ag.2,qp,sX,qn]) (λ k=>by rw[B4,bG];rfl) (by simp;omega);rw[B3];have I:decide ((i:Int)<((⟨l,m,dx l⟩:bt).l.length:Int))=true:=bH (n:=l.length) hi;have g:=h.Zv o m (n:=(i:Int)) (by omega) (by omega);rw[I,lA];show di (α:=Unit) ((idx l (i:Int)).bind λ R=>(uz F ⟨l,m,dx l⟩ (i:Int)).bind λ K=>_) _=_
  have M:cut (dH l i) 1 ((dH l i).length:Int)=some (dH l i).tail:=by unfold cut;rw[lz (by rw[s];simp only[cT];omega)];rw[s];simp
  rw[br ad,ae,g,ae,M,ae,H,qp,sX,qn,ad];rfl) (λ k=>by
   rw[B3];show cond (decide ((l.length:Int)<(l.length:Int))) _ _=_
   rw[bG];rfl) (F:=F) (by omega)
 unfold Mw;rw[this];cases(dR l.length).findSome? (λ i=>(l[i]?).bind λ c=>IY l c i)<;>rfl
theorem aF0(y:1100<F)(h:jc l):DP F l F 0=some (cz ((dR l.length).findSome? λ i=>(l[i]?).bind λ c=>IY l c i)):=by
 have z:=h.right.len;exact mg _ (by omega) (λ k i hi=>by
  obtain⟨c,ad⟩:∃x,l[i]? =some x:=⟨l[i],aR hi⟩
  have A:=b_ ad;have N:=h.right.methods c A;obtain⟨G,O,H⟩:=h.chain (n:=(i:Int)) (by omega) (by omega);obtain⟨r,B⟩:=acN G (by omega);have f:(dH l i).reverse=(dH l i).tail.reverse++[(i:Int)]:=by rw[B];simp
  have g:DQ F l (i:Int) (dH l i).reverse F 0=some (cz ((dH l i).tail.reverse.findSome? (x' l c))):=each (l:=(dH l i).tail.reverse) (x' l c) (by simp;omega) (λ k u x m=>by
   have C:=(ba.1 m).1;have ag:=H x (List.mem_of_mem_tail (by simpa using b_ m));obtain⟨w,e,_⟩:=zS (l:=l) ag.1 ag.2;have D:w∈l:=by obtain⟨_,_,J⟩:=np e;exact b_ J
   have I:=h.right.methods w D;have K:fq l x=w.bn:=by unfold fq;rw[e];rfl
   have d:(dH l i).reverse[u]? =some x:=by rw[f,dS C];exact m
   have o:DR F l (i:Int) (dH l i).reverse (u:Int) F 0=some (cz (x' l c x)):=each (l:=c.bn) (λ a=>(fq l x).findSome? (sb a)) (by omega) (λ k j a p=>by
    have s:=b_ p;have t:AJ F l (i:Int) (dH l i).reverse (u:Int) (j:Int) F 0=some (cz (w.bn.findSome? (sb a))):=each (l:=w.bn) (sb a) (by omega) (λ k q b ag=>by
     have L:=b_ ag;have M:=h.right.method c A a s;have P:=h.right.method w D b L;rw[AJ];simp only[br d,ae,e,bH (ba.1 ag).1,lA,br ad,br p,br ag];rw[ant (by omega) (by omega) y];unfold sb Vh;show cond _ (cond _ _ (dP _ λ r=>cond (!r) _ (cond (!decide (a.Returns=b.Returns)) _ _))) _=_
     by_cases E:a.Name=b.Name;rw[lu E];simp only[ae,lA,jF];cases a.Static<;>cases b.Static<;>cases decide (a.cD=b.cD)<;>cases decide (a.Returns=b.Returns)<;>rfl
     ·rw[lx E];rfl) (λ k=>by rw[AJ];simp only[br d,ae,e,bG];rfl) (by omega)
    rw[DR,br ad,ae,bH (ba.1 p).1,lA,t,qp,sX,qn,K]) (λ k=>by rw[DR,br ad,ae,bG];rfl) (by omega)
   have v:decide ((u:Int)<ap (((dH l i).reverse.length:Int)-1))=true:=by rw[bX (by omega) (by simp;omega)];simp only[kh,List.length_tail]at C;exact lu (by simp only[kh];omega)
   rw[DQ,v,lA,o,qp,sX,qn]) (λ k=>by
    have v:decide (((dH l i).tail.reverse.length:Int)<ap (((dH l i).reverse.length:Int)-1))=false:=by rw[bX (by omega) (by simp;omega)];exact lx (by rw[B];simp)
    rw[DQ,v];rfl) (by simp;omega)
  rw[DP,bH hi,lA,S8 y h.right (by omega),ae,g,qp,sX,qn,ad,azX (af7 c)];rfl) (λ k=>by rw[DP,bG];rfl) (by omega)
end
def wd(W:List Int)(i:Nat):Int:=(W[i]?).getD 0
def jD(k:aN)(t:Int):List Field:=(k.Fields[(t-3).toNat]?).getD []
def fb(k:aN)(t:Int):Bool:=decide (1<=t)&&decide (t<=2+k.aV.length)
def isLen(k:aN)(t n:Int):Bool:=decide (0<=n)&&decide (n<=500)&&(decide (t<3)||decide (n=(jD k t).length))
def ep(k:aN)(t:Int)(j:Nat):Bool:=decide (t=2)||(decide (3<=t)&&((jD k t)[j]?.map λ f=>!decide (f.Kind.Kind=1)).getD false)
structure gM (k:aN):Prop where
 cl:k.aV.length<=1000
 pU:k.Fields.length=k.aV.length
theorem fI{W:List Int}{i:Nat}(h:i<W.length):idx W (i:Int)=some (wd W i):=by rw[br (aR h)];unfold wd;rw[aR h];rfl
theorem h8{W:List Int}{a:Int}{i:Nat}(e:a=(i:Int))(h:i<W.length):idx W a=some (wd W i):=by rw[e];exact fI h
theorem aDz{k:aN}{t:Int}:fb k t=true↔1<=t/\t<=2+k.aV.length:=by simp[fb]
theorem jz{k:aN}{t n:Int}:isLen k t n=true↔(0<=n/\n<=500)/\(t<3\/n=(jD k t).length):=by simp[isLen]
section
variable{k:aN}
theorem aci(h:gM k)(t:Int):ui ⟨k⟩ t=some (fb k t):=by
 have hc:=h.cl;unfold ui qX fb;have e:ap (ap (3+(k.aV.length:Int))-1)=2+k.aV.length:=by rw[bX (n:=3+(k.aV.length:Int)) (by omega) (by omega),bX (by omega) (by omega)];omega
 simp only[e,ae];by_cases a:t=1;subst a;simp;omega;by_cases J:t=2;subst J;simp;omega;rw[show((decide (t=1))||(decide (t=2)))=false by simp[a,J],lK,aM,h5];simp;omega
theorem SY(h:gM k){t:Int}(a:fb k t=true)(b: ¬t<3):idx k.Fields (ap (t-3))=some (jD k t):=by
 obtain⟨c,J⟩:=aDz.1 a;have hc:=h.cl;have d:=h.pU;rw[bX (by omega) (by omega)];unfold idx jD;rw[lz (by omega)];have:(t-3).toNat<k.Fields.length:=by omega
 rw[aR this];rfl
theorem acj(h:gM k){t:Int}(b:fb k t=true)(n:Int):uj ⟨k⟩ t n=some (isLen k t n):=by
 unfold uj qX isLen;simp only[ae];cases ag:(decide (0<=n)&&decide (n<=500))with
 |false=>simp
 |true=>by_cases a:t<3;simp[a];rw[SY h b a];simp[a]
theorem SI(h:gM k){t:Int}(d:fb k t=true){n:Int}(e:isLen k t n=true){j:Nat}(ax:(j:Int)<n):sp ⟨k⟩ t (j:Int)=some (ep k t j):=by
 unfold sp ep;obtain⟨_,a⟩:=jz.1 e;by_cases J:t=2;simp[J];by_cases b:t<3
 ·have: ¬3<=t:=by omega
  simp[J,this]
 ·have a:=a.resolve_left b;have f:3<=t:=by omega
  have c:j<(jD k t).length:=by omega
  rw[SY h d b,ae,br (aR c),aR c];simp[J,f]
inductive eQ (k:aN) (W:List Int) (to:Nat):Nat->List Int->Prop
 |nil:eQ k W to to []
 |cons {q:Nat} {r:List Int}:fb k (wd W q)=true->isLen k (wd W q) (wd W (q+1))=true->q+3+(wd W (q+1)).toNat<=to->eQ k W to (q+3+(wd W (q+1)).toNat) r->eQ k W to q ((q:Int)::r)
theorem eQ.inv{W:List Int}{to q:Nat}{L:List Int}(h:eQ k W to q L)(d:q<to):∃r,L=(q:Int)::r/\fb k (wd W q)=true/\isLen k (wd W q) (wd W (q+1))=true/\q+3+(wd W (q+1)).toNat<=to/\eQ k W to (q+3+(wd W (q+1)).toNat) r:=by
 cases h with
 |nil=>omega
 |cons a J b c=>exact⟨_,rfl,a,J,b,c⟩
theorem aLg(v:bp)(aj:gM v.S.K){to:Nat}(y:to<=v.H.wO.length)(z:v.H.wO.length<=5000):∀(f q:Nat)(acc:List Int)(m:List (Int×Bool)),q<=to->to-q<f->acc.length+(to-q)<=5000 ->(∀p∈m,p.1<(q:Int)) ->
 (∃L,eQ v.S.K v.H.wO to q L/\qW (to:Int) v f acc m (q:Int)=some (.go (acc++L,m++L.map λ a=>(a,true))))\/
 ((∀L,¬eQ v.S.K v.H.wO to q L)/\∃g,qW (to:Int) v f acc m (q:Int)=some (.out ([],false,{ v with dO:=g }))):=by
 intro f
 induction f with
 |zero=>intro q acc m _ h;omega
 |succ f d=>
  intro q acc m A B C j;rw[qW];by_cases c:q<to
  case neg=>
   have:q=to:=by omega
   subst this
   refine .inl ⟨[],.nil,?_⟩
   rw[bG];simp
  rw[bH c,lA,bX (n:=(q:Int)+3) (by omega) (by omega)];by_cases s:(to:Int)<(q:Int)+3;rw[lu s];refine .inr ⟨λ L b=>?_,m,rfl⟩;obtain⟨_,_,_,_,h,_⟩:=b.inv c;omega;rw[lx s,lK,fI (by omega),ae,bX (n:=(q:Int)+1) (by omega) (by omega),h8 (i:=q+1) (by omega) (by omega),ae];have e1:ui (⟨(⟨v.S.K.aV,v.S.K.aT,v.S.K.Fields,v.S.K.Names,v.S.K.aU⟩:aN)⟩:b4) (wd v.H.wO q)=some (fb v.S.K (wd v.H.wO q)):=aci aj _;rw[e1,ae];cases l:fb v.S.K (wd v.H.wO q)with
  |false=>refine .inr ⟨λ L b=>?_,m,rfl⟩;obtain⟨_,_,h,_⟩:=b.inv c;rw[l]at h;cases h
  |true=>
   have e2:uj (⟨(⟨v.S.K.aV,v.S.K.aT,v.S.K.Fields,v.S.K.Names,v.S.K.aU⟩:aN)⟩:b4) (wd v.H.wO q) (wd v.H.wO (q+1))=some (isLen v.S.K (wd v.H.wO q) (wd v.H.wO (q+1))):=acj aj l _;rw[e2,ae,c7,lK];cases o:isLen v.S.K (wd v.H.wO q) (wd v.H.wO (q+1))with
   |false=>refine .inr ⟨λ L b=>?_,m,rfl⟩;obtain⟨_,_,_,h,_⟩:=b.inv c;rw[o]at h;cases h
   |true=>
    obtain⟨⟨l0,l1⟩,_⟩:=jz.1 o;rw[c7,hK,bX (n:=(q:Int)+3+wd v.H.wO (q+1)) (by omega) (by omega)];by_cases t:(to:Int)<(q:Int)+3+wd v.H.wO (q+1);rw[lu t];refine .inr ⟨λ L b=>?_,m,rfl⟩;obtain⟨_,_,_,_,h,_⟩:=b.inv c;omega;rw[lx t,lK,im (by simp;omega),ae,bX (n:=3+wd v.H.wO (q+1)) (by omega) (by omega),bX (n:=(q:Int)+(3+wd v.H.wO (q+1))) (by omega) (by omega)];have u:cB m (q:Int)=none:=by
     clear d e1 e2;induction m with
     |nil=>rfl
     |cons p r d=>have aC:=j p iz;rw[cB,ly (by omega)];exact d (λ x ad=>j x (eD _ ad))
    rw[I2 u,show(q:Int)+(3+wd v.H.wO (q+1))=((q+3+(wd v.H.wO (q+1)).toNat:Nat):Int) by omega];rcases d (q+3+(wd v.H.wO (q+1)).toNat) (acc++[(q:Int)]) (m++[((q:Int),true)]) (by omega) (by omega) (by simp;omega) (λ p aC=>by
     rcases cg.1 aC with aC |aC;have:=j p aC;omega
     ·simp at aC;subst aC;simp;omega)with⟨L,b,e⟩|⟨w,g,e⟩
    ·refine .inl ⟨(q:Int)::L,.cons l o (by omega) b,?_⟩;rw[e];simp
    ·refine .inr ⟨λ L b=>?_,g,e⟩;obtain⟨r,_,_,_,_,h⟩:=b.inv c;exact w r h
theorem an3{F:Nat}(j:6000<F)(v:bp)(aj:gM v.S.K){q to:Nat}(c:q<=to)(d:to<=v.H.wO.length)(f:v.H.wO.length<=5000)(g:∀p∈v.dO,p.1<(q:Int)) :
 (∃L,eQ v.S.K v.H.wO to q L/\oV F v (q:Int) (to:Int)=some (L,true,{ v with dO:=v.dO++L.map λ a=>(a,true) }))\/
 ((∀L,¬eQ v.S.K v.H.wO to q L)/\∃b,oV F v (q:Int) (to:Int)=some ([],false,{ v with dO:=b })):=by
 unfold oV
 rcases aLg v aj d f F q [] v.dO c (by omega) (by simp;omega) g with⟨L,h,e⟩|⟨i,b,e⟩
 ·exact .inl ⟨L,h,by rw[e,sW];simp⟩
 ·exact .inr ⟨i,b,by rw[e,anE]⟩
end
def refs(k:aN)(W:List Int)(q:Nat):List Int:=(dR (wd W (q+1)).toNat).flatMap λ j=>if ep k (wd W q) j then[((q+3+j:Nat):Int)]else[]
theorem uG{k:aN}{W:List Int}{q:Nat}{x:Int}:x∈refs k W q↔∃j,j<(wd W (q+1)).toNat/\ep k (wd W q) j=true/\x=((q+3+j:Nat):Int):=by unfold refs;rw[g_];constructor;rintro⟨j,ax,ad⟩;split at ad;rename_i h;exact⟨j,by simpa using ax,h,by simpa using ad⟩;cases ad;rintro⟨j,ax,h,e⟩;exact⟨j,by simpa using ax,by rw[lz h,e];simp⟩
section
variable{F:Nat}{k:aN}
theorem aKd(h:6000<F)(v:bp)(aj:gM v.S.K){q:Nat}(c:q+3+(wd v.H.wO (q+1)).toNat<=v.H.wO.length)(m:v.H.wO.length<=5000)(d:fb v.S.K (wd v.H.wO q)=true)(a:isLen v.S.K (wd v.H.wO q) (wd v.H.wO (q+1))=true) :
 sq F v (q:Int)=some (refs v.S.K v.H.wO q):=by
 obtain⟨⟨l0,l1⟩,_⟩:=jz.1 a
 unfold sq
 rw[bX (n:=(q:Int)+1) (by omega) (by omega),h8 (i:=q+1) (by omega) (by omega),ae]
 generalize e:(wd v.H.wO (q+1)).toNat=n at c
 have g:wd v.H.wO (q+1)=(n:Int):=by omega
 have b:=a
 rw[g]at b⊢
 have l1:=xY (l:=dR n) (λ k acc i=>yE (q:Int) v (n:Int) k acc (i:Int)) (λ j=>if ep v.S.K (wd v.H.wO q) j then[((q+3+j:Nat):Int)]else[]) 1 5000 (λ x _=>by split<;>simp) (λ f i x acc ad o=>by
  have hi:i<n:=by have:=(ba.1 ad).1;simpa using this
  rw[kC hi]at ad;simp only[aM]at ad;subst ad;rw[yE,bH hi,lA,fI (by omega),ae];have e1:sp (⟨(⟨v.S.K.aV,v.S.K.aT,v.S.K.Fields,v.S.K.Names,v.S.K.aU⟩:aN)⟩:b4) (wd v.H.wO q) (i:Int)=some (ep v.S.K (wd v.H.wO q) i):=SI aj d b (by omega);rw[e1,ae];show _=yE (q:Int) v (n:Int) f _ _
  cases ep v.S.K (wd v.H.wO q) i with
  |true=>rw[lA,bX (n:=(q:Int)+3) (by omega) (by omega),bX (n:=(q:Int)+3+i) (by omega) (by omega),im (by simp;omega),ae,ae,eE hi (by omega),lz rfl];congr 2
  |false=>rw[lK,ae,eE hi (by omega),ly (by decide),gH]) (λ f acc=>by
  rw[iW,yE,bG];rfl) (F:=F) (by simp;omega) (acc:=[]) (by simp;omega)
 have l1:yE (q:Int) v (n:Int) F [] 0=_:=l1
 rw[l1,ae,ie,refs,e]
theorem af9(p:10000<F){ls:List (List Int)}(q:ls.length<=10)(J:ls.flatten.length<=10000):JE F ls=some ls.flatten:=by
 unfold JE;have c:∀(d i f:Nat)(n:Int),i+d=ls.length->d<f->0<=n->n+(ls.drop i).flatten.length<=10000 ->zP ls f n (i:Int)=some (n+(ls.drop i).flatten.length):=by
  intro d;induction d with
  |zero=>
   intro i f n h e o _;obtain⟨f,rfl⟩:∃a,f=a+1:=⟨f-1,by omega⟩
   have:i=ls.length:=by omega
   subst this;rw[zP,bG];simp
  |succ d g=>
   intro i f n h e o ag;obtain⟨f,rfl⟩:∃a,f=a+1:=⟨f-1,by omega⟩
   have hi:i<ls.length:=by omega
   rw[cw hi]at ag;simp only[kO,dj]at ag;rw[zP,bH hi,lA,br (aR hi),ae,bX (n:=n+((ls[i]).length:Int)) (by omega) (by omega),show decide (n+((ls[i]).length:Int)<0)=false from lx (by omega),lK,ae,eE hi (by omega),g (i+1) f _ (by omega) (by omega) (by omega) (by omega),cw hi];simp only[kO,dj];congr 1;omega
 have j:=c ls.length 0 F 0 (by omega) (by omega) (by omega) (by simp at J⊢;omega);have j:zP ls F 0 0=some (0+((ls.drop 0).flatten.length:Int)):=j;rw[j,ae,ei,Int.zero_add];have b:SN (ls.flatten.length:Int)=some []:=by unfold SN;rw[show decide ((ls.flatten.length:Int)<0)=false from lx (by omega),lK,ae,bX (n:=(ls.flatten.length:Int)-0) (by omega) (by omega),Int.sub_zero];by_cases l:(0 :Int)<(ls.flatten.length:Int);rw[lu l,lA];unfold KJ;rw[lz ⟨l,by omega⟩];rfl;rw[lx l];rfl
 rw[b,ae];have m:∀(d i f:Nat)(acc:List Int),i+d=ls.length->d<f->acc.length+(ls.drop i).flatten.length<=10000 ->zQ ls f acc (i:Int)=some (acc++(ls.drop i).flatten):=by
  intro d;induction d with
  |zero=>
   intro i f n h e o;obtain⟨f,rfl⟩:∃a,f=a+1:=⟨f-1,by omega⟩
   have:i=ls.length:=by omega
   subst this;rw[zQ,bG];simp
  |succ d g=>
   intro i f acc h e ag;obtain⟨f,rfl⟩:∃a,f=a+1:=⟨f-1,by omega⟩
   have hi:i<ls.length:=by omega
   rw[cw hi]at ag;simp only[kO,dj]at ag;rw[zQ,bH hi,lA,br (aR hi),ae,im (by omega),ae,eE hi (by omega),g (i+1) f _ (by omega) (by omega) (by simp only[dj];omega),cw hi,kO,eY]
 have b:=m ls.length 0 F [] (by omega) (by omega) (by simp at J⊢;omega);have b:zQ ls F [] 0=some ([]++(ls.drop 0).flatten):=b;rw[b];simp
theorem all_eq(a:10000<F)(v:bp)(h:v.ai.length+v.az.length<=10000):BD F v=some (v.ai++v.az):=by unfold BD;rw[af9 a (by simp) (by simp;omega)];simp
def aj(W:List Int)(a:Int):Int:=wd W (a.toNat+2)
def CH(l:List Int)(m:List (Int×Bool)):List (Int×Bool):=l.foldl (λ m x=>gP m x true) m
theorem amr:∀(l:List Int)(m:List (Int×Bool)),(CH l m).length<=m.length+l.length/\((CH l m).length=m.length+l.length↔l.Nodup/\∀x∈l,(cB m x).isSome=false)
 |[],m=>by simp[CH]
 |x::r,m=>by
  have c:=amr r (gP m x true);have e:CH (x::r) m=CH r (gP m x true):=rfl;rw[e];have b:=Rm (k:=x) (v:=true) m;rw[cT];cases ad:(cB m x).isSome with
  |true=>rw[ad,lz rfl]at b;rw[b]at c;refine⟨by omega,⟨λ h=>by omega,λ h=>?_⟩⟩;have:=h.2 x iz;rw[ad]at this;cases this
  |false=>
   rw[ad,ly (by decide)]at b;rw[b]at c;refine⟨by omega,?_⟩;rw[show m.length+(r.length+1)=m.length+1+r.length by omega,c.2,hJ];constructor
   ·rintro⟨d,J⟩;refine⟨⟨λ g=>?_,d⟩,λ y hy=>?_⟩;have:=J x g;have a:=(MG (k:=x) (s:=x) (v:=true) m).2 (.inl rfl);rw[this]at a;cases a
    ·rcases cG.1 hy with rfl |hy;exact ad
     ·cases f:(cB m y).isSome with
      |false=>rfl
      |true=>have a:=(MG (k:=x) (s:=y) (v:=true) m).2 (.inr f);rw[J y hy]at a;cases a
   ·rintro⟨⟨d,J⟩,a⟩;refine⟨J,λ y hy=>?_⟩;cases f:(cB (gP m x true) y).isSome with
    |false=>rfl
    |true=>rcases(MG (k:=x) (s:=y) (v:=true) m).1 f with e |e;subst e;exact absurd hy d;rw[a y (eD _ hy)]at e;cases e
def nZ(v:bp)(a:Int):Bool:=decide (aj v.H.wO a<1)||decide (v.H.Next<=aj v.H.wO a)
theorem aAV(v:bp)(r:List Int)(g:r.length<=10000)(ag:∀a∈r,0<=a/\a.toNat+3<=v.H.wO.length)(j:v.H.wO.length<=5000):∀(d i f:Nat)(m:List (Int×Bool)),i+d=r.length->d<f ->
 yF v r f m (i:Int)=if(r.drop i).any (nZ v)then some (.out 3)else some (.go (CH ((r.drop i).map (aj v.H.wO)) m)):=by
 intro d
 induction d with
 |zero=>
  intro i f m h c;obtain⟨f,rfl⟩:∃b,f=b+1:=⟨f-1,by omega⟩
  have:i=r.length:=by omega
  subst this;rw[yF,bG];simp[CH]
 |succ d e=>
  intro i f m h c;obtain⟨f,rfl⟩:∃b,f=b+1:=⟨f-1,by omega⟩
  have hi:i<r.length:=by omega
  obtain⟨l,o⟩:=ag r[i] (fa hi);rw[yF,bH hi,lA,br (aR hi),ae,bX (n:=r[i]+2) (by omega) (by omega),h8 (i:=(r[i]).toNat+2) (by omega) (by omega),ae,cw hi,List.any_cons];show cond (nZ v r[i]) _ _=_
  cases nZ v r[i]with
  |true=>rfl
  |false=>rw[lK,eE hi (by omega),e (i+1) f _ (by omega) (by omega),hK];rfl
theorem aAU(f:10000<F)(v:bp)(h:v.ai.length+v.az.length<=5000)(ag:∀a∈v.ai++v.az,0<=a/\a.toNat+3<=v.H.wO.length)(g:v.H.wO.length<=5000)(b:v.dO.length=(v.ai++v.az).length) :
 Im F v=some (if(v.ai++v.az).any (nZ v)then 3 else if((v.ai++v.az).map (aj v.H.wO)).Nodup then 0 else 6):=by
 unfold Im
 have e:BD F (⟨(⟨v.H.wO,v.H.ai,v.H.az,v.H.aI,v.H.aD,v.H.aJ,v.H.Next⟩:aP),(⟨(⟨v.S.K.aV,v.S.K.aT,v.S.K.Fields,v.S.K.Names,v.S.K.aU⟩:aN)⟩:b4),v.ai,v.az,v.dO⟩:bp)=some (v.ai++v.az):=all_eq f v (by omega)
 rw[e,ae]
 have l1:=aAV v (v.ai++v.az) (by simp;omega) ag g (v.ai++v.az).length 0 F [] (by omega) (by simp;omega)
 have l1:yF v (v.ai++v.az) F [] 0=_:=l1
 rw[l1,ei]
 cases(v.ai++v.az).any (nZ v)with
 |true=>rfl
 |false=>rw[ly (by decide),ly (by decide),sW];obtain⟨i,d⟩:=amr ((v.ai++v.az).map (aj v.H.wO)) [];rw[gJ,gI,ji]at i d;by_cases c:((v.ai++v.az).map (aj v.H.wO)).Nodup;rw[lz c];have:=d.2 ⟨c,λ _ _=>rfl⟩;rw[lx (by rw[this,b];omega)];rfl;rw[ly c];have:(CH ((v.ai++v.az).map (aj v.H.wO)) []).length≠(v.ai++v.az).length:=λ e=>c (d.1 e).1;rw[lu (by rw[b];omega)];rfl
end
def A1(l:List Int):Prop:=∀a b,a<b->b<l.length->wd l a<wd l b
theorem acv{l:List Int}(h:∀i,i+1<l.length->wd l i<wd l (i+1)):A1 l:=by
 intro a b d;induction b with
 |zero=>omega
 |succ b c=>intro ag;by_cases e:a=b;subst e;exact h a ag;exact Int.lt_trans (c (by omega) (by omega)) (h b ag)
theorem acW{l:List Int}{i:Nat}(h:i<l.length):wd l i∈l:=by unfold wd;rw[aR h];exact fa h
theorem pd{l:List Int}{i:Nat}{x:Int}(h:l[i]? =some x):wd l i=x:=by unfold wd;rw[h];rfl
theorem ZF{l:List Int}{x:Int}(h:x∈l):∃i,i<l.length/\wd l i=x:=by obtain⟨i,hi,e⟩:=hN h;exact⟨i,hi,pd (by rw[aR hi,e])⟩
theorem ame{α:Type}{p:α->Bool}:∀ {l:List α},(eK p l).isSome=l.any p
 |[]=>rfl
 |x::r=>by
  rw[eK,List.any_cons];cases h:p x with
  |true=>rfl
  |false=>simp only[gT,if_false,hK];rw[<-ame (l:=r)];cases eK p r<;>rfl
theorem V'{α:Type}{l:List α}{L:Nat->Int->Option (Way Int Unit)}(p:α->Bool)(a:l.length<=140737488355328)
 (aj:∀k (i:Nat) x,l[i]? =some x->L (k+1) (i:Int)=cond (p x) (some (.out (i:Int))) (L k (ap ((i:Int)+1))))
 (b:∀k,L (k+1) (l.length:Int)=some (.go ())){F:Nat}(c:l.length<F):((cn (α:=Unit) (L F 0) λ(_:Unit)=>some (-1)).bind λ r=>some (decide ((0 :Int)<=r)))=some (l.any p):=by
 rw[Wa p (λ n:Nat=>(n:Int)) a aj b c,<-ame]
 cases eK p l with
 |none=>rfl
 |some i=>
  show some (decide ((0 :Int)<=(i:Int)))=_
  rw[lu (by omega)];rfl
section
variable{F:Nat}
theorem aKX{l:List Int}(k:l.length<=10000)(t:Int):∀(f i j:Nat),i<=j->j<=l.length->j-i<f->(∀a,a<i->wd l a<t)->(∀a,j<=a->a<l.length->t<=wd l a)->A1 l ->
 ∃p:Nat,w5 t l f (i:Int) (j:Int)=some (p:Int)/\p<=l.length/\(∀a,a<p->wd l a<t)/\(∀a,p<=a->a<l.length->t<=wd l a):=by
 intro f
 induction f with
 |zero=>intro i j _ _ h;omega
 |succ f b=>
  intro i j m ax o c J aj;rw[w5];by_cases h:i<j
  case neg=>
   have:i=j:=by omega
   subst this
   rw[bG]
   exact⟨i,rfl,ax,c,J⟩
  have d:ap (zO (JQ (ap ((i:Int)+(j:Int)))) 1)=(((i+j) / 2 :Nat):Int):=by rw[bX (n:=(i:Int)+j) (by omega) (by omega)];unfold JQ zO;rw[bX (by omega) (by omega)];omega
  have q:(i+j) / 2<j:=by omega
  have r:i<=(i+j) / 2:=by omega
  rw[bH h,lA,d,fI (by omega),ae];unfold cmp_Less_int cmp_isNaN_int;rw[ae,show(!decide (wd l ((i+j) / 2)=wd l ((i+j) / 2)))=false by simp,lK,ae];by_cases hc:wd l ((i+j) / 2)<t
  ·rw[lu hc,lA,ae];show∃p:Nat,w5 t l f (ap ((((i+j) / 2 :Nat):Int)+1)) (j:Int)=_/\_
   rw[bX (n:=(((i+j) / 2 :Nat):Int)+1) (by omega) (by omega),show(((i+j) / 2 :Nat):Int)+1=(((i+j) / 2+1 :Nat):Int) by omega];refine b ((i+j) / 2+1) j (by omega) ax (by omega) (λ a g=>?_) J aj;by_cases e:a=(i+j) / 2;subst e;exact hc;exact Int.lt_trans (aj a ((i+j) / 2) (by omega) (by omega)) hc
  ·rw[lx hc,lK,ae];show∃p:Nat,w5 t l f (i:Int) (((i+j) / 2 :Nat):Int)=_/\_
   refine b i ((i+j) / 2) (by omega) (by omega) (by omega) c (λ a g ag=>?_) aj;by_cases e:a=(i+j) / 2;subst e;omega;have:=aj ((i+j) / 2) a (by omega) ag;omega
theorem aKW(m:10000<F){l:List Int}(i:l.length<=10000)(aj:A1 l)(t:Int) :
 ∃p:Nat,Nx F l t=some ((p:Int),decide (t∈l))/\p<=l.length/\(∀a,a<p->wd l a<t)/\(∀a,p<=a->a<l.length->t<=wd l a):=by
 obtain⟨p,e,j,f,J⟩:=aKX i t F 0 l.length (by omega) (cP _) (by omega) (λ a b=>by omega) (λ a b ag=>by omega) aj
 refine⟨p,?_,j,f,J⟩
 unfold Nx
 have e:w5 t l F 0 (l.length:Int)=some (p:Int):=e
 rw[e,ae]
 by_cases c:p<l.length
 ·rw[bH c,lA,fI c,ae];by_cases d:wd l p=t;rw[lu d,lA,lu (d▸acW c)]
  ·have g: ¬t∈l:=λ h=>by
    obtain⟨a,b,Pt⟩:=ZF h;by_cases k:a<p
    ·have:=f a k;omega
    ·have n:=J p (cP _) c;by_cases e:a=p;subst e;exact d Pt;have:=aj p a (by omega) b;omega
   rw[lx d,lK,ae,lx g];unfold SS;rw[ae,show(!decide (wd l p=wd l p))=false by simp,lK]
 ·have:p=l.length:=by omega
  subst this;have g: ¬t∈l:=λ h=>by obtain⟨a,b,Pt⟩:=ZF h;have:=f a b;omega
  rw[bG,lK,lx g]
structure tG (v:bp) (a:Int):Prop where
 pos:0<=a
 fit:a.toNat+3+(wd v.H.wO (a.toNat+1)).toNat<=v.H.wO.length
 tag:fb v.S.K (wd v.H.wO a.toNat)=true
 len:isLen v.S.K (wd v.H.wO a.toNat) (wd v.H.wO (a.toNat+1))=true
structure qL (v:bp):Prop where
 hn:gM v.S.K
 eZ:v.H.wO.length<=4900
 sc:v.ai.length+v.az.length<=5000
 u_:∀a∈v.ai++v.az,tG v a
 dO:∀x,(cB v.dO x).getD false=decide (x∈v.ai++v.az)
theorem tG.ab1{v:bp}{a:Int}(b:qL v)(h:tG v a)(c:6000<F):sq F v a=some (refs v.S.K v.H.wO a.toNat):=by have:=aKd c v b.hn h.fit (by have:=b.eZ;omega) h.tag h.len;rwa [show((a.toNat:Nat):Int)=a by have:=h.pos;omega]at this
theorem tG.Sn{v:bp}{a w:Int}(h:tG v a)(b:w∈refs v.S.K v.H.wO a.toNat):idx v.H.wO w=some (wd v.H.wO w.toNat):=by obtain⟨j,ax,_,e⟩:=uG.1 b;have:=h.fit;subst e;exact fI (by omega)
theorem Sp{v:bp}{a:Int}(b:qL v)(h:tG v a):(refs v.S.K v.H.wO a.toNat).length<=5000:=by
 have:(refs v.S.K v.H.wO a.toNat).length<=1*(dR (wd v.H.wO (a.toNat+1)).toNat).length:=Bm λ x _=>by split<;>simp
 have c:=h.fit;have J:=b.eZ;rw[iW]at this;omega
def xa(v:bp)(w:Int):Bool:=!decide (wd v.H.wO w.toNat=0)&& !decide (wd v.H.wO w.toNat∈v.ai++v.az)
def qj(v:bp)(a:Int):Bool:=(refs v.S.K v.H.wO a.toNat).any (xa v)
def free(h:aP):List Int:=h.wO.take 1++((h.wO.take (h.ai+1).toNat).drop h.aI.toNat++h.wO.drop h.aD.toNat)
theorem pX{α:Type}{p:α->Bool}{e:Int}:∀l:List α,l.findSome? (λ x=>if p x then some e else none)=if l.any p then some e else none
 |[]=>rfl
 |x::r=>by
  rw[ih,List.any_cons];cases p x with
  |true=>rfl
  |false=>simp only[gT,if_false,hK];exact pX r
theorem aMc(h:10000<F){v:bp}(b:qL v)(p:0<=v.H.ai)(q:0<=v.H.aI/\v.H.aI<=v.H.ai+1/\v.H.ai+1<=v.H.wO.length)(J:0<=v.H.aD/\v.H.aD<=v.H.wO.length) :
 Ip F v=some (if(v.ai++v.az).any (qj v)then 5 else if(free v.H).any (λ x=>!decide (x=0))then 1 else 0):=by
 have hc:=b.sc;have r:=b.eZ
 unfold Ip
 have e:BD F (⟨(⟨v.H.wO,v.H.ai,v.H.az,v.H.aI,v.H.aD,v.H.aJ,v.H.Next⟩:aP),(⟨(⟨v.S.K.aV,v.S.K.aT,v.S.K.Fields,v.S.K.Names,v.S.K.aU⟩:aN)⟩:b4),v.ai,v.az,v.dO⟩:bp)=some (v.ai++v.az):=all_eq h v (by omega)
 rw[e,ae]
 have l1:BE F v (v.ai++v.az) F 0=some (cz ((v.ai++v.az).findSome? λ a=>if qj v a then some 5 else none)):=each _ (by simp;omega) (λ f i a c=>by
  have j:=b_ c;have d:=b.u_ a j;rw[BE,bH (ba.1 c).1,lA,br c,ae];have e2:sq F (⟨(⟨v.H.wO,v.H.ai,v.H.az,v.H.aI,v.H.aD,v.H.aJ,v.H.Next⟩:aP),(⟨(⟨v.S.K.aV,v.S.K.aT,v.S.K.Fields,v.S.K.Names,v.S.K.aU⟩:aN)⟩:b4),v.ai,v.az,v.dO⟩:bp) a=some (refs v.S.K v.H.wO a.toNat):=d.ab1 b (by omega);have s:=Sp b d;rw[e2,ae];have k:yH v (refs v.S.K v.H.wO a.toNat) F 0=some (cz ((refs v.S.K v.H.wO a.toNat).findSome? λ w=>if xa v w then some 5 else none)):=each _ (by omega) (λ m i' w g=>by have n:=b_ g;rw[yH,bH (ba.1 g).1,lA,br g,ae,d.Sn n,ae,b.dO];unfold xa;cases decide (wd v.H.wO w.toNat=0)<;>cases decide (wd v.H.wO w.toNat∈v.ai++v.az)<;>rfl) (λ m=>by rw[yH,bG];rfl) (by omega);rw[k,pX];show _=hW (if(refs v.S.K v.H.wO a.toNat).any (xa v)then some 5 else none) _
  cases(refs v.S.K v.H.wO a.toNat).any (xa v)<;>rfl) (λ f=>by rw[BE,bG];rfl) (by simp;omega)
 rw[l1,pX]
 cases(v.ai++v.az).any (qj v)with
 |true=>rfl
 |false=>
  simp only[gT,if_false,cz,sW];have c1:cut v.H.wO 0 1=some (v.H.wO.take 1):=by unfold cut;rw[lz ⟨by omega,by omega,by omega⟩];rfl
  have c2:cut v.H.wO v.H.aI (ap (v.H.ai+1))=some ((v.H.wO.take (v.H.ai+1).toNat).drop v.H.aI.toNat):=by rw[bX (by omega) (by omega)];unfold cut;rw[lz ⟨by omega,by omega,by omega⟩]
  have c3:cut v.H.wO v.H.aD (v.H.wO.length:Int)=some (v.H.wO.drop v.H.aD.toNat):=by unfold cut;rw[lz ⟨by omega,by omega,by omega⟩,bR,iH]
  have t:(free v.H).length<=10000:=by unfold free;simp;omega
  rw[c1,c2,c3,ae,ae,ae,af9 h (by simp) (by simp;omega),ae];have o:[v.H.wO.take 1,(v.H.wO.take (v.H.ai+1).toNat).drop v.H.aI.toNat,v.H.wO.drop v.H.aD.toNat].flatten=free v.H:=by simp[free]
  rw[o];unfold SL SQ;rw[V' (l:=free v.H) (L:=CW (free v.H)) (λ x=>!decide (x=0)) (by omega) (λ f i x ad=>by rw[CW,bH (ba.1 ad).1,lA,br ad,ae];rfl) (λ f=>by rw[CW,bG];rfl) (by omega),ae];cases(free v.H).any (λ x=>!decide (x=0))<;>rfl
def lM(v:bp)(x:Int):Bool:=decide (0<x)&&decide (x<=v.H.ai)
def uN(v:bp)(x:Int):Bool:=!decide (x∈v.ai++v.az)||lM v x||(refs v.S.K v.H.wO x.toNat).isEmpty
def iB(v:bp)(i:Nat):Bool:=(decide (0<i)&&decide (wd v.H.aJ i<=wd v.H.aJ (i-1)))||uN v (wd v.H.aJ i)
def rU(v:bp)(x:Int):Bool:=!decide (x∈v.H.aJ)&&(refs v.S.K v.H.wO x.toNat).any λ w=>lM v (wd v.H.wO w.toNat)
theorem aG3(f:10000<F){v:bp}(b:qL v)(x:Int)(Y:Option (Way Int Unit)):(cond (!((cB v.dO x).getD false)) (some (.out 4)) ((Il v x).bind λ c=>
 cond (c) (some (.out 4)) ((sq F v x).bind λ d=>
 cond (decide ((d.length:Int)=0)) (some (.out 4)) Y)))=hW (if uN v x then some 4 else none) Y:=by
 rw[b.dO]
 unfold uN
 by_cases e:x∈v.ai++v.az
 ·rw[lu e,(b.u_ x e).ab1 b (by omega)];show cond (lM v x) _ ((some _).bind _)=_
  cases lM v x with
  |true=>rfl
  |false=>
   rw[lK,ae];cases refs v.S.K v.H.wO x.toNat with
   |nil=>rfl
   |cons a r=>rw[lx (by simp;omega)];rfl
 ·rw[lx e];rfl
theorem aG2(j:10000<F){v:bp}(a:qL v)(r:v.H.aJ.length<=140737488355328)(s:v.H.aJ.length<F)(c:(∀i,i<v.H.aJ.length->iB v i=false)->v.H.aJ.length<=10000) :
 Io F v=some (if(dR v.H.aJ.length).any (iB v)||v.az.any (rU v)then 4 else 0):=by
 have hc:=a.sc;have A:=a.eZ
 unfold Io
 have l1:wh F v F 0=some (cz ((dR v.H.aJ.length).findSome? λ i=>if iB v i then some 4 else none)):=mg _ r (λ f i hi=>by
  have k:=aG3 j a (wd v.H.aJ i) (wh F v f (ap ((i:Int)+1)));rw[wh,bH hi,lA,fI hi,ae];unfold iB;by_cases m:0<i
  ·rw[show decide ((0 :Int)<(i:Int))=true from lu (by omega),lA,bX (n:=(i:Int)-1) (by omega) (by omega),h8 (i:=i-1) (by omega) (by omega),ae,lu m,jF];cases decide (wd v.H.aJ i<=wd v.H.aJ (i-1))with
   |true=>rfl
   |false=>exact k
  ·rw[show decide ((0 :Int)<(i:Int))=false from lx (by omega),lK,lx m,Bool.false_and,hK]
   exact k) (λ f=>by rw[wh,bG];rfl) s
 rw[l1,pX]
 cases ag:(dR v.H.aJ.length).any (iB v)with
 |true=>rfl
 |false=>
  have o:∀i,i<v.H.aJ.length->iB v i=false:=λ i hi=>by rw[ik]at ag;simpa using ag i (by simpa using hi)
  have b:=c o;have d:A1 v.H.aJ:=acv λ i hi=>by have:=o (i+1) hi;unfold iB at this;simp only[hY,k8,decide_eq_false_iff_not,Nat.add_sub_cancel]at this;rcases this.1 with h |h<;>omega
  simp only[gT,if_false,cz,sW,hK];have t:yG F v F 0=some (cz (v.az.findSome? λ x=>if rU v x then some 4 else none)):=each _ (by omega) (λ f i x ad=>by
   have u:x∈v.ai++v.az:=fw _ (b_ ad);have e:=a.u_ x u;obtain⟨p,y,_⟩:=aKW j b d x;rw[yG,bH (ba.1 ad).1,lA,br ad,ae,y,ae];unfold rU;by_cases q:x∈v.H.aJ;rw[lu q];rfl
   ·rw[lx q];have e2:sq F (⟨(⟨v.H.wO,v.H.ai,v.H.az,v.H.aI,v.H.aD,v.H.aJ,v.H.Next⟩:aP),(⟨(⟨v.S.K.aV,v.S.K.aT,v.S.K.Fields,v.S.K.Names,v.S.K.aU⟩:aN)⟩:b4),v.ai,v.az,v.dO⟩:bp) x=some (refs v.S.K v.H.wO x.toNat):=e.ab1 a (by omega);have B:=Sp a e;simp only[hF,lA,jF];rw[e2,ae];unfold SK SP;rw[V' (l:=refs v.S.K v.H.wO x.toNat) (L:=CV (refs v.S.K v.H.wO x.toNat) v) (λ w=>lM v (wd v.H.wO w.toNat)) (by omega) (λ z i' w g=>by rw[CV,bH (ba.1 g).1,lA,br g,ae];unfold Ql;rw[e.Sn (b_ g)];rfl) (λ z=>by rw[CV,bG];rfl) (by omega),ae]
    cases(refs v.S.K v.H.wO x.toNat).any (λ w=>lM v (wd v.H.wO w.toNat))<;>rfl) (λ f=>by rw[yG,bG];rfl) (by omega)
  rw[t,pX];cases v.az.any (rU v)<;>rfl
end
def RJ:aN:=⟨[],[],[],[],[]⟩
def rows{β:Type}(f:Int->β)(i:Nat):List β:=(dR i).map λ j:Nat=>f (j:Int)
theorem Jz{β:Type}(f:Int->β)(i:Nat):rows f (i+1)=rows f i++[f (i:Int)]:=by simp[rows,List.range_succ]
def linked(l:List al):aN:=⟨l,dx l,rows (gi l) l.length,rows (λ i=>(ic l i).1) l.length,rows (λ i=>(ic l i).2) l.length⟩
def HL(l:List al)(i:Nat):Option (aN×Int):=if 12<(gi l i).length\/16<(ic l i).1.length then some (RJ,2)else none
section
variable{F:Nat}{l:List al}
theorem afD(x y:Nat):((decide ((12 :Int)<(x:Int)))||(decide ((16 :Int)<(y:Int))))=decide (12<x\/16<y):=by rw[h5];simp;omega
theorem aFz(c:1100<F)(h:jc l)(a b:Int×bt)(e:a.2.bZ=ft 0 l)(f:b.2.dC=dx l) :
 qa F l a b F [] [] [] 0=some (GF ((dR l.length).findSome? (HL l)) (rows (λ i=>(ic l i).2) l.length,rows (λ i=>(ic l i).1) l.length,rows (gi l) l.length)):=by
 have d:=h.right.len
 refine UW (n:=l.length) (λ k i=>qa F l a b k (rows (λ i=>(ic l i).2) i) (rows (λ i=>(ic l i).1) i) (rows (gi l) i) (i:Int)) _ _ (λ k i hi=>?_) (λ k=>?_) (F:=F) (by omega)
 ·show qa F l a b (k+1) (rows (λ i=>(ic l i).2) i) (rows (λ i=>(ic l i).1) i) (rows (gi l) i) (i:Int)=_
  rw[qa,bH hi,lA,e,f,h.aFA c (ft 0 l) (by omega) (by omega),ae,h.Zw c (ft 0 l) (by omega) (by omega),ae,
   im (by simp only[rows,gJ,iW,cT,gI];omega),ae,im (by simp only[rows,gJ,iW,cT,gI];omega),ae,
   im (by simp only[rows,gJ,iW,cT,gI];omega),ae,br (i:=i) (x:=gi l i) (by simp[rows]),ae,afD,eE hi (by omega),<-Jz (gi l),<-Jz (λ i=>(ic l i).1),<-Jz (λ i=>(ic l i).2)]
  unfold HL;by_cases ag:12<(gi l i).length\/16<(ic l i).1.length;rw[lu ag,lz ag];rfl;rw[lx ag,ly ag];rfl
 ·show qa F l a b (k+1) (rows (λ i=>(ic l i).2) l.length) (rows (λ i=>(ic l i).1) l.length) (rows (gi l) l.length) (l.length:Int)=_
  rw[qa,bG];rfl
theorem aKa(a:1100<F)(h:jc l) :
 tA F l F [] [] [] [] 0=some (GF ((dR l.length).findSome? (HL l)) (rows (λ i=>(ic l i).2) l.length,rows (λ i=>(ic l i).1) l.length,rows (gi l) l.length,dx l)):=by
 have b:=h.right.len
 refine UW (n:=l.length) (λ k i=>tA F l k (rows (λ i=>(ic l i).2) i) (rows (λ i=>(ic l i).1) i) (rows (gi l) i) ((dx l).take i) (i:Int)) _ _ (λ k i hi=>?_) (λ k=>?_) (F:=F) (by omega)
 ·obtain⟨x,ad⟩:∃x,l[i]? =some x:=⟨l[i],aR hi⟩
  have e3:(dx l).take i++[cY l x.dg]=(dx l).take (i+1):=by rw[j8,acy ad];rfl
  show tA F l (k+1) (rows (λ i=>(ic l i).2) i) (rows (λ i=>(ic l i).1) i) (rows (gi l) i) ((dx l).take i) (i:Int)=_
  rw[tA,bH hi,lA,h.abV a (by omega) (by omega),ae,h.aKb a (by omega) (by omega),ae,afD,br ad,ae,AN ⟨by omega,by omega⟩,ae,
   im (by simp only[fe,JF,cT,gI];omega),ae,
   im (by simp only[rows,gJ,iW,cT,gI];omega),ae,im (by simp only[rows,gJ,iW,cT,gI];omega),ae,
   im (by simp only[rows,gJ,iW,cT,gI];omega),ae,eE hi (by omega),<-Jz (gi l),<-Jz (λ i=>(ic l i).1),<-Jz (λ i=>(ic l i).2),e3]
  unfold HL;by_cases ag:12<(gi l i).length\/16<(ic l i).1.length;rw[lu ag,lz ag];rfl;rw[lx ag,ly ag];rfl
 ·show tA F l (k+1) (rows (λ i=>(ic l i).2) l.length) (rows (λ i=>(ic l i).1) l.length) (rows (gi l) l.length) ((dx l).take l.length) (l.length:Int)=_
  rw[tA,bG,hp (by rw[JF];omega)];rfl
theorem uO{α:Type}{e:Int}(h:e≠0){x y:α}:cond (!decide (e=0)) x y=x:=by rw[lx h];rfl
theorem tQ{α:Type}{x y:α}:cond (!decide ((0 :Int)=0)) x y=y:=rfl
theorem aLq{e:Int}(h:l.findSome? w9=some e):e=4:=by obtain⟨x,_,ad⟩:=dX h;unfold w9 at ad;split at ad;cases ad;injection ad with ad;exact ad.symm
theorem aF3{e:Int}(h:l.findSome? (sG l)=some e):e=5:=by obtain⟨x,_,ad⟩:=dX h;unfold sG at ad;split at ad;cases ad;injection ad with ad;exact ad.symm
theorem axs{e:Int}(h:(dR l.length).findSome? (ya l)=some e):e=4:=by obtain⟨x,_,ad⟩:=dX h;unfold ya at ad;split at ad;cases ad;injection ad with ad;exact ad.symm
theorem aLG{nm:List UInt8}(h:0<=cY l nm):(cB (ft 0 l) nm).getD 0=cY l nm:=by
 rw[I7];unfold cY at h⊢;cases a:eK (gU nm) l with
 |none=>rw[a]at h;simp at h
 |some i=>simp
theorem awR(g:1100<F)(B:Fits F l):∃e,Kx F l=some e/\
 ((e≠0/\F3 F l=some (RJ,e))\/
  (e=0/\jc l/\∃C p:Int×bt,C.2.bZ=ft 0 l/\p.2.dC=dx l/\
   F3 F l=cn (α:=(List (List Target))×(List (List (List UInt8)))×(List (List Field))) (qa F l C p F [] [] [] 0) λ((I,K,L):(List (List Target))×(List (List (List UInt8)))×(List (List Field)))=>some ((⟨l,p.2.dC,L,K,I⟩:aN),0))):=by
 unfold Kx F3
 rw[avU B,aDj B,ae,ae]
 by_cases k:tN l=0
 case neg=>exact⟨tN l,by rw[uO k],.inl ⟨k,by rw[uO k];rfl⟩⟩
 rw[k,tQ,tQ]
 have f:=awU k
 have D:=f.len
 rw[aHn (by omega) f,ae]
 rcases aGv (F:=F) (by omega) f with⟨M,q,t⟩|⟨_,⟨m,q⟩,t⟩
 case inr=>
  unfold IP
  simp only
  rw[q,t]
  exact⟨6,rfl,.inl ⟨by decide,rfl⟩⟩
 rw[t,sW,AN ⟨by omega,by omega⟩,ae,AN ⟨by omega,by omega⟩,ae]
 have u:IP F ⟨l,[],[]⟩=some (cond (decide (0<=cY l [79,98,106,101,99,116])&&decide (0<=cY l [69,114,114,111,114])) 0 5,⟨l,ft 0 l,[]⟩):=by unfold IP;simp only;rw[q,sW,Z8,Z8];cases decide (0<=cY l [79,98,106,101,99,116])<;>cases decide (0<=cY l [69,114,114,111,114])<;>rfl
 rw[u,ae]
 by_cases v:0<=cY l [79,98,106,101,99,116]
 case neg=>
  rw[lu (show cY l [79,98,106,101,99,116]<0 by omega),lx v]
  exact⟨5,rfl,.inl ⟨by decide,rfl⟩⟩
 rw[lx (show¬cY l [79,98,106,101,99,116]<0 by omega),lu v,lK]
 by_cases j:0<=cY l [69,114,114,111,114]
 case neg=>
  rw[lu (show cY l [69,114,114,111,114]<0 by omega),lx j]
  exact⟨5,rfl,.inl ⟨by decide,rfl⟩⟩
 rw[lx (show¬cY l [69,114,114,111,114]<0 by omega),lu j,lK,Bool.and_self,lA]
 simp only[ae,decide_true,c7,lK]
 unfold Q9
 simp only
 rw[aLo (by omega) f,aLp (by omega) f,lg,lg]
 cases E:l.findSome? w9 with
 |some e=>have:=aLq E;subst this;exact⟨4,rfl,.inl ⟨by decide,rfl⟩⟩
 |none=>
 simp only[iE,rm]
 obtain⟨o,n,N⟩:=aF1 (F:=F) (by omega) f
 rw[aF2 (by omega) f,lg,N,<-n]
 cases o with
 |some r=>simp only[fs]at n;have:=aF3 n.symm;refine⟨5,by simp only[fs,rm];rw[this],.inl ⟨by decide,?_⟩⟩;obtain⟨a,b⟩:=r;simp only at this;subst this;rfl
 |none=>
 simp only[iE,rm,GF,sW]
 simp only[iE]at n
 rw[axr g f,lg,axq g f,lg]
 cases hc:(dR l.length).findSome? (ya l)with
 |some e=>have:=axs hc;subst this;exact⟨4,rfl,.inl ⟨by decide,rfl⟩⟩
 |none=>
 simp only[iE,rm,ae,decide_true,c7,lK]
 have w:∀c∈l,c.dg=[]\/0<=cY l c.dg:=λ c y=>by have:=fZ.1 n.symm c y;unfold sG at this;split at this;assumption;cases this
 have z:∀i,i<l.length->∃c,dF (dx l) l.length (i:Int)=some c:=λ i hi=>by have:=fZ.1 hc i (by simpa using hi);unfold ya at this;split at this;rename_i d;exact Option.isSome_iff_exists.1 d;cases this
 have h:jc l:=⟨f,M,w,z,λ c y=>fZ.1 E c y,v⟩
 have A:cY l [69,114,114,111,114]<l.length:=Vf
 obtain⟨x,ad,_⟩:=zS (l:=l) j A
 unfold Q_
 simp only[aLG j]
 rw[h.abV g j A,ae,h.Zw g (ft 0 l) j A,ae,ad,ae,ae]
 by_cases aj:((!decide (x.dg=[79,98,106,101,99,116]))||(decide (((gi l (cY l [69,114,114,111,114])).length:Int)=0)))=true
 ·rw[aj];exact⟨4,rfl,.inl ⟨by decide,rfl⟩⟩
 rw[fX.2 aj,lK,lK]
 have O:0<(gi l (cY l [69,114,114,111,114])).length:=by simp only[hA,decide_eq_true_eq,not_or]at aj;omega
 have P:idx (gi l (cY l [69,114,114,111,114])) 0=some ((gi l (cY l [69,114,114,111,114]))[0]):=by have:=br (l:=gi l (cY l [69,114,114,111,114])) (i:=0) (aR O);exact this
 rw[P,ae,ae]
 by_cases G:((gi l (cY l [69,114,114,111,114]))[0]).Kind.Kind=1
 case neg=>
  rw[lx G]
  exact⟨4,rfl,.inl ⟨by decide,rfl⟩⟩
 rw[lu G]
 simp only[c7,lK,ae,decide_true]
 rw[aLm g f,lg,aLl g f,ae]
 cases Q:(va l).findSome? (lj l)with
 |some e=>
  have:e=5:=by obtain⟨s,_,d⟩:=dX Q;rcases an7 (l:=l) (s:=s)with J |J;rw[J]at d;cases d;rw[J]at d;injection d with d;exact d.symm
  subst this;exact⟨5,rfl,.inl ⟨by decide,rfl⟩⟩
 |none=>
 simp only[rm,je,decide_true,c7,lK]
 rw[aHd g h,lg,aHc g h,ae]
 cases R:(dR l.length).findSome? (CA l)with
 |some e=>
  have:e=6:=by obtain⟨s,_,d⟩:=dX R;unfold CA yb at d;split at d;split at d;cases d;simp at d;exact d.symm;simp at d;exact d.symm
  subst this;exact⟨6,rfl,.inl ⟨by decide,rfl⟩⟩
 |none=>
 simp only[rm,je,decide_true,c7,lK]
 rw[aF0 g h,lg,aFZ g h,ae]
 cases S:(dR l.length).findSome? (λ i=>(l[i]?).bind λ c=>IY l c i)with
 |some e=>
  have:e=4:=by
   obtain⟨i,_,d⟩:=dX S;cases H:l[i]? with
   |none=>rw[H]at d;cases d
   |some c=>rw[H,ae]at d;unfold IY at d;rcases vW (af7 (l:=l) c) (dH l i).tail with J |J;rw[J]at d;cases d;rw[J]at d;injection d with d;exact d.symm
  subst this;exact⟨4,rfl,.inl ⟨by decide,rfl⟩⟩
 |none=>
 simp only[rm,je,decide_true,c7,lK]
 exact⟨0,rfl,.inr ⟨rfl,h,(0,⟨l,ft 0 l,[]⟩),(0,⟨l,ft 0 l,dx l⟩),rfl,rfl,rfl⟩⟩
theorem aFy(b:1100<F)(g:Fits F l):∃r:aN×Int,F3 F l=some r/\Ky F l=some r/\(r.2=0 ->jc l/\r.1=linked l)/\(r.2≠0 ->r.1=RJ):=by
 obtain⟨e,a,J⟩:=awR b g;unfold Ky;rw[a,ae];rcases J with⟨f,J⟩|⟨rfl,c,j,k,m,d,J⟩;exact⟨_,J,by rw[uO f];rfl,λ h=>absurd h f,λ _=>rfl⟩
 ·rw[tQ,J,aFz b c j k m d,aKa b c];cases ag:(dR l.length).findSome? (HL l)with
  |some r=>
   have:r=(RJ,2):=by obtain⟨i,_,a⟩:=dX ag;unfold HL at a;split at a;injection a with a;exact a.symm;cases a
   subst this;exact⟨_,rfl,rfl,λ h=>absurd h (by decide),λ _=>rfl⟩
  |none=>refine⟨_,rfl,?_,λ _=>⟨c,?_⟩,λ h=>absurd rfl h⟩;simp only[GF,sW,d];simp only[d];rfl
end
theorem oP{α:Type} [DecidableEq α]{F:Nat}{a b:List α}(l:a.length=b.length){L:Nat->Int->Option (Way Bool Unit)}(f:a.length<=140737488355328)
 (aj:∀k (i:Nat) x y,a[i]? =some x->b[i]? =some y->L (k+1) (i:Int)=cond (!decide (x=y)) (some (.out false)) (L k (ap ((i:Int)+1))))(g:∀k,L (k+1) (a.length:Int)=some (.go ()))(h:a.length<F) :
 L F 0=some (if a=b then .go ()else .out false):=by
 have l1:L F 0=some (cz ((dR a.length).findSome? λ i=>if a[i]? =b[i]? then none else some false)):=mg _ f (λ k i hi=>by
  rw[aj k i a[i] (b[i]'(by omega)) (aR hi) (aR (show i<b.length by omega)),aR hi,aR (show i<b.length by omega)];simp only[aM];by_cases e:a[i]=b[i]'(by omega);rw[lu e,lz e];rfl
  ·rw[lx e,ly e];rfl) g h
 rw[l1]
 cases d:(dR a.length).findSome? λ i=>if a[i]? =b[i]? then none else some false with
 |some e=>obtain⟨i,hi,c⟩:=dX d;split at c;cases c;rename_i j;injection c with c;subst c;rw[ly (λ e=>j (by rw[e]))];rfl
 |none=>rw[lz];rfl;apply jZ;intro i;by_cases hi:i<a.length;have:=fZ.1 d i (by simpa using hi);split at this;assumption;cases this;rw[fk (by omega),fk (by omega)]
theorem Wn{α β:Type}(l:List α):l.findSome? (λ _=>(none:Option β))=none:=by rw[fZ];intro _ _;rfl
theorem qP{p:Prop} [Decidable p]{Y:Option Bool}:cn (α:=Unit) (some (if p then(.go ():Way Bool Unit)else .out false)) (λ _=>Y)=if p then Y else some false:=by by_cases h:p<;>simp[h]
theorem af8{p:Prop} [Decidable p]{Y:Option (Way Bool Unit)}:di (α:=Unit) (some (if p then(.go ():Way Bool Unit)else .out false)) (λ _=>Y)=if p then Y else some (.out false):=by by_cases h:p<;>simp[h]
theorem o5{α:Type}{a b:List α}:decide ((a.length:Int)=(b.length:Int))=decide (a.length=b.length):=by rw[h5];simp;omega
theorem tR{α:Type} [DecidableEq α]{a b:List α}(h:a.length≠b.length):decide (a=b)=false:=lx (λ e=>h (by rw[e]))
section
variable{F:Nat}
theorem anr{a b:List Field}(d:Small F a.length):HC F a b=some (decide (a=b)):=by unfold HC;rw[o5];by_cases c:a.length=b.length;rw[lu c];simp only[c7,lK];rw[oP c d.1 (L:=Ek a b) (λ k i x y ad hy=>by rw[Ek,bH (ba.1 ad).1,lA,br ad,ae,br hy,ae]) (λ k=>by rw[Ek,bG];rfl) d.2,qP];by_cases h:a=b<;>simp[h];rw[lx c,tR c];rfl
theorem aKQ{a b:List Kind}(d:Small F a.length):xX F a b=some (decide (a=b)):=by unfold xX;rw[o5];by_cases c:a.length=b.length;rw[lu c];simp only[c7,lK];rw[oP c d.1 (L:=r6 a b) (λ k i x y ad hy=>by rw[r6,bH (ba.1 ad).1,lA,br ad,ae,br hy,ae]) (λ k=>by rw[r6,bG];rfl) d.2,qP];by_cases h:a=b<;>simp[h];rw[lx c,tR c];rfl
theorem aKU{l:List al}(h:Fits F l):HB F l l=some true:=by unfold HB;rw[lu rfl];simp only[c7,lK];have l1:Eh F l l F 0=some (cz (l.findSome? λ _=>(none:Option Bool))):=each (λ _=>none) h.1.1 (λ k i c ad=>by have hc:=h.2 c (b_ ad);have d:Ei F c c F 0=some (cz (c.bn.findSome? λ _=>(none:Option Bool))):=each (λ _=>none) hc.methods.1 (λ k i m hy=>by have a:=hc.method m (b_ hy);have e:Ej m m F 0=some (cz (m.cL.findSome? λ _=>(none:Option Bool))):=each (λ _=>none) a.Bz.1 (λ k i x b=>by rw[Ej,bH (ba.1 b).1,lA,br b,ae,ae,lu rfl];rfl) (λ k=>by rw[Ej,bG];rfl) a.Bz.2;rw[Ei,bH (ba.1 hy).1,lA,br hy,ae,ae,aKQ a.args,ae,e,Wn];simp;rfl) (λ k=>by rw[Ei,bG];rfl) hc.methods.2;rw[Eh,bH (ba.1 ad).1,lA,br ad,ae,ae,anr hc.fields,ae,d,Wn];simp;rfl) (λ k=>by rw[Eh,bG];rfl) h.1.2;rw[l1,Wn];rfl
structure OV (F:Nat) (k:aN):Prop where
 dC:Small F k.aT.length
 fields:Small F k.Fields.length
 field:∀x∈k.Fields,Small F x.length
 names:Small F k.Names.length
 name:∀x∈k.Names,Small F x.length
 targets:Small F k.aU.length
 target:∀x∈k.aU,Small F x.length
instance:DecidableEq (List (List Field)):=inferInstance
theorem aKR{a b:aN}(c:OV F a)(hc:HB F a.aV b.aV=some true) :
 HD F a b=some (decide (a.aT=b.aT/\a.Fields=b.Fields/\a.Names=b.Names/\a.aU=b.aU)):=by
 unfold HD
 rw[hc,ae,o5,o5,o5,o5]
 have aK:∀(_: ¬(a.aT=b.aT/\a.Fields=b.Fields/\a.Names=b.Names/\a.aU=b.aU)),decide (a.aT=b.aT/\a.Fields=b.Fields/\a.Names=b.Names/\a.aU=b.aU)=false:=λ h=>lx h
 by_cases f:b.aT.length=a.aT.length
 case neg=>rw[aK (λ e=>f (by rw[e.1])),lx f];rfl
 by_cases J:a.Fields.length=b.Fields.length
 case neg=>rw[aK (λ e=>J (by rw[e.2.1])),lu f,lx J];rfl
 by_cases g:a.Names.length=b.Names.length
 case neg=>rw[aK (λ e=>g (by rw[e.2.2.1])),lu f,lu J,lx g];rfl
 by_cases n:a.aU.length=b.aU.length
 case neg=>rw[aK (λ e=>n (by rw[e.2.2.2])),lu f,lu J,lu g,lx n];rfl
 rw[lu f,lu J,lu g,lu n]
 simp only[c7,Bool.or_self,lK]
 have l1:=oP (F:=F) f.symm c.dC.1 (L:=AQ a b) (λ k i x y ad hy=>by rw[AQ,bH (ba.1 ad).1,lA,br ad,ae,br hy,ae]) (λ k=>by rw[AQ,bG];rfl) c.dC.2
 have p:=oP (F:=F) J c.fields.1 (L:=En F a b) (λ k i x y ad hy=>by rw[En,bH (ba.1 ad).1,lA,br ad,ae,br hy,ae,anr (c.field x (b_ ad)),ae]) (λ k=>by rw[En,bG];rfl) c.fields.2
 have q:=oP (F:=F) g c.names.1 (L:=Eo F a b) (λ k i x y ad hy=>by
  have l:=c.name x (b_ ad);rw[Eo,bH (ba.1 ad).1,lA,br ad,ae,br hy,ae,o5];by_cases d:x.length=y.length;rw[lu d];simp only[c7,lK];rw[oP (F:=F) d l.1 (L:=Ep a b i) (λ k j u v m o=>by rw[Ep,br ad,ae,bH (ba.1 m).1,lA,ae,br m,ae,br hy,ae,br o,ae]) (λ k=>by rw[Ep,br ad,ae,bG];rfl) l.2,af8];by_cases h:x=y;rw[lz h,lu h];rfl;rw[ly h,lx h];rfl
  ·rw[lx d,tR d];rfl) (λ k=>by rw[Eo,bG];rfl) c.names.2
 have r:=oP (F:=F) n c.targets.1 (L:=Er F a b) (λ k i x y ad hy=>by
  have l:=c.target x (b_ ad);rw[Er,bH (ba.1 ad).1,lA,br ad,ae,br hy,ae,o5];by_cases d:x.length=y.length;rw[lu d];simp only[c7,lK];rw[oP (F:=F) d l.1 (L:=Es a b i) (λ k j u v m o=>by rw[Es,br ad,ae,bH (ba.1 m).1,lA,ae,br m,ae,br hy,ae,br o,ae]) (λ k=>by rw[Es,br ad,ae,bG];rfl) l.2,af8];by_cases h:x=y;rw[lz h,lu h];rfl;rw[ly h,lx h];rfl
  ·rw[lx d,tR d];rfl) (λ k=>by rw[Er,bG];rfl) c.targets.2
 rw[l1,p,q,r,qP,qP,qP,qP]
 by_cases e1:a.aT=b.aT
 ·by_cases e2:a.Fields=b.Fields;by_cases e3:a.Names=b.Names;by_cases e4:a.aU=b.aU<;>simp[e1,e2,e3,e4];simp[e3];simp[e2]
 ·simp[e1]
end
section
variable{F:Nat}{l:List al}
theorem aKp{β:Type}{f:Int->β}{n:Nat}:(rows f n).length=n:=by simp[rows]
end
section
variable{F:Nat}
theorem ayN{a b:List (Int)}(d:Small F a.length):NE F a b=some (decide (a=b)):=by unfold NE;rw[o5];by_cases c:a.length=b.length;rw[lu c];simp only[c7,lK];rw[oP c d.1 (L:=CT a b) (λ k i x y ad hy=>by rw[CT,bH (ba.1 ad).1,lA,br ad,ae,br hy,ae]) (λ k=>by rw[CT,bG];rfl) d.2,qP];by_cases h:a=b<;>simp[h];rw[lx c,tR c];rfl
theorem ayL{a b:List (Field)}(d:Small F a.length):NB F a b=some (decide (a=b)):=by unfold NB;rw[o5];by_cases c:a.length=b.length;rw[lu c];simp only[c7,lK];rw[oP c d.1 (L:=CR a b) (λ k i x y ad hy=>by rw[CR,bH (ba.1 ad).1,lA,br ad,ae,br hy,ae]) (λ k=>by rw[CR,bG];rfl) d.2,qP];by_cases h:a=b<;>simp[h];rw[lx c,tR c];rfl
theorem ayO{a b:List (List UInt8)}(d:Small F a.length):NF F a b=some (decide (a=b)):=by unfold NF;rw[o5];by_cases c:a.length=b.length;rw[lu c];simp only[c7,lK];rw[oP c d.1 (L:=CU a b) (λ k i x y ad hy=>by rw[CU,bH (ba.1 ad).1,lA,br ad,ae,br hy,ae]) (λ k=>by rw[CU,bG];rfl) d.2,qP];by_cases h:a=b<;>simp[h];rw[lx c,tR c];rfl
theorem ayQ{a b:List (Target)}(d:Small F a.length):ND F a b=some (decide (a=b)):=by unfold ND;rw[o5];by_cases c:a.length=b.length;rw[lu c];simp only[c7,lK];rw[oP c d.1 (L:=CS a b) (λ k i x y ad hy=>by rw[CS,bH (ba.1 ad).1,lA,br ad,ae,br hy,ae]) (λ k=>by rw[CS,bG];rfl) d.2,qP];by_cases h:a=b<;>simp[h];rw[lx c,tR c];rfl
theorem ayM{a b:List (List Field)}(e:Small F a.length)(ad:∀x∈a,Small F x.length):Ny F a b=some (decide (a=b)):=by unfold Ny;rw[o5];by_cases c:a.length=b.length;rw[lu c];simp only[c7,lK];rw[oP c e.1 (L:=CO F a b) (λ k i x y d J=>by rw[CO,bH (ba.1 d).1,lA,br d,ae,br J,ae,ayL (ad x (b_ d)),ae]) (λ k=>by rw[CO,bG];rfl) e.2,qP];by_cases h:a=b<;>simp[h];rw[lx c,tR c];rfl
theorem ayP{a b:List (List (List UInt8))}(e:Small F a.length)(ad:∀x∈a,Small F x.length):NA F a b=some (decide (a=b)):=by unfold NA;rw[o5];by_cases c:a.length=b.length;rw[lu c];simp only[c7,lK];rw[oP c e.1 (L:=CQ F a b) (λ k i x y d J=>by rw[CQ,bH (ba.1 d).1,lA,br d,ae,br J,ae,ayO (ad x (b_ d)),ae]) (λ k=>by rw[CQ,bG];rfl) e.2,qP];by_cases h:a=b<;>simp[h];rw[lx c,tR c];rfl
theorem ayR{a b:List (List Target)}(e:Small F a.length)(ad:∀x∈a,Small F x.length):Nz F a b=some (decide (a=b)):=by unfold Nz;rw[o5];by_cases c:a.length=b.length;rw[lu c];simp only[c7,lK];rw[oP c e.1 (L:=CP F a b) (λ k i x y d J=>by rw[CP,bH (ba.1 d).1,lA,br d,ae,br J,ae,ayQ (ad x (b_ d)),ae]) (λ k=>by rw[CP,bG];rfl) e.2,qP];by_cases h:a=b<;>simp[h];rw[lx c,tR c];rfl
theorem aKT{a b:aN}(c:OV F a):IQ F a b=some (decide (a.aT=b.aT/\a.Fields=b.Fields/\a.Names=b.Names/\a.aU=b.aU)):=by
 unfold IQ;rw[ayN c.dC,ae];by_cases e1:a.aT=b.aT;case neg=>rw[lx e1,lx (λ e=>e1 e.1)];rfl
 rw[lu e1,lA,ayM c.fields c.field,ae];by_cases e2:a.Fields=b.Fields;case neg=>rw[lx e2,lx (λ e=>e2 e.2.1)];rfl
 rw[lu e2,lA,ayP c.names c.name,ae];by_cases e3:a.Names=b.Names;case neg=>rw[lx e3,lx (λ e=>e3 e.2.2.1)];rfl
 rw[lu e3,lA,ayR c.targets c.target,ae];congr 1;rw[h5];simp[e1,e2,e3]
theorem awS{k:aN}(i:1100<F)(hc:Fits F k.aV)(h:OV F k):∃e,rb F k=some e/\xS F k=some e/\((e=4)\/(e=0/\jc k.aV/\k=linked k.aV)):=by
 obtain⟨r,j,J,l,p⟩:=aFy i hc;unfold rb xS;rw[j,J,ae,ae];by_cases g:r.2=0;case neg=>rw[uO g,uO g];exact⟨4,rfl,rfl,.inl rfl⟩
 obtain⟨m,e⟩:=l g;have n:IQ F (⟨k.aV,k.aT,k.Fields,k.Names,k.aU⟩:aN) (⟨r.1.aV,r.1.aT,r.1.Fields,r.1.Names,r.1.aU⟩:aN)=some (decide (k.aT=r.1.aT/\k.Fields=r.1.Fields/\k.Names=r.1.Names/\k.aU=r.1.aU)):=aKT (a:=k) (b:=r.1) h;have o:HD F (⟨k.aV,k.aT,k.Fields,k.Names,k.aU⟩:aN) (⟨r.1.aV,r.1.aT,r.1.Fields,r.1.Names,r.1.aU⟩:aN)=some (decide (k.aT=r.1.aT/\k.Fields=r.1.Fields/\k.Names=r.1.Names/\k.aU=r.1.aU)):=aKR (a:=k) (b:=r.1) h (by rw[e];exact aKU hc);rw[n,o,g];simp only[tQ,ae];by_cases aj:k.aT=r.1.aT/\k.Fields=r.1.Fields/\k.Names=r.1.Names/\k.aU=r.1.aU;rw[lu aj];refine⟨0,rfl,rfl,.inr ⟨rfl,m,?_⟩⟩;obtain⟨e1,e2,e3,e4⟩:=aj;rw[e]at e1 e2 e3 e4;obtain⟨a,b,c,d,f⟩:=k;simp only at e1 e2 e3 e4;subst e1 e2 e3 e4;rfl;rw[lx aj];exact⟨4,rfl,rfl,.inl rfl⟩
end
def Cz(h:aP):Prop:=(3<=h.ai/\h.ai<=2000)/\(3<=h.az/\h.az<=2000)
def okB(h:aP):Prop:=(h.wO.length:Int)=1+h.ai+h.az
def I'(h:aP):Prop:=(1<=h.aI/\h.aI<=h.ai+1)/\(h.ai+1<=h.aD/\h.aD<=h.ai+h.az+1)/\1<=h.Next
instance (h:aP):Decidable (Cz h):=inferInstanceAs (Decidable ((3<=h.ai/\h.ai<=2000)/\(3<=h.az/\h.az<=2000)))
instance (h:aP):Decidable (okB h):=inferInstanceAs (Decidable ((h.wO.length:Int)=1+h.ai+h.az))
instance (h:aP):Decidable (I' h):=inferInstanceAs (Decidable ((1<=h.aI/\h.aI<=h.ai+1)/\(h.ai+1<=h.aD/\h.aD<=h.ai+h.az+1)/\1<=h.Next))
def pa(h:aP):Int:=if Cz h then(if okB h then(if I' h then 0 else 3)else 1)else 3
theorem aK2(h:aP):Iq h=some (pa h):=by
 unfold Iq qX pa;simp only[ae];by_cases d:Cz h
 case neg=>
  rw[ly d]
  unfold Cz at d
  by_cases a:3<=h.ai/\h.ai<=2000
  ·have b: ¬(3<=h.az/\h.az<=2000):=λ b=>d ⟨a,b⟩;rw[show(decide (3<=h.ai)&&decide (h.ai<=2000))=true by simpa using a,show(decide (3<=h.az)&&decide (h.az<=2000))=false by rw[fX];simpa using b];rfl
  ·rw[show(decide (3<=h.ai)&&decide (h.ai<=2000))=false by rw[fX];simpa using a];rfl
 rw[lz d];unfold Cz at d;obtain⟨⟨f,g⟩,a3,a4⟩:=d
 rw[show(decide (3<=h.ai)&&decide (h.ai<=2000))=true by simp;omega,show(decide (3<=h.az)&&decide (h.az<=2000))=true by simp;omega,
  bX (n:=1+h.ai) (by omega) (by omega),bX (n:=1+h.ai+h.az) (by omega) (by omega),bX (n:=h.ai+1) (by omega) (by omega),bX (n:=h.ai+h.az) (by omega) (by omega),bX (n:=h.ai+h.az+1) (by omega) (by omega)]
 simp only[c7,lK];by_cases bO:okB h;case neg=>rw[ly bO,show decide ((h.wO.length:Int)=1+h.ai+h.az)=false from lx bO];rfl
 rw[lz bO,show decide ((h.wO.length:Int)=1+h.ai+h.az)=true from lu bO];simp only[c7,lK];by_cases e:I' h;rw[lz e];obtain⟨c1,c2,c3⟩:=e;rw[show(decide (1<=h.aI)&&decide (h.aI<=h.ai+1))=true by simpa using c1,show(decide (h.ai+1<=h.aD)&&decide (h.aD<=h.ai+h.az+1))=true by simpa using c2,show decide (h.Next<1)=false from lx (by omega)];rfl
 ·rw[ly e];by_cases c1:1<=h.aI/\h.aI<=h.ai+1
  ·rw[show(decide (1<=h.aI)&&decide (h.aI<=h.ai+1))=true by simpa using c1];by_cases c2:h.ai+1<=h.aD/\h.aD<=h.ai+h.az+1
   ·have c3:h.Next<1:=by
     rcases Int.lt_or_le h.Next 1 with c |c
     ·exact c
     ·exact absurd ⟨c1,c2,c⟩ e
    rw[lu c3,Bool.or_true];rfl
   ·rw[show(decide (h.ai+1<=h.aD)&&decide (h.aD<=h.ai+h.az+1))=false by rw[fX];simpa using c2];rfl
  ·rw[show(decide (1<=h.aI)&&decide (h.aI<=h.ai+1))=false by rw[fX];simpa using c1];rfl
structure jT (h:aP):Prop where
 A:Cz h
 B:okB h
 C:I' h
theorem acm{h:aP}:pa h=0↔jT h:=by unfold pa;constructor;intro e;split at e;split at e;split at e;exact⟨‹_›,‹_›,‹_›⟩;cases e;cases e;cases e;rintro⟨a,b,c⟩;rw[lz a,lz b,lz c]
section
variable{F:Nat}{k:aN}{W:List Int}
theorem eQ.mem{to q:Nat}{L:List Int}(h:eQ k W to q L):∀a∈L,∃n:Nat,a=(n:Int)/\q<=n/\n+3+(wd W (n+1)).toNat<=to/\fb k (wd W n)=true/\isLen k (wd W n) (wd W (n+1))=true:=by
 induction h with
 |nil=>intro a ao;cases ao
 |cons b J c _ d=>intro a ao;rcases cG.1 ao with rfl |ao;exact⟨_,rfl,cP _,c,b,J⟩;obtain⟨n,e,g,f⟩:=d a ao;exact⟨n,e,by omega,f⟩
theorem eQ.w_{to q:Nat}{L L':List Int}(h:eQ k W to q L)(h':eQ k W to q L'):L=L':=by
 induction h generalizing L' with
 |nil=>
  cases h' with
  |nil=>rfl
  |cons _ _ _ _=>omega
 |cons _ _ c _ a=>
  cases h' with
  |nil=>omega
  |cons _ _ _ b=>rw[a b]
theorem eQ.len{to q:Nat}{L:List Int}(h:eQ k W to q L):3*L.length+q<=to:=by
 induction h with
 |nil=>simp
 |cons _ _ a _ b=>simp only[cT];omega
theorem anR{l:List Int}{N:Nat}(h:A1 l)(a:∀i,i<l.length->0<=wd l i/\wd l i<N):l.length<=N:=by
 have key:∀i,i<l.length->(i:Int)<=wd l i:=by
  intro i;induction i with
  |zero=>intro hi;exact(a 0 hi).1
  |succ i b=>intro hi;have:=h i (i+1) (by omega) hi;have:=b (by omega);omega
 rcases km l.length with e |e;omega;have:=key (l.length-1) (by omega);have:=(a (l.length-1) (by omega)).2;omega
theorem Ri(x:Int):∀A:List Int,(cB (A.map λ a=>(a,true)) x).getD false=decide (x∈A)
 |[]=>by simp[cB]
 |a::r=>by rw[ea,cB];by_cases e:a=x;simp[e];rw[ly e,Ri x r];have: ¬x=a:=λ h=>e h.symm;simp[this]
def view(h:aP)(k:aN)(Y O:List Int):bp:=⟨h,⟨k⟩,Y,O,(Y++O).map λ a=>(a,true)⟩
structure jf (h:aP) (k:aN) (Y O:List Int):Prop where
 y:eQ k h.wO h.aI.toNat 1 Y
 o:eQ k h.wO h.aD.toNat (h.ai+1).toNat O
theorem jT.eZ{h:aP}(aj:jT h):h.wO.length<=4001:=by obtain⟨⟨⟨a,b⟩,c,d⟩,e,_⟩:=aj;unfold okB at e;omega
theorem jf.qu{h:aP}{Y O:List Int}(f:gM k)(aj:jT h)(c:jf h k Y O):qL (view h k Y O):=by
 have i:=aj.eZ;obtain⟨⟨⟨j,l⟩,a3,a4⟩,b,⟨c1,c2⟩,⟨c3,c4⟩,c5⟩:=aj;unfold okB at b;refine⟨f,by show h.wO.length<=4900;omega,?_,λ a ao=>?_,λ x=>Ri x _⟩
 ·have:=c.y.len;have:=c.o.len;show Y.length+O.length<=5000
  omega
 ·have ao:a∈Y++O:=ao;rcases cg.1 ao with ao |ao;obtain⟨n,rfl,g,J,d,e⟩:=c.y.mem a ao;exact⟨by omega,by show((n:Int).toNat)+3+(wd h.wO ((n:Int).toNat+1)).toNat<=h.wO.length;rw[bR];omega,by rw[bR];exact d,by rw[bR];exact e⟩;obtain⟨n,rfl,g,J,d,e⟩:=c.o.mem a ao;exact⟨by omega,by show((n:Int).toNat)+3+(wd h.wO ((n:Int).toNat+1)).toNat<=h.wO.length;rw[bR];omega,by rw[bR];exact d,by rw[bR];exact e⟩
def a1(v:bp):Int:=if(v.ai++v.az).any (nZ v)then 3 else if((v.ai++v.az).map (aj v.H.wO)).Nodup then 0 else 6
def mF(v:bp):Int:=if(v.ai++v.az).any (qj v)then 5 else if(free v.H).any (λ x=>!decide (x=0))then 1 else 0
def Cw(v:bp):Int:=if(dR v.H.aJ.length).any (iB v)||v.az.any (rU v)then 4 else 0
def qt(v:bp):Int:=if a1 v=0 then(if mF v=0 then Cw v else mF v)else a1 v
inductive Spec (h:aP) (k:aN):Option bp×Int->Prop
 |size: ¬jT h->Spec h k (none,pa h)
 |form:jT h->(∀Y O,¬jf h k Y O)->Spec h k (none,1)
 |rest {Y O:List Int}:jT h->jf h k Y O->Spec h k (if qt (view h k Y O)=0 then some (view h k Y O)else none,qt (view h k Y O))
theorem aah(y:10000<F){h:aP}(o:gM k)(E:Small F h.aJ.length):∃r,wi F h k=some r/\Spec h k r:=by
 unfold wi;have b8:Iq (⟨h.wO,h.ai,h.az,h.aI,h.aD,h.aJ,h.Next⟩:aP)=some (pa h):=aK2 h;rw[b8,ae];by_cases aj:jT h
 case neg=>
  rw[uO (λ e=>aj (acm.1 e))]
  exact⟨_,rfl,.size aj⟩
 rw[acm.2 aj,tQ];have hw:=aj.eZ;have j:=aj;obtain⟨⟨⟨b',a2⟩,a3,a4⟩,b,⟨c1,c2⟩,⟨c3,c4⟩,c5⟩:=aj;unfold okB at b;have G:=an3 (F:=F) (by omega) (⟨h,⟨k⟩,[],[],[]⟩:bp) o (q:=1) (to:=h.aI.toNat) (by omega) (by show _<=h.wO.length;omega) (by show h.wO.length<=5000;omega) (λ p A=>by cases A);rw[show((h.aI.toNat:Nat):Int)=h.aI by omega]at G;rw[bX (n:=h.ai+1) (by omega) (by omega)];rcases G with⟨Y,H,e1⟩|⟨B,d,e1⟩
 case inr=>
  have e1:oV F (⟨(⟨h.wO,h.ai,h.az,h.aI,h.aD,h.aJ,h.Next⟩:aP),(⟨(⟨k.aV,k.aT,k.Fields,k.Names,k.aU⟩:aN)⟩:b4),[],[],[]⟩:bp) 1 h.aI=some ([],false,(⟨h,⟨k⟩,[],[],d⟩:bp)):=e1
  rw[e1,ae]
  have u:∃r,oV F (⟨(⟨h.wO,h.ai,h.az,h.aI,h.aD,h.aJ,h.Next⟩:aP),(⟨(⟨k.aV,k.aT,k.Fields,k.Names,k.aU⟩:aN)⟩:b4),[],[],d⟩:bp) (h.ai+1) h.aD=some r:=by
   unfold oV;have key:∀(f q:Nat)(acc:List Int)(m:List (Int×Bool)),q<=h.aD.toNat->h.aD.toNat-q<f->acc.length+(h.aD.toNat-q)<=5000->∃r,qW h.aD (⟨h,⟨k⟩,[],[],d⟩:bp) f acc m (q:Int)=some r:=by
    intro f;induction f with
    |zero=>intro q acc m _ Q;omega
    |succ f R=>
     intro q acc m Q aa yu;rw[qW];by_cases I:(q:Int)<h.aD;case neg=>rw[lx I];exact⟨_,rfl⟩
     rw[lu I,lA,bX (n:=(q:Int)+3) (by omega) (by omega)];by_cases K:h.aD<(q:Int)+3;rw[lu K];exact⟨_,rfl⟩;rw[lx K,lK];show∃r,(idx h.wO (q:Int)).bind _=some r
     rw[fI (by omega),ae];show∃r,(idx h.wO (ap ((q:Int)+1))).bind _=some r
     rw[bX (n:=(q:Int)+1) (by omega) (by omega),h8 (i:=q+1) (by omega) (by omega),ae];have e1:ui (⟨(⟨k.aV,k.aT,k.Fields,k.Names,k.aU⟩:aN)⟩:b4) (wd h.wO q)=some (fb k (wd h.wO q)):=aci o _;show∃r,(ui (⟨(⟨k.aV,k.aT,k.Fields,k.Names,k.aU⟩:aN)⟩:b4) (wd h.wO q)).bind _=some r
     rw[e1,ae];cases v:fb k (wd h.wO q)with
     |false=>exact⟨_,rfl⟩
     |true=>
      have e2:uj (⟨(⟨k.aV,k.aT,k.Fields,k.Names,k.aU⟩:aN)⟩:b4) (wd h.wO q) (wd h.wO (q+1))=some (isLen k (wd h.wO q) (wd h.wO (q+1))):=acj o v _;rw[c7,lK];show∃r,(uj (⟨(⟨k.aV,k.aT,k.Fields,k.Names,k.aU⟩:aN)⟩:b4) (wd h.wO q) (wd h.wO (q+1))).bind _=some r
      rw[e2,ae];cases c:isLen k (wd h.wO q) (wd h.wO (q+1))with
      |false=>exact⟨_,rfl⟩
      |true=>
       obtain⟨⟨l0,l1⟩,_⟩:=jz.1 c;rw[c7,hK,bX (n:=(q:Int)+3+wd h.wO (q+1)) (by omega) (by omega)];by_cases L:h.aD<(q:Int)+3+wd h.wO (q+1);rw[lu L];exact⟨_,rfl⟩
       rw[lx L,lK,im (by simp;omega),ae,bX (n:=3+wd h.wO (q+1)) (by omega) (by omega),bX (n:=(q:Int)+(3+wd h.wO (q+1))) (by omega) (by omega),
        show(q:Int)+(3+wd h.wO (q+1))=((q+3+(wd h.wO (q+1)).toNat:Nat):Int) by omega]
       exact R _ _ _ (by omega) (by omega) (by simp;omega)
   obtain⟨r,w⟩:=key F (h.ai+1).toNat [] d (by omega) (by omega) (by simp;omega);rw[show(((h.ai+1).toNat:Nat):Int)=h.ai+1 by omega]at w;have w:qW h.aD (⟨(⟨h.wO,h.ai,h.az,h.aI,h.aD,h.aJ,h.Next⟩:aP),(⟨(⟨k.aV,k.aT,k.Fields,k.Names,k.aU⟩:aN)⟩:b4),[],[],d⟩:bp) F [] d (h.ai+1)=some r:=w;rw[w];cases r<;>exact⟨_,rfl⟩
  obtain⟨r,e2⟩:=u
  rw[e2,ae]
  exact⟨_,rfl,.form j (λ Y O c=>B Y c.y)⟩
 have e1:oV F (⟨(⟨h.wO,h.ai,h.az,h.aI,h.aD,h.aJ,h.Next⟩:aP),(⟨(⟨k.aV,k.aT,k.Fields,k.Names,k.aU⟩:aN)⟩:b4),[],[],[]⟩:bp) 1 h.aI=some (Y,true,(⟨h,⟨k⟩,[],[],Y.map λ a=>(a,true)⟩:bp)):=e1;rw[e1,ae];have u:=an3 (F:=F) (by omega) (⟨h,⟨k⟩,[],[],Y.map λ a=>(a,true)⟩:bp) o (q:=(h.ai+1).toNat) (to:=h.aD.toNat) (by omega) (by show _<=h.wO.length;omega) (by show h.wO.length<=5000;omega) (λ p A=>by
  obtain⟨a,x,rfl⟩:=ho.1 A;have C:eQ k h.wO h.aI.toNat 1 Y:=H;obtain⟨n,rfl,M,J,_⟩:=C.mem a x;show(n:Int)<_
  omega)
 rw[show((h.aD.toNat:Nat):Int)=h.aD by omega,show(((h.ai+1).toNat:Nat):Int)=h.ai+1 by omega]at u;rcases u with⟨O,S,e2⟩|⟨B,d,e2⟩
 case inr=>
  have e2:oV F (⟨(⟨h.wO,h.ai,h.az,h.aI,h.aD,h.aJ,h.Next⟩:aP),(⟨(⟨k.aV,k.aT,k.Fields,k.Names,k.aU⟩:aN)⟩:b4),[],[],Y.map λ a=>(a,true)⟩:bp) (h.ai+1) h.aD=_:=e2
  show∃r,(oV F (⟨(⟨h.wO,h.ai,h.az,h.aI,h.aD,h.aJ,h.Next⟩:aP),(⟨(⟨k.aV,k.aT,k.Fields,k.Names,k.aU⟩:aN)⟩:b4),[],[],Y.map λ a=>(a,true)⟩:bp) (h.ai+1) h.aD).bind _=some r/\_
  rw[e2,ae]
  exact⟨_,rfl,.form j (λ KF T c=>B T c.o)⟩
 have e2:oV F (⟨(⟨h.wO,h.ai,h.az,h.aI,h.aD,h.aJ,h.Next⟩:aP),(⟨(⟨k.aV,k.aT,k.Fields,k.Names,k.aU⟩:aN)⟩:b4),[],[],Y.map λ a=>(a,true)⟩:bp) (h.ai+1) h.aD=some (O,true,(⟨h,⟨k⟩,[],[],(Y.map λ a=>(a,true))++O.map λ a=>(a,true)⟩:bp)):=e2;show∃r,(oV F (⟨(⟨h.wO,h.ai,h.az,h.aI,h.aD,h.aJ,h.Next⟩:aP),(⟨(⟨k.aV,k.aT,k.Fields,k.Names,k.aU⟩:aN)⟩:b4),[],[],Y.map λ a=>(a,true)⟩:bp) (h.ai+1) h.aD).bind _=some r/\_
 rw[e2,ae,<-ja];have c:jf h k Y O:=⟨H,S⟩
 have g:=c.qu o j;have U:Im F (⟨(⟨h.wO,h.ai,h.az,h.aI,h.aD,h.aJ,h.Next⟩:aP),(⟨(⟨k.aV,k.aT,k.Fields,k.Names,k.aU⟩:aN)⟩:b4),Y,O,(Y++O).map λ a=>(a,true)⟩:bp)=some (a1 (view h k Y O)):=aAU y (view h k Y O) g.sc (λ a x=>⟨(g.u_ a x).pos,by have:=(g.u_ a x).fit;omega⟩) (by have:=g.eZ;omega) (by simp[view]);have V:Ip F (⟨(⟨h.wO,h.ai,h.az,h.aI,h.aD,h.aJ,h.Next⟩:aP),(⟨(⟨k.aV,k.aT,k.Fields,k.Names,k.aU⟩:aN)⟩:b4),Y,O,(Y++O).map λ a=>(a,true)⟩:bp)=some (mF (view h k Y O)):=aMc y g (by show 0<=h.ai;omega) ⟨by show 0<=h.aI;omega,by show h.aI<=h.ai+1;omega,by show h.ai+1<=h.wO.length;omega⟩ ⟨by show 0<=h.aD;omega,by show h.aD<=h.wO.length;omega⟩
 have X:Io F (⟨(⟨h.wO,h.ai,h.az,h.aI,h.aD,h.aJ,h.Next⟩:aP),(⟨(⟨k.aV,k.aT,k.Fields,k.Names,k.aU⟩:aN)⟩:b4),Y,O,(Y++O).map λ a=>(a,true)⟩:bp)=some (Cw (view h k Y O)):=
  aG2 y g E.1 E.2 (λ P=>by
   refine fR (anR (N:=5000) (acv λ i hi=>?_) (λ i hi=>?_)) (by omega);have:=P (i+1) hi;unfold iB at this;simp only[hY,k8,decide_eq_false_iff_not,Nat.add_sub_cancel]at this;rcases this.1 with z |z;omega;have z: ¬wd h.aJ (i+1)<=wd h.aJ i:=z;show wd h.aJ i<wd h.aJ (i+1);omega
   ·have:=P i hi;unfold iB uN at this;simp only[hY]at this;have Z:wd (view h k Y O).H.aJ i∈(view h k Y O).ai++(view h k Y O).az:=by have:=this.2.1.1;simp only[Bool.not_eq_false']at this;exact of_decide_eq_true this
    have v:=g.u_ _ Z;have M:0<=wd h.aJ i:=v.pos;have J:(wd h.aJ i).toNat+3+(wd h.wO ((wd h.aJ i).toNat+1)).toNat<=h.wO.length:=v.fit;exact⟨M,by show wd h.aJ i<((5000 :Nat):Int);omega⟩)
 simp only[c7,Bool.or_self,lK];rw[U,ae];by_cases l:a1 (view h k Y O)=0
 case neg=>
  rw[uO l]
  have bU:qt (view h k Y O)=a1 (view h k Y O):=by unfold qt;rw[ly l]
  have:=Spec.rest j c
  rw[bU,ly l]at this
  exact⟨_,rfl,this⟩
 rw[l,tQ,V,ae];by_cases s:mF (view h k Y O)=0
 case neg=>
  rw[uO s]
  have bU:qt (view h k Y O)=mF (view h k Y O):=by unfold qt;rw[lz l,ly s]
  have:=Spec.rest j c
  rw[bU,ly s]at this
  exact⟨_,rfl,this⟩
 rw[s,tQ,X,ae];have bU:qt (view h k Y O)=Cw (view h k Y O):=by unfold qt;rw[lz l,lz s]
 have t:=Spec.rest j c;rw[bU]at t;by_cases D:Cw (view h k Y O)=0;rw[D]at t⊢;rw[tQ];exact⟨_,rfl,t⟩;rw[uO D];rw[ly D]at t;exact⟨_,rfl,t⟩
end
theorem JP{W:List Int}{p j:Nat}{x:Int}(a:p<W.length):wd (W.set p x) j=if j=p then x else wd W j:=by unfold wd;rw[List.getElem?_set];by_cases e:j=p;subst e;simp[a];have: ¬p=j:=λ h=>e h.symm;simp[e,this]
theorem ak5{h:aP}{x:Int}(hy:0<=h.ai)(ad:x∈free h):∃i:Nat,i<h.wO.length/\(i=0\/(h.aI<=i/\(i:Int)<=h.ai)\/h.aD<=i)/\x=wd h.wO i:=by
 unfold free at ad;rw[cg,cg]at ad;rcases ad with ad |ad |ad
 ·obtain⟨i,hi,e⟩:=hN ad;have a:i<1/\i<h.wO.length:=by rw[fe]at hi;omega
  refine⟨i,a.2,.inl (by omega),?_⟩;rw[<-e,List.getElem_take];exact(pd (aR a.2)).symm
 ·obtain⟨i,hi,e⟩:=hN ad;have a:i<min (h.ai+1).toNat h.wO.length-h.aI.toNat:=by simpa using hi
  have J:h.aI.toNat+i<h.wO.length:=by omega
  refine⟨h.aI.toNat+i,J,.inr (.inl ⟨by omega,by omega⟩),?_⟩;rw[<-e,List.getElem_drop,List.getElem_take];exact(pd (aR J)).symm
 ·obtain⟨i,hi,e⟩:=hN ad;have a:i<h.wO.length-h.aD.toNat:=by simpa using hi
  have J:h.aD.toNat+i<h.wO.length:=by omega
  refine⟨h.aD.toNat+i,J,.inr (.inr (by omega)),?_⟩;rw[<-e,List.getElem_drop];exact(pd (aR J)).symm
theorem ah6{h:aP}(a:0<=h.aI/\0<=h.aD){i:Nat}(hi:i<h.wO.length)(hc:i=0\/(h.aI<=i/\(i:Int)<=h.ai)\/h.aD<=i):wd h.wO i∈free h:=by have key:wd h.wO i=h.wO[i]:=pd (aR hi);unfold free;rw[cg,cg,key];rcases hc with rfl |⟨h1,J⟩|h1;left;rw[lh];exact⟨0,by rw[gK,lz (by omega)];exact aR hi⟩;right;left;rw[lh];refine⟨i-h.aI.toNat,?_⟩;rw[ia,gK,lz (by omega),show h.aI.toNat+(i-h.aI.toNat)=i by omega];exact aR hi;right;right;rw[lh];refine⟨i-h.aD.toNat,?_⟩;rw[ia,show h.aD.toNat+(i-h.aD.toNat)=i by omega];exact aR hi
structure Ok (h:aP) (k:aN) (Y O:List Int):Prop where
 hash:∀a∈Y++O,1<=aj h.wO a/\aj h.wO a<h.Next
 nodup:((Y++O).map (aj h.wO)).Nodup
 ref:∀a∈Y++O,∀w∈refs k h.wO a.toNat,wd h.wO w.toNat=0\/wd h.wO w.toNat∈Y++O
 fr:∀i:Nat,i<h.wO.length->(i=0\/(h.aI<=i/\(i:Int)<=h.ai)\/h.aD<=i)->wd h.wO i=0
 NJ:A1 h.aJ
 nt:∀x∈h.aJ,x∈O/\refs k h.wO x.toNat≠[]
 must:∀a∈O,¬a∈h.aJ->∀w∈refs k h.wO a.toNat,¬(0<wd h.wO w.toNat/\wd h.wO w.toNat<=h.ai)
section
variable{F:Nat}{k:aN}{h:aP}{Y O:List Int}
theorem jf.Hc(aj:jT h)(b:jf h k Y O):∀a∈Y,1<=a/\a.toNat+3+(wd h.wO (a.toNat+1)).toNat<=h.aI.toNat:=λ a c=>by obtain⟨n,rfl,d,J,_⟩:=b.y.mem a c;exact⟨by omega,by rw[bR];exact J⟩
theorem jf.c'(aj:jT h)(b:jf h k Y O):∀a∈O,h.ai+1<=a/\a.toNat+3+(wd h.wO (a.toNat+1)).toNat<=h.aD.toNat:=λ a c=>by obtain⟨n,rfl,d,J,_⟩:=b.o.mem a c;have:=aj.A.1.1;exact⟨by omega,by rw[bR];exact J⟩
theorem aos(v:gM k)(r:jT h)(t:jf h k Y O):qt (view h k Y O)=0↔Ok h k Y O:=by
 have E:=t.qu v r;obtain⟨⟨⟨G,H⟩,a3,a4⟩,b,⟨c1,c2⟩,⟨c3,c4⟩,c5⟩:=id r;have hy:=t.Hc r;have y:=t.c' r;have e1:a1 (view h k Y O)=0↔(∀a∈Y++O,nZ (view h k Y O) a=false)/\((Y++O).map (aj h.wO)).Nodup:=by
  unfold a1;show(if(Y++O).any (nZ (view h k Y O))then(3 :Int)else if((Y++O).map (aj h.wO)).Nodup then 0 else 6)=0↔_
  cases ag:(Y++O).any (nZ (view h k Y O))with
  |true=>rw[lz rfl];refine⟨λ e=>(by cases e),λ⟨e,_⟩=>?_⟩;obtain⟨x,ad,e2⟩:=h6.1 ag;rw[e x ad]at e2;cases e2
  |false=>
   rw[ly (by decide)];rw[ik]at ag;have m:∀a∈Y++O,nZ (view h k Y O) a=false:=λ a c=>by simpa using ag a c
   split;rename_i d;exact⟨λ _=>⟨m,d⟩,λ _=>rfl⟩;rename_i d;exact⟨λ e=>(by cases e),λ e=>absurd e.2 d⟩
 have e2:mF (view h k Y O)=0↔(∀a∈Y++O,qj (view h k Y O) a=false)/\∀x∈free h,x=0:=by
  unfold mF;show(if(Y++O).any (qj (view h k Y O))then(5 :Int)else if(free h).any (λ x=>!decide (x=0))then 1 else 0)=0↔_
  cases ag:(Y++O).any (qj (view h k Y O))with
  |true=>rw[lz rfl];refine⟨λ e=>(by cases e),λ⟨e,_⟩=>?_⟩;obtain⟨x,ad,e2⟩:=h6.1 ag;rw[e x ad]at e2;cases e2
  |false=>
   rw[ly (by decide)];rw[ik]at ag;have m:∀a∈Y++O,qj (view h k Y O) a=false:=λ a c=>by simpa using ag a c
   cases j:(free h).any (λ x=>!decide (x=0))with
   |true=>rw[lz rfl];refine⟨λ e=>(by cases e),λ⟨_,e⟩=>?_⟩;obtain⟨x,ad,e2⟩:=h6.1 j;rw[e x ad]at e2;cases e2
   |false=>rw[ly (by decide)];rw[ik]at j;exact⟨λ _=>⟨m,λ x ad=>by simpa using j x ad⟩,λ _=>rfl⟩
 have e3:Cw (view h k Y O)=0↔(∀i,i<h.aJ.length->iB (view h k Y O) i=false)/\∀a∈O,rU (view h k Y O) a=false:=by
  unfold Cw;show(if(dR h.aJ.length).any (iB (view h k Y O))||O.any (rU (view h k Y O))then(4 :Int)else 0)=0↔_
  cases ag:(dR h.aJ.length).any (iB (view h k Y O))with
  |true=>rw[lr,lz rfl];refine⟨λ e=>(by cases e),λ⟨e,_⟩=>?_⟩;obtain⟨x,ad,e2⟩:=h6.1 ag;rw[e x (by simpa using ad)]at e2;cases e2
  |false=>
   rw[hK];rw[ik]at ag;have m:∀i,i<h.aJ.length->iB (view h k Y O) i=false:=λ i hi=>by simpa using ag i (by simpa using hi)
   cases j:O.any (rU (view h k Y O))with
   |true=>rw[lz rfl];refine⟨λ e=>(by cases e),λ⟨_,e⟩=>?_⟩;obtain⟨x,ad,e2⟩:=h6.1 j;rw[e x ad]at e2;cases e2
   |false=>rw[ly (by decide)];rw[ik]at j;exact⟨λ _=>⟨m,λ x ad=>by simpa using j x ad⟩,λ _=>rfl⟩
 have e4:qt (view h k Y O)=0↔a1 (view h k Y O)=0/\mF (view h k Y O)=0/\Cw (view h k Y O)=0:=by unfold qt;by_cases n:a1 (view h k Y O)=0;rw[lz n];by_cases o:mF (view h k Y O)=0;rw[lz o];exact⟨λ e=>⟨n,o,e⟩,λ e=>e.2.2⟩;rw[ly o];exact⟨λ e=>absurd e o,λ e=>absurd e.2.1 o⟩;rw[ly n];exact⟨λ e=>absurd e n,λ e=>absurd e.1 n⟩
 rw[e4,e1,e2,e3];have wm:∀x,(uN (view h k Y O) x=false)↔x∈O/\refs k h.wO x.toNat≠[]:=λ x=>by
  unfold uN lM;show((!decide (x∈Y++O)||(decide (0<x)&&decide (x<=h.ai)))||(refs k h.wO x.toNat).isEmpty)=false↔_
  rw[hY,hY];constructor
  ·rintro⟨⟨f,J⟩,s⟩;have f:x∈Y++O:=by simp only[Bool.not_eq_false']at f;exact of_decide_eq_true f
   refine⟨?_,λ e=>by rw[e]at s;cases s⟩;rcases cg.1 f with a6 |a6;have:=hy x a6;rw[lu (by omega),lu (by omega)]at J;cases J;exact a6
  ·rintro⟨f,J⟩;have:=y x f;refine⟨⟨?_,?_⟩,?_⟩;rw[lu (fw _ f)];rfl;rw[lx (p:=x<=h.ai) (by omega),Bool.and_false]
   ·cases e:refs k h.wO x.toNat with
    |nil=>exact absurd e J
    |cons _ _=>rfl
 constructor
 ·rintro⟨⟨f,J⟩,⟨s,a6⟩,u,A⟩;refine⟨λ a c=>?_,J,λ a c w l=>?_,λ i hi hc=>a6 _ (ah6 ⟨by omega,by omega⟩ hi hc),acv λ i hi=>?_,λ x ad=>?_,λ a c d w l=>?_⟩;have:=f a c;unfold nZ at this;rw[hY,decide_eq_false_iff_not,decide_eq_false_iff_not]at this;have I: ¬aj h.wO a<1:=this.1;have K: ¬h.Next<=aj h.wO a:=this.2;omega
  ·have:=s a c;unfold qj at this;rw[ik]at this;have q:=this w l;unfold xa at q;by_cases e:wd h.wO w.toNat=0;exact .inl e
   ·refine .inr ?_;by_cases e2:wd h.wO w.toNat∈Y++O;exact e2
    ·refine absurd ?_ q;show(!decide (wd h.wO w.toNat=0)&& !decide (wd h.wO w.toNat∈Y++O))=true
     rw[lx e,lx e2];rfl
  ·have:=u (i+1) hi;unfold iB at this;simp only[hY,k8,decide_eq_false_iff_not,Nat.add_sub_cancel]at this;rcases this.1 with z |z;omega;have z: ¬wd h.aJ (i+1)<=wd h.aJ i:=z;omega
  ·obtain⟨i,hi,e⟩:=ZF ad;have:=u i hi;unfold iB at this;rw[hY]at this;have q:uN (view h k Y O) (wd h.aJ i)=false:=this.2;rw[e]at q;exact(wm x).1 q
  ·rintro⟨B,C⟩;have:=A a c;unfold rU at this;have this:(!decide (a∈h.aJ)&&(refs k h.wO a.toNat).any λ w=>lM (view h k Y O) (wd h.wO w.toNat))=false:=this;rw[lx d,hF,jF,ik]at this;refine this w l ?_;show(decide (0<wd h.wO w.toNat)&&decide (wd h.wO w.toNat<=h.ai))=true
   rw[lu B,lu C];rfl
 ·intro g;refine⟨⟨λ a c=>?_,g.nodup⟩,⟨λ a c=>?_,λ x ad=>?_⟩,λ i hi=>?_,λ a c=>?_⟩
  ·have:=g.hash a c;show(decide (aj h.wO a<1)||decide (h.Next<=aj h.wO a))=false
   rw[lx (by omega),lx (by omega)];rfl
  ·show((refs k h.wO a.toNat).any (xa (view h k Y O)))=false
   rw[ik];intro w l;show¬(!decide (wd h.wO w.toNat=0)&& !decide (wd h.wO w.toNat∈Y++O))=true
   rcases g.ref a c w l with e |e;rw[lu e];simp;rw[lu e];simp
  ·obtain⟨i,hi,hc,e⟩:=ak5 (by omega) ad;rw[e];exact g.fr i hi hc
  ·show((decide (0<i)&&decide (wd h.aJ i<=wd h.aJ (i-1)))||uN (view h k Y O) (wd h.aJ i))=false
   rw[(wm _).2 (g.nt _ (acW hi)),Bool.or_false];by_cases D:0<i;have:=g.NJ (i-1) i (by omega) hi;rw[lx (p:=wd h.aJ i<=wd h.aJ (i-1)) (by omega),Bool.and_false];rw[lx D];rfl
  ·show(!decide (a∈h.aJ)&&(refs k h.wO a.toNat).any λ w=>lM (view h k Y O) (wd h.wO w.toNat))=false
   by_cases d:a∈h.aJ;rw[lu d];rfl;rw[lx d,hF,jF,ik];intro w l e;have e:(decide (0<wd h.wO w.toNat)&&decide (wd h.wO w.toNat<=h.ai))=true:=e;simp only[ca,decide_eq_true_eq]at e;exact g.must a c d w l e
theorem eQ.apart{W:List Int}{to q:Nat}{L:List Int}(h:eQ k W to q L):∀a∈L,∀b∈L,a≠b->a.toNat+3+(wd W (a.toNat+1)).toNat<=b.toNat\/b.toNat+3+(wd W (b.toNat+1)).toNat<=a.toNat:=by
 induction h with
 |nil=>intro a ao;cases ao
 |cons g J i d f=>intro a ao b ag e;rcases cG.1 ao with rfl |ao;rcases cG.1 ag with rfl |ag;exact absurd rfl e;obtain⟨n,rfl,c,_⟩:=d.mem b ag;left;simp only[bR];exact c;rcases cG.1 ag with rfl |ag;obtain⟨n,rfl,c,_⟩:=d.mem a ao;right;simp only[bR];exact c;exact f a ao b ag e
theorem jf.apart(aj:jT h)(c:jf h k Y O):∀a∈Y++O,∀b∈Y++O,a≠b->a.toNat+3+(wd h.wO (a.toNat+1)).toNat<=b.toNat\/b.toNat+3+(wd h.wO (b.toNat+1)).toNat<=a.toNat:=by intro a ao b ag d;have hc:=aj.C.1.2;rcases cg.1 ao with ao |ao<;>rcases cg.1 ag with ag |ag;exact c.y.apart a ao b ag d;have:=c.Hc aj a ao;have:=c.c' aj b ag;left;omega;have:=c.c' aj a ao;have:=c.Hc aj b ag;right;omega;exact c.o.apart a ao b ag d
theorem eQ.congr{W cN:List Int}{to q:Nat}{L:List Int}(h:eQ k W to q L)(b:∀a∈L,wd cN a.toNat=wd W a.toNat/\wd cN (a.toNat+1)=wd W (a.toNat+1)):eQ k cN to q L:=by
 induction h with
 |nil=>exact .nil
 | @cons q r c J d g e=>obtain⟨e1,e2⟩:=b _ iz;simp only[bR]at e1 e2;have:=e (λ a f=>b a (eD _ f));rw[<-e2]at this d J;rw[<-e1]at c J;exact .cons c J d this
theorem aKc{W cN:List Int}{q:Nat}(a:wd cN q=wd W q)(J:wd cN (q+1)=wd W (q+1)):refs k cN q=refs k W q:=by unfold refs;rw[a,J]
end
section
variable{F:Nat}{k:aN}
theorem aJu(h:gM k)(t:Int):D' k t=some (fb k t):=by have hc:=h.cl;unfold D' fb;rw[bX (by omega) (by omega),aM,h5];simp;omega
theorem amP(h:gM k){t:Int}(b:fb k t=true)(n:Int):xT k t n=some (isLen k t n):=by
 unfold xT gL isLen;simp only[ae];cases ag:(decide (0<=n)&&decide (n<=500))with
 |false=>simp
 |true=>by_cases a:t<3;simp[a];rw[SY h b a];simp[a]
theorem amR(h:gM k){t:Int}(d:fb k t=true){n:Int}(e:isLen k t n=true){j:Nat}(ax:(j:Int)<n):vK k t (j:Int)=some (ep k t j):=by
 unfold vK ep;obtain⟨_,a⟩:=jz.1 e;by_cases J:t=2;simp[J];by_cases b:t<3
 ·have: ¬3<=t:=by omega
  simp[J,this]
 ·have a:=a.resolve_left b;have f:3<=t:=by omega
  have c:j<(jD k t).length:=by omega
  rw[SY h d b,ae,br (aR c),aR c];simp[J,f]
theorem eQ.le{W:List Int}{to q:Nat}{L:List Int}(h:eQ k W to q L):q<=to:=by
 cases h with
 |nil=>exact cP _
 |cons a J b c=>omega
theorem azQ(h:aP)(aj:gM k){to:Nat}(m:to<=h.wO.length)(o:h.wO.length<=5000):∀(f q:Nat)(acc:List Int),to-q<f->q<=6000 ->acc.length+(to-q)<=6000 ->
 (∃L,eQ k h.wO to q L/\AR h k (to:Int) f acc (q:Int)=some (.go (acc++L,(to:Int))))\/
 ((∀L,¬eQ k h.wO to q L)/\(AR h k (to:Int) f acc (q:Int)=some (.out ([],false))\/∃x,AR h k (to:Int) f acc (q:Int)=some (.go x)/\x.2≠(to:Int))):=by
 intro f
 induction f with
 |zero=>intro q acc h;omega
 |succ f j=>
  intro q acc p s t;rw[AR];by_cases b:q<to
  case neg=>
   by_cases e:q=to
   ·subst e;refine .inl ⟨[],.nil,?_⟩;rw[bG];simp
   ·rw[show decide ((q:Int)<(to:Int))=false from lx (by omega)];exact .inr ⟨λ L a=>by have:=a.le;omega,.inr ⟨(acc,(q:Int)),rfl,by show(q:Int)≠(to:Int);omega⟩⟩
  rw[bH b,lA,bX (n:=(q:Int)+3) (by omega) (by omega)];by_cases g:(to:Int)<(q:Int)+3;rw[lu g];refine .inr ⟨λ L a=>?_,.inl rfl⟩;obtain⟨_,_,_,_,h,_⟩:=a.inv b;omega;rw[lx g,lK,fI (by omega),ae];have e1:D' (⟨k.aV,k.aT,k.Fields,k.Names,k.aU⟩:aN) (wd h.wO q)=some (fb k (wd h.wO q)):=aJu aj _;rw[e1,ae];cases c:fb k (wd h.wO q)with
  |false=>refine .inr ⟨λ L a=>?_,.inl rfl⟩;obtain⟨_,_,h,_⟩:=a.inv b;rw[c]at h;cases h
  |true=>
   have e2:xT (⟨k.aV,k.aT,k.Fields,k.Names,k.aU⟩:aN) (wd h.wO q) (wd h.wO (q+1))=some (isLen k (wd h.wO q) (wd h.wO (q+1))):=amP aj c _;rw[c7,lK,ae,bX (n:=(q:Int)+1) (by omega) (by omega),h8 (i:=q+1) (by omega) (by omega),ae,e2,ae];cases d:isLen k (wd h.wO q) (wd h.wO (q+1))with
   |false=>refine .inr ⟨λ L a=>?_,.inl rfl⟩;obtain⟨_,_,_,h,_⟩:=a.inv b;rw[d]at h;cases h
   |true=>obtain⟨⟨l0,l1⟩,_⟩:=jz.1 d;rw[c7,lK,im (by simp;omega),ae,ae,bX (n:=3+wd h.wO (q+1)) (by omega) (by omega),bX (n:=(q:Int)+(3+wd h.wO (q+1))) (by omega) (by omega)];rw[show(q:Int)+(3+wd h.wO (q+1))=((q+3+(wd h.wO (q+1)).toNat:Nat):Int) by omega];rcases j (q+3+(wd h.wO (q+1)).toNat) (acc++[(q:Int)]) (by omega) (by omega) (by simp;omega)with⟨L,a,e⟩|⟨l,e⟩;refine .inl ⟨(q:Int)::L,.cons c d a.le a,?_⟩;rw[e];simp;refine .inr ⟨λ L a=>?_,e⟩;obtain⟨r,_,_,_,_,h⟩:=a.inv b;exact l r h
theorem amO(f:6000<F)(h:aP)(aj:gM k){to q:Nat}(g:q<=5000)(b:to<=h.wO.length)(c:h.wO.length<=5000) :
 (∃L,eQ k h.wO to q L/\tC F h k (q:Int) (to:Int)=some (L,true))\/((∀L,¬eQ k h.wO to q L)/\∃l,tC F h k (q:Int) (to:Int)=some (l,false)):=by
 unfold tC
 rcases azQ h aj b c F q [] (by omega) (by omega) (by simp;omega)with⟨L,d,e⟩|⟨a,e |⟨x,e,ad⟩⟩
 ·exact .inl ⟨L,d,by rw[e,sW];simp⟩
 ·exact .inr ⟨a,[],by rw[e,anE]⟩
 ·exact .inr ⟨a,x.1,by rw[e,sW];show some (x.1,decide (x.2=(to:Int)))=_;rw[lx ad]⟩
theorem Wm{α ρ:Type}{p:α->Bool}{e:ρ}:∀l:List α,l.findSome? (λ x=>if p x then some e else none)=if l.any p then some e else none
 |[]=>rfl
 |x::r=>by
  rw[ih,List.any_cons];cases p x with
  |true=>rfl
  |false=>simp only[hK];exact Wm r
theorem zK{l:List Int}(a:Small F l.length)(n:Int):kU F l n=some (decide (n∈l)):=by unfold kU;have l1:D9 l n F 0=some (cz (l.findSome? λ x=>if decide (x=n)then some true else none)):=each _ a.1 (λ f i x ad=>by rw[D9,bH (ba.1 ad).1,lA,br ad,ae];cases decide (x=n)<;>rfl) (λ f=>by rw[D9,bG];rfl) a.2;rw[l1,Wm];by_cases e:n∈l;rw[show(l.any λ x=>decide (x=n))=true from h6.2 ⟨n,e,by simp⟩,lu e];rfl;rw[show(l.any λ x=>decide (x=n))=false from ik.2 λ x ad=>by simp;rintro rfl;exact e ad,lx e];rfl
theorem aJt(m:6000<F)(h:aP)(aj:gM k){q:Nat}(d:q+3+(wd h.wO (q+1)).toNat<=h.wO.length)(o:h.wO.length<=5000)(e:fb k (wd h.wO q)=true)(b:isLen k (wd h.wO q) (wd h.wO (q+1))=true) :
 qJ F h k (q:Int)=some (refs k h.wO q):=by
 obtain⟨⟨l0,l1⟩,_⟩:=jz.1 b
 unfold qJ
 generalize g:(wd h.wO (q+1)).toNat=n at d
 have a:wd h.wO (q+1)=(n:Int):=by omega
 have c:=b
 rw[a]at c
 have l1:=xY (l:=dR n) (λ f acc i=>xU (q:Int) h k f acc (i:Int)) (λ j=>if ep k (wd h.wO q) j then[((q+3+j:Nat):Int)]else[]) 1 5000 (λ x _=>by split<;>simp) (λ f i x acc ad p=>by
  have hi:i<n:=by have:=(ba.1 ad).1;simpa using this
  rw[kC hi]at ad;simp only[aM]at ad;subst ad;rw[xU,bX (n:=(q:Int)+1) (by omega) (by omega),h8 (i:=q+1) (by omega) (by omega),ae,a,bH hi,lA,fI (by omega),ae];have e1:vK (⟨k.aV,k.aT,k.Fields,k.Names,k.aU⟩:aN) (wd h.wO q) (i:Int)=some (ep k (wd h.wO q) i):=amR aj e c (by omega);rw[e1,ae];show _=xU (q:Int) h k f _ _
  cases ep k (wd h.wO q) i with
  |true=>rw[lA,bX (n:=(q:Int)+3) (by omega) (by omega),bX (n:=(q:Int)+3+i) (by omega) (by omega),im (by simp;omega),ae,ae,eE hi (by omega),lz rfl];congr 2
  |false=>rw[lK,ae,eE hi (by omega),ly (by decide),gH]) (λ f acc=>by
  rw[iW,xU,bX (n:=(q:Int)+1) (by omega) (by omega),h8 (i:=q+1) (by omega) (by omega),ae,a,bG];rfl) (F:=F) (by simp;omega) (acc:=[]) (by simp;omega)
 have l1:xU (q:Int) h k F [] 0=_:=l1
 rw[l1,ae,ie,refs,g]
theorem amQ(a:6000<F){h:aP}(c:gM k)(aj:jT h):(∃Y O,jf h k Y O/\qK F h k=some (Y,O,true))\/((∀Y O,¬jf h k Y O)/\∃Y O,qK F h k=some (Y,O,false)):=by have m:=aj.eZ;obtain⟨⟨⟨o,p⟩,a3,a4⟩,b,⟨c1,c2⟩,⟨c3,c4⟩,c5⟩:=id aj;unfold okB at b;unfold qK;have d:=amO (F:=F) a h c (q:=1) (to:=h.aI.toNat) (by omega) (by omega) (by omega);have f:=amO (F:=F) a h c (q:=(h.ai+1).toNat) (to:=h.aD.toNat) (by omega) (by omega) (by omega);rw[show((h.aI.toNat:Nat):Int)=h.aI by omega]at d;rw[show((h.aD.toNat:Nat):Int)=h.aD by omega,show(((h.ai+1).toNat:Nat):Int)=h.ai+1 by omega]at f;rw[bX (n:=h.ai+1) (by omega) (by omega)];have u1:∀r,tC F h k 1 h.aI=some r->tC F (⟨h.wO,h.ai,h.az,h.aI,h.aD,h.aJ,h.Next⟩:aP) (⟨k.aV,k.aT,k.Fields,k.Names,k.aU⟩:aN) 1 h.aI=some r:=λ r e=>e;have u2:∀r,tC F h k (h.ai+1) h.aD=some r->tC F (⟨h.wO,h.ai,h.az,h.aI,h.aD,h.aJ,h.Next⟩:aP) (⟨k.aV,k.aT,k.Fields,k.Names,k.aU⟩:aN) (h.ai+1) h.aD=some r:=λ r e=>e;rcases d with⟨Y,i,e1⟩|⟨g,Y,e1⟩<;>rcases f with⟨O,j,e2⟩|⟨l,O,e2⟩<;>rw[u1 _ e1,ae,u2 _ e2,ae];exact .inl ⟨Y,O,⟨i,j⟩,rfl⟩;exact .inr ⟨λ Y O h=>l _ h.o,Y,O,rfl⟩;exact .inr ⟨λ Y O h=>g _ h.y,Y,O,rfl⟩;exact .inr ⟨λ Y O h=>g _ h.y,Y,O,rfl⟩
end
section
variable{F:Nat}{k:aN}{h:aP}{Y O:List Int}
theorem YY{b:Bool}{e:Int}{K:Option (Way Int Unit)}:hW (if b=true then some e else none) K=cond b (some (.out e)) K:=by cases b<;>rfl
theorem aJy(g:10000<F)(j:1<=h.Next)(l:h.Next<=9223372036854775807)(b:qL (view h k Y O)):DK h (Y++O) F 0=some (cz (if(Y++O).any (nZ (view h k Y O))then some 3 else none)):=by
 have hc:Y.length+O.length<=5000:=b.sc;have m:h.wO.length<=4900:=b.eZ;rw[<-pX];exact each _ (by simp;omega) (λ f i a c=>by
  have e:=b_ c;have d:tG (view h k Y O) a:=b.u_ a e;have o:0<=a:=d.pos;have J:a.toNat+3+(wd h.wO (a.toNat+1)).toNat<=h.wO.length:=d.fit;rw[DK,bH (ba.1 c).1,lA,br c,ae,bX (n:=a+2) (by omega) (by omega),h8 (i:=a.toNat+2) (by omega) (by omega),ae];unfold gL;rw[ae,bX (n:=h.Next-1) (by omega) (by omega),YY];congr 1;show _=(decide (wd h.wO (a.toNat+2)<1)||decide (h.Next<=wd h.wO (a.toNat+2)))
  rw[h5];simp;omega) (λ f=>by rw[DK,bG];rfl) (by simp;omega)
theorem aG0{l:List Int}:(dR l.length).any (λ i=>(dR i).any λ j=>decide (wd l i=wd l j))= !decide l.Nodup:=by rw[h5,h6];simp only[j3,h6,decide_eq_true_eq,gG,decide_eq_false_iff_not];rw[List.Nodup,iq];constructor;rintro⟨i,hi,j,ax,e⟩ a;have:=a j i (by omega) hi ax;rw[pd (aR hi),pd (aR (by omega:j<l.length))]at e;exact this e.symm;intro a;apply kd;intro b;refine a λ j i ax hi c e=>b ⟨i,hi,j,c,?_⟩;rw[pd (aR hi),pd (aR ax)];exact e.symm
theorem aJz(g:10000<F)(a:qL (view h k Y O)):AH F h (Y++O) F 0=some (cz (if((Y++O).map (aj h.wO)).Nodup then none else some 6)):=by
 have hc:Y.length+O.length<=5000:=a.sc;have m:h.wO.length<=4900:=a.eZ;have n:(Y++O).length<=5000:=by simp;omega
 have at_:∀i,i<(Y++O).length->idx (Y++O) (i:Int)=some (wd (Y++O) i)/\idx h.wO (ap (wd (Y++O) i+2))=some (wd ((Y++O).map (aj h.wO)) i):=λ i hi=>by have e1:wd (Y++O) i=(Y++O)[i]:=pd (aR hi);have b:tG (view h k Y O) (Y++O)[i]:=a.u_ _ (fa hi);have o:0<=(Y++O)[i]:=b.pos;have J:(Y++O)[i].toNat+3+(wd h.wO ((Y++O)[i].toNat+1)).toNat<=h.wO.length:=b.fit;refine⟨fI hi,?_⟩;rw[e1,bX (by omega) (by omega),h8 (i:=(Y++O)[i].toNat+2) (by omega) (by omega)];refine congrArg some (pd ?_).symm;rw[iY,aR hi];rfl
 have l1:AH F h (Y++O) F 0=some (cz ((dR (Y++O).length).findSome? λ i=>if(dR i).any (λ j=>decide (wd ((Y++O).map (aj h.wO)) i=wd ((Y++O).map (aj h.wO)) j))then some 6 else none)):=mg _ (by omega) (λ f i hi=>by rw[AH,bH hi,lA];have c:DL h (Y++O) (i:Int) F 0=some (cz ((dR i).findSome? λ j=>if decide (wd ((Y++O).map (aj h.wO)) i=wd ((Y++O).map (aj h.wO)) j)then some 6 else none)):=mg _ (by omega) (λ d j ax=>by rw[DL,bH ax,lA,(at_ i hi).1,ae,(at_ i hi).2,ae,(at_ j (by omega)).1,ae,(at_ j (by omega)).2,ae];cases decide (wd ((Y++O).map (aj h.wO)) i=wd ((Y++O).map (aj h.wO)) j)<;>rfl) (λ d=>by rw[DL,bG];rfl) (by omega);rw[c,pX];cases(dR i).any (λ j=>decide (wd ((Y++O).map (aj h.wO)) i=wd ((Y++O).map (aj h.wO)) j))<;>rfl) (λ f=>by rw[AH,bG];rfl) (by omega);rw[l1,pX];have e:=aG0 (l:=(Y++O).map (aj h.wO));rw[gJ]at e;rw[e];by_cases aK:((Y++O).map (aj h.wO)).Nodup;rw[lz aK,lu aK];rfl;rw[ly aK,lx aK];rfl
theorem JH(e:10000<F)(c:qL (view h k Y O)){a:Int}(d:a∈Y++O):qJ F (⟨h.wO,h.ai,h.az,h.aI,h.aD,h.aJ,h.Next⟩:aP) (⟨k.aV,k.aT,k.Fields,k.Names,k.aU⟩:aN) a=some (refs k h.wO a.toNat):=by have b:tG (view h k Y O) a:=c.u_ a d;have f:h.wO.length<=4900:=c.eZ;have:=aJt (F:=F) (by omega) h c.hn (q:=a.toNat) b.fit (by omega) b.tag b.len;rwa [show((a.toNat:Nat):Int)=a by have:=b.pos;omega]at this
theorem aJA(j:10000<F)(b:qL (view h k Y O)):DM F h k (Y++O) F 0=some (cz (if(Y++O).any (qj (view h k Y O))then some 5 else none)):=by
 have hc:Y.length+O.length<=5000:=b.sc;have o:h.wO.length<=4900:=b.eZ;rw[<-pX];exact each _ (by simp;omega) (λ f i a c=>by
  have e:=b_ c;have g:tG (view h k Y O) a:=b.u_ a e;have p:(refs k h.wO a.toNat).length<=5000:=Sp b g;rw[DM,bH (ba.1 c).1,lA,br c,ae,JH j b e,ae];have l:AI F h (Y++O) (refs k h.wO a.toNat) F 0=some (cz ((refs k h.wO a.toNat).findSome? λ w=>if xa (view h k Y O) w then some 5 else none)):=each _ (by omega) (λ m i' w d=>by
   have n:=b_ d;have ad:idx h.wO w=some (wd h.wO w.toNat):=g.Sn n;rw[AI,bH (ba.1 d).1,lA,br d,ae,ad,ae,ae,ad,ae,zK ⟨by simp;omega,by simp;omega⟩,ae];show _=hW (if(!decide (wd h.wO w.toNat=0)&& !decide (wd h.wO w.toNat∈Y++O))=true then some 5 else none) _
   cases decide (wd h.wO w.toNat=0)<;>cases decide (wd h.wO w.toNat∈Y++O)<;>rfl) (λ m=>by rw[AI,bG];rfl) (by omega)
  rw[l,pX];show _=hW (if(refs k h.wO a.toNat).any (xa (view h k Y O))then some 5 else none) _
  cases(refs k h.wO a.toNat).any (xa (view h k Y O))<;>rfl) (λ f=>by rw[DM,bG];rfl) (by simp;omega)
theorem aJB(c:10000<F)(a:jT h):xQ h F 0=some (cz (if(free h).any (λ x=>!decide (x=0))then some 1 else none)):=by have d:=a.eZ;obtain⟨⟨⟨g,j⟩,a3,a4⟩,b,⟨c1,c2⟩,⟨c3,c4⟩,c5⟩:=id a;have l1:xQ h F 0=some (cz ((dR h.wO.length).findSome? λ i=>if(!decide (wd h.wO i=0)&&(decide ((i:Int)=0)||((decide (h.aI<=(i:Int))&&decide ((i:Int)<=h.ai))||decide (h.aD<=(i:Int)))))then some 1 else none)):=mg _ (by omega) (λ f i hi=>by rw[xQ,bH hi,lA,fI hi,ae];unfold gL;rw[ae];cases decide (wd h.wO i=0)<;>cases decide ((i:Int)=0)<;>cases((decide (h.aI<=(i:Int))&&decide ((i:Int)<=h.ai))||decide (h.aD<=(i:Int)))<;>rfl) (λ f=>by rw[xQ,bG];rfl) (by omega);rw[l1,pX];refine congrArg (λ b:Bool=>some (cz (if b=true then some 1 else none))) ?_;rw[h5,h6,h6];constructor;rintro⟨i,hi,e⟩;simp only[ca,hA,gG,decide_eq_false_iff_not,decide_eq_true_eq]at e;rw[j3]at hi;exact⟨wd h.wO i,ah6 ⟨by omega,by omega⟩ hi (by rcases e.2 with e |e |e;exact .inl (by omega);exact .inr (.inl e);exact .inr (.inr e)),by simpa using e.1⟩;rintro⟨x,ad,e⟩;obtain⟨i,hi,hc,rfl⟩:=ak5 (by omega) ad;refine⟨i,j3.2 hi,?_⟩;simp only[ca,hA,gG,decide_eq_false_iff_not,decide_eq_true_eq]at e⊢;exact⟨e,by rcases hc with e |e |e;exact .inl (by omega);exact .inr (.inl e);exact .inr (.inr e)⟩
theorem alQ(a:jT h)(c:jf h k Y O){x:Int}:x∈O↔x∈Y++O/\lM (view h k Y O) x=false:=by obtain⟨⟨⟨d,f⟩,a3,a4⟩,b,⟨c1,c2⟩,⟨c3,c4⟩,c5⟩:=id a;have e:lM (view h k Y O) x=(decide (0<x)&&decide (x<=h.ai)):=rfl;rw[e];constructor;intro ad;have:=c.c' a x ad;exact⟨cg.2 (.inr ad),by simp;omega⟩;rintro⟨ad,e⟩;rcases cg.1 ad with ad |ad;have:=c.Hc a x ad;simp at e;omega;exact ad
theorem aJF(l:10000<F)(f:jT h)(g:jf h k Y O)(i:qL (view h k Y O))(x:Int)(Z:Option Int)(m:Z=some x)(K:Option (Way Int Unit)):((kU F O x).bind λ b=>
 cond (!b) (some (.out 4)) (Z.bind λ c=>
 (qJ F (⟨h.wO,h.ai,h.az,h.aI,h.aD,h.aJ,h.Next⟩:aP) (⟨k.aV,k.aT,k.Fields,k.Names,k.aU⟩:aN) c).bind λ d=>
 cond (decide ((d.length:Int)=0)) (some (.out 4)) K))=hW (if uN (view h k Y O) x then some 4 else none) K:=by
 have hc:Y.length+O.length<=5000:=i.sc
 subst m
 rw[zK ⟨by omega,by omega⟩,ae,YY]
 have e:uN (view h k Y O) x=(!decide (x∈Y++O)||lM (view h k Y O) x||(refs k h.wO x.toNat).isEmpty):=rfl
 rw[e]
 by_cases ad:x∈O
 ·obtain⟨j,J⟩:=(alQ f g).1 ad;rw[lu ad,lu j,J,c7,lK,ae,JH l i j,ae];cases refs k h.wO x.toNat with
  |nil=>rfl
  |cons a r=>rw[lx (by simp;omega)];rfl
 ·rw[lx ad]
  have:(!decide (x∈Y++O)||lM (view h k Y O) x)=true:=by
   cases aK:decide (x∈Y++O)with
   |false=>rfl
   |true=>
    cases hy:lM (view h k Y O) x with
    |true=>rfl
    |false=>exact absurd ((alQ f g).2 ⟨of_decide_eq_true aK,hy⟩) ad
  rw[this];rfl
theorem aJC(d:10000<F)(g:jT h)(j:jf h k Y O)(l:qL (view h k Y O))(a:Small F h.aJ.length):r2 F h k (Y,O,true) F 0=some (cz (if(dR h.aJ.length).any (iB (view h k Y O))then some 4 else none)):=by
 rw[<-pX];exact mg _ a.1 (λ f i hi=>by
  rw[r2,bH hi,lA];have e:iB (view h k Y O) i=((decide (0<i)&&decide (wd h.aJ i<=wd h.aJ (i-1)))||uN (view h k Y O) (wd h.aJ i)):=rfl;have b:=aJF d g j l (wd h.aJ i) (idx h.aJ (i:Int)) (fI hi) (r2 F h k (Y,O,true) f (ap ((i:Int)+1)));rw[e];have m:=a.1;by_cases c:0<i
  ·rw[show decide ((0 :Int)<(i:Int))=true from lu (by omega),lA];rw[show∀K:Int->Option (Way Int Unit),(idx h.aJ (i:Int)).bind K=K (wd h.aJ i) from λ K=>by rw[fI hi];rfl];rw[bX (n:=(i:Int)-1) (by omega) (by omega),h8 (i:=i-1) (by omega) (by omega),ae,lu c,jF];cases decide (wd h.aJ i<=wd h.aJ (i-1))with
   |true=>rfl
   |false=>rw[lK,hK,<-b];rw[fI hi];rfl
  ·rw[show decide ((0 :Int)<(i:Int))=false from lx (by omega),lK,lx c,Bool.false_and,hK,<-b]
   rw[fI hi];rfl) (λ f=>by rw[r2,bG];rfl) a.2
theorem aJD(l:10000<F)(b:qL (view h k Y O))(m:Small F h.aJ.length):vG F h k (Y,O,true) F 0=some (cz (if O.any (rU (view h k Y O))then some 4 else none)):=by
 have hc:Y.length+O.length<=5000:=b.sc;rw[<-pX];exact each _ (by omega) (λ f i a c=>by
  have g:=cg.2 (Or.inr (a:=a∈Y) (b_ c));have j:tG (view h k Y O) a:=b.u_ a g;have q:(refs k h.wO a.toNat).length<=5000:=Sp b j;rw[vG,bH (ba.1 c).1,lA,br c,ae,JH l b g,ae];have n:tz F h (Y,O,true) (i:Int) (refs k h.wO a.toNat) F 0=some (cz ((refs k h.wO a.toNat).findSome? λ w=>if(!decide (a∈h.aJ)&&lM (view h k Y O) (wd h.wO w.toNat))then some 4 else none)):=each _ (by omega) (λ o i' w d=>by have p:=b_ d;have ad:idx h.wO w=some (wd h.wO w.toNat):=j.Sn p;rw[tz,bH (ba.1 d).1,lA,br d,ae,ad,ae];unfold gL;rw[ae,br c,ae,zK m,ae,YY];have e:lM (view h k Y O) (wd h.wO w.toNat)=(decide (1<=wd h.wO w.toNat)&&decide (wd h.wO w.toNat<=h.ai)):=rfl;rw[e];cases(decide (1<=wd h.wO w.toNat)&&decide (wd h.wO w.toNat<=h.ai))<;>cases decide (a∈h.aJ)<;>rfl) (λ o=>by rw[tz,bG];rfl) (by omega);rw[n,pX];have e:rU (view h k Y O) a=((refs k h.wO a.toNat).any λ w=>!decide (a∈h.aJ)&&lM (view h k Y O) (wd h.wO w.toNat)):=by
   show(!decide (a∈h.aJ)&&(refs k h.wO a.toNat).any λ w=>lM (view h k Y O) (wd h.wO w.toNat))=_
   cases decide (a∈h.aJ)with
   |true=>simp
   |false=>simp
  rw[e];cases(refs k h.wO a.toNat).any (λ w=>!decide (a∈h.aJ)&&lM (view h k Y O) (wd h.wO w.toNat))<;>rfl) (λ f=>by rw[vG,bG];rfl) (by omega)
theorem aJE(b:10000<F)(l:gM k)(m:Small F h.aJ.length)(hi:h.Next<=9223372036854775807):∃r,Hz F h k=some r.2/\Spec h k r:=by
 unfold Hz;by_cases a:Cz h
 case neg=>
  refine⟨(none,pa h),?_,.size λ s=>a s.A⟩
  show _=some (pa h)
  unfold pa gL
  rw[ly a,ae,ae]
  cases ag:(decide (3<=h.ai)&&decide (h.ai<=2000))with
  |false=>rfl
  |true=>
   cases i:(decide (3<=h.az)&&decide (h.az<=2000))with
   |false=>rfl
   |true=>exact absurd ⟨by simpa using ag,by simpa using i⟩ a
 obtain⟨⟨o,p⟩,a3,a4⟩:=id a;have q:gL h.ai 3 2000=some true:=by unfold gL;rw[lu o,lu p];rfl
 have t:gL h.az 3 2000=some true:=by unfold gL;rw[lu a3,lu a4];rfl
 rw[q,t,ae,ae,c7,lK,lK,bX (n:=1+h.ai) (by omega) (by omega),bX (n:=1+h.ai+h.az) (by omega) (by omega)];by_cases bO:okB h
 case neg=>
  refine⟨(none,pa h),?_,.size λ s=>bO s.B⟩
  show _=some (pa h)
  unfold pa
  rw[lz a,ly bO]
  unfold okB at bO
  rw[lx bO];rfl
 have f:=bO;unfold okB at f;rw[lu f,c7,lK,bX (n:=h.ai+1) (by omega) (by omega),bX (n:=h.ai+h.az) (by omega) (by omega),bX (n:=h.ai+h.az+1) (by omega) (by omega)];by_cases g:I' h
 case neg=>
  refine⟨(none,pa h),?_,.size λ s=>g s.C⟩
  show _=some (pa h)
  unfold pa gL
  rw[lz a,lz bO,ly g,ae,ae]
  cases ag:(decide (1<=h.aI)&&decide (h.aI<=h.ai+1))with
  |false=>rfl
  |true=>
   cases i:(decide (h.ai+1<=h.aD)&&decide (h.aD<=h.ai+h.az+1))with
   |false=>rfl
   |true=>
    cases u:decide (h.Next<1)with
    |true=>rfl
    |false=>exact absurd ⟨by simpa using ag,by simpa using i,by simp at u;omega⟩ g
 have c:jT h:=⟨a,bO,g⟩
 obtain⟨⟨c1,c2⟩,⟨c3,c4⟩,c5⟩:=id g;have v:gL h.aI 1 (h.ai+1)=some true:=by unfold gL;rw[lu c1,lu c2];rfl
 have w:gL h.aD (h.ai+1) (h.ai+h.az+1)=some true:=by unfold gL;rw[lu c3,lu c4];rfl
 rw[v,w,ae,ae,c7,lK,lx (show¬h.Next<1 by omega),Bool.or_self,lK];have u1:∀r,qK F h k=some r->qK F (⟨h.wO,h.ai,h.az,h.aI,h.aD,h.aJ,h.Next⟩:aP) (⟨k.aV,k.aT,k.Fields,k.Names,k.aU⟩:aN)=some r:=λ r e=>e;rcases amQ (F:=F) (by omega) l c with⟨Y,O,j,e⟩|⟨y,Y,O,e⟩
 case inr=>
  refine⟨(none,1),?_,.form c y⟩
  rw[u1 _ e];rfl
 have d:=j.qu l c;have hc:Y.length+O.length<=5000:=d.sc;refine⟨_,?_,.rest c j⟩;show _=some (qt (view h k Y O))
 have z:bE 8 ([]:List Int) Y=some Y:=by rw[im (by simp;omega)];rfl
 have A:bE 8 Y O=some (Y++O):=im (by omega);have l1:=aJy (k:=k) (Y:=Y) (O:=O) b c5 hi d;have B:=aJz (F:=F) b d;have C:=aJA (F:=F) b d;have D:=aJB (F:=F) b c;have E:=aJC b c j d m;have G:=aJD b d m;rw[u1 _ e,ae];show(bE 8 ([]:List Int) Y).bind _=_
 rw[z,ae];show(bE 8 Y O).bind _=_
 rw[A,ae,l1,lg];unfold qt a1;show rm (if(Y++O).any (nZ (view h k Y O))=true then some 3 else none) _=some (if(if(Y++O).any (nZ (view h k Y O))=true then(3 :Int)else if((Y++O).map (aj h.wO)).Nodup then 0 else 6)=0 then _ else(if(Y++O).any (nZ (view h k Y O))=true then(3 :Int)else if((Y++O).map (aj h.wO)).Nodup then 0 else 6))
 cases(Y++O).any (nZ (view h k Y O))with
 |true=>rfl
 |false=>
  rw[ly jS,ly jS];show cn _ _=_
  rw[B,lg];by_cases aK:((Y++O).map (aj h.wO)).Nodup;case neg=>rw[ly aK,ly aK];rfl
  rw[lz aK,lz aK,lz rfl];show cn _ _=_
  rw[C,lg];unfold mF;show rm (if(Y++O).any (qj (view h k Y O))=true then some 5 else none) _=some (if(if(Y++O).any (qj (view h k Y O))=true then(5 :Int)else if(free h).any (λ x=>!decide (x=0))=true then 1 else 0)=0 then _ else(if(Y++O).any (qj (view h k Y O))=true then(5 :Int)else if(free h).any (λ x=>!decide (x=0))=true then 1 else 0))
  cases(Y++O).any (qj (view h k Y O))with
  |true=>rfl
  |false=>
   rw[ly jS,ly jS];show cn _ _=_
   rw[D,lg];cases(free h).any (λ x=>!decide (x=0))with
   |true=>rfl
   |false=>
    rw[ly jS,ly jS,lz rfl];show cn _ _=_
    rw[E,lg];unfold Cw;show rm (if(dR h.aJ.length).any (iB (view h k Y O))=true then some 4 else none) _=some (if((dR h.aJ.length).any (iB (view h k Y O))||O.any (rU (view h k Y O)))=true then(4 :Int)else 0)
    cases(dR h.aJ.length).any (iB (view h k Y O))with
    |true=>rfl
    |false=>
     rw[ly jS,hK];show cn _ _=_
     rw[G,lg];cases O.any (rU (view h k Y O))<;>rfl
theorem Spec.w_{r e:Option bp×Int}(s:Spec h k r)(s':Spec h k e):r=e:=by
 cases s with
 |size b=>cases s' with
  |size _=>rfl
  |form a _=>exact absurd a b
  |rest a _=>exact absurd a b
 |form a d=>cases s' with
  |size b=>exact absurd a b
  |form _ _=>rfl
  |rest _ c=>exact absurd c (d _ _)
 |rest a c=>cases s' with
  |size b=>exact absurd a b
  |form _ d=>exact absurd c (d _ _)
  |rest _ f=>obtain rfl:=c.y.w_ f.y;obtain rfl:=c.o.w_ f.o;rfl
end
section
variable{k:aN}{h:aP}{Y O:List Int}
theorem jf.fit(b:jT h)(d:jf h k Y O):∀a∈Y++O,1<=a/\a.toNat+3+(wd h.wO (a.toNat+1)).toNat<=h.wO.length/\(a.toNat+3+(wd h.wO (a.toNat+1)).toNat<=h.aI.toNat\/(h.ai+1<=a/\a.toNat+3+(wd h.wO (a.toNat+1)).toNat<=h.aD.toNat)):=by intro a ao;have bO:(h.wO.length:Int)=1+h.ai+h.az:=b.B;obtain⟨⟨c1,c2⟩,⟨c3,c4⟩,_⟩:=b.C;obtain⟨⟨e,_⟩,a3,_⟩:=b.A;rcases cg.1 ao with ao |ao;obtain⟨c,J⟩:=d.Hc b a ao;exact⟨c,by omega,.inl J⟩;obtain⟨c,J⟩:=d.c' b a ao;exact⟨by omega,by omega,.inr ⟨c,J⟩⟩
theorem jf.u0(c:jf h k Y O):∀a∈Y++O,fb k (wd h.wO a.toNat)=true/\isLen k (wd h.wO a.toNat) (wd h.wO (a.toNat+1))=true:=by intro a ao;rcases cg.1 ao with ao |ao;obtain⟨n,rfl,_,_,b⟩:=c.y.mem a ao;exact b;obtain⟨n,rfl,_,_,b⟩:=c.o.mem a ao;exact b
theorem Ok.set(d:jT h)(m:jf h k Y O)(g:Ok h k Y O){a:Int}(p:a∈Y++O){n:Nat}(y:n<(wd h.wO (a.toNat+1)).toNat){value:Int}
 (z:ep k (wd h.wO a.toNat) n=true->value=0\/value∈Y++O){nt:List Int}(A:A1 nt)(J:∀x∈nt,x∈h.aJ\/(x=a/\a∈O/\ep k (wd h.wO a.toNat) n=true))(B:∀x∈h.aJ,x∈nt)
 (C:ep k (wd h.wO a.toNat) n=true->a∈O->0<value->value<=h.ai->a∈nt) :
 jT (⟨h.wO.set (a.toNat+3+n) value,h.ai,h.az,h.aI,h.aD,nt,h.Next⟩:aP)/\jf (⟨h.wO.set (a.toNat+3+n) value,h.ai,h.az,h.aI,h.aD,nt,h.Next⟩:aP) k Y O/\
 Ok (⟨h.wO.set (a.toNat+3+n) value,h.ai,h.az,h.aI,h.aD,nt,h.Next⟩:aP) k Y O:=by
 obtain⟨L,M,N⟩:=m.fit d a p
 have D:a.toNat+3+n<h.wO.length:=by omega
 have f:∀j,wd (h.wO.set (a.toNat+3+n) value) j=if j=a.toNat+3+n then value else wd h.wO j:=λ j=>JP D
 have head:∀b∈Y++O,wd (h.wO.set (a.toNat+3+n) value) b.toNat=wd h.wO b.toNat/\wd (h.wO.set (a.toNat+3+n) value) (b.toNat+1)=wd h.wO (b.toNat+1)/\wd (h.wO.set (a.toNat+3+n) value) (b.toNat+2)=wd h.wO (b.toNat+2):=by intro b ag;rw[f,f,f];by_cases e:b=a;subst e;rw[ly (by omega),ly (by omega),ly (by omega)];exact⟨rfl,rfl,rfl⟩;have:=m.apart d b ag a p e;rw[ly (by omega),ly (by omega),ly (by omega)];exact⟨rfl,rfl,rfl⟩
 have bO:(h.wO.length:Int)=1+h.ai+h.az:=d.B
 obtain⟨⟨c1,c2⟩,⟨c3,c4⟩,c5⟩:=id d.C
 have q:∀b∈Y++O,refs k (h.wO.set (a.toNat+3+n) value) b.toNat=refs k h.wO b.toNat:=λ b ag=>aKc (head b ag).1 (head b ag).2.1
 have s:∀b∈Y++O,aj (h.wO.set (a.toNat+3+n) value) b=aj h.wO b:=λ b ag=>(head b ag).2.2
 have E:(Y++O).map (aj (h.wO.set (a.toNat+3+n) value))=(Y++O).map (aj h.wO):=j1 s
 have t:∀b∈Y++O,∀w∈refs k h.wO b.toNat,w.toNat=a.toNat+3+n->b=a/\ep k (wd h.wO a.toNat) n=true:=by
  intro b ag w c e;obtain⟨j,ax,F,rfl⟩:=uG.1 c;simp only[bR]at e;have r:b=a:=by by_cases r:b=a;exact r;have:=m.apart d b ag a p r;omega
  subst r;have:j=n:=by omega
  subst this;exact⟨rfl,F⟩
 refine⟨⟨d.A,?_,d.C⟩,⟨m.y.congr λ b ag=>?_,m.o.congr λ b ag=>?_⟩,⟨λ b ag=>?_,?_,λ b ag w c=>?_,λ i hi hc=>?_,A,λ x ad=>?_,λ b ag u w c=>?_⟩⟩
 ·show((h.wO.set (a.toNat+3+n) value).length:Int)=_;rw[gu];exact bO
 ·obtain⟨l,o,_⟩:=head b (eS _ ag);exact⟨l,o⟩
 ·obtain⟨l,o,_⟩:=head b (fw _ ag);exact⟨l,o⟩
 ·show 1<=aj (h.wO.set (a.toNat+3+n) value) b/\aj (h.wO.set (a.toNat+3+n) value) b<h.Next
  rw[s b ag];exact g.hash b ag
 ·show((Y++O).map (aj (h.wO.set (a.toNat+3+n) value))).Nodup
  rw[E];exact g.nodup
 ·have c:w∈refs k (h.wO.set (a.toNat+3+n) value) b.toNat:=c;rw[q b ag]at c;show wd (h.wO.set (a.toNat+3+n) value) w.toNat=0\/wd (h.wO.set (a.toNat+3+n) value) w.toNat∈Y++O
  rw[f];by_cases e:w.toNat=a.toNat+3+n;rw[lz e];exact z (t b ag w c e).2;rw[ly e];exact g.ref b ag w c
 ·have hi:i<(h.wO.set (a.toNat+3+n) value).length:=hi;rw[gu]at hi;have hc:i=0\/(h.aI<=i/\(i:Int)<=h.ai)\/h.aD<=i:=hc;show wd (h.wO.set (a.toNat+3+n) value) i=0
  rw[f,ly (by omega)];exact g.fr i hi hc
 ·show x∈O/\refs k (h.wO.set (a.toNat+3+n) value) x.toNat≠[]
  rcases J x ad with ad |⟨rfl,G,ax⟩;obtain⟨l,o⟩:=g.nt x ad;rw[q x (fw _ l)];exact⟨l,o⟩;refine⟨G,?_⟩;rw[q x p];intro e;have:((x.toNat+3+n:Nat):Int)∈refs k h.wO x.toNat:=uG.2 ⟨n,y,ax,rfl⟩;rw[e]at this;cases this
 ·have v:b∈Y++O:=fw _ ag;have c:w∈refs k (h.wO.set (a.toNat+3+n) value) b.toNat:=c;rw[q b v]at c;show¬(0<wd (h.wO.set (a.toNat+3+n) value) w.toNat/\wd (h.wO.set (a.toNat+3+n) value) w.toNat<=h.ai)
  rw[f];by_cases e:w.toNat=a.toNat+3+n;rw[lz e];obtain⟨rfl,ax⟩:=t b v w c e;rintro⟨H,I⟩;exact u (C ax ag H I);rw[ly e];exact g.must b ag (λ K=>u (B b K)) w c
end
structure Good (F:Nat) (h:aP) (k:aN) (Y O:List Int):Prop where
 tN:rb F k=some 0
 hn:gM k
 s:jT h
 l:jf h k Y O
 ok:Ok h k Y O
section
variable{F:Nat}{k:aN}{h:aP}{Y O:List Int}
theorem Good.I8(g:Good F h k Y O):h.aJ.length<=5000:=by refine anR (N:=5000) g.ok.NJ (λ i hi=>?_);obtain⟨a,_⟩:=g.ok.nt _ (acW hi);obtain⟨b,c,_⟩:=g.l.fit g.s _ (fw Y a);have:=g.s.eZ;omega
theorem Good.open(b:10000<F)(g:Good F h k Y O):mj F h k=some (some (view h k Y O),0):=by
 unfold mj;have e1:rb F (⟨k.aV,k.aT,k.Fields,k.Names,k.aU⟩:aN)=some 0:=g.tN;have e:=g.I8;obtain⟨r,e2,hS⟩:=aah b g.hn (h:=h) ⟨by omega,by omega⟩;have e2:wi F (⟨h.wO,h.ai,h.az,h.aI,h.aD,h.aJ,h.Next⟩:aP) (⟨k.aV,k.aT,k.Fields,k.Names,k.aU⟩:aN)=some r:=e2;rw[e1,ae,tQ,e2,ae];cases hS with
 |size aj=>exact absurd g.s aj
 |form _ c=>exact absurd g.l (c Y O)
 | @rest f i _ a=>have Bl:=a.y.w_ g.l.y;have d:=a.o.w_ g.l.o;subst Bl d;rw[(aos g.hn g.s g.l).2 g.ok];rfl
theorem aHi(g:10000<F)(i:∃e,rb F k=some e/\(e≠0\/(e=0/\gM k)))(j:Small F h.aJ.length) :
 ∃r,mj F h k=some r/\((r.2≠0/\r.1=none)\/∃Y O,Good F h k Y O/\r=(some (view h k Y O),0)):=by
 obtain⟨e,e1,a⟩:=i
 unfold mj
 have l:rb F (⟨k.aV,k.aT,k.Fields,k.Names,k.aU⟩:aN)=some e:=e1
 rw[l,ae]
 rcases a with a |⟨rfl,b⟩
 ·rw[uO a];exact⟨_,rfl,.inl ⟨a,rfl⟩⟩
 obtain⟨r,e2,hS⟩:=aah g b j
 have e2:wi F (⟨h.wO,h.ai,h.az,h.aI,h.aD,h.aJ,h.Next⟩:aP) (⟨k.aV,k.aT,k.Fields,k.Names,k.aU⟩:aN)=some r:=e2
 rw[tQ,e2,ae]
 refine⟨_,rfl,?_⟩
 cases hS with
 |size aj=>exact .inl ⟨λ e=>aj (acm.1 e),rfl⟩
 |form _ m=>exact .inl ⟨by decide,rfl⟩
 | @rest c d aj f=>by_cases q:qt (view h k c d)=0;exact .inr ⟨c,d,⟨e1,b,aj,f,(aos b aj f).1 q⟩,by rw[q];rfl⟩;exact .inl ⟨q,by rw[ly q]⟩
theorem Good.dO(_:Good F h k Y O)(a:Int):Ik (view h k Y O) a=some (decide (a∈Y++O)):=by
 unfold Ik;show some ((cB ((Y++O).map λ a=>(a,true)) a).getD false)=_
 rw[Ri]
end
theorem SB{F:Nat}{l:List Int}(h:Small F l.length):ka F l l=some true:=by
 unfold ka;have l1:=Rc (n:=l.length) (λ k i=>xW l l k (i:Int)) (.go ()) (λ k i hi=>by
  obtain⟨x,ad⟩:∃x,l[i]? =some x:=⟨l[i],aR hi⟩
  rw[xW,bH hi,lA,br ad,ae,ae,lu rfl];show xW l l k _=_
  rw[eE hi h.1]) (λ k=>by rw[xW,bG];rfl) h.2
 have l1:xW l l F 0=some (.go ()):=l1;rw[l1,lu rfl];rfl
theorem ans{F:Nat}{h:aP}(a:Small F h.wO.length)(J:Small F h.aJ.length):Em F h h=some true:=by unfold Em;rw[SB a,SB J];simp
open Go Go.Proofs.YteeliipnilghaaaGreat
theorem zR{n:Nat}(h:n<=reachBytes):Small 140737488356000 n:=by have:reachBytes=140737488351232:=rfl;unfold Small;omega
theorem rD{n:Nat}(k:Nat)(h:n*(k+1)<=reachBytes):Small 140737488356000 n:=zR (fR (kL n (Nat.succ_pos k)) h)
theorem azz{m:Method}(h:OY reachBytes m):m.Fits 140737488356000:=⟨zR h.1,rD 23 h.2.2.1.1,λ k a=>zR (h.2.2.1.2 k a).2,zR h.2.2.2.1.2,rD 39 h.2.2.2.2.2.2.2.1,λ x ad=>zR (h.2.2.2.2.2.2.2.2 x ad).2.2.2⟩
theorem azy{c:al}(h:Kp reachBytes c):c.Fits 140737488356000:=⟨zR h.1,zR h.2.1,rD 39 h.2.2.1.1,λ f a=>⟨zR (h.2.2.1.2 f a).1,zR (h.2.2.1.2 f a).2.2⟩,rD 127 h.2.2.2.1,λ m b=>azz (h.2.2.2.2 m b)⟩
theorem azA{l:List al}(h:l.length*80<=reachBytes/\∀x∈l,Kp reachBytes x):Fits 140737488356000 l:=⟨rD 79 h.1,λ c hc=>azy (h.2 c hc)⟩
theorem aFx{k:aN}(h:OX reachBytes k):OV 140737488356000 k:=⟨rD 7 h.2.1.1,rD 23 h.2.2.1.1,λ x ad=>rD 39 (h.2.2.1.2 x ad).1,rD 23 h.2.2.2.1.1,λ x ad=>rD 15 (h.2.2.2.1.2 x ad).1,rD 23 h.2.2.2.2.1,λ x ad=>rD 15 (h.2.2.2.2.2 x ad).1⟩
theorem aK1{k:aN}(a:jc k.aV)(e:k=linked k.aV):gM k:=by have:=a.right.len;exact⟨by omega,by rw[e];exact aKp⟩
theorem awT{k:aN}(a:Go.Proofs.YteeliipnilghaaaGreat.OX Go.reachBytes k):∃e,rb 140737488356000 k=some e/\xS 140737488356000 k=some e/\(e≠0\/(e=0/\gM k)):=by obtain⟨e,c1,c2,c3⟩:=awS (F:=140737488356000) (by omega) (azA a.1) (aFx a);refine⟨e,c1,c2,?_⟩;rcases c3 with rfl |⟨rfl,b,c⟩;exact .inl (by decide);exact .inr ⟨rfl,aK1 b c⟩
theorem aHh{F:Nat}{h:aP}{k:aN}(a:10000<F)(j:∃e,rb F k=some e/\xS F k=some e/\(e≠0\/(e=0/\gM k)))(b:Small F h.aJ.length)(hi:h.Next<=9223372036854775807) :
 ∃r,mj F h k=some r/\r5 F h k=some r.2/\((r.2≠0/\r.1=none)\/∃Y O,Good F h k Y O/\r=(some (view h k Y O),0)):=by
 obtain⟨e,c1,c2,c3⟩:=j
 obtain⟨r,e1,l⟩:=aHi a ⟨e,c1,c3⟩ b
 refine⟨r,e1,?_,l⟩
 have c:rb F (⟨k.aV,k.aT,k.Fields,k.Names,k.aU⟩:aN)=some e:=c1
 have d:xS F (⟨k.aV,k.aT,k.Fields,k.Names,k.aU⟩:aN)=some e:=c2
 unfold r5
 unfold mj at e1
 rw[c,ae]at e1
 rw[d,ae]
 rcases c3 with c3 |⟨rfl,i⟩
 ·rw[uO c3]at e1;obtain rfl:=ee e1;rw[lx c3];rfl
 ·rw[tQ]at e1;obtain⟨m,f,n⟩:=aah a i b;obtain⟨o,g,p⟩:=aJE a i b hi;have f:wi F (⟨h.wO,h.ai,h.az,h.aI,h.aD,h.aJ,h.Next⟩:aP) (⟨k.aV,k.aT,k.Fields,k.Names,k.aU⟩:aN)=some m:=f;have g:Hz F (⟨h.wO,h.ai,h.az,h.aI,h.aD,h.aJ,h.Next⟩:aP) (⟨k.aV,k.aT,k.Fields,k.Names,k.aU⟩:aN)=some o.2:=g;obtain rfl:=n.w_ p;rw[f,ae]at e1;obtain rfl:=ee e1;rw[show decide ((0 :Int)=0)=true from rfl,lA,g];rfl
end I
namespace Go.Proofs.YteeliipnilghaaaGreat
open I
def cc(y:Int)(o:List Int)(a:Int):List Int:=if(1<=a/\a<=y)/\a∉o then o++[a]else o
structure Ord (Y o:List Int):Prop where
 iV:o.Nodup
 sub:∀a∈o,a∈Y
theorem alk:∀ {o Y:List Int},o.Nodup->(∀a∈o,a∈Y)->o.length<=Y.length
 |[],Y,_,_=>fY _
 |a::r,Y,c,aj=>by have c:=hJ.1 c;have d:a∈Y:=aj a (by simp);have f:=alk (o:=r) (Y:=Y.erase a) c.2 λ b ag=>(lp λ e=>by subst e;exact c.1 ag).2 (aj b (by simp[ag]));rw[kI d]at f;have:0<Y.length:=List.length_pos_of_mem d;simp only[cT];omega
theorem Ord.len{Y o:List Int}(h:Ord Y o):o.length<=Y.length:=alk h.iV h.sub
theorem Ord.nil{Y:List Int}:Ord Y []:=⟨kK,λ _ h=>by simp at h⟩
theorem Ord.cc{Y o:List Int}{y a:Int}(h:Ord Y o)(f:1<=a->a<=y->a∈Y):Ord Y (cc y o a):=by unfold Go.Proofs.YteeliipnilghaaaGreat.cc;split;rename_i d;refine⟨eT.2 ⟨h.iV,by simp,λ b ag c hc e=>?_⟩,λ b ag=>?_⟩;cases dm.1 hc;subst e;exact d.2 ag;rcases cg.1 ag with ag |ag;exact h.sub b ag;cases dm.1 ag;exact f d.1.1 d.1.2;exact h
theorem Ord.fold{Y:List Int}{y:Int}:∀ {l o:List Int},Ord Y o->(∀a∈l,1<=a->a<=y->a∈Y)->Ord Y (l.foldl (Go.Proofs.YteeliipnilghaaaGreat.cc y) o)
 |[],o,h,_=>h
 |a::r,o,h,c=>Ord.fold (l:=r) (o:=Go.Proofs.YteeliipnilghaaaGreat.cc y o a) (h.cc (c a (by simp))) λ b ag=>c b (by simp[ag])
theorem abN{y a:Int}{o:List Int}:∃t,cc y o a=o++t:=by unfold cc;split;exact⟨_,rfl⟩;exact⟨[],by simp⟩
theorem Bn{y:Int}:∀ {l o:List Int},∃t,l.foldl (cc y) o=o++t
 |[],o=>⟨[],by simp⟩
 |a::r,o=>by obtain⟨t,h⟩:=abN (y:=y) (a:=a) (o:=o);obtain⟨u,J⟩:=Bn (y:=y) (l:=r) (o:=cc y o a);exact⟨t++u,by rw[hZ,J,h,eY]⟩
theorem abU{F:Nat}{a y ol yt ot nx:Int}{W nt o:List Int}(c:10000<F)(d:o.length<=5000) :
 D3 F a W y ol yt ot nt nx o=some ((),((W,y,ol,yt,ot,nt,nx,()),((((),()),(cc y o a,()))))):=by
 unfold D3 cc
 by_cases b:1<=a/\a<=y
 ·rw[lu b.1,lu b.2];rw[show kU F o a=some (decide (a∈o)) from zK ⟨by omega,by omega⟩ a,Bool.and_self,lA,ae];by_cases J:a∈o;rw[lu J,c7,lK,ly (λ h=>h.2 J)]
  ·rw[lx J,hF,lA,lz ⟨b,J⟩];have:bE 8 o [a]=some (o++[a]):=by unfold bE;rw[lz (by simp only[dj,iK];omega)]
   rw[this,ae]
 ·have:(decide (1<=a)&&decide (a<=y))=false:=by
   rw[fX];intro h;simp only[ca,decide_eq_true_eq]at h;exact b h
  rw[this,lK,ly (λ h=>b h.1)]
section
variable{F:Nat}{Y:List Int}{y ol yt ot nx:Int}{W nt:List Int}{c1:List al}{c2:List Int}{c3:List (List I.Field)}{c4:List (List (List UInt8))}{c5:List (List I.Target)}{e1 e6:List Int}{e2 e3 e4 e5 e7:Int}
theorem axk(e:10000<F)(n:Y.length<=5000){l:List Int}(g:l.length<=140737488355328)(j:∀a∈l,1<=a->a<=y->a∈Y):∀(d i f:Nat)(o:List Int),i+d=l.length->d<f->Ord Y o ->
 D4 F f l (i:Int) W y ol yt ot nt nx c1 c2 c3 c4 c5 e1 e2 e3 e4 e5 e6 e7 o=some ((l,(),(),(),(),((),(),()),()),(W,y,ol,yt,ot,nt,nx,()),(c1,c2,c3,c4,c5,()),(e1,e2,e3,e4,e5,e6,e7,()),((),()),(l.drop i).foldl (cc y) o,()):=by
 intro d
 induction d with
 |zero=>
  intro i f o h k b;obtain⟨f,rfl⟩:∃c,f=c+1:=⟨f-1,by omega⟩
  have:i=l.length:=by omega
  subst this;rw[D4,bG,lK,gF];rfl
 |succ d m=>
  intro i f o h k b;obtain⟨f,rfl⟩:∃c,f=c+1:=⟨f-1,by omega⟩
  have hi:i<l.length:=by omega
  have ad:l[i]? =some l[i]:=aR hi;rw[D4,bH hi,lA,br ad,ae,abU e (by have:=b.len;omega),ae,eE hi g];refine(m (i+1) f (cc y o l[i]) (by omega) (by omega) (b.cc (j _ (fa hi)))).trans ?_;rw[cw hi,hZ]
theorem axm(e:10000<F)(s:Y.length<=5000){l r:List Int}{j:Int}(g:l.length<=140737488355328)(k:∀w∈l,0<=w/\w.toNat<W.length)(m:∀w∈l,1<=wd W w.toNat->wd W w.toNat<=y->wd W w.toNat∈Y):∀(d i f:Nat)(o:List Int),i+d=l.length->d<f->Ord Y o ->
 D6 F f r j l (i:Int) W y ol yt ot nt nx c1 c2 c3 c4 c5 e1 e2 e3 e4 e5 e6 e7 o=some ((r,(),(),(),(),((),(),()),j,()),(W,y,ol,yt,ot,nt,nx,()),(c1,c2,c3,c4,c5,()),(e1,e2,e3,e4,e5,e6,e7,()),((),()),((l.drop i).map λ w=>wd W w.toNat).foldl (cc y) o,()):=by
 intro d
 induction d with
 |zero=>
  intro i f o h n a;obtain⟨f,rfl⟩:∃b,f=b+1:=⟨f-1,by omega⟩
  have:i=l.length:=by omega
  subst this;rw[D6,bG,lK,gF];rfl
 |succ d p=>
  intro i f o h n a;obtain⟨f,rfl⟩:∃b,f=b+1:=⟨f-1,by omega⟩
  have hi:i<l.length:=by omega
  have ad:l[i]? =some l[i]:=aR hi;have c:l[i]∈l:=fa hi;obtain⟨w0,q⟩:=k _ c;rw[D6,bH hi,lA,br ad,ae,h8 (show l[i]=(l[i].toNat:Int) by omega) q,ae,abU e (by have:=a.len;omega),ae,eE hi g];refine(p (i+1) f (cc y o (wd W l[i].toNat)) (by omega) (by omega) (a.cc (m _ c))).trans ?_;rw[cw hi,ea,hZ]
theorem axo(e:10000<F)(s:Y.length<=5000){l r:List Int}{j:Int}(g:l.length<=140737488355328)(k:∀w∈l,0<=w/\w.toNat<W.length)(m:∀w∈l,1<=wd W w.toNat->wd W w.toNat<=y->wd W w.toNat∈Y):∀(d i f:Nat)(o:List Int),i+d=l.length->d<f->Ord Y o ->
 D8 F f r j l (i:Int) W y ol yt ot nt nx c1 c2 c3 c4 c5 e1 e2 e3 e4 e5 e6 e7 o=some ((r,(),(),(),(),((),(),()),j,()),(W,y,ol,yt,ot,nt,nx,()),(c1,c2,c3,c4,c5,()),(e1,e2,e3,e4,e5,e6,e7,()),((),()),((l.drop i).map λ w=>wd W w.toNat).foldl (cc y) o,()):=by
 intro d
 induction d with
 |zero=>
  intro i f o h n a;obtain⟨f,rfl⟩:∃b,f=b+1:=⟨f-1,by omega⟩
  have:i=l.length:=by omega
  subst this;rw[D8,bG,lK,gF];rfl
 |succ d p=>
  intro i f o h n a;obtain⟨f,rfl⟩:∃b,f=b+1:=⟨f-1,by omega⟩
  have hi:i<l.length:=by omega
  have ad:l[i]? =some l[i]:=aR hi;have c:l[i]∈l:=fa hi;obtain⟨w0,q⟩:=k _ c;rw[D8,bH hi,lA,br ad,ae,h8 (show l[i]=(l[i].toNat:Int) by omega) q,ae,abU e (by have:=a.len;omega),ae,eE hi g];refine(p (i+1) f (cc y o (wd W l[i].toNat)) (by omega) (by omega) (a.cc (m _ c))).trans ?_;rw[cw hi,ea,hZ]
end
def cW(k:aN)(W:List Int)(a:Int):List Int:=(refs k W a.toNat).map λ w=>wd W w.toNat
def scan(k:aN)(W:List Int)(y:Int):Nat->Nat->List Int->List Int
 |0,_,o=>o
 |d+1,i,o=>match o[i]? with
  |some a=>scan k W y d (i+1) ((cW k W a).foldl (cc y) o)
  |none=>o
section
variable{F:Nat}{h:aP}{k:aN}{Y O:List Int}{e1 e6:List Int}{e2 e3 e4 e5 e7:Int}
theorem qC(g:I.Good F h k Y O){v:Int}(af:v=0\/v∈Y++O)(a:1<=v)(J:v<=h.ai):v∈Y:=by rcases af with af |af;omega;rcases cg.1 af with af |af;exact af;have:=(g.l.c' g.s v af).1;omega
theorem rB(g:I.Good F h k Y O){a:Int}(b:a∈Y++O):∀v∈cW k h.wO a,v=0\/v∈Y++O:=λ v c=>by obtain⟨w,d,rfl⟩:=ho.1 c;exact g.ok.ref a b w d
theorem abW(g:I.Good F h k Y O){a:Int}(b:a∈Y++O):∀w∈refs k h.wO a.toNat,0<=w/\w.toNat<h.wO.length:=λ w c=>by obtain⟨j,ax,_,rfl⟩:=uG.1 c;have:=(g.l.fit g.s a b).2.1;omega
theorem Jv(g:I.Good F h k Y O){a:Int}(b:a∈Y++O):(refs k h.wO a.toNat).length<=5000:=by
 have c:=(g.l.fit g.s a b).2.1;have J:=g.s.eZ;have:(refs k h.wO a.toNat).length<=(wd h.wO (a.toNat+1)).toNat:=by
  unfold refs;have key:∀n:Nat,((dR n).flatMap λ j=>if ep k (wd h.wO a.toNat) j then[((a.toNat+3+j:Nat):Int)]else[]).length<=n:=by
   intro n;induction n with
   |zero=>simp
   |succ n d=>
    rw[List.range_succ,List.flatMap_append,dj];have:([n].flatMap λ j=>if ep k (wd h.wO a.toNat) j then[((a.toNat+3+j:Nat):Int)]else[]).length<=1:=by simp only[hz,List.flatMap_nil,gH];split<;>simp
    omega
  exact key _
 omega
theorem HT(a:gM k)(g:I.Good F h k Y O):Y.length<=5000:=by have:=(g.l.qu a g.s).sc;have:Y.length+O.length<=5000:=this;omega
theorem axl(m:10000<F)(g:I.Good F h k Y O)(x:h.aJ.length<=5000){r:List Int}:∀(d i f:Nat)(o:List Int),i+d=h.aJ.length->d<f->Ord Y o ->
 D5 F f r (i:Int) h.wO h.ai h.az h.aI h.aD h.aJ h.Next k.aV k.aT k.Fields k.Names k.aU e1 e2 e3 e4 e5 e6 e7 o=some ((r,(),(),(),(),((),(),()),()),(h.wO,h.ai,h.az,h.aI,h.aD,h.aJ,h.Next,()),(k.aV,k.aT,k.Fields,k.Names,k.aU,()),(e1,e2,e3,e4,e5,e6,e7,()),((),()),((h.aJ.drop i).flatMap (cW k h.wO)).foldl (cc h.ai) o,()):=by
 intro d
 have n:=HT g.hn g
 induction d with
 |zero=>
  intro i f o hi p c;obtain⟨f,rfl⟩:∃e,f=e+1:=⟨f-1,by omega⟩
  have:i=h.aJ.length:=by omega
  subst this;rw[D5,bG,lK,gF];rfl
 |succ d q=>
  intro i f o aK p c;obtain⟨f,rfl⟩:∃e,f=e+1:=⟨f-1,by omega⟩
  have hi:i<h.aJ.length:=by omega
  have ad:h.aJ[i]? =some h.aJ[i]:=aR hi;have a:h.aJ[i]∈Y++O:=fw Y (g.ok.nt _ (fa hi)).1;have s:Ord Y ((cW k h.wO h.aJ[i]).foldl (cc h.ai) o):=c.fold λ v t=>qC g (rB g a v t);rw[D5,bH hi,lA,br ad,ae,JH m (g.l.qu g.hn g.s) a,ae];have b:=axm (Y:=Y) (y:=h.ai) (ol:=h.az) (yt:=h.aI) (ot:=h.aD) (nx:=h.Next) (W:=h.wO) (nt:=h.aJ) (c1:=k.aV) (c2:=k.aT) (c3:=k.Fields) (c4:=k.Names) (c5:=k.aU) (e1:=e1) (e2:=e2) (e3:=e3) (e4:=e4) (e5:=e5) (e6:=e6) (e7:=e7) m n (r:=r) (j:=(i:Int)) (by have:=Jv g a;omega) (abW g a) (λ w u=>qC g (g.ok.ref _ a w u)) (refs k h.wO h.aJ[i].toNat).length 0 F o (by omega) (by have:=Jv g a;omega) c;rw[ei]at b;have l:D6 F F r (i:Int) (refs k h.wO h.aJ[i].toNat) 0 h.wO h.ai h.az h.aI h.aD h.aJ h.Next k.aV k.aT k.Fields k.Names k.aU e1 e2 e3 e4 e5 e6 e7 o=_:=b;rw[l,ae,eE hi (by omega)];refine(q (i+1) f _ (by omega) (by omega) s).trans ?_;rw[cw hi,hz,List.foldl_append]
theorem axn(e:10000<F)(g:I.Good F h k Y O){r:List Int}:∀(d i f:Nat)(o:List Int),Y.length<i+d->d<f->i<=o.length->Ord Y o ->
 D7 F f r (i:Int) h.wO h.ai h.az h.aI h.aD h.aJ h.Next k.aV k.aT k.Fields k.Names k.aU e1 e2 e3 e4 e5 e6 e7 o=some ((r,(),(),(),(),()),(h.wO,h.ai,h.az,h.aI,h.aD,h.aJ,h.Next,()),(k.aV,k.aT,k.Fields,k.Names,k.aU,()),(e1,e2,e3,e4,e5,e6,e7,()),((),()),scan k h.wO h.ai d i o,()):=by
 intro d
 have n:=HT g.hn g
 induction d with
 |zero=>intro i f o hi p q a;have:=a.len;omega
 |succ d s=>
  intro i f o aK p q a;obtain⟨f,rfl⟩:∃u,f=u+1:=⟨f-1,by omega⟩
  rcases fO i o.length with hi |hi;have ad:o[i]? =some o[i]:=aR hi;have b:o[i]∈Y++O:=eS O (a.sub _ (fa hi));have x:Ord Y ((cW k h.wO o[i]).foldl (cc h.ai) o):=a.fold λ v z=>qC g (rB g b v z);rw[D7,bH hi,lA,br ad,ae,JH e (g.l.qu g.hn g.s) b,ae];have m:=axo (Y:=Y) (y:=h.ai) (ol:=h.az) (yt:=h.aI) (ot:=h.aD) (nx:=h.Next) (W:=h.wO) (nt:=h.aJ) (c1:=k.aV) (c2:=k.aT) (c3:=k.Fields) (c4:=k.Names) (c5:=k.aU) (e1:=e1) (e2:=e2) (e3:=e3) (e4:=e4) (e5:=e5) (e6:=e6) (e7:=e7) e n (r:=r) (j:=(i:Int)) (by have:=Jv g b;omega) (abW g b) (λ w A=>qC g (g.ok.ref _ b w A)) (refs k h.wO o[i].toNat).length 0 F o (by omega) (by have:=Jv g b;omega) a;rw[ei]at m;have c:D8 F F r (i:Int) (refs k h.wO o[i].toNat) 0 h.wO h.ai h.az h.aI h.aD h.aJ h.Next k.aV k.aT k.Fields k.Names k.aU e1 e2 e3 e4 e5 e6 e7 o=_:=m;rw[c,ae,eE hi (by have:=a.len;omega)];obtain⟨t,B⟩:=Bn (y:=h.ai) (l:=cW k h.wO o[i]) (o:=o);refine(s (i+1) f ((cW k h.wO o[i]).foldl (cc h.ai) o) (by omega) (by omega) (by rw[B,dj];omega) x).trans ?_;rw[scan,ad]
  ·have:i=o.length:=by omega
   subst this;rw[D7,bG,lK,scan,fk (cP _)]
def order(k:aN)(h:aP)(Y roots:List Int):List Int:=scan k h.wO h.ai (Y.length+1) 0 ((h.aJ.flatMap (cW k h.wO)).foldl (cc h.ai) (roots.foldl (cc h.ai) []))
theorem anA(g:I.Good F h k Y O):∀ {d i:Nat}{o:List Int},Ord Y o->Ord Y (scan k h.wO h.ai d i o)
 |0,i,o,b=>b
 |d+1,i,o,b=>by unfold scan;split;rename_i a c;exact anA g (b.fold λ v e=>qC g (rB g (eS O (b.sub _ (b_ c))) v e));exact b
theorem aak(g:I.Good F h k Y O){roots:List Int}(b:∀a∈roots,a=0\/a∈Y++O):Ord Y (roots.foldl (cc h.ai) []):=Ord.nil.fold λ v c=>qC g (b v c)
theorem RS(g:I.Good F h k Y O){roots:List Int}(c:∀a∈roots,a=0\/a∈Y++O):Ord Y ((h.aJ.flatMap (cW k h.wO)).foldl (cc h.ai) (roots.foldl (cc h.ai) [])):=(aak g c).fold λ v b=>by obtain⟨a,d,b⟩:=g_.1 b;exact qC g (rB g (fw Y (g.ok.nt a d).1) v b)
theorem RT(g:I.Good F h k Y O){roots:List Int}(b:∀a∈roots,a=0\/a∈Y++O):Ord Y (order k h Y roots):=anA g (RS g b)
theorem axp(b:10000<F)(g:I.Good F h k Y O)(d:h.aJ.length<=5000){roots:List Int}(n:roots.length<=5000)(c:∀a∈roots,a=0\/a∈Y++O) :
 D2 F h.wO h.ai h.az h.aI h.aD h.aJ h.Next k.aV k.aT k.Fields k.Names k.aU roots=
  tD F h.wO h.ai h.az h.aI h.aD h.aJ h.Next k.aV k.aT k.Fields k.Names k.aU (order k h Y roots) h.aD roots:=by
 have e:=HT g.hn g
 unfold D2
 have b8:=axk (Y:=Y) (y:=h.ai) (ol:=h.az) (yt:=h.aI) (ot:=h.aD) (nx:=h.Next) (W:=h.wO) (nt:=h.aJ) (c1:=k.aV) (c2:=k.aT) (c3:=k.Fields) (c4:=k.Names) (c5:=k.aU) (e1:=[]) (e2:=0) (e3:=0) (e4:=0) (e5:=0) (e6:=[]) (e7:=0) b e (l:=roots) (by omega) (λ v f=>qC g (c v f)) roots.length 0 F [] (by omega) (by omega) Ord.nil
 rw[ei]at b8
 have i:D4 F F roots 0 h.wO h.ai h.az h.aI h.aD h.aJ h.Next k.aV k.aT k.Fields k.Names k.aU [] 0 0 0 0 [] 0 []=_:=b8
 rw[i,ae]
 have e2:=axl (e1:=[]) (e2:=0) (e3:=0) (e4:=0) (e5:=0) (e6:=[]) (e7:=0) b g d (r:=roots) h.aJ.length 0 F (roots.foldl (cc h.ai) []) (by omega) (by omega) (aak g c)
 rw[ei]at e2
 have j:D5 F F roots 0 h.wO h.ai h.az h.aI h.aD h.aJ h.Next k.aV k.aT k.Fields k.Names k.aU [] 0 0 0 0 [] 0 (roots.foldl (cc h.ai) [])=_:=e2
 dsimp only
 rw[j,ae]
 have e6:=axn (e1:=[]) (e2:=0) (e3:=0) (e4:=0) (e5:=0) (e6:=[]) (e7:=0) b g (r:=roots) (Y.length+1) 0 F _ (by omega) (by omega) (fY _) (RS g c)
 dsimp only
 have m:D7 F F roots 0 h.wO h.ai h.az h.aI h.aD h.aJ h.Next k.aV k.aT k.Fields k.Names k.aU [] 0 0 0 0 [] 0 ((h.aJ.flatMap (cW k h.wO)).foldl (cc h.ai) (roots.foldl (cc h.ai) []))=_:=e6
 rw[m,ae]
 show(tD F h.wO h.ai h.az h.aI h.aD h.aJ h.Next k.aV k.aT k.Fields k.Names k.aU (order k h Y roots) h.aD roots).bind _=_
 cases tD F h.wO h.ai h.az h.aI h.aD h.aJ h.Next k.aV k.aT k.Fields k.Names k.aU (order k h Y roots) h.aD roots with
 |none=>rfl
 |some r=>rfl
end
def mt(o:List Int)(a:Int):List Int:=if a≠0/\a∉o then o++[a]else o
theorem Ord.mt{Y o:List Int}{a:Int}(h:Ord Y o)(f:a=0\/a∈Y):Ord Y (mt o a):=by unfold Go.Proofs.YteeliipnilghaaaGreat.mt;split;rename_i d;refine⟨eT.2 ⟨h.iV,by simp,λ b ag c hc e=>?_⟩,λ b ag=>?_⟩;cases dm.1 hc;subst e;exact d.2 ag;rcases cg.1 ag with ag |ag;exact h.sub b ag;cases dm.1 ag;exact f.resolve_left d.1;exact h
theorem Ord.F9{Y:List Int}:∀ {l o:List Int},Ord Y o->(∀a∈l,a=0\/a∈Y)->Ord Y (l.foldl Go.Proofs.YteeliipnilghaaaGreat.mt o)
 |[],o,h,_=>h
 |a::r,o,h,c=>Ord.F9 (l:=r) (o:=Go.Proofs.YteeliipnilghaaaGreat.mt o a) (h.mt (c a (by simp))) λ b ag=>c b (by simp[ag])
theorem aGb{a:Int}{o:List Int}:∃t,mt o a=o++t:=by unfold mt;split;exact⟨_,rfl⟩;exact⟨[],by simp⟩
theorem Rh:∀ {l o:List Int},∃t,l.foldl mt o=o++t
 |[],o=>⟨[],by simp⟩
 |a::r,o=>by obtain⟨t,h⟩:=aGb (a:=a) (o:=o);obtain⟨u,J⟩:=Rh (l:=r) (o:=mt o a);exact⟨t++u,by rw[hZ,J,h,eY]⟩
theorem aGa{a:Int}{o:List Int}{v:Int}:v∈mt o a↔v∈o\/(v=a/\a≠0):=by unfold mt;split;rename_i h;rw[cg,dm];exact⟨λ b=>b.imp id λ J=>⟨J,h.1⟩,λ b=>b.imp id λ J=>J.1⟩;rename_i h;refine⟨.inl,λ b=>b.elim id λ J=>?_⟩;obtain⟨rfl,c⟩:=J;exact kd λ d=>h ⟨c,d⟩
theorem IZ{v:Int}:∀ {l o:List Int},v∈l.foldl mt o↔v∈o\/(v∈l/\v≠0)
 |[],o=>by simp
 |a::r,o=>by rw[hZ,IZ (l:=r),aGa];constructor;rintro((h |⟨rfl,h⟩)|⟨h,b⟩);exact .inl h;exact .inr ⟨by simp,h⟩;exact .inr ⟨by simp[h],b⟩;rintro(h |⟨h,b⟩);exact .inl (.inl h);rcases cG.1 h with rfl |h;exact .inl (.inr ⟨rfl,b⟩);exact .inr ⟨h,b⟩
def ox(k:aN)(W:List Int):Nat->Nat->List Int->List Int
 |0,_,o=>o
 |d+1,i,o=>match o[i]? with
  |some a=>ox k W d (i+1) ((cW k W a).foldl mt o)
  |none=>o
section
variable{F:Nat}{h:aP}{k:aN}{Y O:List Int}
theorem afL{a:Int}{o:List Int}(c:10000<F)(d:o.length<=5000):KB F a o=some ((),((),()),mt o a,()):=by
 unfold KB mt;by_cases b:a=0;rw[lu b,c7,lK,ly (λ h=>h.1 b)]
 ·rw[lx b,hF,lA,show kU F o a=some (decide (a∈o)) from zK ⟨by omega,by omega⟩ a,ae];by_cases J:a∈o;rw[lu J,c7,lK,ly (λ h=>h.2 J)]
  ·rw[lx J,hF,lA,lz ⟨b,J⟩];have:bE 8 o [a]=some (o++[a]):=by unfold bE;rw[lz (by simp only[iK];omega)]
   rw[this,ae]
section
variable{S:List Int}{y ol yt ot nx:Int}{W nt:List Int}{c1:List al}{c2:List Int}{c3:List (List I.Field)}{c4:List (List (List UInt8))}{c5:List (List I.Target)}
theorem awq(e:10000<F)(p:S.length<=5000){l:List Int}(g:l.length<=140737488355328)(j:∀a∈l,a=0\/a∈S):∀(d i f:Nat)(o:List Int),i+d=l.length->d<f->Ord S o ->
 Ed F f l (i:Int) W y ol yt ot nt nx c1 c2 c3 c4 c5 o=some (((),(),(),((),()),()),(W,y,ol,yt,ot,nt,nx,()),(c1,c2,c3,c4,c5,()),((),()),(l.drop i).foldl mt o,()):=by
 intro d
 induction d with
 |zero=>
  intro i f o h m b;obtain⟨f,rfl⟩:∃c,f=c+1:=⟨f-1,by omega⟩
  have:i=l.length:=by omega
  subst this;rw[Ed,bG,lK,gF];rfl
 |succ d n=>
  intro i f o h m b;obtain⟨f,rfl⟩:∃c,f=c+1:=⟨f-1,by omega⟩
  have hi:i<l.length:=by omega
  have ad:l[i]? =some l[i]:=aR hi;rw[Ed,bH hi,lA,br ad,ae,afL e (by have:=b.len;omega),ae,eE hi g];refine(n (i+1) f (mt o l[i]) (by omega) (by omega) (b.mt (j _ (fa hi)))).trans ?_;rw[cw hi,hZ]
theorem aws(e:10000<F)(s:S.length<=5000){l:List Int}{j:Int}(g:l.length<=140737488355328)(m:∀w∈l,0<=w/\w.toNat<W.length)(n:∀w∈l,wd W w.toNat=0\/wd W w.toNat∈S):∀(d i f:Nat)(o:List Int),i+d=l.length->d<f->Ord S o ->
 Eg F f j l (i:Int) W y ol yt ot nt nx c1 c2 c3 c4 c5 o=some (((),(),(),((),()),j,()),(W,y,ol,yt,ot,nt,nx,()),(c1,c2,c3,c4,c5,()),((),()),((l.drop i).map λ w=>wd W w.toNat).foldl mt o,()):=by
 intro d
 induction d with
 |zero=>
  intro i f o h p a;obtain⟨f,rfl⟩:∃b,f=b+1:=⟨f-1,by omega⟩
  have:i=l.length:=by omega
  subst this;rw[Eg,bG,lK,gF];rfl
 |succ d q=>
  intro i f o h p a;obtain⟨f,rfl⟩:∃b,f=b+1:=⟨f-1,by omega⟩
  have hi:i<l.length:=by omega
  have ad:l[i]? =some l[i]:=aR hi;have c:l[i]∈l:=fa hi;obtain⟨w0,r⟩:=m _ c;rw[Eg,bH hi,lA,br ad,ae,h8 (show l[i]=(l[i].toNat:Int) by omega) r,ae,afL e (by have:=a.len;omega),ae,eE hi g];refine(q (i+1) f (mt o (wd W l[i].toNat)) (by omega) (by omega) (a.mt (n _ c))).trans ?_;rw[cw hi,ea,hZ]
end
theorem EI(g:I.Good F h k Y O):(Y++O).length<=5000:=by have:=(g.l.qu g.hn g.s).sc;have:Y.length+O.length<=5000:=this;rw[dj];omega
theorem awr(c:10000<F)(g:I.Good F h k Y O):∀(d i f:Nat)(o:List Int),(Y++O).length<i+d->d<f->i<=o.length->Ord (Y++O) o ->
 Ef F f (i:Int) h.wO h.ai h.az h.aI h.aD h.aJ h.Next k.aV k.aT k.Fields k.Names k.aU o=some (((),()),(h.wO,h.ai,h.az,h.aI,h.aD,h.aJ,h.Next,()),(k.aV,k.aT,k.Fields,k.Names,k.aU,()),((),()),ox k h.wO d i o,()):=by
 intro d
 have m:=EI g
 induction d with
 |zero=>intro i f o hi n p a;have:=a.len;omega
 |succ d q=>
  intro i f o aK n p a;obtain⟨f,rfl⟩:∃r,f=r+1:=⟨f-1,by omega⟩
  rcases fO i o.length with hi |hi;have ad:o[i]? =some o[i]:=aR hi;have b:o[i]∈Y++O:=a.sub _ (fa hi);have s:Ord (Y++O) ((cW k h.wO o[i]).foldl mt o):=a.F9 λ v u=>rB g b v u;rw[Ef,bH hi,lA,br ad,ae,JH c (g.l.qu g.hn g.s) b,ae];have e:=aws (S:=Y++O) (y:=h.ai) (ol:=h.az) (yt:=h.aI) (ot:=h.aD) (nx:=h.Next) (W:=h.wO) (nt:=h.aJ) (c1:=k.aV) (c2:=k.aT) (c3:=k.Fields) (c4:=k.Names) (c5:=k.aU) c m (j:=(i:Int)) (by have:=Jv g b;omega) (abW g b) (λ w x=>g.ok.ref _ b w x) (refs k h.wO o[i].toNat).length 0 F o (by omega) (by have:=Jv g b;omega) a;rw[ei]at e;have z:Eg F F (i:Int) (refs k h.wO o[i].toNat) 0 h.wO h.ai h.az h.aI h.aD h.aJ h.Next k.aV k.aT k.Fields k.Names k.aU o=_:=e;rw[z,ae,eE hi (by have:=a.len;omega)];obtain⟨t,A⟩:=Rh (l:=cW k h.wO o[i]) (o:=o);refine(q (i+1) f ((cW k h.wO o[i]).foldl mt o) (by omega) (by omega) (by rw[A,dj];omega) s).trans ?_;rw[ox,ad]
  ·have:i=o.length:=by omega
   subst this;rw[Ef,bG,lK,ox,fk (cP _)]
def gS(k:aN)(h:aP)(Y O roots:List Int):List Int:=ox k h.wO ((Y++O).length+1) 0 (roots.foldl mt [])
theorem am5(b:10000<F)(g:I.Good F h k Y O){roots:List Int}(i:roots.length<=5000)(c:∀a∈roots,a=0\/a∈Y++O) :
 KA F h.wO h.ai h.az h.aI h.aD h.aJ h.Next k.aV k.aT k.Fields k.Names k.aU roots=some ((gS k h Y O roots,()),()):=by
 have d:=EI g
 unfold KA
 have b8:=awq (S:=Y++O) (y:=h.ai) (ol:=h.az) (yt:=h.aI) (ot:=h.aD) (nx:=h.Next) (W:=h.wO) (nt:=h.aJ) (c1:=k.aV) (c2:=k.aT) (c3:=k.Fields) (c4:=k.Names) (c5:=k.aU) b d (l:=roots) (by omega) c roots.length 0 F [] (by omega) (by omega) Ord.nil
 rw[ei]at b8
 have e:Ed F F roots 0 h.wO h.ai h.az h.aI h.aD h.aJ h.Next k.aV k.aT k.Fields k.Names k.aU []=_:=b8
 rw[e,ae]
 have e2:=awr b g ((Y++O).length+1) 0 F (roots.foldl mt []) (by omega) (by omega) (fY _) (Ord.nil.F9 c)
 dsimp only
 have f:Ef F F 0 h.wO h.ai h.az h.aI h.aD h.aJ h.Next k.aV k.aT k.Fields k.Names k.aU (roots.foldl mt [])=_:=e2
 rw[f,ae]
 rfl
theorem anw(g:I.Good F h k Y O):∀ {d i:Nat}{o:List Int},Ord (Y++O) o->Ord (Y++O) (ox k h.wO d i o)
 |0,i,o,b=>b
 |d+1,i,o,b=>by unfold ox;split;rename_i a c;exact anw g (b.F9 λ v e=>rB g (b.sub _ (b_ c)) v e);exact b
theorem sV(g:I.Good F h k Y O){roots:List Int}(b:∀a∈roots,a=0\/a∈Y++O):Ord (Y++O) (gS k h Y O roots):=anw g (Ord.nil.F9 b)
end
section
variable{F:Nat}{h:aP}{k:aN}{Y O:List Int}
theorem anx{W:List Int}:∀ {d i:Nat}{o:List Int},∃t,ox k W d i o=o++t
 |0,i,o=>⟨[],by simp[ox]⟩
 |d+1,i,o=>by unfold ox;split;rename_i a _;obtain⟨t,b⟩:=Rh (l:=cW k W a) (o:=o);obtain⟨u,c⟩:=anx (W:=W) (d:=d) (i:=i+1) (o:=(cW k W a).foldl mt o);exact⟨t++u,by rw[c,b,eY]⟩;exact⟨[],by simp⟩
theorem anu(g:I.Good F h k Y O):∀ {d i:Nat}{o:List Int},(Y++O).length<i+d->Ord (Y++O) o->(∀j a,j<i->o[j]? =some a->∀v∈cW k h.wO a,v≠0 ->v∈o) ->
 ∀a∈ox k h.wO d i o,∀v∈cW k h.wO a,v≠0 ->v∈ox k h.wO d i o
 |0,i,o,aK,n,hc=>λ a f v m p=>by unfold ox at f⊢;obtain⟨j,ax,rfl⟩:=il.1 f;have:=n.len;exact hc j _ (by omega) (aR ax) v m p
 |d+1,i,o,aK,n,hc=>λ a f v m p=>by
  unfold ox at f⊢;split at f
  ·rename_i b ag;obtain⟨t,r⟩:=Rh (l:=cW k h.wO b) (o:=o);refine anu g (by omega) (n.F9 λ v m=>rB g (n.sub _ (b_ ag)) v m) (λ j c ax q u s w=>?_) a f v m p;have hi:=(ba.1 ag).1;rcases fO j i with e |e;rw[r,dS (by omega)]at q;exact IZ.2 (.inl (hc j c e q u s w))
   ·have:j=i:=by omega
    subst this;rw[r,dS hi,ag]at q;cases q;exact IZ.2 (.inr ⟨s,w⟩)
  ·rename_i ag;obtain⟨j,ax,rfl⟩:=il.1 f;have:=List.getElem?_eq_none_iff.1 ag;exact hc j _ (by omega) (aR ax) v m p
theorem anv{W:List Int}{P:Int->Prop}(e:∀a,P a->∀v∈cW k W a,v≠0 ->P v):∀ {d i:Nat}{o:List Int},(∀a∈o,P a)->∀a∈ox k W d i o,P a
 |0,i,o,c=>c
 |d+1,i,o,c=>by unfold ox;split;rename_i b ag;refine anv e λ a f=>?_;rcases IZ.1 f with h |⟨h,g⟩;exact c a h;exact e b (c b (b_ ag)) a h g;exact c
structure OQ (k:aN) (W roots:List Int) (P:Int->Prop):Prop where
 rt:∀v∈roots,v≠0 ->P v
 hE:∀a,P a->∀v∈cW k W a,v≠0 ->P v
theorem Sk(g:I.Good F h k Y O){roots:List Int}(b:∀a∈roots,a=0\/a∈Y++O):OQ k h.wO roots (·∈gS k h Y O roots):=by refine⟨λ v c e=>?_,anu g (by omega) (Ord.nil.F9 b) λ j a ax=>by omega⟩;obtain⟨t,f⟩:=anx (k:=k) (W:=h.wO) (d:=(Y++O).length+1) (i:=0) (o:=roots.foldl mt []);unfold gS;rw[f];exact eS _ (IZ.2 (.inr ⟨c,e⟩))
theorem Sl{roots:List Int}{P:Int->Prop}(hc:OQ k h.wO roots P):∀a∈gS k h Y O roots,P a:=anv hc.hE λ a b=>(IZ.1 b).elim (λ h=>by simp at h) λ h=>hc.rt a h.1 h.2
end
def ku(k:aN)(W:List Int)(a n i:Nat):List Int:=((dR n).drop i).flatMap λ j=>if ep k (wd W a) j then[wd W (a+3+j)]else[]
theorem am_{k:aN}{W:List Int}{a n:Nat}:ku k W a n n=[]:=by unfold ku;rw[List.drop_eq_nil_of_le (by simp)];rfl
theorem anb{k:aN}{W:List Int}{a n i:Nat}(h:i<n):ku k W a n i=(if ep k (wd W a) i then[wd W (a+3+i)]else[])++ku k W a n (i+1):=by
 unfold ku;have hi:i<(dR n).length:=by simpa using h
 rw[cw hi,hz,List.getElem_range]
theorem ana{k:aN}{W:List Int}{a:Int}:ku k W a.toNat (wd W (a.toNat+1)).toNat 0=cW k W a:=by unfold ku cW refs;rw[ei,List.map_flatMap];congr 1;funext j;split;rw[ko,bR];rfl
theorem am'{k:aN}{W:List Int}{a n:Nat}:∀ {d i:Nat},i+d=n->(ku k W a n i).length<=d
 |0,i,h=>by
  have:i=n:=by omega
  subst this;rw[am_];simp
 |d+1,i,h=>by rw[anb (by omega),dj];have:=am' (k:=k) (W:=W) (a:=a) (n:=n) (d:=d) (i:=i+1) (by omega);split<;>simp <;>omega
theorem aDg{W:List Int}{a:Int}{i:Nat}(b:1<=a)(ag:a.toNat+3+i<W.length)(c:W.length<=100000):idx W (ap (ap (a+3)+(i:Int)))=some (wd W (a.toNat+3+i)):=by
 have e:ap (ap (a+3)+(i:Int))=((a.toNat+3+i:Nat):Int):=by rw[bX (n:=a+3) (by omega) (by omega),bX (by omega) (by omega)];omega
 rw[e];exact fI ag
section
variable{F:Nat}{h:aP}{k:aN}{Y O:List Int}
theorem aFW(x:10000<F)(g:I.Good F h k Y O){a:Int}(j:a∈Y++O){m:List (Int×Bool)}{n:Nat}(y:n=(wd h.wO (a.toNat+1)).toNat):∀(d i f:Nat)(hE:List Int),i+d=n->d<f->hE.length+d<=1000000 ->
 Bs F f a (n:Int) (i:Int) k.aV k.aT k.Fields k.Names k.aU h.wO h.ai h.az h.aI h.aD h.aJ h.Next m hE=
  some (((),(),()),((),k.aV,k.aT,k.Fields,k.Names,k.aU,(),()),(h.wO,h.ai,h.az,h.aI,h.aD,h.aJ,h.Next,()),m,hE++ku k h.wO a.toNat n i,()):=by
 obtain⟨p,z,A⟩:=g.l.fit g.s a j
 have B:=g.s.eZ
 have q:=g.l.u0 a j
 have c:a=(a.toNat:Int):=by omega
 obtain⟨r,l⟩:=q
 have s:wd h.wO (a.toNat+1)=(n:Int):=by have:=(jz.1 l).1.1;omega
 intro d
 induction d with
 |zero=>
  intro i f hE hi t aj;obtain⟨f,rfl⟩:∃e,f=e+1:=⟨f-1,by omega⟩
  have:i=n:=by omega
  subst this;rw[Bs,bG,lK,am_,gH]
 |succ d o=>
  intro i f hE hi t aj;obtain⟨f,rfl⟩:∃e,f=e+1:=⟨f-1,by omega⟩
  have b:i<n:=by omega
  have u:sp (b4.mk (aN.mk k.aV k.aT k.Fields k.Names k.aU)) (wd h.wO a.toNat) (i:Int)=some (ep k (wd h.wO a.toNat) i):=SI g.hn r l (by omega);rw[Bs,bH b,lA,h8 c (by omega),ae,u,ae,anb b];cases C:ep k (wd h.wO a.toNat) i with
  |false=>rw[lK,eE b (by omega)];exact(o (i+1) f hE (by omega) (by omega) (by omega)).trans (by simp)
  |true=>
   have v:idx h.wO (ap (ap (a+3)+(i:Int)))=some (wd h.wO (a.toNat+3+i)):=aDg p (by omega) (by omega);have w:bE 8 hE [wd h.wO (a.toNat+3+i)]=some (hE++[wd h.wO (a.toNat+3+i)]):=by unfold bE;rw[lz (by simp only[iK];omega)]
   rw[lA,v,ae,w,ae,eE b (by omega)];exact(o (i+1) f _ (by omega) (by omega) (by simp;omega)).trans (by simp)
end
def sz(W:List Int)(a:Int):Nat:=3+(wd W (a.toNat+1)).toNat
def news(W:List Int):Nat->List Int->List Int
 |_,[]=>[]
 |t,a::r=>(t:Int)::news W (t+sz W a) r
def bk(W:List Int):Nat->List Int->Nat
 |t,[]=>t
 |t,a::r=>bk W (t+sz W a) r
theorem uP{W:List Int}:∀ {o:List Int}{t:Nat},(news W t o).length=o.length
 |[],_=>rfl
 |a::r,t=>by simp[news,uP (o:=r)]
theorem RF{W:List Int}{b:Int}:∀ {o:List Int}{t:Nat},news W t (o++[b])=news W t o++[(bk W t o:Int)]
 |[],t=>rfl
 |a::r,t=>by simp[news,bk,RF (o:=r)]
theorem JJ{W:List Int}{b:Int}:∀ {o:List Int}{t:Nat},bk W t (o++[b])=bk W t o+sz W b
 |[],t=>rfl
 |a::r,t=>by simp[bk,JJ (o:=r)]
theorem lk{W:List Int}:∀ {o:List Int}{t:Nat},t<=bk W t o
 |[],t=>cP _
 |a::r,t=>fR (Nat.le_add_right _ _) (lk (o:=r))
theorem JK{W:List Int}{p:List Int}:∀ {o:List Int}{t:Nat},bk W t (o++p)=bk W (bk W t o) p
 |[],t=>rfl
 |a::r,t=>by simp[bk,JK (o:=r)]
def pos:List Int->Int->Option Nat
 |[],_=>none
 |b::r,a=>if b=a then some 0 else(pos r a).map (·+1)
theorem M2:∀ {o:List Int}{a:Int}{j:Nat},pos o a=some j->o[j]? =some a
 |[],a,j,h=>by simp[pos]at h
 |b::r,a,j,h=>by unfold pos at h;split at h;rename_i e;cases h;simp[e];obtain⟨i,c,rfl⟩:=cF.1 h;simpa using M2 c
theorem zG:∀ {o:List Int}{a:Int},pos o a=none↔a∉o
 |[],a=>by simp[pos]
 |b::r,a=>by unfold pos;split;rename_i e;simp[e];rename_i e;rw[Option.map_eq_none_iff,zG];simp only[cG,not_or];exact⟨λ h=>⟨λ e'=>e e'.symm,h⟩,λ h=>h.2⟩
def df(o ns:List Int)(a:Int):Int:=if a=0 then a else match pos o a with
 |some j=>(ns[j]?).getD 0
 |none=>a
section
variable{F:Nat}
theorem aHz{o:List Int}{a:Int}(c:o.length<=140737488355328):∀(d i f:Nat),i+d=o.length->d<f->Ec F f o a (i:Int)=some (match pos (o.drop i) a with
 |some j=>.inl ((((i+j:Nat):Int),()),())
 |none=>.inr ((),())):=by
 intro d
 induction d with
 |zero=>
  intro i f h g;obtain⟨f,rfl⟩:∃b,f=b+1:=⟨f-1,by omega⟩
  have:i=o.length:=by omega
  subst this;rw[Ec,bG,lK,gF];rfl
 |succ d k=>
  intro i f h g;obtain⟨f,rfl⟩:∃b,f=b+1:=⟨f-1,by omega⟩
  have hi:i<o.length:=by omega
  have ad:o[i]? =some o[i]:=aR hi;rw[Ec,bH hi,lA,br ad,ae,cw hi];by_cases e:o[i]=a;rw[lu e,lA,pos,lz e];rfl
  ·rw[lx e,lK,eE hi c,k (i+1) f (by omega) (by omega),pos,ly e];cases pos (o.drop (i+1)) a with
   |none=>rfl
   |some j=>simp only[fs,aM,Sum.inl.injEq,cI,and_true];omega
theorem aHA{o:List Int}{a:Int}(b:o.length<=5000)(c:10000<F):Eb F o a=some ((match pos o a with
 |some j=>(j:Int)
 |none=>-1,()),()):=by
 unfold Eb
 have e:Ec F F o a 0=_:=aHz (o:=o) (a:=a) (by omega) o.length 0 F (by omega) (by omega)
 rw[e,ei]
 cases pos o a with
 |none=>rfl
 |some j=>simp[dd]
theorem an_{o ns:List Int}{a:Int}(d:o.length<=5000)(e:10000<F)(f:ns.length=o.length):KD F a o ns=some ((df o ns a,()),(o,()),((),()),ns,()):=by
 unfold KD df;rw[aHA d e,ae];by_cases b:a=0;rw[lu b,lr,lA,lz b]
 ·rw[lx b,hK,ly b];cases g:pos o a with
  |none=>rfl
  |some j=>
   have ax:=M2 g;have c:j<ns.length:=by rw[f];exact(ba.1 ax).1
   dsimp only;rw[lx (by omega),lK,br (aR c),ae,aR c];rfl
end
def jR(A:List Int):List (Int×Bool):=A.map λ a=>(a,true)
theorem aka{x:Int}:∀ {A:List Int},x∉A->gP (jR A) x true=jR (A++[x])
 |[],_=>rfl
 |a::r,h=>by
  have b:a≠x:=λ e=>h (by simp[e]);have J:x∉r:=λ e=>h (by simp[e]);show gP ((a,true)::jR r) x true=(a,true)::jR (r++[x])
  rw[gP,ly b,aka J]
theorem aD3{x:Int}{A:List Int}:(cB (jR A) x).getD false=decide (x∈A):=Ri x A
def gQ(W:List Int)(A:List Int):List Int->Nat
 |[]=>0
 |a::r=>(if a∈A then 0 else sz W a)+gQ W A r
theorem ald{W A:List Int}{x:Int}:∀ {S:List Int},gQ W (A++[x]) S<=gQ W A S
 |[]=>cP _
 |a::r=>by have:=ald (W:=W) (A:=A) (x:=x) (S:=r);unfold gQ;by_cases h:a∈A;rw[lz h,lz (by simp[h])];omega;rw[ly h];split<;>omega
theorem ale{W A:List Int}{x:Int}(ad:x∉A):∀ {S:List Int},x∈S->gQ W (A++[x]) S+sz W x<=gQ W A S
 |[],h=>by simp at h
 |a::r,h=>by unfold gQ;by_cases e:a=x;subst e;have:=ald (W:=W) (A:=A) (x:=a) (S:=r);rw[lz (by simp),ly ad];omega;have J:x∈r:=(cG.1 h).resolve_left λ h=>e h.symm;have:=ale (W:=W) ad J;by_cases b:a∈A;rw[lz b,lz (by simp[b])];omega;rw[ly b,ly (by simp[b,e])];omega
theorem I4{W:List Int}:∀ {S:List Int}{t:Nat},bk W t S=t+gQ W [] S
 |[],t=>rfl
 |a::r,t=>by unfold bk gQ;rw[I4 (S:=r),ly (by simp)];omega
structure avS (k:aN) (W S A hE ck:List Int):Prop where
 iV:ck.Nodup
 sub:∀a∈ck,a∈S
 cl:(∀a∈A,∀v∈cW k W a,v≠0 ->v∈A\/v∈hE)->(∀a∈ck,∀v∈cW k W a,v≠0 ->v∈ck)
 rt:(∀a∈A,a∈ck)/\∀v∈hE,v≠0 ->v∈ck
 fp:∀P:Int->Prop,(∀a,P a->∀v∈cW k W a,v≠0 ->P v)->(∀a∈A,P a)->(∀v∈hE,v≠0 ->P v)->∀a∈ck,P a
section
variable{F:Nat}{h:aP}{k:aN}{Y O:List Int}
theorem aKO{W:List Int}{a:Int}:(cW k W a).length+3<=sz W a:=by have:=am' (k:=k) (W:=W) (a:=a.toNat) (n:=(wd W (a.toNat+1)).toNat) (d:=(wd W (a.toNat+1)).toNat) (i:=0) (by omega);rw[ana]at this;unfold sz;omega
set_option maxHeartbeats 1000000
theorem aFV(L:10000<F)(g:I.Good F h k Y O):∀(N f:Nat)(A hE:List Int),hE.length+gQ h.wO A (Y++O)<=N->N<f->N<=100000 ->A.Nodup->(∀a∈A,a∈Y++O)->(∀v∈hE,v=0\/v∈Y++O) ->
 ∃ck,yl F f k.aV k.aT k.Fields k.Names k.aU h.wO h.ai h.az h.aI h.aD h.aJ h.Next (jR A) hE=
  some ((),((),k.aV,k.aT,k.Fields,k.Names,k.aU,(),()),(h.wO,h.ai,h.az,h.aI,h.aD,h.aJ,h.Next,()),jR ck,[],())/\avS k h.wO (Y++O) A hE ck:=by
 intro N
 induction N with
 |zero=>
  intro f A hE w M _ o aj r;obtain⟨f,rfl⟩:∃y,f=y+1:=⟨f-1,by omega⟩
  obtain rfl:hE=[]:=gR (by omega);exact⟨A,by rw[yl];rfl,o,aj,λ hc a ao v c d=>(hc a ao v c d).elim id λ h=>by simp at h,⟨λ a h=>h,λ v c=>by simp at c⟩,λ P _ J _=>J⟩
 |succ N H=>
  intro f A hE w M Q o aj r;obtain⟨f,rfl⟩:∃y,f=y+1:=⟨f-1,by omega⟩
  rcases List.eq_nil_or_concat hE with rfl |⟨mE,x,rfl⟩;exact⟨A,by rw[yl];rfl,o,aj,λ hc a ao v c d=>(hc a ao v c d).elim id λ h=>by simp at h,⟨λ a h=>h,λ v c=>by simp at c⟩,λ P _ J _=>J⟩
  ·have j:(mE++[x]).length=mE.length+1:=by simp
   rw[List.concat_eq_append]at w r⊢;rw[j]at w;have e1:decide (0<(((mE++[x]).length:Nat):Int))=true:=lu (by rw[j];omega);have e2:ap ((((mE++[x]).length:Nat):Int)-1)=((mE.length:Nat):Int):=by rw[j,bX (by omega) (by omega)];omega
   have ad:(mE++[x])[mE.length]? =some x:=by simp
   have e3:(if(0 :Int)<=0/\0<=((mE.length:Nat):Int)/\((mE.length:Nat):Int)<=(((mE++[x]).length:Nat):Int)then some ()else none)=some ():=lz ⟨by omega,by omega,by rw[j];omega⟩;have e4:k1 (((mE.length:Nat):Int)).toNat (mE++[x])=mE:=by rw[bR];simp
   have R:x=0\/x∈Y++O:=r x (by simp);have p:∀v∈mE,v=0\/v∈Y++O:=λ v c=>r v (by simp[c]);rw[yl,e1,lA,e2,br ad,ae,e3,ae,e4,aD3];clear e2;by_cases hc:x=0\/x∈A
   ·have:(decide (x=0)||decide (x∈A))=true:=by
     rcases hc with h |h
     ·rw[lu h];rfl
     ·rw[lu h,Bool.or_true]
    rw[this,lA];obtain⟨ck,z,i⟩:=H f A mE (by omega) (by omega) (by omega) o aj p;refine⟨ck,z,i.iV,i.sub,λ B=>i.cl λ a ao v c d=>?_,⟨i.rt.1,λ v c d=>?_⟩,λ P s C t=>i.fp P s C λ v c=>t v (by simp[c])⟩
    ·rcases B a ao v c d with h |h;exact .inl h;rcases cg.1 h with h |h;exact .inr h;cases dm.1 h;exact .inl (hc.resolve_left d)
    ·rcases cg.1 c with h |h;exact i.rt.2 v h d;cases dm.1 h;exact i.rt.1 _ (hc.resolve_left d)
   ·have D:x≠0:=λ e=>hc (.inl e);have u:x∉A:=λ e=>hc (.inr e);have l:=R.resolve_left D;rw[lx D,lx u,Bool.or_self,lK,aka u];obtain⟨V,X,_⟩:=g.l.fit g.s x l;have Z:=g.s.eZ;obtain⟨n,K⟩:∃n,n=(wd h.wO (x.toNat+1)).toNat:=⟨_,rfl⟩
    have E:wd h.wO (x.toNat+1)=(n:Int):=by have:=(jz.1 (g.l.u0 x l).2).1.1;omega
    have G:idx h.wO (ap (x+1))=some (n:Int):=by
     have e:ap (x+1)=((x.toNat+1 :Nat):Int):=by rw[bX (by omega) (by omega)];omega
     rw[e,fI (by omega),E]
    rw[G,ae];have S:=aFW L g l (m:=jR (A++[x])) K n 0 F mE (by omega) (by omega) (by omega);have T:Bs F F x (n:Int) 0 k.aV k.aT k.Fields k.Names k.aU h.wO h.ai h.az h.aI h.aD h.aJ h.Next (jR (A++[x])) mE=_:=S;rw[T,ae,K,ana];have U:=ale (W:=h.wO) u l;have IB:=aKO (k:=k) (W:=h.wO) (a:=x)
    obtain⟨ck,z,i⟩:=H f (A++[x]) (mE++cW k h.wO x) (by rw[dj];omega) (by omega) (by omega) (eT.2 ⟨o,by simp,λ a ao b ag e=>by cases dm.1 ag;exact u (e▸ao)⟩)
     (λ a ao=>(cg.1 ao).elim (aj a) λ h=>by cases dm.1 h;exact l)
     (λ v c=>(cg.1 c).elim (p v) λ h=>rB g l v h)
    refine⟨ck,z,i.iV,i.sub,λ B=>i.cl λ a ao v c d=>?_,⟨λ a ao=>i.rt.1 a (by simp[ao]),λ v c d=>?_⟩,λ P s C t=>?_⟩;rcases cg.1 ao with ao |ao;rcases B a ao v c d with h |h;exact .inl (by simp[h]);rcases cg.1 h with h |h;exact .inr (by simp[h]);exact .inl (by simp[dm.1 h]);cases dm.1 ao;exact .inr (by simp[c]);rcases cg.1 c with h |h;exact i.rt.2 v (by simp[h]) d;exact i.rt.1 v (by simp[dm.1 h]);have q:P x:=t x (by simp) D;refine i.fp P s (λ a ao=>?_) λ v c d=>?_;rcases cg.1 ao with h |h;exact C a h;cases dm.1 h;exact q;rcases cg.1 c with h |h;exact t v (by simp[h]) d;exact s x q v h d
end
open I a7
theorem alc{W A:List Int}:∀ {l m:List Int},gQ W A (l++m)=gQ W A l+gQ W A m
 |[],m=>by simp[gQ]
 |a::r,m=>by
  show(if a∈A then 0 else sz W a)+gQ W A (r++m)=(if a∈A then 0 else sz W a)+gQ W A r+gQ W A m
  rw[alc (l:=r)];omega
theorem aoA{k:aN}{W:List Int}{to q:Nat}{L:List Int}(h:I.eQ k W to q L):bk W q L=to:=by
 induction h with
 |nil=>rfl
 | @cons q r _ _ _ _ a=>
   show bk W (q+sz W (q:Int)) r=to
   rw[show q+sz W (q:Int)=q+3+(wd W (q+1)).toNat by unfold sz;rw[bR];omega];exact a
theorem anW{W:List Int}:∀ {l:List Int}{n:Int},(∀a∈l,∃v,idx W (ap (a+1))=some v)->∃m,jW W l n=some m
 |[],n,_=>⟨n,rfl⟩
 |a::r,n,h=>by obtain⟨v,c⟩:=h a (by simp);obtain⟨m,d⟩:=anW (l:=r) (n:=ap (n+ap (3+v))) λ b ag=>h b (by simp[ag]);exact⟨m,by rw[jW,c,ae,d]⟩
section
variable{F:Nat}{h:aP}{k:aN}{Y O:List Int}
theorem aGc(g:I.Good F h k Y O):gQ h.wO [] (Y++O)<=4001:=by have a:=aoA g.l.y;have J:=aoA g.l.o;rw[I4]at a J;rw[alc];have bO:(h.wO.length:Int)=1+h.ai+h.az:=g.s.B;obtain⟨⟨c1,c2⟩,⟨c3,c4⟩,_⟩:=g.s.C;obtain⟨⟨b,_⟩,a3,_⟩:=g.s.A;have:=g.s.eZ;omega
theorem aFX(f:10000<F)(g:I.Good F h k Y O){roots:List Int}(o:roots.length<=5000)(d:∀a∈roots,a=0\/a∈Y++O) :
 ∃A,A.Perm (gS k h Y O roots)/\A.Nodup/\(∀a∈A,a∈Y++O)/\ET F roots k.aV k.aT k.Fields k.Names k.aU h.wO h.ai h.az h.aI h.aD h.aJ h.Next []=
  some ((),((),k.aV,k.aT,k.Fields,k.Names,k.aU,(),()),(h.wO,h.ai,h.az,h.aI,h.aD,h.aJ,h.Next,()),jR A,()):=by
 have i:=aGc g
 obtain⟨A,j,c⟩:=aFV f g (roots.length+4001) F [] roots (by omega) (by omega) (by omega) kK (λ a b=>by simp at b) d
 have e:=Sk g d
 have l:=sV g d
 refine⟨A,(jJ c.iV l.iV).2 λ a=>⟨λ b=>?_,λ b=>?_⟩,c.iV,c.sub,?_⟩
 ·exact c.fp _ e.hE (λ a b=>by simp at b) e.rt a b
 ·exact Sl (P:=λ a=>a∈A) ⟨c.rt.2,c.cl λ a b=>by simp at b⟩ a b
 ·unfold ET;have m:bE 8 [] roots=some roots:=by unfold bE;rw[lz (by simp;omega)];rfl
  have n:yl F F k.aV k.aT k.Fields k.Names k.aU h.wO h.ai h.az h.aI h.aD h.aJ h.Next [] roots=_:=j;rw[m,ae,n,ae]
theorem aDf(g:I.Good F h k Y O){a:Int}(b:a∈Y++O):∃v,idx h.wO (ap (a+1))=some v:=by
 obtain⟨c,d,_⟩:=g.l.fit g.s a b;have f:=g.s.eZ;have e:ap (a+1)=((a.toNat+1 :Nat):Int):=by rw[bX (by omega) (by omega)];omega
 rw[e];exact⟨_,fI (by omega)⟩
theorem aFC{l:List Int}(c:l.length<=140737488355328):∀(d i f:Nat)(n:Int),i+d=l.length->d<f ->
 Ea F f l n (i:Int) h.wO h.ai h.az h.aI h.aD h.aJ h.Next=(jW h.wO (l.drop i) n).map λ m=>((m,()),(h.wO,h.ai,h.az,h.aI,h.aD,h.aJ,h.Next,()),()):=by
 intro d
 induction d with
 |zero=>
  intro i f n hi e;obtain⟨f,rfl⟩:∃b,f=b+1:=⟨f-1,by omega⟩
  have:i=l.length:=by omega
  subst this;rw[Ea,bG,lK,gF];rfl
 |succ d g=>
  intro i f n hi e;obtain⟨f,rfl⟩:∃b,f=b+1:=⟨f-1,by omega⟩
  have a:i<l.length:=by omega
  have ad:l[i]? =some l[i]:=aR a;rw[Ea,bH a,lA,br ad,ae,cw a,jW];cases j:idx h.wO (ap (l[i]+1))with
  |none=>rfl
  |some v=>rw[ae,ae,eE a c];exact g (i+1) f _ (by omega) (by omega)
theorem aFD(d:10000<F)(g:I.Good F h k Y O){roots:List Int}(f:roots.length<=5000)(b:∀a∈roots,a=0\/a∈Y++O) :
 ∃m A,A.Perm (gS k h Y O roots)/\A.Nodup/\(∀a∈A,a∈Y++O)/\jW h.wO A 0=some m/\
  ET F roots k.aV k.aT k.Fields k.Names k.aU h.wO h.ai h.az h.aI h.aD h.aJ h.Next []=
   some ((),((),k.aV,k.aT,k.Fields,k.Names,k.aU,(),()),(h.wO,h.ai,h.az,h.aI,h.aD,h.aJ,h.Next,()),jR A,())/\
  EV h.wO (jR A)=some m/\Kz F h.wO h.ai h.az h.aI h.aD h.aJ h.Next k.aV k.aT k.Fields k.Names k.aU roots=some ((m,()),()):=by
 obtain⟨A,i,p,j,q⟩:=aFX d g f b
 obtain⟨m,c⟩:=anW (W:=h.wO) (l:=A) (n:=0) λ a r=>aDf g (j a r)
 have s:jW h.wO (gS k h Y O roots) 0=some m:=by rw[<-acx i];exact c
 refine⟨m,A,i,p,j,c,q,?_,?_⟩
 ·unfold EV jR;rw[lq];have:(j2∘λ a:Int=>(a,true))=id:=rfl;rw[this,List.map_id];exact c
 ·unfold Kz;rw[am5 d g f b,ae];have o:=(sV g b).len;have t:=EI g;have e:=aFC (F:=F) (h:=h) (l:=gS k h Y O roots) (by omega) (gS k h Y O roots).length 0 F 0 (by omega) (by omega);rw[ei,s]at e;have e':Ea F F (gS k h Y O roots) 0 0 h.wO h.ai h.az h.aI h.aD h.aJ h.Next=_:=e;dsimp only;rw[e'];rfl
end
end Go.Proofs.YteeliipnilghaaaGreat
namespace I
section
variable{F:Nat}{k:aN}{h:aP}{Y O:List Int}
theorem an4(c:10000<F)(g:Good F h k Y O):qK F h k=some (Y,O,true):=by rcases amQ (F:=F) (by omega) g.hn g.s with⟨d,f,a,e⟩|⟨b,_⟩;obtain rfl:=a.y.w_ g.l.y;obtain rfl:=a.o.w_ g.l.o;exact e;exact absurd g.l (b _ _)
def x3(Y O:List Int)(a:Int):Bool:=!decide (a=0)&& !decide (a∈Y++O)
def ow(Y O roots:List Int):Int:=if 1000<(roots.length:Int)then 2 else if roots.any (x3 Y O)then 5 else 0
theorem aKl(d:10000<F)(g:Good F h k Y O)(roots:List Int):Hd F (view h k Y O) roots=some (ow Y O roots):=by
 unfold Hd ow;by_cases a:1000<(roots.length:Int);rw[lu a,lz a];rfl
 ·rw[lx a,ly a,lK];unfold SM SR
  have c:=V' (l:=roots) (L:=CX roots (view h k Y O)) (x3 Y O) (by omega) (λ f i x ad=>by
   rw[CX,bH (ba.1 ad).1,lA,br ad,ae];unfold Ud x3;by_cases b:x=0;rw[lu b];rfl
   ·rw[lx b,hF,lA,jF];show dP (dP (Ik (view h k Y O) x) _) _=_
    rw[g.dO x];rfl) (λ f=>by rw[CX,bG];rfl) (F:=F) (by omega)
  refine Eq.trans (congrArg (λ o=>dP o λ(r:Bool)=>cond r (some (5 :Int)) (some 0)) (c:_)) ?_;rw[ae];cases roots.any (x3 Y O)<;>rfl
theorem aKk(d:10000<F)(g:Good F h k Y O)(roots:List Int):AM F h k roots=some (ow Y O roots):=by
 have hc:Y.length+O.length<=5000:=(g.l.qu g.hn g.s).sc;unfold AM ow;by_cases b:1000<(roots.length:Int);rw[lu b,lz b];rfl
 ·rw[lx b,ly b,lK];have e1:qK F (⟨h.wO,h.ai,h.az,h.aI,h.aD,h.aJ,h.Next⟩:aP) (⟨k.aV,k.aT,k.Fields,k.Names,k.aU⟩:aN)=_:=an4 d g;rw[e1,ae]
  have e:r3 F roots (Y,O,true) F 0=some (cz (roots.findSome? λ a=>if x3 Y O a then some 5 else none)):=each _ (by omega) (λ f i x ad=>by
   rw[r3,bH (ba.1 ad).1,lA,br ad,ae,ae];rw[show kU F (Y,O,true).1 x=some (decide (x∈Y)) from zK (l:=Y) ⟨by omega,by omega⟩ x,ae,ae];rw[show kU F (Y,O,true).2.1 x=some (decide (x∈O)) from zK (l:=O) ⟨by omega,by omega⟩ x,ae];unfold x3;by_cases c:x=0;rw[lu c];rfl
   ·by_cases hy:x∈Y<;>by_cases j:x∈O<;>simp[c,hy,j,hW]) (λ f=>by rw[r3,bG];rfl) (by omega)
  rw[e,Wm];cases roots.any (x3 Y O)<;>rfl
theorem aHj(a:10000<F)(g:Good F h k Y O)(roots:List Int)(b:r5 F h k=some 0):tx F h k roots=some (ow Y O roots):=by unfold tx;have e1:r5 F (⟨h.wO,h.ai,h.az,h.aI,h.aD,h.aJ,h.Next⟩:aP) (⟨k.aV,k.aT,k.Fields,k.Names,k.aU⟩:aN)=_:=b;have e2:AM F (⟨h.wO,h.ai,h.az,h.aI,h.aD,h.aJ,h.Next⟩:aP) (⟨k.aV,k.aT,k.Fields,k.Names,k.aU⟩:aN) roots=_:=aKk a g roots;rw[e1,ae,e2];rfl
theorem aHk{e:Int}(roots:List Int)(a:r5 F h k=some e)(b:e≠0):tx F h k roots=some e:=by unfold tx;have e1:r5 F (⟨h.wO,h.ai,h.az,h.aI,h.aD,h.aJ,h.Next⟩:aP) (⟨k.aV,k.aT,k.Fields,k.Names,k.aU⟩:aN)=_:=a;rw[e1,ae,lx b];rfl
theorem anc{roots:List Int}(h:ow Y O roots=0):roots.length<=1000/\∀a∈roots,a=0\/a∈Y++O:=by unfold ow at h;split at h;cases h;rename_i e;split at h;cases h;rename_i J;refine⟨by omega,λ a d=>?_⟩;have:=ik.1 (fX.2 J) a d;unfold x3 at this;by_cases b:a=0;exact .inl b;by_cases c:a∈Y++O;exact .inr c;simp only[ca,gG,decide_eq_false_iff_not]at this;exact absurd ⟨b,c⟩ this
end
end I
namespace Go.Proofs.YteeliipnilghaaaGreat
open I
section
variable{F:Nat}{h:aP}{k:aN}{Y O:List Int}
theorem av2{out:List Int}{x:Int}(a:out.length<=1000000):bE 8 out [x]=some (out++[x]):=by unfold bE;rw[lz (by simp only[iK];omega)]
theorem Wh(b:10000<F)(g:I.Good F h k Y O)(roots:List Int) :
 Bt F h.wO h.ai h.az h.aI h.aD h.aJ h.Next k.aV k.aT k.Fields k.Names k.aU roots=
  some (.inl (((),ow Y O roots,()),(h.wO,h.ai,h.az,h.aI,h.aD,h.aJ,h.Next,k.aV,k.aT,k.Fields,k.Names,k.aU,Y,O,(),()),(Y++O).map (λ a=>(a,true)),())):=by
 have c:mj F (⟨h.wO,h.ai,h.az,h.aI,h.aD,h.aJ,h.Next⟩:aP) (⟨k.aV,k.aT,k.Fields,k.Names,k.aU⟩:aN)=_:=g.open b
 have d:Hd F (⟨⟨h.wO,h.ai,h.az,h.aI,h.aD,h.aJ,h.Next⟩,⟨⟨k.aV,k.aT,k.Fields,k.Names,k.aU⟩⟩,Y,O,(Y++O).map λ a=>(a,true)⟩:bp) roots=_:=aKl b g roots
 unfold Bt
 rw[c]
 dsimp only[lc,dd,view]
 rw[lu (rfl:(0 :Int)=0),lA,d,ae]
theorem azF{roots:List Int}{r:Option bp×Int}(e:mj F h k=some r)(a:r.1=none)(J:r.2≠0) :
 Bt F h.wO h.ai h.az h.aI h.aD h.aJ h.Next k.aV k.aT k.Fields k.Names k.aU roots=some (.inr (((),r.2,()),())):=by
 have b:mj F (⟨h.wO,h.ai,h.az,h.aI,h.aD,h.aJ,h.Next⟩:aP) (⟨k.aV,k.aT,k.Fields,k.Names,k.aU⟩:aN)=_:=e
 obtain⟨c,d⟩:=r
 obtain rfl:c=none:=a
 have J:d≠0:=J
 unfold Bt
 rw[b]
 dsimp only[lc,dd]
 rw[lx J,lK]
end
def val(k:aN)(W o ns:List Int)(q i:Nat):Int:=if 3<=i/\ep k (wd W q) (i-3)=true then df o ns (wd W (q+i))else wd W (q+i)
theorem lW{a b:Nat}(h:a+b<=100000):I.ap ((a:Int)+(b:Int))=((a+b:Nat):Int):=by rw[bX (by omega) (by omega)];omega
theorem hV{a:Nat}(h:a<=100000):I.ap ((a:Int)+1)=((a+1 :Nat):Int):=by rw[bX (by omega) (by omega)];omega
theorem C3{x:Int}{n:Nat}(a:0<=x)(h:n=3+x.toNat)(b:n<=100000):I.ap (3+x)=(n:Int):=by rw[bX (by omega) (by omega)];omega
theorem aov{a:Nat}(h:a<=100000)(b:3<=a):I.ap ((a:Int)-3)=((a-3 :Nat):Int):=by rw[bX (by omega) (by omega)];omega
section
variable{F:Nat}{k:aN}{y ol yt ot nx:Int}{W nt o ns:List Int}{u1 u2 u3 u4 u6:Int}{u5:List Int}
theorem aHN(B:10000<F)(C:gM k)(D:o.length<=5000)(E:ns.length=o.length){q t n:Nat}(r:n=3+(wd W (q+1)).toNat)(R:q+n<=W.length)(S:W.length<=5000)(G:fb k (wd W q)=true)(s:isLen k (wd W q) (wd W (q+1))=true) :
 ∀(d i f:Nat)(Z:List Int),i+d=n->d<f->Z.length<=5000 ->t+n<=Z.length ->
 ∃a,vM F f (q:Int) (t:Int) (i:Int) W y ol yt ot nt nx k.aV k.aT k.Fields k.Names k.aU o ns u1 u2 u3 u4 u5 u6 Z=some ((),(W,y,ol,yt,ot,nt,nx,()),(k.aV,k.aT,k.Fields,k.Names,k.aU,()),((),()),(o,()),((),()),ns,((),u1,u2,u3,u4,u5,u6,()),a,())/\
  a.length=Z.length/\∀p,wd a p=if t+i<=p/\p<t+n then val k W o ns q (p-t)else wd Z p:=by
 intro d
 have u:=(jz.1 s).1
 have H:q+1<W.length:=by omega
 have w:n<=100000:=by omega
 have J:q<=100000:=by omega
 have b:idx W (I.ap ((q:Int)+1))=some (wd W (q+1)):=by rw[hV J];exact fI H
 induction d with
 |zero=>
  intro i f Z h K x z;obtain⟨f,rfl⟩:∃g,f=g+1:=⟨f-1,by omega⟩
  have:i=n:=by omega
  subst this;rw[vM,b,ae,C3 u.1 r w,bG,lK];refine⟨Z,rfl,rfl,λ p=>?_⟩;rw[ly (by omega)]
 |succ d L=>
  intro i f Z h K x z;obtain⟨f,rfl⟩:∃g,f=g+1:=⟨f-1,by omega⟩
  have hi:i<n:=by omega
  have M:q+i<W.length:=by omega
  have N:q+i<=100000:=by omega
  have j:t+i<=100000:=by omega
  have e:i<=100000:=by omega
  have O:idx W (I.ap ((q:Int)+i))=some (wd W (q+i)):=by rw[lW N];exact fI M
  have l:idx Z ((t+i:Nat):Int)=some (wd Z (t+i)):=fI (by omega)
  have step:∀v:Int,v=val k W o ns q i->∃a,vM F f (q:Int) (t:Int) ((i+1 :Nat):Int) W y ol yt ot nt nx k.aV k.aT k.Fields k.Names k.aU o ns u1 u2 u3 u4 u5 u6 (Z.set (t+i) v)=some ((),(W,y,ol,yt,ot,nt,nx,()),(k.aV,k.aT,k.Fields,k.Names,k.aU,()),((),()),(o,()),((),()),ns,((),u1,u2,u3,u4,u5,u6,()),a,())/\
   a.length=Z.length/\∀p,wd a p=if t+i<=p/\p<t+n then val k W o ns q (p-t)else wd Z p:=λ v P=>by
   obtain⟨a,e1,e2,e3⟩:=L (i+1) f (Z.set (t+i) v) (by omega) (by omega) (by rw[gu];exact x) (by rw[gu];exact z)
   refine⟨a,e1,by rw[e2,gu],λ p=>?_⟩
   rw[e3 p]
   by_cases A:p=t+i
   ·subst A;rw[ly (by omega),lz (by omega),JP (by omega),lz rfl,P,show t+i-t=i by omega]
   ·by_cases c:t+(i+1)<=p/\p<t+n;rw[lz c,lz (by omega)];rw[ly c,ly (by omega),JP (by omega),ly A]
  rw[vM,b,ae,C3 u.1 r w,bH hi,lA,O,ae];by_cases m:3<=i
  ·rw[lu (show(3 :Int)<=(i:Int) by omega),lA,fI (show q<W.length by omega),ae];have Q:vK (aN.mk k.aV k.aT k.Fields k.Names k.aU) (wd W q) (I.ap ((i:Int)-3))=some (ep k (wd W q) (i-3)):=by rw[aov e m];exact amR C G s (by omega)
   rw[Q,ae];cases c:ep k (wd W q) (i-3)with
   |true=>rw[lA,an_ D B E,ae,lW j,l,ae,hV e,bR];exact step _ (by unfold val;rw[lz ⟨m,c⟩])
   |false=>rw[lK,lW j,l,ae,hV e,bR];exact step _ (by unfold val;rw[ly (λ h=>by rw[c]at h;cases h.2)])
  ·rw[lx (show¬(3 :Int)<=(i:Int) by omega),lK,lW j,l,ae,hV e,bR];exact step _ (by unfold val;rw[ly (λ h=>m h.1)])
end
section
variable{F:Nat}{k:aN}{y ol yt ot nx:Int}{W nt o ns:List Int}{u1 u2 u3 u4 u6:Int}{u5:List Int}
theorem put_eq(b:10000<F)(c:gM k)(d:o.length<=5000)(e:ns.length=o.length){q t n:Nat}(f:n=3+(wd W (q+1)).toNat)(g:q+n<=W.length)(h:W.length<=5000)(i:fb k (wd W q)=true)(j:isLen k (wd W q) (wd W (q+1))=true)
 {Z:List Int}(l:Z.length<=5000)(m:t+n<=Z.length) :
 ∃a,KE F (q:Int) (t:Int) W y ol yt ot nt nx k.aV k.aT k.Fields k.Names k.aU o ns u1 u2 u3 u4 u5 u6 Z=some ((),(W,y,ol,yt,ot,nt,nx,()),(k.aV,k.aT,k.Fields,k.Names,k.aU,()),((),()),(o,()),((),()),ns,((),u1,u2,u3,u4,u5,u6,()),a,())/\
  a.length=Z.length/\∀p,wd a p=if t<=p/\p<t+n then val k W o ns q (p-t)else wd Z p:=by
 obtain⟨a,e1,e2,e3⟩:=aHN (y:=y) (ol:=ol) (yt:=yt) (ot:=ot) (nx:=nx) (nt:=nt) (u1:=u1) (u2:=u2) (u3:=u3) (u4:=u4) (u5:=u5) (u6:=u6) (t:=t) b c d e f g h i j n 0 F Z (by omega) (by omega) l m
 refine⟨a,?_,e2,λ p=>by rw[e3 p,jI]⟩
 unfold KE
 have r:vM F F (q:Int) (t:Int) 0 W y ol yt ot nt nx k.aV k.aT k.Fields k.Names k.aU o ns u1 u2 u3 u4 u5 u6 Z=_:=e1
 rw[r,ae]
theorem alo{c1:List al}{c2:List Int}{c3:List (List I.Field)}{c4:List (List (List UInt8))}{c5:List (List I.Target)}{from_:Int}{roots e1 e6:List Int}{e2 e3 e4 e5 e7:Int}(D:o.length<=5000)(E:W.length<=5000)
 (m:∀a∈o,1<=a/\a.toNat+3+(wd W (a.toNat+1)).toNat<=W.length/\0<=wd W (a.toNat+1)):∀(d i f t:Nat)(l:List Int),i+d=o.length->d<f->l.length=i->t+5000*d<=100000000 ->
 AW F f from_ roots (t:Int) (i:Int) W y ol yt ot nt nx c1 c2 c3 c4 c5 o e1 e2 e3 e4 e5 e6 e7 l=some ((from_,roots,(),(),(),(),(),((bk W t (o.drop i):Nat):Int),()),(W,y,ol,yt,ot,nt,nx,()),(c1,c2,c3,c4,c5,()),(o,()),(e1,e2,e3,e4,e5,e6,e7,()),((),()),l++news W t (o.drop i),()):=by
 intro d
 induction d with
 |zero=>
  intro i f t l h p e r;obtain⟨f,rfl⟩:∃b,f=b+1:=⟨f-1,by omega⟩
  have:i=o.length:=by omega
  subst this;rw[AW,bG,lK,gF];simp[bk,news]
 |succ d s=>
  intro i f t l h p e r;obtain⟨f,rfl⟩:∃b,f=b+1:=⟨f-1,by omega⟩
  have hi:i<o.length:=by omega
  have ad:o[i]? =some o[i]:=aR hi;obtain⟨G,u,a3⟩:=m _ (fa hi);have v:bE 8 l [(t:Int)]=some (l++[(t:Int)]):=by unfold bE;rw[lz (by simp only[iK];omega)]
  obtain⟨q,c⟩:∃q:Nat,o[i]=(q:Int):=⟨o[i].toNat,by omega⟩
  rw[c,bR]at u a3;have w:q<=100000:=by omega
  have x:q+1<W.length:=by omega
  obtain⟨n,g⟩:∃n,n=3+(wd W (q+1)).toNat:=⟨_,rfl⟩
  have z:n<=100000:=by omega
  have A:i<=100000:=by omega
  have B:sz W o[i]=n:=by rw[c];unfold sz;rw[bR,g]
  have C:t+n+5000*d<=100000000:=by omega
  have j:I.ap ((t:Int)+(n:Int))=((t+n:Nat):Int):=by rw[bX (by omega) (by omega)];omega
  rw[AW,bH hi,lA,v,ae,br ad,ae,c,hV w,fI x,ae,C3 a3 g z,j,hV A];clear j;refine(s (i+1) f (t+n) (l++[(t:Int)]) (by omega) (by omega) (by simp[e]) C).trans ?_;rw[cw hi,news,bk,B,eY,jX]
end
section
variable{F:Nat}{k:aN}{y ol yt ot nx:Int}{W nt o ns:List Int}{u1 u2 u3 u4 u6:Int}{u5:List Int}{e1 e6:List Int}{e2 e3 e4 e5 e7:Int}{roots:List Int}
theorem alP(v:10000<F)(w:gM k)(x:o.length<=5000)(z:ns.length=o.length)(A:W.length<=5000){to:Nat}(U:to<=W.length){q:Nat}{L:List Int}(h:I.eQ k W to q L):∀(f:Nat)(Z:List Int),to-q<f->Z.length=W.length ->
 ∃b,HE F f (to:Int) roots (q:Int) W y ol yt ot nt nx o e1 e2 e3 e4 e5 e6 e7 ns u1 u2 u3 u4 u5 u6 Z k.aV k.aT k.Fields k.Names k.aU=some ((roots,(),(),(),(),(),((),(),(),(),()),()),(W,y,ol,yt,ot,nt,nx,()),(o,()),(e1,e2,e3,e4,e5,e6,e7,()),((),()),ns,((),()),((),u1,u2,u3,u4,u5,u6,()),b,(k.aV,k.aT,k.Fields,k.Names,k.aU,()),())/\
  b.length=W.length/\(∀a∈L,∀i,i<sz W a->wd b (a.toNat+i)=val k W o ns a.toNat i)/\∀p,p<q\/to<=p->wd b p=wd Z p:=by
 induction h with
 |nil=>
  intro f Z B c;obtain⟨f,rfl⟩:∃d,f=d+1:=⟨f-1,by omega⟩
  refine⟨Z,?_,c,λ a ao=>by simp at ao,λ p _=>rfl⟩;rw[HE,bG,lK]
 | @cons q r C l V D m=>
   intro f Z B c;obtain⟨f,rfl⟩:∃d,f=d+1:=⟨f-1,by omega⟩
   have e:=D.le;obtain⟨n,g⟩:∃n,n=3+(wd W (q+1)).toNat:=⟨_,rfl⟩
   have E:=(jz.1 l).1.1;have G:q<to:=by omega
   obtain⟨H,J,K,s⟩:=put_eq (y:=y) (ol:=ol) (yt:=yt) (ot:=ot) (nx:=nx) (nt:=nt) (u1:=u1) (u2:=u2) (u3:=u3) (u4:=u4) (u5:=u5) (u6:=u6) (t:=q) v w x z g (by omega) A C l (Z:=Z) (by omega) (by omega);have j:q+3+(wd W (q+1)).toNat=q+n:=by omega
   rw[j]at m e;obtain⟨b,M,N,O,u⟩:=m f H (by omega) (by rw[K,c]);have P:q<=100000:=by omega
   have Q:q+1<W.length:=by omega
   have R:n<=100000:=by omega
   have S:q+n<=100000:=by omega
   have T:sz W (q:Int)=n:=by unfold sz;rw[bR,g]
   refine⟨b,?_,N,λ a ao i hi=>?_,λ p X=>?_⟩;rw[HE,bH G,lA,J,ae];dsimp only;rw[hV P,fI Q,ae,C3 E g R,lW S];exact M;rcases cG.1 ao with rfl |ao;rw[T]at hi;rw[bR,u _ (by omega),s,lz (by omega),show q+i-q=i by omega];exact O a ao i hi;rw[u p (by omega),s,ly (by omega)]
end
def laid(k:aN)(W o ns Z:List Int):Nat->List Int->Prop
 |_,[]=>True
 |t,a::r=>(∀m,m<sz W a->wd Z (t+m)=val k W o ns a.toNat m)/\laid k W o ns Z (t+sz W a) r
section
variable{F:Nat}{k:aN}{y ol yt ot nx:Int}{W nt o ns:List Int}{u1 u2 u3 u4 u6:Int}{u5:List Int}{e1 e6:List Int}{e2 e3 e4 e5 e7:Int}{roots:List Int}
theorem alm(z:10000<F)(A:gM k)(B:o.length<=5000)(C:ns.length=o.length)(D:W.length<=5000)
 (E:∀a∈o,1<=a/\a.toNat+3+(wd W (a.toNat+1)).toNat<=W.length/\fb k (wd W a.toNat)=true/\isLen k (wd W a.toNat) (wd W (a.toNat+1))=true):∀(d i f t:Nat)(Z:List Int),i+d=o.length->d<f->ns.drop i=news W t (o.drop i)->bk W t (o.drop i)<=W.length->Z.length=W.length ->
 ∃b,AX F f roots (i:Int) o e1 e2 e3 e4 e5 e6 e7 ns u1 u2 u3 u4 u5 u6 Z W y ol yt ot nt nx k.aV k.aT k.Fields k.Names k.aU=some ((roots,(),(),(),()),(o,()),(e1,e2,e3,e4,e5,e6,e7,()),((),()),ns,((),()),((),u1,u2,u3,u4,u5,u6,()),b,(W,y,ol,yt,ot,nt,nx,()),(k.aV,k.aT,k.Fields,k.Names,k.aU,()),())/\
  b.length=W.length/\laid k W o ns b t (o.drop i)/\∀p,p<t\/bk W t (o.drop i)<=p->wd b p=wd Z p:=by
 intro d
 induction d with
 |zero=>
  intro i f t Z h G c e j;obtain⟨f,rfl⟩:∃l,f=l+1:=⟨f-1,by omega⟩
  have:i=o.length:=by omega
  subst this;refine⟨Z,?_,j,by rw[gF];trivial,λ p _=>rfl⟩;rw[AX,bG,lK]
 |succ d H=>
  intro i f t Z h G c e j;obtain⟨f,rfl⟩:∃l,f=l+1:=⟨f-1,by omega⟩
  have hi:i<o.length:=by omega
  have ad:o[i]? =some o[i]:=aR hi;have s:i<ns.length:=by omega
  have wo:ns[i]? =some ns[i]:=aR s;rw[cw hi,cw s,news]at c;rw[cw hi,bk]at e;have I:ns[i]=(t:Int):=(eO c).1;have u:=(eO c).2;obtain⟨S,J,a3,a4⟩:=E _ (fa hi);obtain⟨q,g⟩:∃q:Nat,o[i]=(q:Int):=⟨o[i].toNat,by omega⟩
  rw[g,bR]at J a3 a4;obtain⟨n,v⟩:∃n,n=3+(wd W (q+1)).toNat:=⟨_,rfl⟩
  have r:sz W o[i]=n:=by rw[g];unfold sz;rw[bR,v]
  rw[r]at u e;have T:=lk (W:=W) (o:=o.drop (i+1)) (t:=t+n);have K:i<=100000:=by omega
  obtain⟨L,M,N,w⟩:=put_eq (y:=y) (ol:=ol) (yt:=yt) (ot:=ot) (nx:=nx) (nt:=nt) (u1:=u1) (u2:=u2) (u3:=u3) (u4:=u4) (u5:=u5) (u6:=u6) (t:=t) z A B C v (by omega) D a3 a4 (Z:=Z) (by omega) (by omega);obtain⟨b,O,P,Q,x⟩:=H (i+1) f (t+n) L (by omega) (by omega) u e (by rw[N,j]);refine⟨b,?_,P,?_,λ p R=>?_⟩;rw[AX,bH hi,lA,br ad,ae,br wo,ae,g,I,M,ae];dsimp only;rw[hV K];exact O;rw[cw hi,laid,r];refine⟨λ m U=>?_,Q⟩;rw[x _ (by omega),w,lz (by omega),g,bR,show t+m-t=m by omega];rw[cw hi,bk,r]at R;rw[x p (by omega),w,ly (by omega)]
theorem ab7(c:10000<F)(e:o.length<=5000)(g:ns.length=o.length)(q:roots.length<=5000):∀(d i f:Nat)(l Z:List Int),i+d=roots.length->d<f->l.length=i ->
 AY F f roots (i:Int) e1 e2 e3 e4 e5 e6 e7 o ns u1 u2 u3 u4 u5 u6 Z l=some (((),(),(),()),(e1,e2,e3,e4,e5,e6,e7,()),((),()),(o,()),((),()),ns,((),u1,u2,u3,u4,u5,u6,()),Z,l++(roots.drop i).map (df o ns),()):=by
 intro d
 induction d with
 |zero=>
  intro i f l Z h j b;obtain⟨f,rfl⟩:∃a,f=a+1:=⟨f-1,by omega⟩
  have:i=roots.length:=by omega
  subst this;rw[AY,bG,lK,gF,hP,gH]
 |succ d m=>
  intro i f l Z h j b;obtain⟨f,rfl⟩:∃a,f=a+1:=⟨f-1,by omega⟩
  have hi:i<roots.length:=by omega
  have ad:roots[i]? =some roots[i]:=aR hi;have n:i<=100000:=by omega
  have p:bE 8 l [df o ns roots[i]]=some (l++[df o ns roots[i]]):=by unfold bE;rw[lz (by simp only[iK];omega)]
  rw[AY,bH hi,lA,br ad,ae,an_ e c g,ae];dsimp only;rw[p,ae,hV n];refine(m (i+1) f (l++[df o ns roots[i]]) Z (by omega) (by omega) (by simp[b])).trans ?_;rw[cw hi,ea,eY,jX]
end
end Go.Proofs.YteeliipnilghaaaGreat
