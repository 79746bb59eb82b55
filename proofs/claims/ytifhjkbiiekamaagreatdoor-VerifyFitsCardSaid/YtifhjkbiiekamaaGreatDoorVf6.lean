/- LAW: THE WALK AND THE PLAIN LAW, JOINED TO THE GIVEN STATEMENT: for every input that the row speaks of, the call returns true and what came in reads as it did. Made by program (liftgen2.py). -/
import Derived.Test.YtifhjkbiiekamaaGreatDoorVf5
import Derived.Test.YtifhjkbiiekamaaGreatDoorCards
import Derived.Test.YtifhjkbiiekamaaGreatDoorTie
import Derived.WalkKit
import Derived.ProofKit
import Derived.OpenShut
import Derived.Deep.DeepHandedRow
open Bool renaming and_eq_true->bM,and_self->kr,eq_false_iff->gA,eq_iff_iff->io,false_eq_true->hT,false_or->k9,not_eq_true'->gx,not_false->kV,not_true->fg,or_eq_false_iff->ke,or_eq_true->h1,true_and->lb
open List renaming all_eq_true->jX,append_assoc->ja,append_nil->jb,drop_eq_getElem_cons->hJ,drop_of_length_le->h7,drop_zero->kv,exists_of_findSome?_eq_some->ed,ext_getElem?->jO,findSome?_append->kx,findSome?_cons->iI,findSome?_eq_none_iff->fk,flatMap_cons->ik,getElem?_append_left->eF,getElem?_eq_getElem->bx,getElem?_eq_none->gM,getElem?_eq_some_iff->bg,length_append->fz,length_cons->dp,length_map->jc,length_nil->g3,length_range->jL,length_reverse->jW,length_take->fM,mem_append->de,mem_append_right->lm,mem_cons->cU,mem_of_getElem?->bR,mem_singleton->ft,nodup_append->fL,pairwise_iff_getElem->jw,range->fe,take_add_one->jP,take_length->jY,take_of_length_le->hF
open Nat renaming le_mul_of_pos_right->kY,le_refl->cS,le_trans->eY
open Option renaming bind->ej,bind_some->ae,getD_none->iG,getD_some->h2,map_none->ie,map_some->fC,some.inj->eG,some.injEq->aM
noncomputable section
namespace ad
section
variable{F:Nat}{l:List ao}
theorem y3:(cI l).length=l.length:=by simp[cI]
theorem pM{n:Int}(a:0<=n)(I:n<l.length):∃x,idx l n=some x/\idx (cI l) n=some (bC l x.ch):=by
 obtain⟨x,b⟩:∃x,l[n.toNat]? =some x:=⟨l[n.toNat]'(by omega),bx _⟩
 refine⟨x,?_,?_⟩;unfold idx;rw[lH a,b];unfold idx;rw[lH a,N5 b]
def Og(o:Option (List Int))(acc:List Int):Way (List Int) (List Int):=match o with
 |some c=>.go (c.reverse++acc)
 |none=>.out []
def bq(l:List ao)(n:Int):List Int:=(cP (cI l) l.length n).getD []
theorem y8(p:1100<F)(h:Right l){n:Int}(I:n<l.length):my F l n=some (bq l n).reverse:=by
 have e:=h.len;have key:∀(d:Nat)(acc:List Int)(n:Int)(f:Nat),acc.length+d=l.length+1 ->d+1<f->n<l.length->va F l f n acc=some (Og (cP (cI l) d n) acc):=by
  intro d;induction d with
  |zero=>
   intro acc n f i j g;obtain⟨f,rfl⟩:∃b,f=b+1:=⟨f-1,by omega⟩
   rw[va,cP];by_cases a:n<0;rw[lH a,lA (by omega)];rfl;rw[lG a,ly (by omega),lI,ly (by omega)];rfl
  |succ d m=>
   intro acc n f i j g;obtain⟨f,rfl⟩:∃b,f=b+1:=⟨f-1,by omega⟩
   rw[va,cP];by_cases a:n<0;rw[lH a,lA (by omega)];rfl
   ·obtain⟨x,o,ap⟩:=pM (l:=l) (n:=n) (by omega) g;rw[lG a,ly (by omega),lI,lA (by omega),lJ];unfold cc;rw[lH (by simp only[dp,g3];omega)];show((some ([n]++acc)).bind λ q=>(idx l n).bind λ r=>_)=_
    rw[ae,o,ae,lE ⟨by omega,by omega⟩,ae,ap,ae,m ([n]++acc) _ f (by simp only[fz,dp,g3];omega) (by omega) jx];cases cP (cI l) d (bC l x.ch)with
    |none=>rfl
    |some c=>simp[Og]
 unfold my;rw[key (l.length+1) [] n F (by simp) (by omega) I,anK (k:=l.length+1) (by rw[y3];omega),y3];unfold bq;cases cP (cI l) l.length n with
 |none=>rfl
 |some c=>simp[Og,cO]
def qn(l:List ao)(i:Nat):Option Int:=if(cP (cI l) l.length (i:Int)).isSome then none else some 4
theorem Od{S:List Int}{k:Nat}{n:Int}{c:List Int}(h:cP S k n=some c)(d:0<=n):∃r,c=n::r:=by
 cases k with
 |zero=>simp only[cP]at h;rw[lG (by omega)]at h;cases h
 |succ k=>
  rw[cP,lG (by omega)]at h;cases hi:idx S n with
  |none=>rw[hi]at h;cases h
  |some m=>
   rw[hi,ae]at h;cases a:cP S k m with
   |none=>rw[a]at h;cases h
   |some b=>rw[a]at h;simp only[fC,aM]at h;exact⟨b,h.symm⟩
theorem ab3(a:1100<F)(h:Right l):uN F l F 0=some (cT ((fe l.length).findSome? (qn l))):=lO _ (by have:=h.len;omega) (λ k i hi=>by
 rw[uN,b6 hi,lI,y8 a h (by omega),ae];unfold qn bq;cases b:cP (cI l) l.length (i:Int)with
 |none=>rfl
 |some c=>obtain⟨r,rfl⟩:=Od b (by omega);rw[lA (by simp;omega)];rfl) (λ k=>by rw[uN,b5];rfl) (by have:=h.len;omega)
theorem QF(h:Right l)(m:List (List UInt8×Int))(s:List Int):∀(d i f:Nat)(n:Int),i+d=l.length->d<f->0<=n->n<l.length->∃r,po ⟨l,m,s⟩ (cI l) f n i=some r/\(r<0↔(cP (cI l) d n).isSome=true)
 |0,i,f,n,hi,j,c,e=>by
  obtain⟨f,rfl⟩:∃b,f=b+1:=⟨f-1,by omega⟩
  have:i=l.length:=by omega
  subst this;refine⟨n,?_,?_⟩
  ·rw[po];show cond (decide ((l.length:Int)<(l.length:Int))) _ _=_
   rw[b5];rfl
  ·rw[cP,lG (by omega)];simp;omega
 |d+1,i,f,n,hi,j,c,e=>by
  obtain⟨f,rfl⟩:∃b,f=b+1:=⟨f-1,by omega⟩
  obtain⟨x,k,ap⟩:=pM (l:=l) (n:=n) c e;have g:=h.len;rw[po];have hc:decide ((i:Int)<((⟨l,m,s⟩:a7).l.length:Int))=true:=b6 (n:=l.length) (by omega);rw[hc,lI,ap,ae,cP,lG (by omega),ap,ae];by_cases a:bC l x.ch<0
  ·rw[ly a,lI];refine⟨_,rfl,?_⟩;have:cP (cI l) d (bC l x.ch)=some []:=by cases d<;>simp[cP,a]
   rw[this];simp[a]
  ·rw[lA a,lJ,gE (n:=l.length) (by omega) (by omega)];obtain⟨r,I,J⟩:=QF h m s d (i+1) f (bC l x.ch) (by omega) (by omega) (by omega) jx;refine⟨r,I,J.trans ?_⟩;simp
theorem ab2(c:1100<F)(h:Right l)(m:List (List UInt8×Int))(s:List Int):n4 F ⟨l,m,s⟩ (cI l) F 0=some (cT (((fe l.length).findSome? (qn l)).map λ e=>(e,(⟨l,m,cI l⟩:a7)))):=by
 have a:=h.len;have:=lO (n:=l.length) (L:=n4 F ⟨l,m,s⟩ (cI l)) (λ i=>(qn l i).map λ e=>(e,(⟨l,m,cI l⟩:a7))) (by omega) (λ k i hi=>by
  rw[n4];have hc:decide ((i:Int)<((⟨l,m,s⟩:a7).l.length:Int))=true:=b6 (n:=l.length) hi;obtain⟨r,I,J⟩:=QF h m s l.length 0 F (i:Int) (by omega) (by omega) (by omega) (by omega);rw[hc,lI,show(0 :Int)=((0 :Nat):Int) from rfl,I];simp only[ae];unfold qn;cases b:(cP (cI l) l.length (i:Int)).isSome with
  |true=>rw[lH rfl,lA (show¬((0 :Nat):Int)<=r from λ aD=>by have:=J.2 b;omega)];rfl
  |false=>rw[lG (by simp),ly (show((0 :Nat):Int)<=r from by
   rcases Int.lt_or_le r 0 with aD |aD;have:=J.1 aD;rw[b]at this;cases this
   ·exact aD)];rfl) (λ k=>by
    rw[n4];show cond (decide ((l.length:Int)<(l.length:Int))) _ _=_
    rw[b5];rfl) (F:=F) (by omega)
 rw[this,Ek]
structure c3 (l:List ao):Prop where
 right:Right l
 akn:uD l
 ajw:∀c∈l,c.ch=[]\/0<=bC l c.ch
 up:∀i,i<l.length->∃c,cP (cI l) l.length (i:Int)=some c
 top:∀c∈l,oy c=none
 obj:0<=bC l [79,98,106,101,99,116]
theorem c3.chain(h:c3 l){n:Int}(b:0<=n)(I:n<l.length):cP (cI l) l.length n=some (bq l n)/\(bq l n).length<=10/\(∀x∈bq l n,0<=x/\x<l.length):=by
 obtain⟨c,hc⟩:=h.up n.toNat (by omega);rw[show((n.toNat:Nat):Int)=n by omega]at hc;have e:bq l n=c:=by unfold bq;rw[hc];rfl
 rw[e];refine⟨hc,?_,λ x a=>?_⟩;have:=WS hc;rw[y3]at this;have:=h.right.len;omega;have:=(GG hc x a).1;rw[y3]at this;exact this
theorem c3.LM(h:c3 l)(b:1100<F)(m:List (List UInt8×Int)){n:Int}(a:0<=n)(I:n<l.length):n5 F ⟨l,m,cI l⟩ n=some (bq l n):=by obtain⟨hc,c,_⟩:=h.chain a I;exact abA (l:=l) hc (by omega) (by omega)
def jy(l:List ao)(i:Int):List Field:=((idx l i).map (·.Fields)).getD []
def eJ(l:List ao)(n:Int):List Field:=(bq l n).reverse.flatMap (jy l)
theorem I_(h:Right l)(i:Int):(jy l i).length<=6:=by
 unfold jy;cases a:idx l i with
 |none=>simp
 |some x=>obtain⟨_,_,J⟩:=il a;exact h.fields x (bR J)
theorem I'(h:Right l):∀r:List Int,(r.flatMap (jy l)).length<=6*r.length
 |[]=>by simp
 |x::r=>by have I:=I_ h x;have J:=I' h r;simp only[ik,fz,dp];omega
theorem Sf(h:Right l)(m:List (List UInt8×Int))(s:List Int):∀(rem:List Int)(acc:List Field),(∀x∈rem,0<=x/\x<l.length)->acc.length+6*rem.length<=1000 ->s9 ⟨l,m,s⟩ rem acc=some (acc++rem.flatMap (jy l))
 |[],acc,_,_=>by simp[s9]
 |x::rem,acc,a,d=>by
  obtain⟨c,hc,_⟩:=pM (l:=l) (a x (by simp)).1 (a x (by simp)).2;have b:jy l x=c.Fields:=by unfold jy;rw[hc];rfl
  have I:=I_ h x;rw[b]at I;simp only[dp]at d;rw[s9];show((idx l x).bind λ e=>_)=_
  rw[hc,ae];unfold cc;rw[lH (by omega),ae,Sf h m s rem _ (λ y hy=>a y (by simp[hy])) (by simp only[fz];omega),ik,b];simp
theorem c3.LN(h:c3 l)(b:1100<F)(m:List (List UInt8×Int)){n:Int}(a:0<=n)(I:n<l.length):pq F ⟨l,m,cI l⟩ n=some (eJ l n):=by obtain⟨_,e,c⟩:=h.chain a I;unfold pq;have:=h.LM b m a I;simp only at this⊢;rw[this,ae];unfold Cf;rw[ae,Sf h.right m (cI l) _ [] (λ x d=>c x (by simpa using d)) (by simp;omega)];simp[eJ]
theorem c3.NF(h:c3 l)(d:1100<F){n:Int}(e:0<=n)(I:n<l.length):uF F l n=some (eJ l n):=by
 obtain⟨_,j,f⟩:=h.chain e I;unfold uF;rw[y8 d h.right I,ae];have:oM l (bq l n).reverse F [] 0=some (eJ l n):=by
  refine Fb (n:=(bq l n).reverse.length) (λ k i=>oM l (bq l n).reverse k (((bq l n).reverse.take i).flatMap (jy l)) (i:Int)) (eJ l n) (λ k i hi=>?_) (λ k=>?_) (F:=F) (by simp;omega)
  ·obtain⟨x,a⟩:∃x,(bq l n).reverse[i]? =some x:=⟨(bq l n).reverse[i],bx hi⟩
   have ag:=f x (by simpa using bR a);obtain⟨c,hc,_⟩:=pM (l:=l) ag.1 ag.2;have b:jy l x=c.Fields:=by unfold jy;rw[hc];rfl
   have J:=I_ h.right x;rw[b]at J;have g:=I' h.right ((bq l n).reverse.take i);simp only[fM,jW]at g hi;show oM l (bq l n).reverse (k+1) (((bq l n).reverse.take i).flatMap (jy l)) (i:Int)=_
   rw[oM,b6 (by simpa using hi),lI,br a,ae,hc,ae];unfold cc;rw[lH (by omega),ae,gE (n:=(bq l n).length) hi (by omega),jP,a,List.flatMap_append];simp[b]
  ·show oM l (bq l n).reverse (k+1) (((bq l n).reverse.take (bq l n).reverse.length).flatMap (jy l)) ((bq l n).reverse.length:Int)=_
   rw[oM,b5,jY];rfl
 rw[this];rfl
end
section
variable{F:Nat}{l:List ao}
abbrev bD:=List (List UInt8)×List Target
def l0(nm:List UInt8)(x:List UInt8):Bool:=decide (nm=x)
def qa(p:bD)(nm:List UInt8)(t:Target):bD:=match dA (l0 nm) p.1 with
 |some k=>(p.1,p.2.set k t)
 |none=>(p.1++[nm],p.2++[t])
def nG(ci:Int):List Method->Nat->bD->bD
 |[],_,p=>p
 |m::r,k,p=>nG ci r (k+1) (qa p m.Name ⟨ci,k⟩)
def ei(l:List ao)(i:Int):List Method:=((idx l i).map (·.a3)).getD []
def sh(l:List ao):List Int->bD->bD
 |[],p=>p
 |ci::r,p=>sh l r (nG ci (ei l ci) 0 p)
def f'(l:List ao)(n:Int):bD:=sh l (bq l n).reverse ([],[])
theorem HK{p:bD}{nm:List UInt8}{t:Target}(h:p.1.length=p.2.length):(qa p nm t).1.length=(qa p nm t).2.length/\(qa p nm t).1.length<=p.1.length+1:=by
 unfold qa;cases dA (l0 nm) p.1 with
 |some k=>simp[h]
 |none=>simp[h]
theorem HJ{ci:Int}:∀ {r:List Method}{k:Nat}{p:bD},p.1.length=p.2.length->(nG ci r k p).1.length=(nG ci r k p).2.length/\(nG ci r k p).1.length<=p.1.length+r.length
 |[],_,p,h=>⟨h,cS _⟩
 |m::r,k,p,h=>by obtain⟨I,J⟩:=HK (nm:=m.Name) (t:=⟨ci,k⟩) h;obtain⟨a,b⟩:=HJ (ci:=ci) (r:=r) (k:=k+1) I;exact⟨a,by simp only[nG,dp];omega⟩
theorem ahE{a:List (List UInt8)}(h:Small F a.length)(nm:List UInt8):Co F a nm=some (((dA (l0 nm) a).map λ n:Nat=>(n:Int)).getD (-1)):=by unfold Co;have l1:uf a nm F 0=some (cT ((dA (l0 nm) a).map λ n:Nat=>(n:Int))):=D_ (l0 nm) _ h.1 (λ k i x b=>by rw[uf,b6 (bg.1 b).1,lI,br b,ae];rfl) (λ k=>by rw[uf,b5];rfl) h.2;rw[l1,jV];cases dA (l0 nm) a<;>rfl
theorem Wz(g:1100<F)(ci:Int)(c:ao)(hc:c.a3.length<=8):∀(d i f:Nat)(p:bD),i+d=c.a3.length->d<f->p.1.length=p.2.length->p.1.length+d<=1000 ->
 th F ci c f p.1 p.2 (i:Int)=some (nG ci (c.a3.drop i) i p)
 |0,i,f,p,hi,h,e,_=>by
  obtain⟨f,rfl⟩:∃b,f=b+1:=⟨f-1,by omega⟩
  have:i=c.a3.length:=by omega
  subst this;rw[th,b5,h7 (cS _)];rfl
 |d+1,i,f,p,hi,h,e,m=>by
  obtain⟨f,rfl⟩:∃b,f=b+1:=⟨f-1,by omega⟩
  have a:i<c.a3.length:=by omega
  obtain⟨I,J⟩:=HK (nm:=c.a3[i].Name) (t:=⟨ci,i⟩) e;have next:=Wz g ci c hc d (i+1) f (qa p c.a3[i].Name ⟨ci,i⟩) (by omega) (by omega) I (by omega)
  rw[th,b6 a,lI,br (bx a),ae,ahE ⟨by omega,by omega⟩,ae,hJ a,nG,<-next];unfold qa;cases j:dA (l0 c.a3[i].Name) p.1 with
  |some k=>have n:=MF j;simp only[fC,h2];rw[ly (show(0 :Int)<=(k:Int) by omega),lI,br (bx (show k<p.2.length by omega)),ae,ae,ae,gE a (by omega)];simp
  |none=>simp only[ie,iG];rw[lA (show¬(0 :Int)<= -1 by decide),lJ];unfold cc;rw[lH (by simp only[dp,g3];omega),ae,lH (by simp only[dp,g3];omega),ae,ae,gE a (by omega)]
theorem UQ(h:Right l)(i:Int):(ei l i).length<=8:=by
 unfold ei;cases a:idx l i with
 |none=>simp
 |some x=>obtain⟨_,_,J⟩:=il a;exact h.methods x (bR J)
theorem Wy(b:1100<F)(h:Right l)(m:List (List UInt8×Int))(s:List Int):∀(rem:List Int)(p:bD),(∀x∈rem,0<=x/\x<l.length)->p.1.length=p.2.length->p.1.length+8*rem.length<=900 ->
 tg F ⟨l,m,s⟩ rem p.1 p.2=some (sh l rem p)
 |[],p,_,_,_=>by simp[tg,sh]
 |x::rem,p,a,d,g=>by
  obtain⟨c,hc,_⟩:=pM (l:=l) (a x (by simp)).1 (a x (by simp)).2;have e:ei l x=c.a3:=by unfold ei;rw[hc];rfl
  have i:=UQ h x;have f:=i;rw[e]at f;simp only[dp]at g;obtain⟨j,n⟩:=HJ (ci:=x) (r:=ei l x) (k:=0) d;rw[tg];show(ej (α:=(List (List UInt8))×(List Target)) ((idx l x).bind λ o=>_) _)=_
  rw[hc,ae];have:=Wz b x c f c.a3.length 0 F p (by omega) (by omega) d (by omega);rw[show((0 :Nat):Int)=0 from rfl]at this;rw[this,kv,ae,ae,sh,<-e];exact Wy b h m s rem _ (λ y hy=>a y (by simp[hy])) j (by omega)
theorem c3.ai5(h:c3 l)(a:1100<F)(m:List (List UInt8×Int)){n:Int}(b:0<=n)(I:n<l.length):wm F ⟨l,m,cI l⟩ n=some (f' l n):=by obtain⟨_,e,c⟩:=h.chain b I;unfold wm;have:=h.LM a m b I;simp only at this⊢;rw[this,ae];unfold Cf;rw[ae,Wy a h.right m (cI l) _ ([],[]) (λ x d=>c x (by simpa using d)) rfl (by simp;omega)];rfl
theorem ann(a:List (List UInt8))(m:Method)(h:Small F a.length):nC a m F 0=some (((dA (l0 m.Name) a).getD a.length:Nat):Int):=by
 have key:∀(d i f:Nat),i+d=a.length->d<f->nC a m f (i:Int)=some ((i+(dA (l0 m.Name) (a.drop i)).getD d:Nat):Int):=by
  intro d;induction d with
  |zero=>
   intro i f hi g;obtain⟨f,rfl⟩:∃c,f=c+1:=⟨f-1,by omega⟩
   have:i=a.length:=by omega
   subst this;rw[nC,b5,h7 (cS _)];rfl
  |succ d j=>
   intro i f hi g;obtain⟨f,rfl⟩:∃c,f=c+1:=⟨f-1,by omega⟩
   have b:i<a.length:=by omega
   rw[nC,b6 b,lI,br (bx b),ae,hJ b,dA];by_cases e:a[i]=m.Name;rw[ly e,lH (by simp[l0,e])];simp
   ·rw[lA e,lG (by simp[l0];exact λ h=>e h.symm)];simp only[kV,lI];rw[gE b h.1,j (i+1) f (by omega) (by omega)];congr 2;cases dA (l0 m.Name) (a.drop (i+1))with
    |none=>simp;omega
    |some k=>simp;omega
 have:=key a.length 0 F (by omega) h.2;simpa using this
theorem WE(j:1100<F)(gD:List Int)(n:Nat)(ci:Int)(c:ao)(a:gD[n]? =some ci)(e:idx l ci=some c)(hc:c.a3.length<=8):∀(d i f:Nat)(p:bD),i+d=c.a3.length->d<f->p.1.length=p.2.length->p.1.length+d<=1000 ->
 u_ F l gD (n:Int) f p.2 p.1 (i:Int)=some ((nG ci (c.a3.drop i) i p).2,(nG ci (c.a3.drop i) i p).1)
 |0,i,f,p,hi,m,g,_=>by
  obtain⟨f,rfl⟩:∃h,f=h+1:=⟨f-1,by omega⟩
  have:i=c.a3.length:=by omega
  subst this;rw[u_,br a,ae,e,ae,b5,h7 (cS _)];rfl
 |d+1,i,f,p,hi,m,g,q=>by
  obtain⟨f,rfl⟩:∃h,f=h+1:=⟨f-1,by omega⟩
  have b:i<c.a3.length:=by omega
  obtain⟨I,J⟩:=HK (nm:=c.a3[i].Name) (t:=⟨ci,i⟩) g;have next:=WE j gD n ci c a e hc d (i+1) f (qa p c.a3[i].Name ⟨ci,i⟩) (by omega) (by omega) I (by omega)
  rw[u_,br a,ae,e,ae,b6 b,lI,ae,e,ae,br (bx b),ae,ann p.1 _ ⟨by omega,by omega⟩,ae,hJ b,nG,<-next];unfold qa;cases o:dA (l0 c.a3[i].Name) p.1 with
  |some k=>have r:=MF o;simp only[h2];rw[lA (show¬((k:Nat):Int)=(p.1.length:Int) by omega),lJ,ae];simp only[br a,ae];rw[br (bx (show k<p.2.length by omega)),ae,ae,gE b (by omega)];simp
  |none=>simp only[iG,decide_true,lI];unfold cc;rw[lH (by simp only[dp,g3];omega),ae,lH (by simp only[dp,g3];omega),ae,ae];simp only[br a,ae];rw[br (i:=p.1.length) (x:=(⟨0,0⟩:Target)) (by rw[g];simp),ae,ae,gE b (by omega)];simp[g,List.set_append]
theorem c3.amD(h:c3 l)(m:1100<F){n:Int}(u:0<=n)(I:n<l.length):zJ F l n=some (f' l n):=by
 obtain⟨_,B,v⟩:=h.chain u I;unfold zJ;rw[y8 m h.right I,ae];have key:∀(d i f:Nat)(p:bD),i+d=(bq l n).reverse.length->d<f->p.1.length=p.2.length->p.1.length+8*d<=900 ->u9 F l (bq l n).reverse f p.2 p.1 (i:Int)=some ((sh l ((bq l n).reverse.drop i) p).2,(sh l ((bq l n).reverse.drop i) p).1):=by
  intro d;induction d with
  |zero=>
   intro i f p hi w _ _;obtain⟨f,rfl⟩:∃b,f=b+1:=⟨f-1,by omega⟩
   have:i=(bq l n).reverse.length:=by omega
   subst this;rw[u9,b5,h7 (cS _)];rfl
  |succ d y=>
   intro i f p hi w o C;obtain⟨f,rfl⟩:∃b,f=b+1:=⟨f-1,by omega⟩
   have a:i<(bq l n).reverse.length:=by omega
   obtain⟨ci,e⟩:∃x,(bq l n).reverse[i]? =some x:=⟨(bq l n).reverse[i],bx a⟩
   have ag:=v ci (by simpa using bR e);obtain⟨c,hc,_⟩:=pM (l:=l) ag.1 ag.2;have g:ei l ci=c.a3:=by unfold ei;rw[hc];rfl
   have z:=UQ h.right ci;have q:=z;rw[g]at q;obtain⟨s,A⟩:=HJ (ci:=ci) (r:=ei l ci) (k:=0) o;have t:=WE (l:=l) m (bq l n).reverse i ci c e hc q c.a3.length 0 F p (by omega) (by omega) o (by omega);rw[show((0 :Nat):Int)=0 from rfl]at t;have j:(bq l n).reverse[i]=ci:=by have:=bx a;rw[e]at this;exact(eG this).symm
   rw[u9,b6 a,lI,t,kv,ae,ae,gE (n:=(bq l n).length) (by simpa using a) (by omega),hJ a,j,sh,g];rw[g]at s A;exact y (i+1) f _ (by omega) (by omega) s (by omega)
 have:=key (bq l n).reverse.length 0 F ([],[]) (by omega) (by simp;omega) rfl (by simp;omega);rw[show((0 :Nat):Int)=0 from rfl,kv]at this;simp only at this;rw[this];rfl
end
theorem vk{α β:Type}{l:List α}(T:Nat->List β->Nat->Option (List β))(g:α->List β)(B M:Nat)(a:∀x∈l,(g x).length<=B)
 (ap:∀k (i:Nat) x acc,l[i]? =some x->acc.length+B<=M->T (k+1) acc i=T k (acc++g x) (i+1))(b:∀k acc,T (k+1) acc l.length=some acc){F:Nat}(c:l.length<F){acc:List β}(e:acc.length+B*l.length<=M) :
 T F acc 0=some (acc++l.flatMap g):=by
 have key:∀(d i k:Nat)(acc:List β),i+d=l.length->d<k->acc.length+B*d<=M->T k acc i=some (acc++(l.drop i).flatMap g):=by
  intro d;induction d with
  |zero=>
   intro i k acc h f _;obtain⟨k,rfl⟩:∃k',k=k'+1:=⟨k-1,by omega⟩
   have hi:i=l.length:=by omega
   subst hi;rw[b,h7 (cS _)];simp
  |succ d j=>
   intro i k acc h f m;obtain⟨k,rfl⟩:∃k',k=k'+1:=⟨k-1,by omega⟩
   have hi:i<l.length:=by omega
   have ag:=a l[i] (List.getElem_mem hi);rw[Nat.mul_succ]at m;rw[ap k i l[i] acc (bx hi) (by omega),j (i+1) k _ (by omega) (by omega) (by simp only[fz];omega),hJ hi,ik,ja]
 have:=key l.length 0 F acc (by omega) c e
 simpa using this
theorem Va{α β:Type}{g:α->Option β}{a:α}:[a].findSome? g=g a:=by rw[iI];cases g a<;>rfl
theorem z'{α β cx:Type}(f:α->List β)(g:β->Option cx):∀l:List α,(l.flatMap f).findSome? g=l.findSome? λ x=>(f x).findSome? g
 |[]=>rfl
 |x::r=>by rw[ik,kx,iI,z' f g r];cases(f x).findSome? g<;>rfl
theorem vw{α β:Type}{g:α->List β}{B:Nat}:∀ {l:List α},(∀x∈l,(g x).length<=B)->(l.flatMap g).length<=B*l.length
 |[],_=>by simp
 |x::r,h=>by have I:=h x (by simp);have J:=vw (l:=r) (λ y hy=>h y (by simp[hy]));simp only[ik,fz,dp,Nat.mul_succ];omega
def du(k:Kind):List (List UInt8):=if k.ao=[]then[]else[k.ao]
def mt(m:Method):List (List UInt8):=m.cg.flatMap du++du m.Returns++m.ck.map (·.ao)
def gV(c:ao):List (List UInt8):=c.Fields.flatMap (λ f=>du f.Kind)++c.a3.flatMap mt
def ox(l:List ao):List (List UInt8):=l.flatMap gV
def ic(l:List ao)(s:List UInt8):Option Int:=if 0<=bC l s then none else some 5
theorem qZ(k:Kind):(du k).length<=1:=by unfold du;split<;>simp
section
variable{F:Nat}{l:List ao}
theorem UR(h:Right l){c:ao}(hc:c∈l){m:Method}(a:m∈c.a3):(mt m).length<=9:=by have I:=h.method c hc m a;have J:=vw (l:=m.cg) (g:=du) (B:=1) (λ k _=>qZ k);have b:=qZ m.Returns;unfold mt;simp only[fz,jc];omega
theorem QC(h:Right l){c:ao}(hc:c∈l):(gV c).length<=78:=by have I:=vw (l:=c.Fields) (g:=λ f=>du f.Kind) (B:=1) (λ f _=>qZ f.Kind);have J:=vw (l:=c.a3) (g:=mt) (B:=9) (λ m a=>UR h hc a);have b:=h.fields c hc;have d:=h.methods c hc;unfold gV;simp only[fz];omega
theorem nH{b:Nat}{α:Type}{acc r:List α}(h:(acc.length+r.length)*b<=140737488355328):cc b acc r=some (acc++r):=by unfold cc;rw[lH h]
theorem Oa{acc:List (List UInt8)}(h:acc.length<=5000)(k:Kind):wo k acc=some (acc++du k):=by
 unfold wo du;by_cases e:k.ao=[]
 ·rw[ly e,lH e];simp
 ·rw[lA e,lG e];simp only[kV,lI];rw[nH (by simp only[dp,g3];omega)];rfl
theorem anq(A:1100<F)(h:Right l)(m:List (List UInt8×Int))(s:List Int):ri F ⟨l,m,s⟩ F [] 0=some (ox l):=by
 have j:=h.len;have:=vk (l:=l) (λ k acc i=>ri F ⟨l,m,s⟩ k acc (i:Int)) gV 78 2000 (λ c hc=>QC h hc) (λ k i c acc a b=>by
  have hc:=bR a;have C:=h.fields c hc;have D:=h.methods c hc;have hi:=(bg.1 a).1;have p:∀acc:List (List UInt8),acc.length<=2000 ->rj c F acc 0=some (acc++c.Fields.flatMap λ f=>du f.Kind):=λ acc o=>vk (l:=c.Fields) (λ k acc i=>rj c k acc (i:Int)) (λ f=>du f.Kind) 1 3000 (λ f _=>qZ f.Kind) (λ k i f acc a b=>by have hi:=(bg.1 a).1;rw[rj,b6 hi,lI,br a,ae,Oa (by omega),ae,gE hi (by omega)]) (λ k acc=>by rw[rj,b5];rfl) (by omega) (by omega)
  have q:∀acc:List (List UInt8),acc.length<=2100 ->n9 F c F acc 0=some (acc++c.a3.flatMap mt):=λ acc o=>
   vk (l:=c.a3) (λ k acc i=>n9 F c k acc (i:Int)) mt 9 3000 (λ m d=>UR h hc d) (λ k i m acc a b=>by
    have d:=bR a;have hi:=(bg.1 a).1;obtain⟨E,G⟩:=h.method c hc m d;have t:rk m F acc 0=some (acc++m.cg.flatMap du):=vk (l:=m.cg) (λ k acc i=>rk m k acc (i:Int)) du 1 3100 (λ k _=>qZ k) (λ k i x acc a b=>by have hi:=(bg.1 a).1;rw[rk,b6 hi,lI,br a,ae,Oa (by omega),ae,gE hi (by omega)]) (λ k acc=>by rw[rk,b5];rfl) (by omega) (by omega);have u:=vw (l:=m.cg) (g:=du) (B:=1) (λ k _=>qZ k);have v:=qZ m.Returns;have w:∀acc:List (List UInt8),acc.length<=3200 ->n_ m F acc 0=some (acc++m.ck.flatMap λ h=>[h.ao]):=λ acc o=>vk (l:=m.ck) (λ k acc i=>n_ m k acc (i:Int)) (λ h=>[h.ao]) 1 3300 (λ k _=>by simp) (λ k i x acc a b=>by have hi:=(bg.1 a).1;rw[n_,b6 hi,lI,br a,ae,nH (by simp only[dp,g3];omega),ae,gE hi (by omega)]) (λ k acc=>by rw[n_,b5];rfl) (by omega) (by omega)
    rw[n9,b6 hi,lI,br a,ae,t,ae,Oa (k:=(⟨m.Returns.Kind,m.Returns.ao⟩:Kind)) (by simp only[fz];omega),ae,
     w _ (by simp only[fz];have:(du (⟨m.Returns.Kind,m.Returns.ao⟩:Kind)).length<=1:=qZ _;omega),ae,ae,gE hi (by omega)]
    have e:(m.ck.flatMap λ h=>[h.ao])=m.ck.map (·.ao):=by
     induction m.ck with
     |nil=>rfl
     |cons x r y=>rw[ik,y];rfl
    rw[e];unfold mt;simp only[ja]) (λ k acc=>by rw[n9,b5];rfl) (by omega) (by omega)
  have u:=vw (l:=c.Fields) (g:=λ f=>du f.Kind) (B:=1) (λ f _=>qZ f.Kind);rw[ri];have z:decide ((i:Int)<((⟨l,m,s⟩:a7).l.length:Int))=true:=b6 (n:=l.length) hi;rw[z,lI];show(ej (α:=List (List UInt8)) ((idx l (i:Int)).bind λ H=>_) _)=_
  rw[br a,ae,p acc (by omega),ae,q _ (by simp only[fz];omega),ae,ae,gE hi (by omega)];unfold gV;simp only[ja]) (λ k acc=>by
   rw[ri];show cond (decide ((l.length:Int)<(l.length:Int))) _ _=_
   rw[b5];rfl) (F:=F) (by omega) (acc:=[]) (by simp;omega)
 simpa[ox]using this
theorem Mo(s:List UInt8):(e2 (ek 0 l) s).isSome=decide (0<=bC l s):=by
 rw[yB];unfold bC;cases dA (g4 s) l with
 |none=>simp
 |some i=>simp
theorem ano(d:1100<F)(h:Right l)(s:List Int):Bs F ⟨l,ek 0 l,s⟩=some (((ox l).findSome? (ic l)).getD 0):=by
 have a:=h.len;unfold Bs;have f:=anq d h (ek 0 l) s;have j:(ox l).length<=780:=by have:=vw (l:=l) (g:=gV) (B:=78) (λ c hc=>QC h hc);unfold ox;omega
 rw[f,ae];have m:tj ⟨l,ek 0 l,s⟩ (ox l) F 0=some (cT ((ox l).findSome? (ic l))):=each (ic l) (by omega) (λ k i x b=>by
  rw[tj,b6 (bg.1 b).1,lI,br b,ae];show cond (!(e2 (ek 0 l) x).isSome) _ _=_
  rw[Mo];unfold ic;by_cases e:0<=bC l x;rw[ly e,lH e];rfl
  ·rw[lA e,lG e];rfl) (λ k=>by rw[tj,b5];rfl) (by omega)
 rw[m];cases(ox l).findSome? (ic l)<;>rfl
def k8(l:List ao)(k:Kind):Option Int:=(du k).findSome? (ic l)
theorem WG{s:List UInt8}:ic l s=none\/ic l s=some 5:=by unfold ic;split<;>simp
theorem o2{α:Type}{g:α->Option Int}{e:Int}(a:∀x,g x=none\/g x=some e):∀r:List α,r.findSome? g=none\/r.findSome? g=some e
 |[]=>.inl rfl
 |x::r=>by rw[iI];rcases a x with h |h;rw[h];exact o2 a r;rw[h];exact .inr rfl
theorem ah3(k:Kind):k8 l k=if k.ao=[]\/0<=bC l k.ao then none else some 5:=by
 unfold k8 du ic;by_cases e:k.ao=[]
 ·simp[e]
 ·by_cases al:0<=bC l k.ao<;>simp[e,al]
theorem HF(h:Small F l.length){a:List Kind}(b:Small F a.length):u' F l a=some (a.findSome? (k8 l)).isNone:=by
 unfold u';have l1:=each (l:=a) (L:=sc F a l) (λ k=>(k8 l k).map λ _=>false) b.1 (λ k i x c=>by
  rw[sc,b6 (bg.1 c).1,lI,br c,ae,ae,lE h,ae,ah3];by_cases e:x.ao=[]
  ·rw[lH (.inl e),ly e];rfl
  ·rw[lA e];by_cases al:0<=bC l x.ao;rw[lH (.inr al),lA (show¬bC l x.ao<0 by omega)];rfl
   ·rw[lG (by simp[e,al]),ly (show bC l x.ao<0 by omega)];rfl) (λ k=>by rw[sc,b5];rfl) b.2
 rw[l1,Ek];cases a.findSome? (k8 l)<;>rfl
theorem Lg{o:Option Int}(h:o=none\/o=some 5)(Y:Option (Way Int Unit)):cond (!o.isNone) (some (.out 5)) Y=hP o Y:=by rcases h with h |h<;>rw[h]<;>rfl
theorem Lp(k:Kind):k8 l k=none\/k8 l k=some 5:=o2 (λ _=>WG) _
theorem CF{o a:Option Int}{Y:Option (Way Int Unit)}:hP o (hP a Y)=hP (o.or a) Y:=by cases o<;>rfl
theorem anp(s:1100<F)(h:Right l):r' F l F 0=some (cT ((ox l).findSome? (ic l))):=by
 have j:=h.len;have:=each (l:=l) (L:=r' F l) (λ c=>(gV c).findSome? (ic l)) (by omega) (λ k n c b=>by
  have hc:=bR b;have t:=h.fields c hc;have u:=h.methods c hc;have q:uO F l (n:Int) F 0=some (cT (c.Fields.findSome? λ f=>k8 l f.Kind)):=each (l:=c.Fields) (λ f=>k8 l f.Kind) (by omega) (λ k i f hy=>by rw[uO,br b,ae,b6 (bg.1 hy).1,lI,ae,br hy,ae,HF ⟨by omega,by omega⟩ ⟨by simp,by simp;omega⟩,ae];have e:[(⟨f.Kind.Kind,f.Kind.ao⟩:Kind)].findSome? (k8 l)=k8 l f.Kind:=Va;rw[e];exact Lg (Lp _) _) (λ k=>by rw[uO,br b,ae,b5];rfl) (by omega);have d:uP F l (n:Int) F 0=some (cT (c.a3.findSome? λ m=>(mt m).findSome? (ic l))):=each (l:=c.a3) (λ m=>(mt m).findSome? (ic l)) (by omega) (λ k i m hy=>by
   have r:=bR hy;obtain⟨v,w⟩:=h.method c hc m r;have g:uQ F l m F 0=some (cT (m.ck.findSome? λ x=>ic l x.ao)):=each (l:=m.ck) (λ x=>ic l x.ao) (by omega) (λ k i x o=>by
    rw[uQ,b6 (bg.1 o).1,lI,br o,ae,lE ⟨by omega,by omega⟩,ae];unfold ic;by_cases al:0<=bC l x.ao;rw[lH al,lA (show¬bC l x.ao<0 by omega)];rfl
    ·rw[lG al,ly (show bC l x.ao<0 by omega)];rfl) (λ k=>by rw[uQ,b5];rfl) (by omega)
   have e:[(⟨m.Returns.Kind,m.Returns.ao⟩:Kind)].findSome? (k8 l)=k8 l m.Returns:=Va;rw[uP,br b,ae,b6 (bg.1 hy).1,lI,ae,br hy,ae,HF ⟨by omega,by omega⟩ ⟨by omega,by omega⟩,ae,HF ⟨by omega,by omega⟩ ⟨by simp,by simp;omega⟩,ae,g,e,lk];rw[Lg (Lp _),Lg (o2 (λ k=>Lp k) _),CF,CF,nl,lh];congr 1;unfold mt;rw[kx,kx,z',List.findSome?_map];cases p:m.cg.findSome? (k8 l)with
   |some a=>have:(m.cg.findSome? λ x=>(du x).findSome? (ic l))=some a:=p;rw[this];rfl
   |none=>have:(m.cg.findSome? λ x=>(du x).findSome? (ic l))=none:=p;rw[this];rfl) (λ k=>by rw[uP,br b,ae,b5];rfl) (by omega)
  rw[r',b6 (bg.1 b).1,lI,q,d,lk,lk,CF,nl,lh];congr 1;unfold gV;rw[kx,z',z'];rfl) (λ k=>by rw[r',b5];rfl) (F:=F) (by omega)
 rw[this,ox,z']
end
theorem L4{cj β:Type} [DecidableEq cj]{k:cj}{v:β}:∀m:List (cj×β),(la m k v).length=if(e2 m k).isSome then m.length else m.length+1
 |[]=>rfl
 |p::r=>by simp only[la,e2];by_cases h:p.1=k;simp[h];simp only[lG h,dp,L4 r];split<;>rfl
theorem UN{cj β:Type} [DecidableEq cj]{k s:cj}{v:β}:∀m:List (cj×β),(e2 (la m k v) s).isSome=true↔s=k\/(e2 m s).isSome=true
 |[]=>by simp only[la,e2];by_cases h:k=s;simp[h];simp[h];exact λ e=>h e.symm
 |p::r=>by have a:=UN (k:=k) (s:=s) (v:=v) r;simp only[la];by_cases h:p.1=k;rw[lH h];simp only[e2];by_cases e:k=s;simp[e];have al: ¬p.1=s:=λ x=>e (h.symm.trans x);rw[lG e,lG al];constructor;exact λ x=>.inr x;rintro(x |x);exact absurd x.symm e;exact x;rw[lG h];simp only[e2];by_cases e:p.1=s;simp[e];rw[lG e,lG e];exact a
def qo(a:List (List UInt8)):Option Int:=if a.Nodup then none else some 6
section
variable{F:Nat}{l:List ao}
theorem WH(t:1100<F){c:List (List UInt8)}(u:c.length<=1000):yu F c=some (decide (¬c.Nodup)):=by
 have key:∀(d i k:Nat)(m:List (List UInt8×Bool)),i+d=c.length->d<k->(∀s,(e2 m s).isSome=true↔s∈c.take i)->m.length<=i->(m.length=i↔(c.take i).Nodup) ->
  ∃g,tl c k m (i:Int)=some g/\g.length<=c.length/\(g.length=c.length↔c.Nodup):=by
  intro d
  induction d with
  |zero=>
   intro i k m hi p I J f;obtain⟨k,rfl⟩:∃k',k=k'+1:=⟨k-1,by omega⟩
   have:i=c.length:=by omega
   subst this;rw[jY]at f;exact⟨m,by rw[tl,b5];rfl,J,f⟩
  |succ d q=>
   intro i k m hi p I J f;obtain⟨k,rfl⟩:∃k',k=k'+1:=⟨k-1,by omega⟩
   have j:i<c.length:=by omega
   have o:c.take (i+1)=c.take i++[c[i]]:=by rw[jP,bx j];rfl
   rw[tl,b6 j,lI,br (bx j),ae,gE j (by omega)];refine q (i+1) k _ (by omega) (by omega) (λ s=>?_) ?_ ?_;rw[UN,I,o,de,ft];constructor;rintro(h |h);exact .inr h;exact .inl h;rintro(h |h);exact .inr h;exact .inl h;rw[L4];split<;>omega;rw[L4,o,fL];by_cases n:(e2 m c[i]).isSome=true;rw[lH n];have:=(I c[i]).1 n;constructor;intro h;omega;rintro⟨_,_,h⟩;exact absurd rfl (h _ this _ (by simp));rw[lG n];have:c[i]∉c.take i:=λ h=>n ((I c[i]).2 h);constructor;intro h;exact⟨f.1 (by omega),by simp,λ a r b ag e=>by rw[ft]at ag;subst ag;exact this (e▸r)⟩;rintro⟨h,_,_⟩;have:=f.2 h;omega
 obtain⟨g,I,J,f⟩:=key c.length 0 F [] (by omega) (by omega) (λ s=>by simp[e2]) (by simp) (by simp);unfold yu;rw[show(0 :Int)=((0 :Nat):Int) from rfl,I,ae];congr 1;by_cases aC:c.Nodup;have:=f.2 aC;rw[lA (by omega),lA (by simp[aC])];have:g.length≠c.length:=λ e=>aC (f.1 e);rw[ly (by omega),ly aC]
def Ib{α:Type}(nm:α->List UInt8)(r:List α):Option Int:=(fe r.length).findSome? λ k=>(fe k).findSome? λ j=>if(r[j]?).map nm=(r[k]?).map nm then some 6 else none
theorem QO{α:Type}(nm:α->List UInt8)(r:List α):Ib nm r=qo (r.map nm):=by have c:Ib nm r=none\/Ib nm r=some 6:=o2 (λ k=>o2 (λ j=>by split<;>simp) _) _;unfold qo;by_cases aC:(r.map nm).Nodup;rw[lH aC];rcases c with h |h;exact h;exfalso;obtain⟨k,a,I⟩:=ed h;obtain⟨j,b,J⟩:=ed I;simp only[List.mem_range]at a b;split at J;rename_i e;have:=jw.1 aC j k (by simp;omega) (by simpa using a) b;apply this;rw[bx (by omega),bx a]at e;simpa using e;cases J;rw[lG aC];rcases c with h |h;exfalso;apply aC;refine jw.2 λ j k b a d e=>?_;have I:=fk.1 h k (by simpa using a);have J:=fk.1 I j (by simpa using d);simp only[jc]at b a;rw[bx b,bx a]at J;simp only[List.getElem_map]at e;rw[lH (by simp[e])]at J;cases J;exact h
theorem acb(c:1100<F)(r:List Field)(d:r.length<=1000):uH F r F 0=some (cT (qo (r.map (·.Name)))):=by
 rw[<-QO];exact lO _ (by omega) (λ k i hi=>by
  have a:uI r (i:Int) F 0=some (cT ((fe i).findSome? λ j=>if(r[j]?).map (·.Name)=(r[i]?).map (·.Name)then some 6 else none)):=lO _ (by omega) (λ k j b=>by
   rw[uI,b6 b,lI,br (bx (show j<r.length by omega)),ae,br (bx hi),ae,bx (show j<r.length by omega),bx hi];simp only[fC,aM];by_cases e:r[j].Name=r[i].Name;rw[ly e,lH e];rfl
   ·rw[lA e,lG e];rfl) (λ k=>by rw[uI,b5];rfl) (by omega)
  rw[uH,b6 hi,lI,a,lk,nl,lh]) (λ k=>by rw[uH,b5];rfl) (by omega)
theorem acd(d:1100<F)(c:ao)(f:c.a3.length<=1000):oN F c F 0=some (cT (qo (c.a3.map (·.Name)))):=by
 rw[<-QO];exact lO _ (by omega) (λ k i hi=>by
  have a:oO c (i:Int) F 0=some (cT ((fe i).findSome? λ j=>if(c.a3[j]?).map (·.Name)=(c.a3[i]?).map (·.Name)then some 6 else none)):=lO _ (by omega) (λ k j b=>by
   rw[oO,b6 b,lI,br (bx (show j<c.a3.length by omega)),ae,br (bx hi),ae,bx (show j<c.a3.length by omega),bx hi];simp only[fC,aM];by_cases e:c.a3[j].Name=c.a3[i].Name;rw[ly e,lH e];rfl
   ·rw[lA e,lG e];rfl) (λ k=>by rw[oO,b5];rfl) (by omega)
  rw[oN,b6 hi,lI,a,lk,nl,lh]) (λ k=>by rw[oN,b5];rfl) (by omega)
def tL(l:List ao)(i:Nat):Option Int:=(qo ((eJ l i).map (·.Name))).or (qo ((ei l i).map (·.Name)))
theorem So(h:c3 l){n:Int}(a:0<=n)(I:n<l.length):(eJ l n).length<=60:=by obtain⟨_,b,_⟩:=h.chain a I;have:=I' h.right (bq l n).reverse;unfold eJ;simp only[jW]at this;omega
theorem QP{a:List (List UInt8)}{Y:Option (Way Int Unit)}:cond (decide (¬a.Nodup)) (some (.out 6)) Y=hP (qo a) Y:=by unfold qo;by_cases h:a.Nodup;rw[lH h,lA (by simp[h])];rfl;rw[lG h,ly h];rfl
theorem UP{i:Nat}{c:ao}(h:l[i]? =some c):ei l (i:Int)=c.a3:=by unfold ei;rw[br h];rfl
theorem akp(a:1100<F)(h:c3 l):uR F l F 0=some (cT ((fe l.length).findSome? (tL l))):=by
 have d:=h.right.len;exact lO _ (by omega) (λ k i hi=>by
  obtain⟨c,b⟩:∃x,l[i]? =some x:=⟨l[i],bx hi⟩
  have f:=h.right.methods c (bR b);have e:=So h (n:=(i:Int)) (by omega) (by omega);rw[uR,b6 hi,lI,h.NF a (by omega) (by omega),ae,acb a _ (by omega),lk,br b,ae,acd a c (by omega),lk,CF,nl,lh];unfold tL;rw[UP b]) (λ k=>by rw[uR,b5];rfl) (by omega)
theorem ako(d:1100<F)(h:c3 l)(m:List (List UInt8×Int)):Br F ⟨l,m,cI l⟩=some (((fe l.length).findSome? (tL l)).getD 0):=by
 have p:=h.right.len;have:=lO (n:=l.length) (L:=tf F ⟨l,m,cI l⟩) (tL l) (by omega) (λ k i hi=>by
  obtain⟨c,a⟩:∃x,l[i]? =some x:=⟨l[i],bx hi⟩
  have w:=h.right.methods c (bR a);have q:=So h (n:=(i:Int)) (by omega) (by omega);have s:rh (eJ l i) F [] 0=some ((eJ l i).map (·.Name)):=by
   have:=vk (l:=eJ l i) (λ k acc e=>rh (eJ l i) k acc (e:Int)) (λ f=>[f.Name]) 1 3000 (λ f _=>by simp) (λ k j x acc a t=>by have b:=(bg.1 a).1;rw[rh,b6 b,lI,br a,ae,nH (by simp only[dp,g3];omega),ae,gE b (by omega)]) (λ k acc=>by rw[rh,b5];rfl) (F:=F) (by omega) (acc:=[]) (by simp;omega);rw[show(0 :Int)=((0 :Nat):Int) from rfl,this];congr 1;rw[List.nil_append];induction eJ l i with
   |nil=>rfl
   |cons x r g=>rw[ik,g];rfl
  have u:n8 c F [] 0=some (c.a3.map (·.Name)):=by
   have:=vk (l:=c.a3) (λ k acc e=>n8 c k acc (e:Int)) (λ f=>[f.Name]) 1 3000 (λ f _=>by simp) (λ k j x acc a t=>by have b:=(bg.1 a).1;rw[n8,b6 b,lI,br a,ae,nH (by simp only[dp,g3];omega),ae,gE b (by omega)]) (λ k acc=>by rw[n8,b5];rfl) (F:=F) (by omega) (acc:=[]) (by simp;omega);rw[show(0 :Int)=((0 :Nat):Int) from rfl,this];congr 1;rw[List.nil_append];induction c.a3 with
   |nil=>rfl
   |cons x r g=>rw[ik,g];rfl
  rw[tf];have v:decide ((i:Int)<((⟨l,m,cI l⟩:a7).l.length:Int))=true:=b6 (n:=l.length) hi;have o:=h.LN d m (n:=(i:Int)) (by omega) (by omega);rw[v,lI];show c5 (α:=Unit) ((idx l (i:Int)).bind λ y=>(pq F ⟨l,m,cI l⟩ (i:Int)).bind λ z=>_) _=_
  rw[br a,ae,o,ae,s,ae,u,ae,WH d (by simp;omega),ae,WH d (by simp;omega),ae,QP,QP,CF,nl,lh];unfold tL;rw[UP a]) (λ k=>by
   rw[tf];show cond (decide ((l.length:Int)<(l.length:Int))) _ _=_
   rw[b5];rfl) (F:=F) (by omega)
 unfold Br;rw[this];cases(fe l.length).findSome? (tL l)<;>rfl
theorem Wk{a b:List Kind}(g:a.length<=1000)(ag:b.length<=1000)(h:1100<F):p8 F a b=some (decide (a=b)):=by
 unfold p8;by_cases d:a.length=b.length
 ·rw[ly (show(a.length:Int)=(b.length:Int) by omega)];simp only[fg,lJ]
  have l1:mx a b F 0=some (cT ((fe a.length).findSome? λ i=>if a[i]? =b[i]? then none else some false)):=lO _ (by omega) (λ k i hi=>by
   rw[mx,b6 hi,lI,br (bx hi),ae,br (bx (show i<b.length by omega)),ae,bx hi,bx (show i<b.length by omega)];simp only[aM];by_cases e:a[i]=b[i];rw[ly e,lH e];rfl
   ·rw[lA e,lG e];rfl) (λ k=>by rw[mx,b5];rfl) (by omega)
  rw[l1,jV];cases c:(fe a.length).findSome? λ i=>if a[i]? =b[i]? then none else some false with
  |some e=>obtain⟨i,hi,I⟩:=ed c;split at I;cases I;rename_i f;injection I with I;subst I;rw[lA (λ e=>f (by rw[e]))];rfl
  |none=>rw[ly];rfl;apply jO;intro i;by_cases hi:i<a.length;have:=fk.1 c i (by simpa using hi);split at this;assumption;cases this;rw[gM (by omega),gM (by omega)]
 ·rw[lA (show¬(a.length:Int)=(b.length:Int) by omega),lA (λ e=>d (by rw[e]))];rfl
theorem adv{a b:List Kind}(c:a.length<=1000)(ag:b.length<=1000)(d:1100<F):Ck F a b=some (decide (a=b)):=by
 rw[<-Wk c ag d];unfold Ck p8;have e:∀k n,wP a b k n=mx a b k n:=by
  intro k;induction k with
  |zero=>intro n;rfl
  |succ k f=>intro n;rw[wP,mx];simp only[f]
 rw[e]
def H0(a b:Method):Bool:=decide (a.Name=b.Name)&&(a.Static||b.Static|| !decide (a.cg=b.cg)|| !decide (a.Returns=b.Returns))
def mF(a b:Method):Option Int:=if H0 a b then some 4 else none
def ql(l:List ao)(c:ao)(u:Int):Option Int:=c.a3.findSome? λ a=>(ei l u).findSome? (mF a)
def yx(l:List ao)(c:ao)(i:Nat):Option Int:=(bq l i).tail.findSome? (ql l c)
theorem abH(a b:Method):mF a b=none\/mF a b=some 4:=by unfold mF;split<;>simp
theorem Qp(c:ao)(u:Int):ql l c u=none\/ql l c u=some 4:=o2 (λ _=>o2 (λ _=>abH _ _) _) _
theorem aei{α:Type}{g:α->Option Int}{e:Int}(b:∀x,g x=none\/g x=some e)(r:List α):r.reverse.findSome? g=r.findSome? g:=by rcases o2 b r with h |h;rw[h,fk];intro x a;exact fk.1 h x (by simpa using a);rw[h];rcases o2 b r.reverse with J |J;obtain⟨x,a,c⟩:=ed h;have:=fk.1 J x (by simpa using a);rw[c]at this;cases this;exact J
theorem ajs(p:1100<F)(h:c3 l)(m:List (List UInt8×Int)):Bq F ⟨l,m,cI l⟩=some (((fe l.length).findSome? λ i=>(l[i]?).bind λ c=>yx l c i).getD 0):=by
 have q:=h.right.len;have:=lO (n:=l.length) (L:=ta F ⟨l,m,cI l⟩) (λ i=>(l[i]?).bind λ c=>yx l c i) (by omega) (λ k i hi=>by
  obtain⟨c,f⟩:∃x,l[i]? =some x:=⟨l[i],bx hi⟩
  have s:=bR f;have O:=h.right.methods c s;obtain⟨w,P,y⟩:=h.chain (n:=(i:Int)) (by omega) (by omega);obtain⟨r,t⟩:=Od w (by omega);have z:∀(a:Method),a∈c.a3->∀(u:ao),u∈l->n7 F a u F 0=some (cT (u.a3.findSome? (mF a))):=λ a e u d=>each (mF a) (by have:=h.right.methods u d;omega) (λ k j b ag=>by
   have A:=bR ag;have B:=h.right.method c s a e;have C:=h.right.method u d b A;rw[n7,b6 (bg.1 ag).1,lI,br ag,ae];unfold E5;simp only;rw[adv (by omega) (by omega) p];unfold mF H0;show cond _ (ej (cond _ (ej _ λ r=>cond r (some (decide (a.Returns=b.Returns))) _) _) _) _=_
   by_cases v:a.Name=b.Name;rw[ly v];simp only[ae,lI,lb];cases a.Static<;>cases b.Static<;>cases decide (a.cg=b.cg)<;>cases decide (a.Returns=b.Returns)<;>rfl
   ·rw[lA v];rfl) (λ k=>by rw[n7,b5];rfl) (by have:=h.right.methods u d;omega)
  have D:∀(x:Int),0<=x->x<l.length->td F ⟨l,m,cI l⟩ c x F 0=some (cT (ql l c x)):=λ x E I=>each (λ a=>(ei l x).findSome? (mF a)) (by omega) (λ k j a e=>by
   obtain⟨u,d,_⟩:=pM (l:=l) E I;have G:u∈l:=by obtain⟨_,_,J⟩:=il d;exact bR J
   have H:ei l x=u.a3:=by unfold ei;rw[d];rfl
   rw[td,b6 (bg.1 e).1,lI,br e,ae];show c5 (α:=Unit) ((idx l x).bind λ Q=>_) _=_
   rw[d,ae,z a (bR e) u G,lk,nl,lh,H]) (λ k=>by rw[td,b5];rfl) (by omega)
  have K:tc F ⟨l,m,cI l⟩ c (bq l i).tail F 0=some (cT ((bq l i).tail.findSome? (ql l c))):=each (ql l c) (by simp;omega) (λ k j x g=>by have ag:=y x (List.mem_of_mem_tail (bR g));rw[tc,b6 (bg.1 g).1,lI,br g,ae,D x ag.1 ag.2,lk,nl,lh]) (λ k=>by rw[tc,b5];rfl) (by simp;omega);rw[ta];have M:decide ((i:Int)<((⟨l,m,cI l⟩:a7).l.length:Int))=true:=b6 (n:=l.length) hi;have o:=h.LM p m (n:=(i:Int)) (by omega) (by omega);rw[M,lI];show c5 (α:=Unit) ((idx l (i:Int)).bind λ R=>(n5 F ⟨l,m,cI l⟩ (i:Int)).bind λ S=>_) _=_
  have N:cut (bq l i) 1 ((bq l i).length:Int)=some (bq l i).tail:=by unfold cut;rw[lH (by rw[t];simp only[dp];omega)];rw[t];simp
  rw[br f,ae,o,ae,N,ae,K,lk,nl,lh,f];rfl) (λ k=>by
   rw[ta];show cond (decide ((l.length:Int)<(l.length:Int))) _ _=_
   rw[b5];rfl) (F:=F) (by omega)
 unfold Bq;rw[this];cases(fe l.length).findSome? (λ i=>(l[i]?).bind λ c=>yx l c i)<;>rfl
theorem ajt(y:1100<F)(h:c3 l):uJ F l F 0=some (cT ((fe l.length).findSome? λ i=>(l[i]?).bind λ c=>yx l c i)):=by
 have z:=h.right.len;exact lO _ (by omega) (λ k i hi=>by
  obtain⟨c,d⟩:∃x,l[i]? =some x:=⟨l[i],bx hi⟩
  have A:=bR d;have P:=h.right.methods c A;obtain⟨H,Q,I⟩:=h.chain (n:=(i:Int)) (by omega) (by omega);obtain⟨r,B⟩:=Od H (by omega);have f:(bq l i).reverse=(bq l i).tail.reverse++[(i:Int)]:=by rw[B];simp
  have g:uK F l (i:Int) (bq l i).reverse F 0=some (cT ((bq l i).tail.reverse.findSome? (ql l c))):=each (l:=(bq l i).tail.reverse) (ql l c) (by simp;omega) (λ k u x m=>by
   have C:=(bg.1 m).1;have ag:=I x (List.mem_of_mem_tail (by simpa using bR m));obtain⟨w,e,_⟩:=pM (l:=l) ag.1 ag.2;have D:w∈l:=by obtain⟨_,_,J⟩:=il e;exact bR J
   have K:=h.right.methods w D;have L:ei l x=w.a3:=by unfold ei;rw[e];rfl
   have E:(bq l i).reverse[u]? =some x:=by rw[f,eF C];exact m
   have o:uL F l (i:Int) (bq l i).reverse (u:Int) F 0=some (cT (ql l c x)):=each (l:=c.a3) (λ a=>(ei l x).findSome? (mF a)) (by omega) (λ k j a p=>by
    have s:=bR p;have t:r9 F l (i:Int) (bq l i).reverse (u:Int) (j:Int) F 0=some (cT (w.a3.findSome? (mF a))):=each (l:=w.a3) (mF a) (by omega) (λ k q b ag=>by
     have M:=bR ag;have N:=h.right.method c A a s;have O:=h.right.method w D b M;rw[r9];simp only[br E,ae,e,b6 (bg.1 ag).1,lI,br d,br p,br ag];rw[Wk (by omega) (by omega) y];unfold mF H0;show cond _ (cond _ _ (ej _ λ r=>cond (!r) _ (cond (!decide (a.Returns=b.Returns)) _ _))) _=_
     by_cases G:a.Name=b.Name;rw[ly G];simp only[ae,lI,lb];cases a.Static<;>cases b.Static<;>cases decide (a.cg=b.cg)<;>cases decide (a.Returns=b.Returns)<;>rfl
     ·rw[lA G];rfl) (λ k=>by rw[r9];simp only[br E,ae,e,b5];rfl) (by omega)
    rw[uL,br d,ae,b6 (bg.1 p).1,lI,t,lk,nl,lh,L]) (λ k=>by rw[uL,br d,ae,b5];rfl) (by omega)
   have v:decide ((u:Int)<bj (((bq l i).reverse.length:Int)-1))=true:=by rw[On (by omega) (by simp;omega)];simp only[jW,List.length_tail]at C;exact ly (by simp only[jW];omega)
   rw[uK,v,lI,o,lk,nl,lh]) (λ k=>by
    have v:decide (((bq l i).tail.reverse.length:Int)<bj (((bq l i).reverse.length:Int)-1))=false:=by rw[On (by omega) (by simp;omega)];exact lA (by rw[B];simp)
    rw[uK,v];rfl) (by simp;omega)
  rw[uJ,b6 hi,lI,y8 y h.right (by omega),ae,g,lk,nl,lh,d,aei (Qp c)];rfl) (λ k=>by rw[uJ,b5];rfl) (by omega)
end
def FG:bE:=⟨[],[],[],[],[]⟩
def rows{β:Type}(f:Int->β)(i:Nat):List β:=(fe i).map λ j:Nat=>f (j:Int)
theorem yW{β:Type}(f:Int->β)(i:Nat):rows f (i+1)=rows f i++[f (i:Int)]:=by simp[rows,List.range_succ]
def linked(l:List ao):bE:=⟨l,cI l,rows (eJ l) l.length,rows (λ i=>(f' l i).1) l.length,rows (λ i=>(f' l i).2) l.length⟩
def xD(l:List ao)(i:Nat):Option (bE×Int):=if 12<(eJ l i).length\/16<(f' l i).1.length then some (FG,2)else none
section
variable{F:Nat}{l:List ao}
theorem P0(x y:Nat):((decide ((12 :Int)<(x:Int)))||(decide ((16 :Int)<(y:Int))))=decide (12<x\/16<y):=by rw[io];simp;omega
theorem ai4(b:1100<F)(h:c3 l)(a om:Int×a7)(d:a.2.bF=ek 0 l)(e:om.2.cV=cI l) :
 k_ F l a om F [] [] [] 0=some (wZ ((fe l.length).findSome? (xD l)) (rows (λ i=>(f' l i).2) l.length,rows (λ i=>(f' l i).1) l.length,rows (eJ l) l.length)):=by
 have c:=h.right.len
 refine HI (n:=l.length) (λ k i=>k_ F l a om k (rows (λ i=>(f' l i).2) i) (rows (λ i=>(f' l i).1) i) (rows (eJ l) i) (i:Int)) _ _ (λ k i hi=>?_) (λ k=>?_) (F:=F) (by omega)
 ·show k_ F l a om (k+1) (rows (λ i=>(f' l i).2) i) (rows (λ i=>(f' l i).1) i) (rows (eJ l) i) (i:Int)=_
  rw[k_,b6 hi,lI,d,e,h.ai5 b (ek 0 l) (by omega) (by omega),ae,h.LN b (ek 0 l) (by omega) (by omega),ae,
   nH (by simp only[rows,jc,jL,dp,g3];omega),ae,nH (by simp only[rows,jc,jL,dp,g3];omega),ae,
   nH (by simp only[rows,jc,jL,dp,g3];omega),ae,br (i:=i) (x:=eJ l i) (by simp[rows]),ae,P0,gE hi (by omega),<-yW (eJ l),<-yW (λ i=>(f' l i).1),<-yW (λ i=>(f' l i).2)]
  unfold xD;by_cases ag:12<(eJ l i).length\/16<(f' l i).1.length;rw[ly ag,lH ag];rfl;rw[lA ag,lG ag];rfl
 ·show k_ F l a om (k+1) (rows (λ i=>(f' l i).2) l.length) (rows (λ i=>(f' l i).1) l.length) (rows (eJ l) l.length) (l.length:Int)=_
  rw[k_,b5];rfl
theorem amC(a:1100<F)(h:c3 l) :
 nB F l F [] [] [] [] 0=some (wZ ((fe l.length).findSome? (xD l)) (rows (λ i=>(f' l i).2) l.length,rows (λ i=>(f' l i).1) l.length,rows (eJ l) l.length,cI l)):=by
 have b:=h.right.len
 refine HI (n:=l.length) (λ k i=>nB F l k (rows (λ i=>(f' l i).2) i) (rows (λ i=>(f' l i).1) i) (rows (eJ l) i) ((cI l).take i) (i:Int)) _ _ (λ k i hi=>?_) (λ k=>?_) (F:=F) (by omega)
 ·obtain⟨x,c⟩:∃x,l[i]? =some x:=⟨l[i],bx hi⟩
  have aN:(cI l).take i++[bC l x.ch]=(cI l).take (i+1):=by rw[jP,N5 c];rfl
  show nB F l (k+1) (rows (λ i=>(f' l i).2) i) (rows (λ i=>(f' l i).1) i) (rows (eJ l) i) ((cI l).take i) (i:Int)=_
  rw[nB,b6 hi,lI,h.NF a (by omega) (by omega),ae,h.amD a (by omega) (by omega),ae,P0,br c,ae,lE ⟨by omega,by omega⟩,ae,
   nH (by simp only[fM,y3,dp,g3];omega),ae,
   nH (by simp only[rows,jc,jL,dp,g3];omega),ae,nH (by simp only[rows,jc,jL,dp,g3];omega),ae,
   nH (by simp only[rows,jc,jL,dp,g3];omega),ae,gE hi (by omega),<-yW (eJ l),<-yW (λ i=>(f' l i).1),<-yW (λ i=>(f' l i).2),aN]
  unfold xD;by_cases ag:12<(eJ l i).length\/16<(f' l i).1.length;rw[ly ag,lH ag];rfl;rw[lA ag,lG ag];rfl
 ·show nB F l (k+1) (rows (λ i=>(f' l i).2) l.length) (rows (λ i=>(f' l i).1) l.length) (rows (eJ l) l.length) ((cI l).take l.length) (l.length:Int)=_
  rw[nB,b5,hF (by rw[y3];omega)];rfl
theorem BD{α:Type}{e:Int}(h:e≠0){x y:α}:cond (!decide (e=0)) x y=x:=by rw[lA h];rfl
theorem DW{α:Type}{x y:α}:cond (!decide ((0 :Int)=0)) x y=y:=rfl
theorem anu{e:Int}(h:l.findSome? oy=some e):e=4:=by obtain⟨x,_,a⟩:=ed h;unfold oy at a;split at a;cases a;injection a with a;exact a.symm
theorem ajz{e:Int}(h:l.findSome? (m6 l)=some e):e=5:=by obtain⟨x,_,a⟩:=ed h;unfold m6 at a;split at a;cases a;injection a with a;exact a.symm
theorem ab4{e:Int}(h:(fe l.length).findSome? (qn l)=some e):e=4:=by obtain⟨x,_,a⟩:=ed h;unfold qn at a;split at a;cases a;injection a with a;exact a.symm
theorem anJ{nm:List UInt8}(h:0<=bC l nm):(e2 (ek 0 l) nm).getD 0=bC l nm:=by
 rw[yB];unfold bC at h⊢;cases a:dA (g4 nm) l with
 |none=>rw[a]at h;simp at h
 |some i=>simp
theorem abB(f:1100<F)(y:Fits F l):∃e,zH F l=some e/\
 ((e≠0/\wl F l=some (FG,e))\/
  (e=0/\c3 l/\∃z om:Int×a7,z.2.bF=ek 0 l/\om.2.cV=cI l/\
   wl F l=cO (α:=(List (List Target))×(List (List (List UInt8)))×(List (List Field))) (k_ F l z om F [] [] [] 0) λ((E,G,H):(List (List Target))×(List (List (List UInt8)))×(List (List Field)))=>some ((⟨l,om.2.cV,H,G,E⟩:bE),0))):=by
 unfold zH wl
 rw[aaO y,ahA y,ae,ae]
 by_cases j:sp l=0
 case neg=>exact⟨sp l,by rw[BD j],.inl ⟨j,by rw[BD j];rfl⟩⟩
 rw[j,DW,DW]
 have d:=abD j
 have A:=d.len
 rw[akv (by omega) d,ae]
 rcases ajM (F:=F) (by omega) d with⟨K,n,p⟩|⟨_,⟨m,n⟩,p⟩
 case inr=>
  unfold yr
  simp only
  rw[n,p]
  exact⟨6,rfl,.inl ⟨by decide,rfl⟩⟩
 rw[p,y0,lE ⟨by omega,by omega⟩,ae,lE ⟨by omega,by omega⟩,ae]
 have q:yr F ⟨l,[],[]⟩=some (cond (decide (0<=bC l [79,98,106,101,99,116])&&decide (0<=bC l [69,114,114,111,114])) 0 5,⟨l,ek 0 l,[]⟩):=by unfold yr;simp only;rw[n,y0,Mo,Mo];cases decide (0<=bC l [79,98,106,101,99,116])<;>cases decide (0<=bC l [69,114,114,111,114])<;>rfl
 rw[q,ae]
 by_cases t:0<=bC l [79,98,106,101,99,116]
 case neg=>
  rw[ly (show bC l [79,98,106,101,99,116]<0 by omega),lA t]
  exact⟨5,rfl,.inl ⟨by decide,rfl⟩⟩
 rw[lA (show¬bC l [79,98,106,101,99,116]<0 by omega),ly t,lJ]
 by_cases h:0<=bC l [69,114,114,111,114]
 case neg=>
  rw[ly (show bC l [69,114,114,111,114]<0 by omega),lA h]
  exact⟨5,rfl,.inl ⟨by decide,rfl⟩⟩
 rw[lA (show¬bC l [69,114,114,111,114]<0 by omega),ly h,lJ,kr,lI]
 simp only[ae,decide_true,fg,lJ]
 unfold E6
 simp only
 rw[ans (by omega) d,ant (by omega) d,jV,jV]
 cases B:l.findSome? oy with
 |some e=>have:=anu B;subst this;exact⟨4,rfl,.inl ⟨by decide,rfl⟩⟩
 |none=>
 simp only[ie,pF]
 obtain⟨o,k,L⟩:=ajx (F:=F) (by omega) d
 rw[ajy (by omega) d,jV,L,<-k]
 cases o with
 |some r=>simp only[fC]at k;have:=ajz k.symm;refine⟨5,by simp only[fC,pF];rw[this],.inl ⟨by decide,?_⟩⟩;obtain⟨a,b⟩:=r;simp only at this;subst this;rfl
 |none=>
 simp only[ie,pF,wZ,y0]
 simp only[ie]at k
 rw[ab3 f d,jV,ab2 f d,jV]
 cases hc:(fe l.length).findSome? (qn l)with
 |some e=>have:=ab4 hc;subst this;exact⟨4,rfl,.inl ⟨by decide,rfl⟩⟩
 |none=>
 simp only[ie,pF,ae,decide_true,fg,lJ]
 have u:∀c∈l,c.ch=[]\/0<=bC l c.ch:=λ c v=>by have:=fk.1 k.symm c v;unfold m6 at this;split at this;assumption;cases this
 have M:∀i,i<l.length->∃c,cP (cI l) l.length (i:Int)=some c:=λ i hi=>by have:=fk.1 hc i (by simpa using hi);unfold qn at this;split at this;rename_i I;exact Option.isSome_iff_exists.1 I;cases this
 have g:c3 l:=⟨d,K,u,M,λ c v=>fk.1 B c v,t⟩
 have w:bC l [69,114,114,111,114]<l.length:=jx
 obtain⟨x,N,_⟩:=pM (l:=l) h w
 unfold E7
 simp only[anJ h]
 rw[g.NF f h w,ae,g.LN f (ek 0 l) h w,ae,N,ae,ae]
 by_cases ap:((!decide (x.ch=[79,98,106,101,99,116]))||(decide (((eJ l (bC l [69,114,114,111,114])).length:Int)=0)))=true
 ·rw[ap];exact⟨4,rfl,.inl ⟨by decide,rfl⟩⟩
 rw[gA.2 ap,lJ,lJ]
 have O:0<(eJ l (bC l [69,114,114,111,114])).length:=by simp only[h1,decide_eq_true_eq,not_or]at ap;omega
 have P:idx (eJ l (bC l [69,114,114,111,114])) 0=some ((eJ l (bC l [69,114,114,111,114]))[0]):=by have:=br (l:=eJ l (bC l [69,114,114,111,114])) (i:=0) (bx O);exact this
 rw[P,ae,ae]
 by_cases C:((eJ l (bC l [69,114,114,111,114]))[0]).Kind.Kind=1
 case neg=>
  rw[lA C]
  exact⟨4,rfl,.inl ⟨by decide,rfl⟩⟩
 rw[ly C]
 simp only[fg,lJ,ae,decide_true]
 rw[anp f d,jV,ano f d,ae]
 cases Q:(ox l).findSome? (ic l)with
 |some e=>
  have:e=5:=by obtain⟨s,_,I⟩:=ed Q;rcases WG (l:=l) (s:=s)with J |J;rw[J]at I;cases I;rw[J]at I;injection I with I;exact I.symm
  subst this;exact⟨5,rfl,.inl ⟨by decide,rfl⟩⟩
 |none=>
 simp only[pF,iG,decide_true,fg,lJ]
 rw[akp f g,jV,ako f g,ae]
 cases R:(fe l.length).findSome? (tL l)with
 |some e=>
  have:e=6:=by obtain⟨s,_,I⟩:=ed R;unfold tL qo at I;split at I;split at I;cases I;simp at I;exact I.symm;simp at I;exact I.symm
  subst this;exact⟨6,rfl,.inl ⟨by decide,rfl⟩⟩
 |none=>
 simp only[pF,iG,decide_true,fg,lJ]
 rw[ajt f g,jV,ajs f g,ae]
 cases S:(fe l.length).findSome? (λ i=>(l[i]?).bind λ c=>yx l c i)with
 |some e=>
  have:e=4:=by
   obtain⟨i,_,I⟩:=ed S;cases D:l[i]? with
   |none=>rw[D]at I;cases I
   |some c=>rw[D,ae]at I;unfold yx at I;rcases o2 (Qp (l:=l) c) (bq l i).tail with J |J;rw[J]at I;cases I;rw[J]at I;injection I with I;exact I.symm
  subst this;exact⟨4,rfl,.inl ⟨by decide,rfl⟩⟩
 |none=>
 simp only[pF,iG,decide_true,fg,lJ]
 exact⟨0,rfl,.inr ⟨rfl,g,(0,⟨l,ek 0 l,[]⟩),(0,⟨l,ek 0 l,cI l⟩),rfl,rfl,rfl⟩⟩
theorem ai3(a:1100<F)(f:Fits F l):∃r:bE×Int,wl F l=some r/\zI F l=some r/\(r.2=0 ->c3 l/\r.1=linked l)/\(r.2≠0 ->r.1=FG):=by
 obtain⟨e,I,J⟩:=abB a f;unfold zI;rw[I,ae];rcases J with⟨d,J⟩|⟨rfl,b,g,om,j,c,J⟩;exact⟨_,J,by rw[BD d];rfl,λ h=>absurd h d,λ _=>rfl⟩
 ·rw[DW,J,ai4 a b g om j c,amC a b];cases ag:(fe l.length).findSome? (xD l)with
  |some r=>
   have:r=(FG,2):=by obtain⟨i,_,I⟩:=ed ag;unfold xD at I;split at I;injection I with I;exact I.symm;cases I
   subst this;exact⟨_,rfl,rfl,λ h=>absurd h (by decide),λ _=>rfl⟩
  |none=>refine⟨_,rfl,?_,λ _=>⟨b,?_⟩,λ h=>absurd rfl h⟩;simp only[wZ,y0,c];simp only[c];rfl
end
theorem j9{α:Type} [DecidableEq α]{F:Nat}{a b:List α}(j:a.length=b.length){L:Nat->Int->Option (Way Bool Unit)}(d:a.length<=140737488355328)
 (ap:∀k (i:Nat) x y,a[i]? =some x->b[i]? =some y->L (k+1) (i:Int)=cond (!decide (x=y)) (some (.out false)) (L k (bj ((i:Int)+1))))(f:∀k,L (k+1) (a.length:Int)=some (.go ()))(g:a.length<F) :
 L F 0=some (if a=b then .go ()else .out false):=by
 have l1:L F 0=some (cT ((fe a.length).findSome? λ i=>if a[i]? =b[i]? then none else some false)):=lO _ d (λ k i hi=>by
  rw[ap k i a[i] (b[i]'(by omega)) (bx hi) (bx (show i<b.length by omega)),bx hi,bx (show i<b.length by omega)];simp only[aM];by_cases e:a[i]=b[i]'(by omega);rw[ly e,lH e];rfl
  ·rw[lA e,lG e];rfl) f g
 rw[l1]
 cases c:(fe a.length).findSome? λ i=>if a[i]? =b[i]? then none else some false with
 |some e=>obtain⟨i,hi,I⟩:=ed c;split at I;cases I;rename_i h;injection I with I;subst I;rw[lG (λ e=>h (by rw[e]))];rfl
 |none=>rw[lH];rfl;apply jO;intro i;by_cases hi:i<a.length;have:=fk.1 c i (by simpa using hi);split at this;assumption;cases this;rw[gM (by omega),gM (by omega)]
theorem Ji{α β:Type}(l:List α):l.findSome? (λ _=>(none:Option β))=none:=by rw[fk];intro _ _;rfl
theorem lK{p:Prop} [Decidable p]{Y:Option Bool}:cO (α:=Unit) (some (if p then(.go ():Way Bool Unit)else .out false)) (λ _=>Y)=if p then Y else some false:=by by_cases h:p<;>simp[h]
theorem Qq{p:Prop} [Decidable p]{Y:Option (Way Bool Unit)}:c5 (α:=Unit) (some (if p then(.go ():Way Bool Unit)else .out false)) (λ _=>Y)=if p then Y else some (.out false):=by by_cases h:p<;>simp[h]
theorem ks{α:Type}{a b:List α}:decide ((a.length:Int)=(b.length:Int))=decide (a.length=b.length):=by rw[io];simp;omega
theorem nO{α:Type} [DecidableEq α]{a b:List α}(h:a.length≠b.length):decide (a=b)=false:=lA (λ e=>h (by rw[e]))
section
variable{F:Nat}
theorem Wj{a b:List Field}(d:Small F a.length):xu F a b=some (decide (a=b)):=by unfold xu;rw[ks];by_cases c:a.length=b.length;rw[ly c];simp only[fg,lJ];rw[j9 c d.1 (L:=u2 a b) (λ k i x y e hy=>by rw[u2,b6 (bg.1 e).1,lI,br e,ae,br hy,ae]) (λ k=>by rw[u2,b5];rfl) d.2,lK];by_cases h:a=b<;>simp[h];rw[lA c,nO c];rfl
theorem am5{a b:List Kind}(d:Small F a.length):p8 F a b=some (decide (a=b)):=by unfold p8;rw[ks];by_cases c:a.length=b.length;rw[ly c];simp only[fg,lJ];rw[j9 c d.1 (L:=mx a b) (λ k i x y e hy=>by rw[mx,b6 (bg.1 e).1,lI,br e,ae,br hy,ae]) (λ k=>by rw[mx,b5];rfl) d.2,lK];by_cases h:a=b<;>simp[h];rw[lA c,nO c];rfl
theorem am9{l:List ao}(h:Fits F l):xt F l l=some true:=by unfold xt;rw[ly rfl];simp only[fg,lJ];have l1:uZ F l l F 0=some (cT (l.findSome? λ _=>(none:Option Bool))):=each (λ _=>none) h.1.1 (λ k i c a=>by have hc:=h.2 c (bR a);have e:u0 F c c F 0=some (cT (c.a3.findSome? λ _=>(none:Option Bool))):=each (λ _=>none) hc.methods.1 (λ k i m hy=>by have b:=hc.method m (bR hy);have f:u1 m m F 0=some (cT (m.ck.findSome? λ _=>(none:Option Bool))):=each (λ _=>none) b.sJ.1 (λ k i x d=>by rw[u1,b6 (bg.1 d).1,lI,br d,ae,ae,ly rfl];rfl) (λ k=>by rw[u1,b5];rfl) b.sJ.2;rw[u0,b6 (bg.1 hy).1,lI,br hy,ae,ae,am5 b.args,ae,f,Ji];simp;rfl) (λ k=>by rw[u0,b5];rfl) hc.methods.2;rw[uZ,b6 (bg.1 a).1,lI,br a,ae,ae,Wj hc.fields,ae,e,Ji];simp;rfl) (λ k=>by rw[uZ,b5];rfl) h.1.2;rw[l1,Ji];rfl
structure Dr (F:Nat) (k:bE):Prop where
 cV:Small F k.cu.length
 fields:Small F k.Fields.length
 field:∀x∈k.Fields,Small F x.length
 names:Small F k.Names.length
 name:∀x∈k.Names,Small F x.length
 targets:Small F k.cy.length
 target:∀x∈k.cy,Small F x.length
instance:DecidableEq (List (List Field)):=inferInstance
theorem am6{a b:bE}(d:Dr F a)(hc:xt F a.dF b.dF=some true) :
 xv F a b=some (decide (a.cu=b.cu/\a.Fields=b.Fields/\a.Names=b.Names/\a.cy=b.cy)):=by
 unfold xv
 rw[hc,ae,ks,ks,ks,ks]
 have aC:∀(_: ¬(a.cu=b.cu/\a.Fields=b.Fields/\a.Names=b.Names/\a.cy=b.cy)),decide (a.cu=b.cu/\a.Fields=b.Fields/\a.Names=b.Names/\a.cy=b.cy)=false:=λ h=>lA h
 by_cases I:b.cu.length=a.cu.length
 case neg=>rw[aC (λ e=>I (by rw[e.1])),lA I];rfl
 by_cases J:a.Fields.length=b.Fields.length
 case neg=>rw[aC (λ e=>J (by rw[e.2.1])),ly I,lA J];rfl
 by_cases g:a.Names.length=b.Names.length
 case neg=>rw[aC (λ e=>g (by rw[e.2.2.1])),ly I,ly J,lA g];rfl
 by_cases n:a.cy.length=b.cy.length
 case neg=>rw[aC (λ e=>n (by rw[e.2.2.2])),ly I,ly J,ly g,lA n];rfl
 rw[ly I,ly J,ly g,ly n]
 simp only[fg,Bool.or_self,lJ]
 have l1:=j9 (F:=F) I.symm d.cV.1 (L:=sb a b) (λ k i x y c hy=>by rw[sb,b6 (bg.1 c).1,lI,br c,ae,br hy,ae]) (λ k=>by rw[sb,b5];rfl) d.cV.2
 have q:=j9 (F:=F) J d.fields.1 (L:=u3 F a b) (λ k i x y c hy=>by rw[u3,b6 (bg.1 c).1,lI,br c,ae,br hy,ae,Wj (d.field x (bR c)),ae]) (λ k=>by rw[u3,b5];rfl) d.fields.2
 have r:=j9 (F:=F) g d.names.1 (L:=u4 F a b) (λ k i x y c hy=>by
  have l:=d.name x (bR c);rw[u4,b6 (bg.1 c).1,lI,br c,ae,br hy,ae,ks];by_cases f:x.length=y.length;rw[ly f];simp only[fg,lJ];rw[j9 (F:=F) f l.1 (L:=u5 a b i) (λ k j u v m o=>by rw[u5,br c,ae,b6 (bg.1 m).1,lI,ae,br m,ae,br hy,ae,br o,ae]) (λ k=>by rw[u5,br c,ae,b5];rfl) l.2,Qq];by_cases h:x=y;rw[lH h,ly h];rfl;rw[lG h,lA h];rfl
  ·rw[lA f,nO f];rfl) (λ k=>by rw[u4,b5];rfl) d.names.2
 have s:=j9 (F:=F) n d.targets.1 (L:=u6 F a b) (λ k i x y c hy=>by
  have l:=d.target x (bR c);rw[u6,b6 (bg.1 c).1,lI,br c,ae,br hy,ae,ks];by_cases f:x.length=y.length;rw[ly f];simp only[fg,lJ];rw[j9 (F:=F) f l.1 (L:=u7 a b i) (λ k j u v m o=>by rw[u7,br c,ae,b6 (bg.1 m).1,lI,ae,br m,ae,br hy,ae,br o,ae]) (λ k=>by rw[u7,br c,ae,b5];rfl) l.2,Qq];by_cases h:x=y;rw[lH h,ly h];rfl;rw[lG h,lA h];rfl
  ·rw[lA f,nO f];rfl) (λ k=>by rw[u6,b5];rfl) d.targets.2
 rw[l1,q,r,s,lK,lK,lK,lK]
 by_cases p:a.cu=b.cu
 ·by_cases al:a.Fields=b.Fields;by_cases aN:a.Names=b.Names;by_cases bI:a.cy=b.cy<;>simp[p,al,aN,bI];simp[aN];simp[al]
 ·simp[p]
end
section
variable{F:Nat}
theorem adb{a b:List (Int)}(d:Small F a.length):Cm F a b=some (decide (a=b)):=by unfold Cm;rw[ks];by_cases c:a.length=b.length;rw[ly c];simp only[fg,lJ];rw[j9 c d.1 (L:=ub a b) (λ k i x y e hy=>by rw[ub,b6 (bg.1 e).1,lI,br e,ae,br hy,ae]) (λ k=>by rw[ub,b5];rfl) d.2,lK];by_cases h:a=b<;>simp[h];rw[lA c,nO c];rfl
theorem ac'{a b:List (Field)}(d:Small F a.length):Cj F a b=some (decide (a=b)):=by unfold Cj;rw[ks];by_cases c:a.length=b.length;rw[ly c];simp only[fg,lJ];rw[j9 c d.1 (L:=t_ a b) (λ k i x y e hy=>by rw[t_,b6 (bg.1 e).1,lI,br e,ae,br hy,ae]) (λ k=>by rw[t_,b5];rfl) d.2,lK];by_cases h:a=b<;>simp[h];rw[lA c,nO c];rfl
theorem ade{a b:List (List UInt8)}(d:Small F a.length):Cn F a b=some (decide (a=b)):=by unfold Cn;rw[ks];by_cases c:a.length=b.length;rw[ly c];simp only[fg,lJ];rw[j9 c d.1 (L:=uc a b) (λ k i x y e hy=>by rw[uc,b6 (bg.1 e).1,lI,br e,ae,br hy,ae]) (λ k=>by rw[uc,b5];rfl) d.2,lK];by_cases h:a=b<;>simp[h];rw[lA c,nO c];rfl
theorem adg{a b:List (Target)}(d:Small F a.length):Cl F a b=some (decide (a=b)):=by unfold Cl;rw[ks];by_cases c:a.length=b.length;rw[ly c];simp only[fg,lJ];rw[j9 c d.1 (L:=ua a b) (λ k i x y e hy=>by rw[ua,b6 (bg.1 e).1,lI,br e,ae,br hy,ae]) (λ k=>by rw[ua,b5];rfl) d.2,lK];by_cases h:a=b<;>simp[h];rw[lA c,nO c];rfl
theorem ada{a b:List (List Field)}(d:Small F a.length)(e:∀x∈a,Small F x.length):Cg F a b=some (decide (a=b)):=by unfold Cg;rw[ks];by_cases c:a.length=b.length;rw[ly c];simp only[fg,lJ];rw[j9 c d.1 (L:=tX F a b) (λ k i x y I J=>by rw[tX,b6 (bg.1 I).1,lI,br I,ae,br J,ae,ac' (e x (bR I)),ae]) (λ k=>by rw[tX,b5];rfl) d.2,lK];by_cases h:a=b<;>simp[h];rw[lA c,nO c];rfl
theorem adf{a b:List (List (List UInt8))}(d:Small F a.length)(e:∀x∈a,Small F x.length):Ci F a b=some (decide (a=b)):=by unfold Ci;rw[ks];by_cases c:a.length=b.length;rw[ly c];simp only[fg,lJ];rw[j9 c d.1 (L:=tZ F a b) (λ k i x y I J=>by rw[tZ,b6 (bg.1 I).1,lI,br I,ae,br J,ae,ade (e x (bR I)),ae]) (λ k=>by rw[tZ,b5];rfl) d.2,lK];by_cases h:a=b<;>simp[h];rw[lA c,nO c];rfl
theorem adh{a b:List (List Target)}(d:Small F a.length)(e:∀x∈a,Small F x.length):Ch F a b=some (decide (a=b)):=by unfold Ch;rw[ks];by_cases c:a.length=b.length;rw[ly c];simp only[fg,lJ];rw[j9 c d.1 (L:=tY F a b) (λ k i x y I J=>by rw[tY,b6 (bg.1 I).1,lI,br I,ae,br J,ae,adg (e x (bR I)),ae]) (λ k=>by rw[tY,b5];rfl) d.2,lK];by_cases h:a=b<;>simp[h];rw[lA c,nO c];rfl
theorem am8{a b:bE}(c:Dr F a):yt F a b=some (decide (a.cu=b.cu/\a.Fields=b.Fields/\a.Names=b.Names/\a.cy=b.cy)):=by
 unfold yt;rw[adb c.cV,ae];by_cases d:a.cu=b.cu;case neg=>rw[lA d,lA (λ e=>d e.1)];rfl
 rw[ly d,lI,ada c.fields c.field,ae];by_cases al:a.Fields=b.Fields;case neg=>rw[lA al,lA (λ e=>al e.2.1)];rfl
 rw[ly al,lI,adf c.names c.name,ae];by_cases aN:a.Names=b.Names;case neg=>rw[lA aN,lA (λ e=>aN e.2.2.1)];rfl
 rw[ly aN,lI,adh c.targets c.target,ae];congr 1;rw[io];simp[d,al,aN]
theorem abC{k:bE}(j:1100<F)(hc:Fits F k.dF)(i:Dr F k):∃e,wj F k=some e/\xr F k=some e/\((e=4)\/(e=0/\c3 k.dF/\k=linked k.dF)):=by
 obtain⟨r,I,J,l,p⟩:=ai3 j hc;unfold wj xr;rw[I,J,ae,ae];by_cases g:r.2=0;case neg=>rw[BD g,BD g];exact⟨4,rfl,rfl,.inl rfl⟩
 obtain⟨m,e⟩:=l g;have n:yt F (⟨k.dF,k.cu,k.Fields,k.Names,k.cy⟩:bE) (⟨r.1.dF,r.1.cu,r.1.Fields,r.1.Names,r.1.cy⟩:bE)=some (decide (k.cu=r.1.cu/\k.Fields=r.1.Fields/\k.Names=r.1.Names/\k.cy=r.1.cy)):=am8 (a:=k) (b:=r.1) i;have o:xv F (⟨k.dF,k.cu,k.Fields,k.Names,k.cy⟩:bE) (⟨r.1.dF,r.1.cu,r.1.Fields,r.1.Names,r.1.cy⟩:bE)=some (decide (k.cu=r.1.cu/\k.Fields=r.1.Fields/\k.Names=r.1.Names/\k.cy=r.1.cy)):=am6 (a:=k) (b:=r.1) i (by rw[e];exact am9 hc);rw[n,o,g];simp only[DW,ae];by_cases ap:k.cu=r.1.cu/\k.Fields=r.1.Fields/\k.Names=r.1.Names/\k.cy=r.1.cy;rw[ly ap];refine⟨0,rfl,rfl,.inr ⟨rfl,m,?_⟩⟩;obtain⟨h,al,aN,bI⟩:=ap;rw[e]at h al aN bI;obtain⟨a,b,c,d,f⟩:=k;simp only at h al aN bI;subst h al aN bI;rfl;rw[lA ap];exact⟨4,rfl,rfl,.inl rfl⟩
end
theorem Vt{α:Type}{p:α->Bool}:∀ {l:List α},(dA p l).isSome=l.any p
 |[]=>rfl
 |x::r=>by
  rw[dA,List.any_cons];cases h:p x with
  |true=>rfl
  |false=>simp only[hT,if_false,k9];rw[<-Vt (l:=r)];cases dA p r<;>rfl
section
variable{F:Nat}{l:List ao}
theorem WT{S:List Int}{n:Int}(h:n<0):∀k,cP S k n=some []
 |0=>by simp[cP,h]
 |k+1=>by simp[cP,h]
theorem xI{n:Int}(h:n<0):bq l n=[]:=by unfold bq;rw[WT h];rfl
theorem c3.step(h:c3 l){n:Int}(b:0<=n)(I:n<l.length):∃x,idx l n=some x/\idx (cI l) n=some (bC l x.ch)/\bq l n=n::bq l (bC l x.ch):=by obtain⟨x,d,ap⟩:=pM (l:=l) b I;refine⟨x,d,ap,?_⟩;obtain⟨hc,_,_⟩:=h.chain b I;have a:=Of hc;rw[cP,lG (by omega),ap,ae]at a;by_cases c:bC l x.ch<0;rw[WT c]at a;rw[xI c];exact(eG a).symm;obtain⟨e,_,_⟩:=h.chain (n:=bC l x.ch) (by omega) jx;rw[e]at a;exact(eG a).symm
theorem c3.ind(h:c3 l){P:Int->Prop}(c:∀n:Int,n<0 ->P n)(ap:∀(n:Int) x,0<=n->n<l.length->idx l n=some x->idx (cI l) n=some (bC l x.ch)->bq l n=n::bq l (bC l x.ch)->P (bC l x.ch)->P n):∀n:Int,n<l.length->P n:=by
 have key:∀(k:Nat)(n:Int),(bq l n).length<=k->n<l.length->P n:=by
  intro k;induction k with
  |zero=>intro n a I;by_cases b:n<0;exact c n b;obtain⟨x,_,_,e⟩:=h.step (n:=n) (by omega) I;rw[e]at a;simp at a
  |succ k d=>intro n a I;by_cases b:n<0;exact c n b;obtain⟨x,f,g,e⟩:=h.step (n:=n) (by omega) I;rw[e]at a;exact ap n x (by omega) I f g e (d _ (by simpa using a) jx)
 exact λ n I=>key _ n (cS _) I
theorem c3.range(h:c3 l){n x:Int}(I:n<l.length)(a:x∈bq l n):0<=x/\x<l.length:=by by_cases b:n<0;rw[xI b]at a;cases a;exact(h.chain (n:=n) (by omega) I).2.2 x a
theorem c3.split(h:c3 l):∀n,n<(l.length:Int)->∀x∈bq l n,∃p,bq l n=p++bq l x:=h.ind (λ n a x aa=>by rw[xI a]at aa;cases aa) λ n c f I _ _ e b x aa=>by rw[e]at aa⊢;rcases cU.1 aa with rfl |aa;exact⟨[],by rw[<-e];rfl⟩;obtain⟨p,d⟩:=b x aa;exact⟨n::p,by rw[d];rfl⟩
theorem c3.trans(h:c3 l){a b c:Int}(I:a<l.length)(ag:b∈bq l a)(hc:c∈bq l b):c∈bq l a:=by obtain⟨p,d⟩:=h.split a I b ag;rw[d];exact lm _ hc
def Gy(l:List ao):Int:=bC l [79,98,106,101,99,116]
theorem c3.anr(h:c3 l):∀n,n<(l.length:Int)->0<=n->(bq l n).getLast?=some (Gy l):=by
 refine h.ind (λ n o f=>absurd f (by omega)) λ n c f I hc ap e k _=>?_;obtain⟨_,_,g⟩:=il hc;have i:=bR g;by_cases m:bC l c.ch<0
 ·have a:c.ch=[]:=by
   rcases h.ajw c i with e |e
   ·exact e
   ·omega
  have b:=h.top c i;unfold oy at b;split at b
  ·rename_i j;rw[ly a]at j;have d:c.Name=[79,98,106,101,99,116]:=by simpa using j
   have:=U' h.akn g;rw[d]at this;rw[e,xI m];show some n=some (Gy l)
   unfold Gy;rw[this];congr 1;omega
  ·cases b
 ·have hi:=k (by omega);rw[e,List.getLast?_cons,hi];rfl
theorem c3.Ob(h:c3 l){n:Int}(a:0<=n)(I:n<l.length):Gy l∈bq l n:=List.mem_of_getLast? (h.anr n I a)
theorem c3.anI(h:c3 l)(b:Int):∀n,n<(l.length:Int)->∀f,(bq l n).length<f->s8 b (linked l) f n=some (if b∈bq l n then .out true else .go ()):=by
 refine h.ind (λ n g f a=>?_) λ n c i I hc ap e j f a=>?_
 ·obtain⟨f,rfl⟩:∃d,f=d+1:=⟨f-1,by omega⟩
  rw[s8,lA (by omega),xI g];rfl
 ·obtain⟨f,rfl⟩:∃d,f=d+1:=⟨f-1,by omega⟩
  rw[s8,ly i,lI];rw[e]at a⊢;simp only[dp]at a;by_cases ag:n=b;rw[ly ag,ag,lH List.mem_cons_self];rfl
  ·rw[lA ag,lJ];show((idx (cI l) n).bind λ k=>s8 b (linked l) f k)=_
   rw[ap,ae,j f (by omega)];congr 1;have:b∈n::bq l (bC l c.ch)↔b∈bq l (bC l c.ch):=by simp[Ne.symm ag]
   simp only[this]
theorem c3.under(h:c3 l)(d:1100<F){a:Int}(b:Int)(c:0<=a)(I:a<l.length):s7 F (linked l) a b=some (decide (b∈bq l a)):=by obtain⟨_,e,_⟩:=h.chain c I;unfold s7;rw[h.anI b a I F (by omega)];by_cases ag:b∈bq l a<;>simp[ag]
theorem c3.Ua(h:c3 l)(e:1100<F){a:Int}(b:Int)(f:0<=a)(I:a<l.length):sa F (linked l) a b=some (decide (b∈bq l a)):=by
 obtain⟨_,j,_⟩:=h.chain f I;unfold sa;show(my F l a).bind _=_
 rw[y8 e h.right I,ae];have l1:uX b (bq l a).reverse F 0=some (cT ((dA (λ x=>decide (x=b)) (bq l a).reverse).map λ _=>true)):=D_ (λ x=>decide (x=b)) _ (by simp;omega) (λ k i x c=>by rw[uX,b6 (bg.1 c).1,lI,br c,ae]) (λ k=>by rw[uX,b5];rfl) (by simp;omega);rw[l1,jV];have J:=Vt (p:=λ x:Int=>decide (x=b)) (l:=(bq l a).reverse);have g:(bq l a).reverse.any (λ x:Int=>decide (x=b))=decide (b∈bq l a):=by rw[io];simp
 rw[g]at J;cases d:dA (λ x:Int=>decide (x=b)) (bq l a).reverse with
 |none=>rw[d]at J;rw[<-J];rfl
 |some k=>rw[d]at J;rw[<-J];rfl
def sq(l:List ao)(a b:Int):Int:=((bq l a).find? λ x=>decide (x∈bq l b)).getD (-1)
theorem Sh{α:Type}{p:α->Bool}:∀ {r:List α}{x:α},r.find? p=some x->∃q s,r=q++x::s/\(∀y∈q,p y=false)/\p x=true
 |[],x,h=>by cases h
 |y::r,x,h=>by
  rw[List.find?_cons]at h;cases a:p y with
  |true=>rw[a]at h;injection h with h;subst h;exact⟨[],r,rfl,λ _ h=>(by cases h),a⟩
  |false=>rw[a]at h;obtain⟨q,s,I,J,b⟩:=Sh h;refine⟨y::q,s,by rw[I];rfl,λ z aj=>?_,b⟩;rcases cU.1 aj with rfl |aj;exact a;exact J z aj
theorem c3.H2(h:c3 l){a b:Int}(cw:0<=a)(d:a<l.length)(b0:0<=b)(f:b<l.length):sq l a b∈bq l a/\sq l a b∈bq l b/\(bq l a).find? (λ x=>decide (x∈bq l b))=some (sq l a b):=by
 unfold sq;cases c:(bq l a).find? λ x=>decide (x∈bq l b)with
 |none=>have:=List.find?_eq_none.1 c _ (h.Ob cw d);simp only[decide_eq_true_eq]at this;exact absurd (h.Ob b0 f) this
 |some x=>obtain⟨q,s,e,_,g⟩:=Sh c;refine⟨by rw[e];simp,by simpa using g,rfl⟩
theorem c3.abJ(h:c3 l)(g:1100<F){b:Int}(b0:0<=b)(i:b<l.length):∀n,n<(l.length:Int)->∀f m,(bq l n).length<f->(bq l n).find? (λ x=>decide (x∈bq l b))=some m->wk F b (linked l) f n=some m:=by
 refine h.ind (λ n j f m d a=>?_) λ n c r I hc ap e k f m d a=>?_;rw[xI j]at a;cases a
 ·obtain⟨f,rfl⟩:∃o,f=o+1:=⟨f-1,by omega⟩
  rw[wk];show((s7 F (linked l) b n).bind λ p=>cond (!p) ((idx (cI l) n).bind λ q=>wk F b (linked l) f q) (some n))=_
  rw[h.under g n b0 i,ae];rw[e]at d a;rw[List.find?_cons]at a;simp only[dp]at d;by_cases ag:n∈bq l b;rw[ly ag]at a⊢;exact a;rw[lA ag]at a⊢;rw[ap];exact k f m (by omega) a
theorem c3.common(h:c3 l)(e:1100<F){a b:Int}(cw:0<=a)(c:a<l.length)(b0:0<=b)(d:b<l.length):yq F (linked l) a b=some (sq l a b):=by obtain⟨_,f,_⟩:=h.chain cw c;unfold yq;rw[h.abJ e b0 d a c F _ (by omega) (h.H2 cw c b0 d).2.2];rfl
theorem ad2{α:Type}{p:α->Bool}(q:List α)(x d:α):((q++[x]).reverse.find? p).getD d=if p x then x else(q.reverse.find? p).getD d:=by rw[List.reverse_append,List.reverse_singleton,List.singleton_append,List.find?_cons];cases p x<;>rfl
theorem c3.aaT(h:c3 l)(g:1100<F){a b:Int}(cw:0<=a)(c:a<l.length)(b0:0<=b)(j:b<l.length):xn F (linked l) a b=some (sq l a b):=by
 obtain⟨_,q,_⟩:=h.chain cw c;unfold xn;show(my F l a).bind _=_
 rw[y8 g h.right c,ae];obtain⟨x,_,_,e⟩:=h.step cw c;have f:0<(bq l a).reverse.length:=by rw[jW,e];simp
 have o:=br (l:=(bq l a).reverse) (i:=0) (bx f);rw[show(0 :Int)=((0 :Nat):Int) from rfl,o,ae];generalize(bq l a).reverse[0]=d;have r:∀y∈(bq l a).reverse,0<=y/\y<l.length:=λ y hy=>h.range c (by simpa using hy);have:=Fb (n:=(bq l a).reverse.length) (λ k i=>lD F b (linked l) (bq l a).reverse k ((((bq l a).reverse.take i).reverse.find? λ x=>decide (x∈bq l b)).getD d) (i:Int)) (((bq l a).reverse.reverse.find? λ x=>decide (x∈bq l b)).getD d) (λ k i hi=>by
  have m:(bq l a).reverse[i]? =some ((bq l a).reverse[i]):=bx hi;show lD F b (linked l) (bq l a).reverse (k+1) _ (i:Int)=lD F b (linked l) (bq l a).reverse k _ ((i+1 :Nat):Int)
  rw[lD,b6 hi,lI,br m,ae];show ej (α:=Int) ((sa F (linked l) b _).bind _) _=_
  rw[h.Ua g _ b0 j,ae,gE hi (by simp;omega),ae,jP,m];show _=lD F b (linked l) (bq l a).reverse k ((((bq l a).reverse.take i++[(bq l a).reverse[i]]).reverse.find? λ x=>decide (x∈bq l b)).getD d) _
  rw[ad2];by_cases ag:(bq l a).reverse[i]∈bq l b;rw[ly ag];rfl;rw[lA ag];rfl) (λ k=>by
  show lD F b (linked l) (bq l a).reverse (k+1) _ ((bq l a).reverse.length:Int)=_
  rw[lD,b5,jY];rfl) (F:=F) (by simp;omega)
 simp only[List.take_zero,List.reverse_nil,List.find?_nil,iG]at this;have p:lD F b (⟨(linked l).dF,(linked l).cu,(linked l).Fields,(linked l).Names,(linked l).cy⟩:bE) (bq l a).reverse F d ((0 :Nat):Int)=some (((bq l a).reverse.reverse.find? λ x=>decide (x∈bq l b)).getD d):=this;show ej (α:=Int) (lD F b (linked l) (bq l a).reverse F d ((0 :Nat):Int)) _=_
 rw[this,List.reverse_reverse,(h.H2 cw c b0 j).2.2];rfl
end
section
variable{F:Nat}
theorem Mr{k:bE}(h:Small F k.dF.length)(nm:List UInt8):s6 F k nm=some (bC k.dF nm,decide (0<=bC k.dF nm)):=by unfold s6 Gu bC;have l1:ud k.dF nm F 0=some (cT ((dA (g4 nm) k.dF).map λ n:Nat=>(n:Int))):=D_ (g4 nm) _ h.1 (λ j i x a=>by rw[ud,b6 (bg.1 a).1,lI,br a,ae];rfl) (λ j=>by rw[ud,b5];rfl) h.2;rw[l1,jV];cases dA (g4 nm) k.dF<;>rfl
end
end ad
namespace Go.Proofs.YtifhjkbiiekamaaGreatDoor
open ad
def eu(l:List ao)(K:Int)(C:List UInt8):Int:=if(decide (K<1)||decide (6<K)|| !(decide (K=3)||decide (K=4))&& !decide (C=[]))=true then 7 else if(decide (K=3)||decide (K=4))=true then(if bC l C<0 then 5 else 0)else 0
section
variable{F:Nat}{l:List ao}{s:List Int}{f:List (List ad.Field)}{n:List (List (List UInt8))}{t:List (List ad.Target)}
theorem UM(h:Small F l.length)(K:Int)(C:List UInt8):GJ F l s f n t K C=some ((eu l K C,()),()):=by
 unfold GJ eu;cases(decide (K<1)||decide (6<K)|| !(decide (K=3)||decide (K=4))&& !decide (C=[]))with
 |true=>rfl
 |false=>
  rw[lJ];cases(decide (K=3)||decide (K=4))with
  |false=>rfl
  |true=>
   rw[lI,Mr (k:=bE.mk l s f n t) h,ae];by_cases hc:bC l C<0
   ·have:decide (0<=bC l C)=false:=lA (by omega);show cond (!decide (0<=bC l C)) _ _=_
    rw[this,lH hc];rfl
   ·have:decide (0<=bC l C)=true:=ly (by omega);show cond (!decide (0<=bC l C)) _ _=_
    rw[this,lG hc];rfl
theorem B_(h:Small F l.length)(K:Int)(C:List UInt8):xq F l s f n t K C=some ((eu l K C,()),()):=by
 unfold xq eu;cases(decide (K<1)||decide (6<K)|| !(decide (K=3)||decide (K=4))&& !decide (C=[]))with
 |true=>rfl
 |false=>
  rw[lJ];cases(decide (K=3)||decide (K=4))with
  |false=>rfl
  |true=>rw[lI,lE h,ae];by_cases hc:bC l C<0;rw[ly hc,lH hc];rfl;rw[lA hc,lG hc];rfl
def sX(l:List ao)(K:Int)(C:List UInt8)(a:Int)(b:List UInt8):Int:=if eu l K C=0 then eu l a b else eu l K C
theorem aa6{m:Nat}(g:F=m+3)(h:Small F l.length){e:Int}(hc:wj F (bE.mk l s f n t)=some e)(K:Int)(C:List UInt8)(a:Int)(b:List UInt8) :
 CB F l s f n t [Kind.mk K C,Kind.mk a b]=some (((l,s,f,n,t,()),(if e=0 then sX l K C a b else e),()),()):=by
 unfold CB
 rw[hc,ae]
 by_cases c:e=0
 ·subst c;rw[ly (rfl:(0 :Int)=0),lH rfl];show dK (pQ F F [Kind.mk K C,Kind.mk a b] 2 0 [] [] [] [] [] l s f n t) _ _=_
  have i:idx [Kind.mk K C,Kind.mk a b] 0=some (Kind.mk K C):=rfl;have j:idx [Kind.mk K C,Kind.mk a b] (bj (0+1))=some (Kind.mk a b):=rfl;have d:pQ F (m+3) [Kind.mk K C,Kind.mk a b] 2 0 [] [] [] [] [] l s f n t=if eu l K C=0 then(if eu l a b=0 then some (.inr (((),(),()),([],[],[],[],[],()),(l,s,f,n,t,()),()))else some (.inl (((),eu l a b,()),(l,s,f,n,t,()),(l,s,f,n,t,()),())))else some (.inl (((),eu l K C,()),(l,s,f,n,t,()),(l,s,f,n,t,()),())):=by
   rw[pQ,ly (by decide:(0 :Int)<2),lI,i,ae,UM h,ae];by_cases I:eu l K C=0
   ·rw[lH I,I,ly (rfl:(0 :Int)=0)];show pQ F (m+2) [Kind.mk K C,Kind.mk a b] 2 (bj (0+1)) [] [] [] [] [] l s f n t=_
    rw[pQ,ly (by decide:bj (0+1)<2),lI,j,ae,UM h,ae];by_cases J:eu l a b=0
    ·rw[lH J,J,ly (rfl:(0 :Int)=0)];show pQ F (m+1) [Kind.mk K C,Kind.mk a b] 2 (bj (bj (0+1)+1)) [] [] [] [] [] l s f n t=_
     rw[pQ,lA (by decide: ¬bj (bj (0+1)+1)<2),lJ]
    ·rw[lG J,lA J];rfl
   ·rw[lG I,lA I];rfl
  rw[<-g]at d;rw[d];unfold sX;by_cases I:eu l K C=0;rw[lH I,lH I];by_cases J:eu l a b=0;rw[lH J,J];rfl;rw[lG J];rfl;rw[lG I,lG I];rfl
 ·rw[lG c,lA c];rfl
theorem sY{K:Int}{C:List UInt8}(h:eu l K C=0):1<=K/\K<=6/\(K≠3 ->K≠4 ->C=[])/\(K=3\/K=4->0<=bC l C):=by
 unfold eu at h;split at h;omega
 ·rename_i I;simp only[h1,bM,gx,decide_eq_true_eq,not_or,not_and,ke,decide_eq_false_iff_not]at I;refine⟨by omega,by omega,λ b c=>?_,λ d=>?_⟩
  ·by_cases a:C=[]
   ·exact a
   ·exact absurd a (I.2 ⟨b,c⟩)
  ·split at h;split at h;omega;omega;rename_i J;simp only[h1,decide_eq_true_eq,not_or]at J;omega
end
theorem QK{K a:Int}{C b:List UInt8}:decide (Kind.mk K C=Kind.mk a b)=(decide (K=a)&&decide (C=b)):=by rw[io];simp
section
variable{F:Nat}{l:List ao}
def o0(l:List ao)(K:Int)(C:List UInt8)(a:Int)(b:List UInt8):Bool:=if K=a/\C=b then true else if a=6 then true else if K=5 then !decide (a=1)else if K=3/\a=3 then decide (bC l b∈bq l (bC l C))else if a=3/\b=[79,98,106,101,99,116]then !decide (K=1)&& !decide (K=6)else false
theorem L1(f:1100<F)(h:c3 l)(g:Small F l.length){K a:Int}{C b:List UInt8}(i:eu l K C=0)(j:eu l a b=0):uj F l (ad.linked l).cu (ad.linked l).Fields (ad.linked l).Names (ad.linked l).cy K C a b=some ((o0 l K C a b,()),()):=by
 obtain⟨r,s,m,n⟩:=sY i;obtain⟨t,u,e,v⟩:=sY j;have num:∀nm,rM F l (ad.linked l).cu (ad.linked l).Fields (ad.linked l).Names (ad.linked l).cy nm=some ((bC l nm,()),()):=λ nm=>by
  unfold rM;show(s6 F (ad.linked l) nm).bind _=_
  rw[Mr (k:=ad.linked l) g];rfl
 unfold uj o0;simp only[QK];by_cases d:K=a/\C=b;rw[lH d,ly d.1,ly d.2];rfl
 ·have o:(decide (K=a)&&decide (C=b))=false:=by
   rw[gA];intro c;simp only[bM,decide_eq_true_eq]at c;exact d c
  rw[lG d,o,lJ];by_cases al:a=6
  ·rw[lH al,ly al,ly (e (by omega) (by omega))];rfl
  ·rw[lG al,lA al];show cond false _ _=_
   rw[lJ];by_cases aN:K=5;rw[lH aN,ly aN,ly (m (by omega) (by omega))];by_cases bI:a=1;rw[ly bI,ly (e (by omega) (by omega))];rfl;rw[lA bI];rfl
   ·rw[lG aN,lA aN];show cond false _ _=_
    rw[lJ];by_cases b':K=3/\a=3
    ·rw[lH b',ly b'.1,ly b'.2,kr,lI,num,ae,num,ae];have:=h.under f (bC l b) (n (.inl b'.1)) (jx (nm:=C));show(s7 F (ad.linked l) (bC l C) (bC l b)).bind _=_
     rw[this];rfl
    ·have p:(decide (K=3)&&decide (a=3))=false:=by
      rw[gA];intro c;simp only[bM,decide_eq_true_eq]at c;exact b' c
     rw[lG b',p,lJ];by_cases eD:a=3/\b=[79,98,106,101,99,116]
     ·rw[lH eD,ly eD.1,ly eD.2];rfl
     ·have q:(decide (a=3)&&decide (b=[79,98,106,101,99,116]))=false:=by
       rw[gA];intro c;simp only[bM,decide_eq_true_eq]at c;exact eD c
      rw[lG eD,q];rfl
theorem NK(i:1100<F)(h:c3 l)(g:Small F l.length){K b:Int}{C a:List UInt8}(j:eu l K C=0)(k:eu l b a=0):oP F l (ad.linked l).cu (ad.linked l).Fields (ad.linked l).Names (ad.linked l).cy K C b a=some ((o0 l K C b a,()),()):=by
 obtain⟨s,t,u,m⟩:=sY j;obtain⟨v,w,x,y⟩:=sY k;unfold oP o0;simp only[QK];by_cases d:K=b/\C=a;rw[lH d,ly d.1,ly d.2];rfl
 ·have n:(decide (K=b)&&decide (C=a))=false:=by
   rw[gA];intro c;simp only[bM,decide_eq_true_eq]at c;exact d c
  rw[lG d,n,lJ];by_cases al:b=6
  ·rw[lH al,ly al];rfl
  ·rw[lG al,lA al,lJ];by_cases aN:K=5;rw[lH aN,ly aN];rfl
   ·rw[lG aN,lA aN,lJ];by_cases b':K=3/\b=3
    ·rw[lH b',ly b'.1,ly b'.2,kr,lI,lE g,ae,lE g,ae];have cw:=m (.inl b'.1);have o:=h.Ua i (bC l a) cw (jx (nm:=C));show(sa F (ad.linked l) (bC l C) (bC l a)).bind _=_
     rw[o,ae];by_cases f:bC l a∈bq l (bC l C);rw[ly f];rfl;rw[lA f,lJ];have p:a≠[79,98,106,101,99,116]:=λ e=>f (by rw[e];exact h.Ob cw jx);rw[lA p];rfl
    ·have q:(decide (K=3)&&decide (b=3))=false:=by
      rw[gA];intro c;simp only[bM,decide_eq_true_eq]at c;exact b' c
     rw[lG b',q,lJ];by_cases eD:b=3/\a=[79,98,106,101,99,116]
     ·rw[lH eD,ly eD.1,ly eD.2];rfl
     ·have r:(decide (b=3)&&decide (a=[79,98,106,101,99,116]))=false:=by
       rw[gA];intro c;simp only[bM,decide_eq_true_eq]at c;exact eD c
      rw[lG eD,r];rfl
def yn(l:List ao)(K:Int)(C:List UInt8)(a:Int)(b:List UInt8):Int×List UInt8:=if o0 l a b K C=true then(K,C)else if o0 l K C a b=true then(a,b)else if K=3/\a=3 then(3,((idx l (sq l (bC l C) (bC l b))).map ao.Name).getD [])else if(K≠1/\K≠6)/\(a≠1/\a≠6)then(3,[79,98,106,101,99,116])else(6,[])
theorem Qs(h:c3 l){a b:Int}(cw:0<=a)(c:a<l.length)(b0:0<=b)(d:b<l.length):∃x,idx l (sq l a b)=some x:=by obtain⟨e,g,_⟩:=h.H2 cw c b0 d;obtain⟨ef,f⟩:=h.range c e;exact⟨_,(h.step ef f).choose_spec.1⟩
theorem UJ(c:1100<F)(h:c3 l)(d:Small F l.length){K a:Int}{C b:List UInt8}(e:eu l K C=0)(f:eu l a b=0):CC F l (ad.linked l).cu (ad.linked l).Fields (ad.linked l).Names (ad.linked l).cy K C a b=some ((((yn l K C a b).1,(yn l K C a b).2,()),()),()):=by
 obtain⟨q,r,s,i⟩:=sY e;obtain⟨t,u,v,j⟩:=sY f;have num:∀nm,rM F l (ad.linked l).cu (ad.linked l).Fields (ad.linked l).Names (ad.linked l).cy nm=some ((bC l nm,()),()):=λ nm=>by
  unfold rM;show(s6 F (ad.linked l) nm).bind _=_
  rw[Mr (k:=ad.linked l) d];rfl
 unfold CC yn;rw[L1 c h d f e,ae];cases w:o0 l a b K C with
 |true=>rfl
 |false=>
  rw[lG (by decide)];show(uj F l (ad.linked l).cu (ad.linked l).Fields (ad.linked l).Names (ad.linked l).cy K C a b).bind _=_
  rw[L1 c h d e f,ae];cases y:o0 l K C a b with
  |true=>rfl
  |false=>
   rw[lG (by decide)];show cond (decide (K=3)&&decide (a=3)) _ _=_
   by_cases b':K=3/\a=3
   ·have cw:=i (.inl b'.1);have b0:=j (.inl b'.2);obtain⟨x,m⟩:=Qs h cw jx b0 (jx (nm:=b));rw[lH b',ly b'.1,ly b'.2,kr,lI,num,ae,num,ae];show(yq F (ad.linked l) (bC l C) (bC l b)).bind _=_
    rw[h.common c cw jx b0 jx,ae,m];rfl
   ·have n:(decide (K=3)&&decide (a=3))=false:=by
     rw[gA];intro g;simp only[bM,decide_eq_true_eq]at g;exact b' g
    rw[lG b',n,lJ];exact refs
where
 refs {K a:Int}:cond (!decide (K=1)&& !decide (K=6)) (cond (!decide (a=1)&& !decide (a=6)) (some (((3,([79,98,106,101,99,116]:List UInt8),()),()),())) (some (((6,([]),()),()),()))) (some (((6,([]),()),()),()))=some ((((if(K≠1/\K≠6)/\(a≠1/\a≠6)then((3 :Int),([79,98,106,101,99,116]:List UInt8))else(6,[])).1,(if(K≠1/\K≠6)/\(a≠1/\a≠6)then((3 :Int),([79,98,106,101,99,116]:List UInt8))else(6,[])).2,()),()),()):=by by_cases I:K=1<;>by_cases J:K=6<;>by_cases o:a=1<;>by_cases p:a=6<;>simp[I,J,o,p]
theorem amJ(d:1100<F)(h:c3 l)(c:Small F l.length){K a:Int}{C b:List UInt8}(e:eu l K C=0)(f:eu l a b=0):uY F l (ad.linked l).cu (ad.linked l).Fields (ad.linked l).Names (ad.linked l).cy K C a b=some ((((yn l K C a b).1,(yn l K C a b).2,()),()),()):=by
 obtain⟨n,o,p,i⟩:=sY e;obtain⟨q,r,s,j⟩:=sY f;unfold uY yn;rw[NK d h c f e,ae];cases t:o0 l a b K C with
 |true=>rfl
 |false=>
  rw[lG (by decide)];show(oP F l (ad.linked l).cu (ad.linked l).Fields (ad.linked l).Names (ad.linked l).cy K C a b).bind _=_
  rw[NK d h c e f,ae];cases u:o0 l K C a b with
  |true=>rfl
  |false=>
   rw[lG (by decide)];show cond (decide (K=3)&&decide (a=3)) _ _=_
   by_cases b':K=3/\a=3
   ·have cw:=i (.inl b'.1);have b0:=j (.inl b'.2);obtain⟨x,k⟩:=Qs h cw jx b0 (jx (nm:=b));rw[lH b',ly b'.1,ly b'.2,kr,lI,lE c,ae,lE c,ae];show(xn F (ad.linked l) (bC l C) (bC l b)).bind _=_
    rw[h.aaT d cw jx b0 jx,ae,k];rfl
   ·have m:(decide (K=3)&&decide (a=3))=false:=by
     rw[gA];intro g;simp only[bM,decide_eq_true_eq]at g;exact b' g
    rw[lG b',m,lJ];exact UJ.refs
end
end Go.Proofs.YtifhjkbiiekamaaGreatDoor
namespace ad
open Go Go.Proofs.YtifhjkbiiekamaaGreatDoor
theorem rH{n:Nat}(h:n<=reachBytes):Small 140737488356000 n:=by have:reachBytes=140737488351232:=rfl;unfold Small;omega
theorem mj{n:Nat}(k:Nat)(h:n*(k+1)<=reachBytes):Small 140737488356000 n:=rH (eY (kY n (Nat.succ_pos k)) h)
theorem ad5{m:Method}(h:Ds reachBytes m):m.Fits 140737488356000:=⟨rH h.1,mj 23 h.2.2.1.1,λ k a=>rH (h.2.2.1.2 k a).2,rH h.2.2.2.1.2,mj 39 h.2.2.2.2.2.2.2.1,λ x b=>rH (h.2.2.2.2.2.2.2.2 x b).2.2.2⟩
theorem ad4{c:ao}(h:zC reachBytes c):c.Fits 140737488356000:=⟨rH h.1,rH h.2.1,mj 39 h.2.2.1.1,λ f a=>⟨rH (h.2.2.1.2 f a).1,rH (h.2.2.1.2 f a).2.2⟩,mj 127 h.2.2.2.1,λ m b=>ad5 (h.2.2.2.2 m b)⟩
theorem ad6{l:List ao}(h:l.length*80<=reachBytes/\∀x∈l,zC reachBytes x):Fits 140737488356000 l:=⟨mj 79 h.1,λ c hc=>ad4 (h.2 c hc)⟩
theorem ai2{k:bE}(h:HA reachBytes k):Dr 140737488356000 k:=⟨mj 7 h.2.1.1,mj 23 h.2.2.1.1,λ x a=>mj 39 (h.2.2.1.2 x a).1,mj 23 h.2.2.2.1.1,λ x a=>mj 15 (h.2.2.2.1.2 x a).1,mj 23 h.2.2.2.2.1,λ x a=>mj 15 (h.2.2.2.2.2 x a).1⟩
end ad
namespace Go.Proofs.YtifhjkbiiekamaaGreatDoor
open ad
theorem akC(k:bE)(I:HA Go.reachBytes k)(a:Kind)(_:uC Go.reachBytes a)(b:Kind)(_:uC Go.reachBytes b) :
 ∃F,zA F k.dF k.cu k.Fields k.Names k.cy a.Kind a.ao b.Kind b.ao=some ((true,()),()):=by
 refine⟨140737488355940+60,?_⟩
 have p:1100<140737488355940+60:=by omega
 obtain⟨e,v,w,z⟩:=abC (F:=140737488355940+60) p (ad6 I.1) (ai2 I)
 have c:Small (140737488355940+60) k.dF.length:=mj 79 I.1.1
 have x:∃m,(140737488355940+60 :Nat)=m+3:=⟨140737488355940+57,rfl⟩
 generalize(140737488355940+60 :Nat)=F at p v w c x⊢
 obtain⟨m,x⟩:=x
 obtain⟨d,g⟩:=a
 obtain⟨h,i⟩:=b
 obtain⟨l,s,f,n,t⟩:=k
 have v:wj F (bE.mk l s f n t)=some e:=v
 have w:xr F (bE.mk l s f n t)=some e:=w
 have c:Small F l.length:=c
 have ag:=aa6 x c v d g h i
 show zA F l s f n t d g h i=_
 unfold zA Oj Ok
 rw[ag,ae,ae,w]
 rcases z with rfl |⟨rfl,q,r⟩
 ·rfl
 ·have q:c3 l:=q;have r:bE.mk l s f n t=ad.linked l:=r;obtain⟨rfl,rfl,rfl,rfl⟩:s=(ad.linked l).cu/\f=(ad.linked l).Fields/\n=(ad.linked l).Names/\t=(ad.linked l).cy:=⟨congrArg bE.cu r,congrArg bE.Fields r,congrArg bE.Names r,congrArg bE.cy r⟩
  rw[lH rfl];by_cases j:eu l d g=0
  ·by_cases o:eu l h i=0
   ·have u:sX l d g h i=0:=by unfold sX;rw[lH j,o]
    rw[u];show((uj F l (ad.linked l).cu (ad.linked l).Fields (ad.linked l).Names (ad.linked l).cy d g h i).bind λ A=>some ((A.1.1,0,()),())).bind _=_
    rw[L1 p q c j o,ae,ae];show((CC F l (ad.linked l).cu (ad.linked l).Fields (ad.linked l).Names (ad.linked l).cy d g h i).bind λ y=>some (((y.1.1.1,y.1.1.2.1,()),(0 :Int),()),())).bind _=_
    rw[UJ p q c j o,ae,ae,ae,ly (rfl:(0 :Int)=0),lI,B_ c,j,ae];show cond (decide ((0 :Int)=0)) _ _=_
    rw[ly (rfl:(0 :Int)=0),lI,B_ c,o,ae];show cond (decide ((0 :Int)=0)) _ _=_
    rw[ly (rfl:(0 :Int)=0),lI,NK p q c j o,ae,amJ p q c j o,ae];simp
   ·have u:sX l d g h i=eu l h i:=by unfold sX;rw[lH j]
    rw[u];show ej (cond (!decide (eu l h i=0)) _ _) _=_
    rw[lA o];show ej (some ((false,eu l h i,()),())) _=_
    rw[ae];show ej (some (((0,([]),()),eu l h i,()),())) _=_
    rw[ae,ae,ly (rfl:(0 :Int)=0),lI,B_ c,j,ae];show cond (decide ((0 :Int)=0)) _ _=_
    rw[ly (rfl:(0 :Int)=0),lI,B_ c,ae];show cond (decide (eu l h i=0)) _ _=_
    rw[lA o,lJ];simp
  ·have u:sX l d g h i=eu l d g:=by unfold sX;rw[lG j]
   rw[u];show ej (cond (!decide (eu l d g=0)) _ _) _=_
   rw[lA j];show ej (some ((false,eu l d g,()),())) _=_
   rw[ae];show ej (some (((0,([]),()),eu l d g,()),())) _=_
   rw[ae,ae,ly (rfl:(0 :Int)=0),lI,B_ c,ae];show cond (decide (eu l d g=0)) _ _=_
   rw[lA j,lJ,lJ];simp
end Go.Proofs.YtifhjkbiiekamaaGreatDoor
namespace Go.Proofs.YtifhjkbiiekamaaGreatDoor.verifyFits
open Go Go.ChangeShapes Go.WideShapes Go.ChangeAt Go.RowKit
theorem own:ownKnob Tryz.prog.godebug=none:=by kernel_rfl
set_option maxRecDepth 100000 in
theorem abK(H:Type)(enc:TypeId×Value->H)(W:World)(base:Nat)(args:Array Value)(ds gs:List (DataW H))(before:List MemPlace)
 (h:∀(j:Nat) t v,Tryz.f5.params[j]? =some t->args[j]? =some v->Value.okWide Tryz.prog W .any base t v)
 (l:DataW.Whole enc Tryz.prog Tryz.f5.params.toList Rows.verifyFitsSpec.vars false W args.toList ds gs before)(EO:∀n∈DataW.weightsEach Tryz.prog Tryz.f5.params.toList ds,n<=reachBytes)(ec:laidMet Tryz.prog Ur W) :
 Calls Tryz.prog 5 args W λ e Y=>∃v,e= .returned v/\Rows.verifyFitsSpec.post enc Tryz.prog Tryz.f5 false true false false W args v Y:=by
 have o:=l
 have s:=l.lt
 obtain⟨p,q,u,mN,w,mO,mS⟩:=l
 have Z:DataW.TrodAll enc Tryz.prog W 0 (λ _=>true) true Tryz.f5.params.toList args.toList ds p:=u
 have i:=EO
 rw[Tryz.params5]at Z h i
 obtain⟨y,arL,a,aq4,gB,arF,J_,rfl,rfl,aK,z⟩:=trodAll_cons Z
 obtain⟨v1,arM,b,aq5,dn,ba,rfl,rfl,rfl,I,A⟩:=trodAll_cons z
 obtain⟨B,anR,c,aq6,gO,bw,rfl,rfl,rfl,J,C⟩:=trodAll_cons A
 obtain⟨rfl,rfl,rfl⟩:=trodAll_nil C
 obtain rfl:args= #[y,v1,B]:=by cases args;simp_all
 obtain⟨rfl,rfl⟩:=trodVars_none mN
 have D:=aml (enc:=enc) (N:=reachBytes)
 have G:=aw.HR D aK (λ x d=>s x (by subst w;simp[d]))
 have K:=G (λ m f=>i m (by simp only[DataW.weightsEach,de];simp[f]))
 obtain⟨a,gC,ey⟩:=K
 obtain⟨y,rfl,_⟩:=okWide_struct Tryz.underlying28 (h 0 28 y rfl rfl)
 obtain⟨aqI,aqX,aqJ,aqY,aqK,aqZ,aqL,aq0,aqM,aq1,cY,L,M,O,P,Q⟩:=gC
 obtain rfl:=aw.HM cY
 have R:=B4 (enc:=enc) (N:=reachBytes)
 have S:=aw.HR R I (λ x d=>s x (by subst w;simp[d]))
 have T:=S (λ m f=>i m (by simp only[DataW.weightsEach,de];simp[f]))
 obtain⟨b,cE,aT⟩:=T
 obtain⟨v1,rfl,_⟩:=okWide_struct Tryz.underlying47 (h 1 47 v1 rfl rfl)
 have ak:=cE
 obtain rfl:=aw.HM ak
 have U:=B4 (enc:=enc) (N:=reachBytes)
 have V:=aw.HR U J (λ x d=>s x (by subst w;simp[d]))
 have X:=V (λ m f=>i m (by simp only[DataW.weightsEach,de];simp[f]))
 obtain⟨c,dJ,aV⟩:=X
 obtain⟨B,rfl,_⟩:=okWide_struct Tryz.underlying47 (h 2 47 B rfl rfl)
 have al:=dJ
 obtain rfl:=aw.HM al
 obtain⟨F,aG⟩:=Go.Proofs.YtifhjkbiiekamaaGreatDoor.akC a ey b aT c aV
 have g:∀k,aw.gT [] W k->k<W.heap.size/\W.heap[k]? =W.heap[k]? :=λ k ah=>⟨ah.2,rfl⟩
 have eP:((Lq F).run aU [.a [.s 39 a.dF,.s 3 a.cu,.s 36 a.Fields,.s 95 a.Names,.s 96 a.cy],.a [.p (.int .i64 b.Kind),.p (aw.bW b.ao)],.a [.p (.int .i64 c.Kind),.p (aw.bW c.ao)]] [])= .op (zA F a.dF a.cu a.Fields a.Names a.cy b.Kind b.ao c.Kind c.ao) λ r=>.ok ⟨.ret (.p (.bool r.1.1)),[],[]⟩:=by kernel_rfl
 refine(a9.aiV (E:=aU) (aev ec) (abt F) (ys:=[.a [.s 39 a.dF,.s 3 a.cu,.s 36 a.Fields,.s 95 a.Names,.s 96 a.cy],.a [.p (.int .i64 b.Kind),.p (aw.bW b.ao)],.a [.p (.int .i64 c.Kind),.p (aw.bW c.ao)]]) (by rw[eP];exact⟨((true,()),()),aG,rfl⟩) ⟨_,_,rfl,⟨_,rfl,_,_,rfl,a9.iP (λ _ _=>amc) ((aw.bX _).law g L),_,_,rfl,a9.iP (λ _ _=>ama) ((aw.bX _).law g M),_,_,rfl,a9.iP (λ _ _=>amb) ((aw.bX _).law g O),_,_,rfl,a9.iP (λ _ _=>amg) ((aw.bX _).law g P),_,_,rfl,a9.iP (λ _ _=>amh) ((aw.bX _).law g Q),rfl⟩,_,_,rfl,⟨_,rfl,_,_,rfl,rfl,_,_,rfl,rfl,rfl⟩,_,_,rfl,⟨_,rfl,_,_,rfl,rfl,_,_,rfl,rfl,rfl⟩,rfl⟩).mono λ e Y ⟨he,ai⟩=>?_
 exact⟨_,he,aw.akE o (by kernel_rfl) (by kernel_rfl) rfl rfl Tryz.underlying4 rfl ai⟩
def setCells(cs:Array Value):Obj->Obj
 | .cells _ t frozen=>.cells cs t frozen
 |o=>o
noncomputable def LD(os:Os):World:={ World.holding Tryz.prog os ⟨#[],#[],[]⟩with heap:=(((((((World.holding Tryz.prog os ⟨#[],#[],[]⟩).heap).modify 0 (setCells #[.int .i64 6,aw.bW []])).modify 1 (setCells #[.int .i64 5,aw.bW []])).modify 2 (setCells #[.int .i64 1,aw.bW []])).modify 3 (setCells #[.int .i64 3,aw.bW [79,98,106,101,99,116]])).modify 4 (setCells #[.int .i64 0,.int .i64 1,.int .i64 0,.int .i64 3,.int .i64 3,.int .i64 0,.int .i64 0,.int .i64 0,.int .i64 0,.int .i64 0,.int .i64 0,.int .i64 0,.int .i64 0,.int .i64 2,.int .i64 2,.int .i64 2,.int .i64 2,.int .i64 2,.int .i64 3,.int .i64 4,.int .i64 4,.int .i64 0,.int .i64 3,.int .i64 0,.int .i64 0,.int .i64 0,.int .i64 4,.int .i64 0,.int .i64 0,.int .i64 3,.int .i64 3,.int .i64 0,.int .i64 0,.int .i64 0,.int .i64 4,.int .i64 0,.int .i64 0])).modify 5 (setCells #[.int .i64 2,aw.bW []]) }
theorem aiT(os:Os):laidMet Tryz.prog Rows.verifyFitsRow.laid ((LD os).forCall (λ _ _=>0) ⟨#[],#[.agg #[.slice none 0 0,.slice none 0 0,.slice none 0 0,.slice none 0 0,.slice none 0 0],.agg #[.int .i64 0,.string ⟨#[]⟩],.agg #[.int .i64 0,.string ⟨#[]⟩]],[]⟩).memory:=laidMet_of_run' 8 (by kernel_rfl) (by kernel_rfl)
theorem reads(os:Os){H:Type}(enc:TypeId×Value->H):∃places,DataW.whole enc Tryz.prog ((LD os).forCall (λ _ _=>0) ⟨#[],#[.agg #[.slice none 0 0,.slice none 0 0,.slice none 0 0,.slice none 0 0,.slice none 0 0],.agg #[.int .i64 0,.string ⟨#[]⟩],.agg #[.int .i64 0,.string ⟨#[]⟩]],[]⟩).memory Tryz.f5.params.toList Rows.verifyFitsSpec.vars false (#[.agg #[.slice none 0 0,.slice none 0 0,.slice none 0 0,.slice none 0 0,.slice none 0 0],.agg #[.int .i64 0,.string ⟨#[]⟩],.agg #[.int .i64 0,.string ⟨#[]⟩]]:Array Value).toList 8=some ([.agg [.nil,.nil,.nil,.nil,.nil],.agg [.lit (.int .i64 0),.lit (.string [])],.agg [.lit (.int .i64 0),.lit (.string [])]],[],places):=⟨[],by kernel_rfl⟩
set_option maxRecDepth 100000 in
theorem lifted(os:Os)(a:os.Started)(H:Type)(enc:TypeId×Value->H)(F:Stop.Interp) :
 ReturnsInHanded {} Tryz.checked os 5 .any ((OpenSpec.ofChange Rows.verifyFitsSpec).preRow enc Tryz.prog Tryz.f5 Rows.verifyFitsRow.domain false Rows.verifyFitsRow.laid) (((OpenSpec.ofChange Rows.verifyFitsSpec).at F).post enc Tryz.prog Tryz.f5 false true false false):=by
 obtain⟨places,e⟩:=reads os enc
 refine returnsInHanded_of_row (C:=Tryz.checked) (s:=OpenSpec.ofChange Rows.verifyFitsSpec) own a (by kernel_rfl) Tryz.func5
  (witness_row_at (enc:=enc) (C:=Tryz.checked) false (LD os) #[.agg #[.slice none 0 0,.slice none 0 0,.slice none 0 0,.slice none 0 0,.slice none 0 0],.agg #[.int .i64 0,.string ⟨#[]⟩],.agg #[.int .i64 0,.string ⟨#[]⟩]] rfl (by kernel_rfl) (by kernel_rfl) (by kernel_rfl)
   (OpenSpec.preRow_of_cond 8 e (by kernel_rfl) (λ k f=>by cases f) (by kernel_rfl) (aiT os))) ?_
 intro W base args ds gs before g c _ h b ec _ _
 exact abK H enc W base args ds gs before g c (λ n i=>by obtain⟨_,_,_,j,_,_,_⟩:=c;obtain⟨rfl,_⟩:=trodVars_none j;have d:(DataW.weightsEach Tryz.prog (Tryz.f5.params.toList++[]) (ds++[])).all (·<=reachBytes)=true:=b;rw[jb,jb]at d;exact of_decide_eq_true (jX.1 d n i)) ec
theorem said:Rows.VerifyFitsSaid:=
 OpenClaim.holds_of_cond 5 Tryz.f5 rfl rfl rfl rfl rfl rfl rfl ⟨rfl,rfl,rfl,rfl,rfl⟩ rfl rfl rfl rfl rfl (by kernel_rfl) Tryz.func5 (by kernel_rfl)
  (of_decide_eq_true (by kernel_rfl)) (by unfold Func.isWrapper;first |(rw[lH (by decide+kernel)];kernel_rfl)|(rw[lG (by decide+kernel)];exact⟨rfl,rfl⟩))
  (λ os a H enc _ F=>by rw[OpenClaim.pre_eq_preRow];exact lifted os a H enc F)
theorem plain(f:FuncId)(fn:Func)(b:Tryz.pinned.checked.prog.funcNamed "cinder/cinderlaw.VerifyFits" =some f)(c:Tryz.pinned.checked.prog.funcs[f]? =some fn) :
 true=Tryz.pinned.checked.prog.looks []/\∀(j:Nat) t,fn.params[j]? =some t->Tryz.pinned.checked.prog.wantsStandIn t=false:=by
 obtain rfl:f=5:=eG ((show Tryz.prog.funcNamed "cinder/cinderlaw.VerifyFits" =some 5 by kernel_rfl).symm.trans b) |>.symm
 obtain rfl:fn=Tryz.f5:=(eG (Tryz.func5.symm.trans c)).symm
 refine⟨by kernel_rfl,λ j t a=>?_⟩
 rw[Tryz.params5]at a
 have d:t∈([28,47,47]:List Nat):=by simpa using Array.mem_of_getElem? a
 have e:(([28,47,47]:List Nat).all λ t=>!Tryz.prog.wantsStandIn t)=true:=by kernel_rfl
 have J:=jX.1 e t d
 show Tryz.prog.wantsStandIn t=false
 simpa using J
theorem card:Rows.VerifyFitsCardSaid:=Claim7.holds_tied_plain_at .later [] _ _ _ _ said (λ _ h=>by cases h) (by kernel_rfl) (λ _ h=>by cases h) verifyFits_row_tie rfl ⟨rfl,rfl⟩ (by kernel_rfl) rfl plain (by kernel_rfl)
end Go.Proofs.YtifhjkbiiekamaaGreatDoor.verifyFits
