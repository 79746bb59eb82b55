/- LAW: THE WALK AND THE PLAIN LAW, JOINED TO THE GIVEN STATEMENT: for every input that the row speaks of, the call returns true and what came in reads as it did. Made by program (liftgen2.py). -/
import Derived.Test.YteeliipnilghaaaGreatGs7
import Derived.Test.YteeliipnilghaaaGreatRows
import Derived.WalkKit
import Derived.ProofKit
import Derived.OpenShut
import Derived.Deep.DeepHandedRow
open Bool renaming and_eq_true->ca,eq_false_iff->fX,false_eq_true->gT,false_or->hK,not_false->hF,not_true->c7,or_eq_true->hA,true_or->lr
open Classical renaming byContradiction->kd
open Int renaming le_refl->j6,toNat_natCast->bR
open List renaming Pairwise.imp_of_mem->ke,all_eq_true->jM,any_eq_true->h6,append_assoc->eY,append_nil->gH,cons.inj->eO,cons_append->hX,drop_eq_getElem_cons->cw,drop_length->gF,drop_zero->ei,flatMap_cons->hz,foldl_cons->hZ,getElem?_append_left->dS,getElem?_append_right->eA,getElem?_drop->ia,getElem?_eq_getElem->aR,getElem?_eq_none->fk,getElem?_eq_some_iff->ba,getElem?_map->iY,getElem?_range->kC,getElem_map->j5,getElem_mem->fa,getElem_of_mem->hN,length->hr,length_append->dj,length_cons->cT,length_drop->jB,length_map->gJ,length_replicate->js,length_set->gu,length_singleton->iK,length_take->fe,map_append->ja,map_congr_left->j1,map_cons->ea,map_map->lq,mem_append->cg,mem_append_left->eS,mem_append_right->fw,mem_cons->cG,mem_cons_of_mem->eD,mem_cons_self->iz,mem_erase_of_ne->lp,mem_filter->iF,mem_flatMap->g_,mem_map->ho,mem_map_of_mem->jq,mem_of_getElem?->b_,mem_of_mem_drop->lm,mem_range->j3,mem_singleton->dm,mergeSort_perm->j0,nil_append->ie,nodup_append->eT,nodup_cons->hJ,nodup_iff_pairwise_ne->j7,nodup_nil->kK,pairwise_iff_getElem->iq,pairwise_mergeSort->kM,perm_ext_iff_of_nodup->jJ,range->dR,replicate->eF,singleton_append->jX,sum_cons->kS,take_append->j4,take_append_drop->iJ,take_append_of_le_length->jt,take_length->iH,take_of_length_le->hp,take_succ_eq_append_getElem->jQ,take_zero->kJ
open Nat renaming add_assoc->jE,add_zero->jI,beq->cx,eq_of_beq_eq_true->bF,le_refl->cP,lt_or_ge->fO,min_eq_left->kF,sub_self->kG,zero_le->fY
open Option renaming bind_some->ae,isSome_none->kH,map_eq_some_iff->cF,map_some->fs,some.inj->ee
open Prod renaming fst->j2,mk.injEq->cI
noncomputable section
namespace Go.Proofs.YteeliipnilghaaaGreat
open I
section
variable{F:Nat}{h:aP}{k:aN}{Y O:List Int}
theorem aJ'(d:10000<F)(g:I.Good F h k Y O){o roots:List Int}(q:Ord Y o)(r:roots.length<=5000)(s:bk h.wO h.aD.toNat o<=h.wO.length) :
 ∃Z,tD F h.wO h.ai h.az h.aI h.aD h.aJ h.Next k.aV k.aT k.Fields k.Names k.aU o h.aD roots=some (((Z,h.ai,h.az,1,((bk h.wO h.aD.toNat o:Nat):Int),[],h.Next,()),roots.map (df o (news h.wO h.aD.toNat o)),()),())/\
  Z.length=h.wO.length/\(∀a∈O,∀i,i<sz h.wO a->wd Z (a.toNat+i)=val k h.wO o (news h.wO h.aD.toNat o) a.toNat i)/\
  laid k h.wO o (news h.wO h.aD.toNat o) Z h.aD.toNat o/\∀p,(p<(h.ai+1).toNat\/bk h.wO h.aD.toNat o<=p)->wd Z p=0:=by
 have R:=HT g.hn g
 have S:=q.len
 have T:=g.s.eZ
 obtain⟨⟨⟨U,V⟩,X,eR⟩,E,⟨mW,lG⟩,⟨jh,mX⟩,mV⟩:=g.s
 unfold okB at E
 obtain⟨t,u⟩:∃t:Nat,h.aD=(t:Int):=⟨h.aD.toNat,by omega⟩
 have v:h.aD.toNat=t:=by omega
 have c:=g.l.o
 rw[v]at s c⊢
 have e:(news h.wO t o).length=o.length:=uP
 have f:∀a∈o,1<=a/\a.toNat+3+(wd h.wO (a.toNat+1)).toNat<=h.wO.length/\fb k (wd h.wO a.toNat)=true/\isLen k (wd h.wO a.toNat) (wd h.wO (a.toNat+1))=true:=λ a b=>by have w:a∈Y++O:=eS O (q.sub a b);have j:=g.l.fit g.s a w;have J:=g.l.u0 a w;exact⟨j.1,j.2.1,J.1,J.2⟩
 unfold tD
 have b8:=alo (F:=F) (y:=h.ai) (ol:=h.az) (yt:=h.aI) (ot:=h.aD) (nx:=h.Next) (W:=h.wO) (nt:=h.aJ) (c1:=k.aV) (c2:=k.aT) (c3:=k.Fields) (c4:=k.Names) (c5:=k.aU) (o:=o) (from_:=h.aD) (roots:=roots) (e1:=[]) (e2:=0) (e3:=0) (e4:=0) (e5:=0) (e6:=[]) (e7:=0) (by omega) (by omega) (λ a b=>⟨(f a b).1,(f a b).2.1,(jz.1 (f a b).2.2.2).1.1⟩) o.length 0 F t [] (by omega) (by omega) rfl (by omega)
 rw[ei,ie,<-u]at b8
 have x:AW F F h.aD roots h.aD 0 h.wO h.ai h.az h.aI h.aD h.aJ h.Next k.aV k.aT k.Fields k.Names k.aU o [] 0 0 0 0 [] 0 []=_:=b8
 rw[x,ae]
 dsimp only
 have z:ri (0 :Int) 8 ((hr h.wO:Nat):Int)=some (eF h.wO.length 0):=by unfold ri;rw[lz (by omega),bR]
 rw[z,ae]
 have A:I.ap (h.ai+1)=(((h.ai+1).toNat:Nat):Int):=by rw[bX (by omega) (by omega)];omega
 rw[A,u]
 clear A b8 x z
 obtain⟨B,G,H,K,L⟩:=alP (y:=h.ai) (ol:=h.az) (yt:=h.aI) (ot:=(t:Int)) (nx:=h.Next) (nt:=h.aJ) (u1:=h.ai) (u2:=h.az) (u3:=1) (u4:=((bk h.wO t o:Nat):Int)) (u5:=[]) (u6:=h.Next) (e1:=[]) (e2:=0) (e3:=0) (e4:=0) (e5:=0) (e6:=[]) (e7:=0) (roots:=roots) d g.hn (by omega) e (by omega) (by omega) c F (eF h.wO.length 0) (by omega) (by simp)
 rw[G,ae]
 dsimp only
 obtain⟨l,M,N,C,m⟩:=alm (y:=h.ai) (ol:=h.az) (yt:=h.aI) (ot:=(t:Int)) (nx:=h.Next) (nt:=h.aJ) (u1:=h.ai) (u2:=h.az) (u3:=1) (u4:=((bk h.wO t o:Nat):Int)) (u5:=[]) (u6:=h.Next) (e1:=[]) (e2:=0) (e3:=0) (e4:=0) (e5:=0) (e6:=[]) (e7:=0) (roots:=roots) d g.hn (by omega) e (by omega) f o.length 0 F t B (by omega) (by omega) (by rw[ei,ei]) (by rw[ei];exact s) H
 rw[ei]at C m
 have P:AX F F roots 0 o [] 0 0 0 0 [] 0 (news h.wO t o) h.ai h.az 1 ((bk h.wO t o:Nat):Int) [] h.Next B h.wO h.ai h.az h.aI (t:Int) h.aJ h.Next k.aV k.aT k.Fields k.Names k.aU=_:=M
 rw[P,ae]
 dsimp only
 have Q:=ab7 (e1:=h.wO) (e2:=h.ai) (e3:=h.az) (e4:=h.aI) (e5:=(t:Int)) (e6:=h.aJ) (e7:=h.Next) (u1:=h.ai) (u2:=h.az) (u3:=1) (u4:=((bk h.wO t o:Nat):Int)) (u5:=[]) (u6:=h.Next) d (o:=o) (ns:=news h.wO t o) (by omega) e r roots.length 0 F [] l (by omega) (by omega) rfl
 have D:=ab7 (e1:=[]) (e2:=0) (e3:=0) (e4:=0) (e5:=0) (e6:=[]) (e7:=0) (u1:=h.ai) (u2:=h.az) (u3:=1) (u4:=((bk h.wO t o:Nat):Int)) (u5:=[]) (u6:=h.Next) d (o:=o) (ns:=news h.wO t o) (by omega) e r roots.length 0 F [] l (by omega) (by omega) rfl
 rw[ei,ie]at Q D
 have n:AY F F roots 0 [] 0 0 0 0 [] 0 o (news h.wO t o) h.ai h.az 1 ((bk h.wO t o:Nat):Int) [] h.Next l []=_:=D
 rw[n,ae]
 refine⟨l,rfl,N,λ a b i hi=>?_,C,λ p aC=>?_⟩
 ·have j:=(g.l.c' g.s a b).2;rw[v]at j;rw[m _ (by left;unfold sz at hi;omega),K a b i hi]
 ·have J:=lk (W:=h.wO) (o:=o) (t:=t);rw[m p (by omega),L p (by omega)];unfold wd;rcases fO p h.wO.length with q2 |q2;simp[q2];rw[fk (by simpa using q2)];rfl
end
theorem acJ{W:List Int}:∀ {o:List Int}{t:Nat},bk W t o=t+(o.map (sz W)).sum
 |[],t=>rfl
 |a::r,t=>by rw[bk,acJ (o:=r),ea,kS];omega
theorem ahb{f:Int->Nat}:∀ {Y:List Int}{a:Int},a∈Y->(Y.map f).sum=f a+((Y.erase a).map f).sum
 |[],a,h=>by simp at h
 |b::r,a,h=>by
  by_cases e:b=a;subst e;simp
  ·rw[List.erase_cons_tail (by simpa using e),ea,kS,ea,kS];have:a∈r:=by rcases cG.1 h with h |h;exact absurd h.symm e;exact h
   have:=ahb (f:=f) this;omega
theorem anT{f:Int->Nat}:∀ {o Y:List Int},o.Nodup->(∀a∈o,a∈Y)->(o.map f).sum<=(Y.map f).sum
 |[],Y,_,_=>fY _
 |a::r,Y,c,aj=>by have c:=hJ.1 c;have d:a∈Y:=aj a (by simp);have g:=anT (f:=f) (o:=r) (Y:=Y.erase a) c.2 λ b ag=>(lp λ e=>by subst e;exact c.1 ag).2 (aj b (by simp[ag]));rw[ea,kS,ahb d];omega
theorem aL7{k:aN}{W:List Int}{to q:Nat}{L:List Int}(h:I.eQ k W to q L):q+(L.map (sz W)).sum=to:=by
 induction h with
 |nil=>simp
 | @cons q r a J b c d=>
   rw[ea,kS];have:sz W (q:Int)=3+(wd W (q+1)).toNat:=by unfold sz;rw[bR]
   omega
theorem aKj{F:Nat}{h:aP}{k:aN}{Y O o:List Int}(g:I.Good F h k Y O)(a:Ord Y o)(c:0<=h.ai+h.az+1-h.aD- (h.aI-1)):bk h.wO h.aD.toNat o<=h.wO.length:=by rw[acJ];have d:=anT (f:=sz h.wO) a.iV a.sub;have J:=aL7 g.l.y;obtain⟨⟨⟨e,i⟩,j,l⟩,b,⟨m,n⟩,⟨jh,p⟩,q⟩:=g.s;unfold okB at b;omega
theorem aoG{l ds:List Int}{p j:Nat}(h:p+ds.length<=l.length):wd (gC l p ds) j=if p<=j/\j<p+ds.length then wd ds (j-p)else wd l j:=by
 unfold wd gC;have a:(l.take p).length=p:=by rw[fe];omega
 by_cases b:j<p;rw[ly (by omega),eY,dS (by omega),List.getElem?_take_of_lt b];by_cases J:j<p+ds.length;rw[lz (by omega),eY,eA (by omega),a,dS (by omega)];rw[ly (by omega),eA (by rw[dj];omega),dj,a,ia];rw[show p+ds.length+(j- (p+ds.length))=j by omega]
section
variable{F:Nat}{c1:List al}{c2:List Int}{c3:List (List I.Field)}{c4:List (List (List UInt8))}{c5:List (List I.Target)}{y ol yt nx:Int}{nt W:List Int}{m:List (Int×Int)}
theorem aF_{a ot:Int}(h:a=0\/y<a):xG F a c1 c2 c3 c4 c5 y ol yt ot nt nx W m=some ((a,()),((),c1,c2,c3,c4,c5,(),()),((),y,ol,yt,ot,nt,nx,()),W,m,()):=by
 unfold xG;have:(decide (a=0)||decide (y<a))=true:=by rcases h with h |h;rw[lu h,lr];rw[lu h,Bool.or_true]
 rw[this,lA]
theorem aF8{a ot to:Int}(b:a≠0)(d:a<=y)(c:cB m a=some to):xG F a c1 c2 c3 c4 c5 y ol yt ot nt nx W m=some ((to,()),((),c1,c2,c3,c4,c5,(),()),((),y,ol,yt,ot,nt,nx,()),W,m,()):=by unfold xG;rw[lx b,lx (by omega),hK,lK,c];rfl
theorem aF9{q t n:Nat}(l:1<=q)(o:(q:Int)<=y)(c:cB m (q:Int)=none)(d:0<=wd W (q+1))(f:n=3+(wd W (q+1)).toNat)(r:q+n<=W.length)(s:t+n<=W.length)(u:W.length<=5000) :
 ∃cN,xG F (q:Int) c1 c2 c3 c4 c5 y ol yt (t:Int) nt nx W m=some (((t:Int),()),((),c1,c2,c3,c4,c5,(),()),((),y,ol,yt,((t+n:Nat):Int),nt,nx,()),cN,gP m (q:Int) (t:Int),())/\
  cN.length=W.length/\∀p,wd cN p=if t<=p/\p<t+n then wd W (q+(p-t))else wd W p:=by
 have g:q<=100000:=by omega
 have h:n<=100000:=by omega
 have i:q+n<=100000:=by omega
 have j:t+n<=100000:=by omega
 have k:q+1<W.length:=by omega
 refine⟨gC W t ((W.take (q+n)).drop q),?_,?_,λ p=>?_⟩
 ·unfold xG;rw[lx (show¬(q:Int)=0 by omega),lx (show¬y<(q:Int) by omega),hK,lK,c];rw[kH,lK,hV g,fI k,ae,C3 d f h,lW i,lW j];rw[lz (by omega),ae,lz (by omega),ae];unfold zC;rw[lz (lu (by omega)),ae,bR,bR,bR];have e:((W.take (q+n)).drop q).take ((W.length:Int)- (t:Int)).toNat=(W.take (q+n)).drop q:=by apply hp;rw[jB,fe];omega
  rw[e]
 ·apply Jc;rw[jB,fe];omega
 ·have a:((W.take (q+n)).drop q).length=n:=by rw[jB,fe];omega
  rw[aoG (by omega),a];by_cases b:t<=p/\p<t+n;rw[lz b,lz b];unfold wd;rw[ia,List.getElem?_take_of_lt (by omega)];rw[ly b,ly b]
end
theorem Rj:∀ {o ns:List Int}{v:Int},ns.length=o.length->cB (o.zip ns) v=(match pos o v with|some j=>ns[j]? |none=>none)
 |[],ns,v,_=>rfl
 |b::r,[],v,h=>by simp at h
 |b::r,n::ns,v,h=>by rw[List.zip_cons_cons,cB,pos];by_cases e:b=v;rw[lz e,lz e];rfl;rw[ly e,ly e,Rj (by simpa using h)];cases pos r v<;>rfl
theorem ak_:∀ {o ns:List Int}{b x:Int},ns.length=o.length->b∉o->gP (o.zip ns) b x=(o++[b]).zip (ns++[x])
 |[],[],b,x,_,_=>rfl
 |[],n::ns,b,x,h,_=>by simp at h
 |c::r,[],b,x,h,_=>by simp at h
 |c::r,n::ns,b,x,h,ag=>by simp only[cG,not_or]at ag;rw[List.zip_cons_cons,gP,ly (λ e=>ag.1 e.symm),ak_ (by simpa using h) ag.2];rfl
def base(W:List Int):Nat->List Int->Nat->Int
 |_,[],_=>0
 |t,a::r,p=>if t<=p/\p<t+sz W a then wd W (a.toNat+(p-t))else base W (t+sz W a) r p
def gd(W:List Int)(t0:Nat)(o:List Int)(p:Nat):Int:=if p<t0 then wd W p else base W t0 o p
theorem U3{W:List Int}{b:Int}:∀ {o:List Int}{t p:Nat},t<=p->base W t (o++[b]) p=if bk W t o<=p/\p<bk W t o+sz W b then wd W (b.toNat+(p-bk W t o))else base W t o p
 |[],t,p,_=>rfl
 |a::r,t,p,h=>by have d:=lk (W:=W) (o:=r) (t:=t+sz W a);rw[hX,base,base,bk];by_cases c:t<=p/\p<t+sz W a;rw[lz c,lz c,ly (by omega)];rw[ly c,ly c,U3 (by omega)]
theorem afA{W:List Int}:∀ {o:List Int}{t p:Nat},bk W t o<=p->base W t o p=0
 |[],t,p,_=>rfl
 |a::r,t,p,h=>by have b:=lk (W:=W) (o:=r) (t:=t+sz W a);rw[bk]at h;rw[base,ly (by omega),afA h]
theorem aHG{o:List Int}{b v:Int}:∀ {j:Nat},pos o v=some j->pos (o++[b]) v=some j:=by
 induction o with
 |nil=>intro j h;simp[pos]at h
 |cons c r a=>intro j h;rw[hX,pos];rw[pos]at h;by_cases e:c=v;rw[lz e]at h⊢;exact h;rw[ly e]at h⊢;obtain⟨i,d,rfl⟩:=cF.1 h;rw[a d];rfl
theorem amf:∀ {o:List Int}{b:Int},b∉o->pos (o++[b]) b=some o.length
 |[],b,_=>by simp[pos]
 |c::r,b,h=>by simp only[cG,not_or]at h;rw[hX,pos,ly (λ e=>h.1 e.symm),amf h.2];rfl
theorem an9{o ns:List Int}{b x v:Int}(e:ns.length=o.length)(af:v=0\/v∈o\/v≠b):df (o++[b]) (ns++[x]) v=df o ns v:=by
 unfold df;by_cases a:v=0;rw[lz a,lz a]
 ·rw[ly a,ly a];cases c:pos o v with
  |some j=>rw[aHG c];have:=(ba.1 (M2 c)).1;dsimp only;rw[dS (by omega)]
  |none=>
   have d:=zG.1 c;have:pos (o++[b]) v=none:=zG.2 (by
    simp only[cg,dm,not_or];refine⟨d,?_⟩;rcases af with af |af |af;exact absurd af a;exact absurd af d
    ·exact af)
   rw[this]
theorem aLz{o ns:List Int}{b x:Int}(a:ns.length=o.length)(ag:b≠0)(c:b∉o):df (o++[b]) (ns++[x]) b=x:=by unfold df;rw[ly ag,amf c];dsimp only;rw[eA (by omega),a,kG];rfl
theorem an'{o ns:List Int}{v:Int}(a:v∉o):df o ns v=v:=by unfold df;split;rfl;rw[zG.2 a]
structure Inv (W:List Int) (y:Int) (t0:Nat) (o:List Int) (D:Nat->Bool) (cN:List Int):Prop where
 len:cN.length=W.length
 rG:∀p,p<W.length->wd cN p=if D p=true then df o (news W t0 o) (gd W t0 o p)else gd W t0 o p
 EJ:∀p,D p=true->y<(p:Int)/\p<bk W t0 o/\(gd W t0 o p=0\/y<gd W t0 o p\/gd W t0 o p∈o)
section
variable{F:Nat}{h:aP}{k:aN}{Y O:List Int}{c1:List al}{c2:List Int}{c3:List (List I.Field)}{c4:List (List (List UInt8))}{c5:List (List I.Target)}{ol yt nx:Int}{nt:List Int}
theorem Dy(g:I.Good F h k Y O){a:Int}(b:a∈Y):1<=a/\a.toNat+sz h.wO a<=h.aI.toNat/\h.aI<=h.ai+1:=by have c:=g.l.Hc g.s a b;obtain⟨_,_,⟨_,d⟩,_⟩:=g.s;unfold sz;exact⟨c.1,by omega,d⟩
theorem ak9(g:I.Good F h k Y O){t0:Nat}(Q:h.aD=(t0:Int)){o:List Int}{D:Nat->Bool}{cN:List Int}(z:Ord Y o)(hi:Inv h.wO h.ai t0 o D cN){v:Int}(af:v=0\/v∈Y++O)(H:∀A,Ord Y A->bk h.wO t0 A<=h.wO.length) :
 ∃fy,xG F v c1 c2 c3 c4 c5 h.ai ol yt ((bk h.wO t0 o:Nat):Int) nt nx cN (o.zip (news h.wO t0 o))=some ((df (cc h.ai o v) (news h.wO t0 (cc h.ai o v)) v,()),((),c1,c2,c3,c4,c5,(),()),((),h.ai,ol,yt,((bk h.wO t0 (cc h.ai o v):Nat):Int),nt,nx,()),fy,(cc h.ai o v).zip (news h.wO t0 (cc h.ai o v)),())/\Inv h.wO h.ai t0 (cc h.ai o v) D fy:=by
 have i:(news h.wO t0 o).length=o.length:=uP
 have R:=g.s.eZ
 by_cases B:v=0\/h.ai<v
 ·have f:cc h.ai o v=o:=by
   unfold cc;rw[ly (by omega)]
  have u:df o (news h.wO t0 o) v=v:=by
   by_cases e:v=0;unfold df;rw[lz e]
   ·refine an' λ c=>?_;have w:3<=sz h.wO v:=by unfold sz;omega
    have:=Dy g (z.sub v c);omega
  rw[f,u];exact⟨cN,aF_ B,hi⟩
 ·have m:v≠0:=λ e=>B (.inl e);have J:v<=h.ai:=by omega
  have w:1<=v:=by rcases af with af |af;exact absurd af m;exact(g.l.fit g.s v af).1
  have x:=qC g af w J;by_cases c:v∈o
  ·have f:cc h.ai o v=o:=by
    unfold cc;rw[ly (λ e=>e.2 c)]
   obtain⟨j,ax⟩:∃j,pos o v=some j:=by
    cases b:pos o v with
    |none=>exact absurd c (zG.1 b)
    |some j=>exact⟨j,rfl⟩
   have S:=(ba.1 (M2 ax)).1;have y:cB (o.zip (news h.wO t0 o)) v=some (news h.wO t0 o)[j]:=by rw[Rj i,ax];exact aR (by omega)
   have u:df o (news h.wO t0 o) v=(news h.wO t0 o)[j]:=by unfold df;rw[ly m,ax];dsimp only;rw[aR (by omega)];rfl
   rw[f,u];exact⟨cN,aF8 m J y,hi⟩
  ·have f:cc h.ai o v=o++[v]:=by
    unfold cc;rw[lz ⟨⟨w,J⟩,c⟩]
   have K:Ord Y (o++[v]):=by rw[<-f];exact z.cc λ _ _=>x
   have C:=H _ K;rw[JJ]at C;obtain⟨q,rfl⟩:∃q:Nat,v=(q:Int):=⟨v.toNat,by omega⟩
   obtain⟨T,E,U⟩:=Dy g x;rw[bR]at E;obtain⟨n,r⟩:∃n,n=sz h.wO (q:Int):=⟨_,rfl⟩
   have L:n=3+(wd h.wO (q+1)).toNat:=by rw[r];unfold sz;rw[bR]
   rw[<-r]at E C;obtain⟨_,_,⟨V,X⟩,⟨jh,Z⟩,_⟩:=g.s;have eW:=lk (W:=h.wO) (o:=o) (t:=t0);have l:∀p,p<h.aI.toNat->wd cN p=wd h.wO p:=λ p b=>by rw[hi.rG p (by omega),ly (λ a=>by have:=(hi.EJ p a).1;omega)];unfold gd;rw[lz (by omega)]
   have G:=l (q+1) (by omega);have d:=(jz.1 (g.l.u0 _ (eS O x)).2).1.1;rw[bR]at d;have y:cB (o.zip (news h.wO t0 o)) (q:Int)=none:=by rw[Rj i,zG.2 c]
   obtain⟨fy,e1,e2,e3⟩:=aF9 (F:=F) (c1:=c1) (c2:=c2) (c3:=c3) (c4:=c4) (c5:=c5) (ol:=ol) (yt:=yt) (nt:=nt) (nx:=nx) (W:=cN) (t:=bk h.wO t0 o) (n:=n) (by omega) J y (by rw[G];exact d) (by rw[G];exact L) (by rw[hi.len];omega) (by rw[hi.len];omega) (by rw[hi.len];omega);have M:cc h.ai o (q:Int)=o++[(q:Int)]:=f;rw[M,RF,JJ,<-r,aLz i m c,<-ak_ i c];refine⟨fy,e1,?_⟩;have tT:∀p,gd h.wO t0 (o++[(q:Int)]) p=if bk h.wO t0 o<=p/\p<bk h.wO t0 o+n then wd h.wO (q+(p-bk h.wO t0 o))else gd h.wO t0 o p:=λ p=>by unfold gd;by_cases b:p<t0;rw[lz b,lz b,ly (by omega)];rw[ly b,ly b,U3 (by omega),<-r,bR]
   refine⟨by rw[e2,hi.len],λ p b=>?_,λ p a=>?_⟩
   ·rw[e3 p,tT p,RF];by_cases s:bk h.wO t0 o<=p/\p<bk h.wO t0 o+n;rw[lz s,lz s,ly (λ a=>by have:=(hi.EJ p a).2.1;omega),l _ (by omega)]
    ·rw[ly s,ly s,hi.rG p b];by_cases a:D p=true
     ·rw[lz a,lz a,an9 i (by
       rcases(hi.EJ p a).2.2 with e |e |e;exact .inl e;exact .inr (.inr (by omega))
       ·exact .inr (.inl e))]
     ·rw[ly a,ly a]
   ·obtain⟨N,d2,P⟩:=hi.EJ p a;rw[tT p,ly (by omega),JJ];refine⟨N,by omega,?_⟩;rcases P with e |e |e;exact .inl e;exact .inr (.inl e);exact .inr (.inr (eS _ e))
end
theorem aK0{W:List Int}{y:Int}{t0:Nat}{o:List Int}{D:Nat->Bool}{cN:List Int}(hi:Inv W y t0 o D cN){w:Nat}(a:w<W.length)(b:y<(w:Int))(J:w<bk W t0 o)(c:gd W t0 o w=0\/y<gd W t0 o w\/gd W t0 o w∈o) :
 Inv W y t0 o (λ p=>D p||cx p w) (cN.set w (df o (news W t0 o) (gd W t0 o w))):=by
 refine⟨by rw[gu,hi.len],λ p d=>?_,λ p eo=>?_⟩
 ·rw[JP (by rw[hi.len];exact a)];by_cases e:p=w;subst e;rw[lz rfl,lz (by simp)]
  ·rw[ly e,hi.rG p d];have:cx p w=false:=by rw[fX];intro ag;exact e (bF ag)
   simp only[this,Bool.or_false]
 ·simp only[hA]at eo;rcases eo with eo |eo;exact hi.EJ p eo;have:=bF eo;subst this;exact⟨b,J,c⟩
theorem abM{y:Int}{o:List Int}{v:Int}(h:1<=v)(J:v<=y):v∈cc y o v:=by unfold cc;split;simp;rename_i b;by_cases a:v∈o;exact a;exact absurd ⟨⟨h,J⟩,a⟩ b
theorem ahR{W:List Int}{t0:Nat}{o t:List Int}{p:Nat}(d:p<bk W t0 o):gd W t0 (o++t) p=gd W t0 o p:=by
 induction t generalizing o with
 |nil=>rw[gH]
 |cons b r a=>
  rw[show o++b::r=(o++[b])++r by simp];have c:p<bk W t0 (o++[b]):=by rw[JJ];omega
  rw[a c];unfold gd;by_cases J:p<t0;rw[lz J,lz J];rw[ly J,ly J,U3 (by omega),ly (by omega)]
def rA(k:aN)(W:List Int)(a:Nat):Nat->Nat->List Int
 |_,0=>[]
 |j,d+1=>if ep k (wd W a) j=true then wd W (a+3+j)::rA k W a (j+1) d else rA k W a (j+1) d
theorem ano{k:aN}{W:List Int}{a:Nat}:∀ {d j:Nat},rA k W a j d=((List.range' j d).flatMap λ i=>if ep k (wd W a) i then[((a+3+i:Nat):Int)]else[]).map λ w=>wd W w.toNat
 |0,j=>rfl
 |d+1,j=>by rw[rA,List.range'_succ,hz,ja,<-ano];split;rfl;rfl
theorem aKN{k:aN}{W:List Int}{a:Nat}:rA k W a 0 (wd W (a+1)).toNat=cW k W (a:Int):=by rw[ano];unfold cW refs;rw[bR,List.range_eq_range']
def Az(k:aN)(tag:Int)(u:Nat):Nat->Nat->(Nat->Bool)->Nat->Bool
 |_,0,D=>D
 |j,d+1,D=>Az k tag u (j+1) d (if ep k tag j=true then λ p=>D p||cx p (u+3+j)else D)
section
variable{F:Nat}{h:aP}{k:aN}{Y O:List Int}{ol yt nx:Int}{nt:List Int}
theorem aKe(g:I.Good F h k Y O){t0:Nat}(Z:h.aD=(t0:Int))(N:∀P,Ord Y P->bk h.wO t0 P<=h.wO.length){a u:Nat}(Q:(a:Int)∈Y++O)(hu:h.ai<(u:Int)){len:Nat}(l:wd h.wO (a+1)=(len:Int)) :
 ∀(d j f:Nat)(o:List Int)(D:Nat->Bool)(cN:List Int),j+d=len->d<f->Ord Y o->Inv h.wO h.ai t0 o D cN->(∀i,i<3+len->gd h.wO t0 o (u+i)=wd h.wO (a+i))->u+3+len<=bk h.wO t0 o->(∀i,i<3 ->D (u+i)=false)->(∀i,j<=i->i<len->D (u+3+i)=false) ->
 ∃fy,Dz F f (u:Int) (len:Int) (j:Int) k.aV k.aT k.Fields k.Names k.aU h.ai ol yt ((bk h.wO t0 o:Nat):Int) nt nx cN (o.zip (news h.wO t0 o))=some ((),((),k.aV,k.aT,k.Fields,k.Names,k.aU,(),()),((),h.ai,ol,yt,((bk h.wO t0 ((rA k h.wO a j d).foldl (cc h.ai) o):Nat):Int),nt,nx,()),fy,((rA k h.wO a j d).foldl (cc h.ai) o).zip (news h.wO t0 ((rA k h.wO a j d).foldl (cc h.ai) o)),())/\
  Inv h.wO h.ai t0 ((rA k h.wO a j d).foldl (cc h.ai) o) (Az k (wd h.wO a) u j d D) fy:=by
 intro d
 have E3:=g.s.eZ
 have R:=g.l.u0 _ Q
 rw[bR]at R
 obtain⟨aF,S⟩:=R
 rw[l]at S
 induction d with
 |zero=>
  intro j f o D cN ax aa n hi ag T z A;obtain⟨f,rfl⟩:∃B,f=B+1:=⟨f-1,by omega⟩
  have:j=len:=by omega
  subst this;refine⟨cN,?_,hi⟩;rw[Dz,bG,lK];rfl
 |succ d U=>
  intro j f o D cN ax aa n hi ag T z A;obtain⟨f,rfl⟩:∃B,f=B+1:=⟨f-1,by omega⟩
  have C:j<len:=by omega
  have ajs:=N o n;have wv:u<cN.length:=by rw[hi.len];omega
  have IC:wd cN u=wd h.wO a:=by have:=hi.rG u (by omega);rw[this,ly (by have:=z 0 (by omega);simpa using this)];simpa using ag 0 (by omega)
  have V:j<=100000:=by omega
  have q:u+3+j<cN.length:=by rw[hi.len];omega
  have E:wd cN (u+3+j)=wd h.wO (a+3+j):=by rw[hi.rG _ (by omega),ly (by rw[A j (by omega) C];simp)];have:=ag (3+j) (by omega);rw[show u+3+j=u+(3+j) by omega,this,show a+3+j=a+(3+j) by omega]
  have Yv:u+3<=100000:=by omega
  have G:u+3+j<=100000:=by omega
  have BO:sp (b4.mk (aN.mk k.aV k.aT k.Fields k.Names k.aU)) (wd h.wO a) (j:Int)=some (ep k (wd h.wO a) j):=SI g.hn aF S (by omega);rw[Dz,bH C,lA,fI wv,ae,IC,BO,ae];cases r:ep k (wd h.wO a) j with
  |false=>rw[lK,hV V];have:=U (j+1) f o D cN (by omega) (by omega) n hi ag T z (λ i s J=>A i (by omega) J);rw[rA,Az,r];simpa using this
  |true=>
   have hQ:idx cN (I.ap (I.ap ((u:Int)+3)+(j:Int)))=some (wd cN (u+3+j)):=by rw[show I.ap ((u:Int)+3)=((u+3 :Nat):Int) from lW (b:=3) Yv,lW G];exact fI q
   obtain⟨v,t⟩:∃v,v=wd h.wO (a+3+j):=⟨_,rfl⟩
   have Fz:v=0\/v∈Y++O:=by have:=g.ok.ref _ Q ((a+3+j:Nat):Int) (uG.2 ⟨j,by rw[bR,l,bR];exact C,by rw[bR];exact r,by rw[bR]⟩);rw[bR,<-t]at this;exact this
   obtain⟨H,W,K⟩:=ak9 (F:=F) (c1:=k.aV) (c2:=k.aT) (c3:=k.Fields) (c4:=k.Names) (c5:=k.aU) (ol:=ol) (yt:=yt) (nx:=nx) (nt:=nt) g Z n hi Fz N;obtain⟨c,m⟩:∃c,c=cc h.ai o v:=⟨_,rfl⟩
   rw[<-m]at W K;obtain⟨acD,su⟩:=abN (y:=h.ai) (a:=v) (o:=o);rw[<-m]at su;have qS:Ord Y c:=by rw[m];exact n.cc (qC g Fz)
   have aCO:bk h.wO t0 o<=bk h.wO t0 c:=by rw[su,JK];exact lk
   have X:∀p,p<bk h.wO t0 o->gd h.wO t0 c p=gd h.wO t0 o p:=λ p aC=>by rw[su];exact ahR aC
   have x:gd h.wO t0 c (u+3+j)=v:=by rw[X _ (by omega),show u+3+j=u+(3+j) by omega,ag (3+j) (by omega),t,show a+3+j=a+(3+j) by omega]
   have aj:=aK0 K (w:=u+3+j) (by rw[hi.len]at q;exact q) (by omega) (by omega) (by
    rw[x];rcases Fz with e |e;exact .inl e
    ·by_cases hy:h.ai<v;exact .inr (.inl hy)
     ·refine .inr (.inr ?_);rw[m]
      exact abM (g.l.fit g.s v e).1 (by omega))
   rw[x]at aj;have L:idx H (I.ap (I.ap ((u:Int)+3)+(j:Int)))=some (wd H (u+3+j)):=by rw[show I.ap ((u:Int)+3)=((u+3 :Nat):Int) from lW (b:=3) Yv,lW G];exact fI (by rw[K.len];rw[hi.len]at q;exact q)
   obtain⟨r7,b7,cV⟩:=U (j+1) f c (λ p=>D p||cx p (u+3+j)) (H.set (u+3+j) (df c (news h.wO t0 c) v)) (by omega) (by omega) qS aj (λ i s=>by rw[X _ (by omega)];exact ag i s) (by omega)
    (λ i s=>by
     have:cx (u+i) (u+3+j)=false:=by rw[fX];intro M;have:=bF M;omega
     simp[z i s,this])
    (λ i s J=>by
     have:cx (u+3+i) (u+3+j)=false:=by rw[fX];intro M;have:=bF M;omega
     simp[A i (by omega) J,this])
   refine⟨r7,?_,?_⟩;rw[lA,hQ,ae,E,<-t,W,ae];dsimp only;rw[L,ae,show I.ap ((u:Int)+3)=((u+3 :Nat):Int) from lW (b:=3) Yv,lW G,hV V,bR,rA,lz r,hZ,<-t,<-m];exact b7;rw[rA,lz r,hZ,<-t,<-m,Az,lz r];exact cV
end
theorem agt{k:aN}{tag:Int}{u:Nat}:∀ {d j:Nat}{D:Nat->Bool}{p:Nat},Az k tag u j d D p=true↔D p=true\/∃i,j<=i/\i<j+d/\ep k tag i=true/\p=u+3+i
 |0,j,D,p=>by rw[Az];exact⟨.inl,λ h=>h.elim id λ⟨i,c,J,_⟩=>by omega⟩
 |d+1,j,D,p=>by
  rw[Az,agt];cases f:ep k tag j with
  |true=>simp only[if_true,hA];constructor;rintro((h |h)|⟨i,c,J,a,b⟩);exact .inl h;exact .inr ⟨j,cP _,by omega,f,bF h⟩;exact .inr ⟨i,by omega,by omega,a,b⟩;rintro(h |⟨i,c,J,a,b⟩);exact .inl (.inl h);by_cases e:i=j;subst e;exact .inl (.inr (by rw[b];simp));exact .inr ⟨i,by omega,by omega,a,b⟩
  |false=>simp only[gT,if_false];constructor;rintro(h |⟨i,c,J,a,b⟩);exact .inl h;exact .inr ⟨i,by omega,by omega,a,b⟩;rintro(h |⟨i,c,J,a,b⟩);exact .inl h;by_cases e:i=j;subst e;rw[f]at a;cases a;exact .inr ⟨i,by omega,by omega,a,b⟩
def AB(k:aN)(W:List Int)(a u:Nat)(D:Nat->Bool):Nat->Bool:=Az k (wd W a) u 0 (wd W (a+1)).toNat D
theorem KX{k:aN}{W:List Int}{a u:Nat}{D:Nat->Bool}{p:Nat}:AB k W a u D p=true↔D p=true\/∃i,i<(wd W (a+1)).toNat/\ep k (wd W a) i=true/\p=u+3+i:=by unfold AB;rw[agt];constructor;rintro(h |⟨i,_,J,b,c⟩);exact .inl h;exact .inr ⟨i,by omega,b,c⟩;rintro(h |⟨i,J,b,c⟩);exact .inl h;exact .inr ⟨i,fY _,by omega,b,c⟩
section
variable{F:Nat}{h:aP}{k:aN}{Y O:List Int}{ol yt nx:Int}{nt:List Int}
theorem am7(B:10000<F)(g:I.Good F h k Y O){t0:Nat}(r:h.aD=(t0:Int))(f:∀j,Ord Y j->bk h.wO t0 j<=h.wO.length){a u:Nat}(l:(a:Int)∈Y++O)(s:h.ai<(u:Int)){o:List Int}{D:Nat->Bool}{cN:List Int}(m:Ord Y o)(hi:Inv h.wO h.ai t0 o D cN)
 (ag:∀i,i<sz h.wO (a:Int)->gd h.wO t0 o (u+i)=wd h.wO (a+i))(t:u+sz h.wO (a:Int)<=bk h.wO t0 o)(c:∀i,i<sz h.wO (a:Int)->D (u+i)=false) :
 ∃fy,Oy F (u:Int) k.aV k.aT k.Fields k.Names k.aU h.ai ol yt ((bk h.wO t0 o:Nat):Int) nt nx cN (o.zip (news h.wO t0 o))=some ((),((),k.aV,k.aT,k.Fields,k.Names,k.aU,(),()),((),h.ai,ol,yt,((bk h.wO t0 ((cW k h.wO (a:Int)).foldl (cc h.ai) o):Nat):Int),nt,nx,()),fy,((cW k h.wO (a:Int)).foldl (cc h.ai) o).zip (news h.wO t0 ((cW k h.wO (a:Int)).foldl (cc h.ai) o)),())/\
  Inv h.wO h.ai t0 ((cW k h.wO (a:Int)).foldl (cc h.ai) o) (AB k h.wO a u D) fy:=by
 have C:=g.s.eZ
 have n:=g.l.u0 _ l
 rw[bR]at n
 have E:=(jz.1 n.2).1
 obtain⟨len,b⟩:∃len:Nat,wd h.wO (a+1)=(len:Int):=⟨(wd h.wO (a+1)).toNat,by omega⟩
 have v:sz h.wO (a:Int)=3+len:=by unfold sz;rw[bR,b,bR]
 rw[v]at ag t c
 have w:=f o m
 obtain⟨x,p,q⟩:=aKe (F:=F) (ol:=ol) (yt:=yt) (nx:=nx) (nt:=nt) g r f l s b len 0 F o D cN (by omega) (by omega) m hi ag (by omega) (λ i G=>c i (by omega)) (λ i _ J=>by rw[show u+3+i=u+(3+i) by omega];exact c (3+i) (by omega))
 have e:rA k h.wO a 0 len=cW k h.wO (a:Int):=by rw[<-aKN,b,bR]
 rw[e]at p q
 refine⟨x,?_,by unfold AB;rw[b,bR];exact q⟩
 have y:u<=100000:=by omega
 have z:u+1<cN.length:=by rw[hi.len];omega
 have A:wd cN (u+1)=(len:Int):=by rw[hi.rG _ (by omega),ly (by rw[c 1 (by omega)];simp),ag 1 (by omega),b]
 unfold Oy
 rw[hV y,fI z,ae,A]
 have d:Dz F F (u:Int) (len:Int) 0 k.aV k.aT k.Fields k.Names k.aU h.ai ol yt ((bk h.wO t0 o:Nat):Int) nt nx cN (o.zip (news h.wO t0 o))=_:=p
 rw[d,ae]
end
def gr(n:Nat):List Int:=(dR n).map λ(x:Nat)=>(x:Int)
theorem S7{n:Nat}:(gr n).length=n:=by simp[gr]
theorem acM{n i:Nat}(h:i<n):(gr n)[i]? =some (i:Int):=by unfold gr;rw[iY,kC h];rfl
theorem aHD{n:Nat}(j:n<=5000):∀(d i f:Nat),i+d=n->d<f->I.vw (n:Int) f (gr i) (i:Int)=some (gr n):=by
 intro d;induction d with
 |zero=>
  intro i f h b;obtain⟨f,rfl⟩:∃a,f=a+1:=⟨f-1,by omega⟩
  have:i=n:=by omega
  subst this;rw[I.vw,bG,lK]
 |succ d c=>
  intro i f h b;obtain⟨f,rfl⟩:∃a,f=a+1:=⟨f-1,by omega⟩
  have hi:i<n:=by omega
  have e:i<=100000:=by omega
  have g:bE 8 (gr i) [(i:Int)]=some (gr (i+1)):=by unfold bE;rw[lz (by rw[S7];simp only[iK];omega)];unfold gr;rw[List.range_succ,ja];rfl
  rw[I.vw,bH hi,lA,g,ae,hV e];exact c (i+1) f (by omega) (by omega)
theorem aHC{F n:Nat}(a:n<=5000)(b:10000<F):I.rV F (n:Int)=some (gr n):=aHD a n 0 F (by omega) (by omega)
theorem aoa{W:List Int}{t0:Nat}{y v:Int}{o:List Int}(a:v=0\/v∈o\/y<v):∀ {t:List Int},(∀b∈t,b<=y)->df (o++t) (news W t0 (o++t)) v=df o (news W t0 o) v:=by
 intro t;induction t generalizing o with
 |nil=>intro _;rw[gH]
 |cons b r d=>
  intro ag;rw[show o++b::r=(o++[b])++r by simp];rw[d (o:=o++[b]) (by
   rcases a with e |e |e;exact .inl e;exact .inr (.inl (eS _ e))
   ·exact .inr (.inr e)) (λ c hc=>ag c (by simp[hc]))]
  rw[RF,an9 uP (by
   rcases a with e |e |e;exact .inl e;exact .inr (.inl e)
   ·have:=ag b (by simp);exact .inr (.inr (by omega)))]
section
variable{F:Nat}{h:aP}{k:aN}{Y O:List Int}{c1:List al}{c2:List Int}{c3:List (List I.Field)}{c4:List (List (List UInt8))}{c5:List (List I.Target)}{ol yt nx bg:Int}{nt:List Int}
theorem aKC(g:I.Good F h k Y O){t0:Nat}(w:h.aD=(t0:Int))(x:∀t,Ord Y t->bk h.wO t0 t<=h.wO.length){D:Nat->Bool}{roots:List Int}(N:roots.length<=5000)(z:∀v∈roots,v=0\/v∈Y++O) :
 ∀(d i f:Nat)(o cN rs:List Int),i+d=roots.length->d<f->Ord Y o->Inv h.wO h.ai t0 o D cN->rs=(roots.take i).map (df o (news h.wO t0 o))++roots.drop i->(∀v∈roots.take i,v=0\/v∈o\/h.ai<v) ->
 ∃fy,Hf F f bg (gr roots.length) (roots.length:Int) (i:Int) h.ai ol yt ((bk h.wO t0 o:Nat):Int) nt nx cN c1 c2 c3 c4 c5 (o.zip (news h.wO t0 o)) rs=some (((),(),bg,()),((),h.ai,ol,yt,((bk h.wO t0 ((roots.drop i).foldl (cc h.ai) o):Nat):Int),nt,nx,()),fy,((),c1,c2,c3,c4,c5,(),()),((roots.drop i).foldl (cc h.ai) o).zip (news h.wO t0 ((roots.drop i).foldl (cc h.ai) o)),roots.map (df ((roots.drop i).foldl (cc h.ai) o) (news h.wO t0 ((roots.drop i).foldl (cc h.ai) o))),())/\
  Inv h.wO h.ai t0 ((roots.drop i).foldl (cc h.ai) o) D fy:=by
 intro d
 induction d with
 |zero=>
  intro i f o cN rs aK A l hi j m;obtain⟨f,rfl⟩:∃n,f=n+1:=⟨f-1,by omega⟩
  have:i=roots.length:=by omega
  subst this;refine⟨cN,?_,by rw[gF];exact hi⟩;rw[Hf,bG,lK,j,gF,iH,gH];rfl
 |succ d B=>
  intro i f o cN rs aK A l hi j m;obtain⟨f,rfl⟩:∃n,f=n+1:=⟨f-1,by omega⟩
  have c:i<roots.length:=by omega
  have C:i<=100000:=by omega
  have E:roots[i]∈roots:=fa c;have Fz:=z _ E;have su:((roots.take i).map (df o (news h.wO t0 o))).length=i:=by simp;omega
  have ad:rs[i]? =some roots[i]:=by rw[j,eA (by omega),su,kG,cw c];rfl
  obtain⟨G,H,J⟩:=ak9 (F:=F) (c1:=c1) (c2:=c2) (c3:=c3) (c4:=c4) (c5:=c5) (ol:=ol) (yt:=yt) (nx:=nx) (nt:=nt) g w l hi Fz x;have u:Ord Y (cc h.ai o roots[i]):=l.cc (qC g Fz);obtain⟨p,q⟩:=abN (y:=h.ai) (a:=roots[i]) (o:=o);have r:∀b∈p,b<=h.ai:=λ b ag=>by
   have P:=Dy g (u.sub b (by rw[q];exact fw _ ag));have Q:3<=sz h.wO b:=by unfold sz;omega
   omega
  have s:roots[i]=0\/roots[i]∈cc h.ai o roots[i]\/h.ai<roots[i]:=by rcases Fz with e |e;exact .inl e;by_cases hy:h.ai<roots[i];exact .inr (.inr hy);exact .inr (.inl (abM (g.l.fit g.s _ e).1 (by omega)))
  obtain⟨K,L,M⟩:=B (i+1) f (cc h.ai o roots[i]) G (rs.set i (df (cc h.ai o roots[i]) (news h.wO t0 (cc h.ai o roots[i])) roots[i])) (by omega) (by omega) u J (by
   rw[j,List.set_append_right _ _ (by omega),su,kG,cw c,List.set_cons_zero,jQ c,ja,eY];congr 1;refine j1 λ v ev=>?_;have:=aoa (W:=h.wO) (t0:=t0) (o:=o) (m v ev) r;rw[q];exact this.symm) (λ v ev=>by
    rw[jQ c]at ev;rcases cg.1 ev with ev |ev;rcases m v ev with e |e |e;exact .inl e;exact .inr (.inl (by rw[q];exact eS _ e));exact .inr (.inr e)
    ·cases dm.1 ev;exact s)
  refine⟨K,?_,by rw[cw c,hZ];exact M⟩;rw[Hf,bH c,lA,br (acM c),ae,br ad,ae,H,ae];dsimp only;rw[hV C,bR,cw c,hZ];exact L
end
section
variable{F:Nat}{h:aP}{k:aN}{Y O:List Int}{ol yt nx bg:Int}{nt:List Int}
theorem aKD(C:10000<F)(g:I.Good F h k Y O){t0:Nat}(E:h.aD=(t0:Int))(G:∀z,Ord Y z->bk h.wO t0 z<=h.wO.length){l:List Int}(aA:l.length<=5000)(A:∀x∈l,x∈O)(H:l.Nodup) :
 ∀(d i f:Nat)(o:List Int)(D:Nat->Bool)(cN:List Int),i+d=l.length->d<f->Ord Y o->Inv h.wO h.ai t0 o D cN->(∀x∈l.drop i,∀m,m<sz h.wO x->D (x.toNat+m)=false) ->
 ∃fy,Hg F f bg l (l.length:Int) (i:Int) h.ai ol yt ((bk h.wO t0 o:Nat):Int) nt nx cN k.aV k.aT k.Fields k.Names k.aU (o.zip (news h.wO t0 o))=some (((),(),bg,()),((),h.ai,ol,yt,((bk h.wO t0 (((l.drop i).flatMap (cW k h.wO)).foldl (cc h.ai) o):Nat):Int),nt,nx,()),fy,((),k.aV,k.aT,k.Fields,k.Names,k.aU,(),()),(((l.drop i).flatMap (cW k h.wO)).foldl (cc h.ai) o).zip (news h.wO t0 (((l.drop i).flatMap (cW k h.wO)).foldl (cc h.ai) o)),())/\
  Inv h.wO h.ai t0 (((l.drop i).flatMap (cW k h.wO)).foldl (cc h.ai) o) ((l.drop i).foldl (λ D x=>AB k h.wO x.toNat x.toNat D) D) fy:=by
 intro d
 induction d with
 |zero=>
  intro i f o D cN aK K p hi q;obtain⟨f,rfl⟩:∃r,f=r+1:=⟨f-1,by omega⟩
  have:i=l.length:=by omega
  subst this;refine⟨cN,?_,by rw[gF];exact hi⟩;rw[Hg,bG,lK,gF];rfl
 |succ d L=>
  intro i f o D cN aK K p hi q;obtain⟨f,rfl⟩:∃r,f=r+1:=⟨f-1,by omega⟩
  have c:i<l.length:=by omega
  have M:i<=100000:=by omega
  have N:l[i]∈l:=fa c;have B:=A _ N;have s:l[i]∈Y++O:=fw Y B;obtain⟨bh,P⟩:=g.l.c' g.s _ B;obtain⟨⟨⟨bK,du⟩,eH,eR⟩,hv,⟨mW,lG⟩,⟨jh,mX⟩,mV⟩:=g.s;obtain⟨a,b⟩:∃a:Nat,l[i]=(a:Int):=⟨l[i].toNat,by omega⟩
  have w:∀m,m<sz h.wO (a:Int)->D (a+m)=false:=λ m n=>by have:=q l[i] (by rw[cw c];exact iz) m (by rw[b];exact n);rwa [b,bR]at this
  have eW:=lk (W:=h.wO) (o:=o) (t:=t0);have gx:a+sz h.wO (a:Int)<=t0:=by rw[b,bR]at P;unfold sz;rw[bR];omega
  obtain⟨Q,R,S⟩:=am7 (ol:=ol) (yt:=yt) (nx:=nx) (nt:=nt) C g E G (a:=a) (u:=a) (by rw[<-b];exact s) (by omega) p hi (λ m n=>by unfold gd;rw[lz (by omega)]) (by omega) w;have T:Ord Y ((cW k h.wO (a:Int)).foldl (cc h.ai) o):=p.fold λ v U=>qC g (rB g (by rw[<-b];exact s) v U);obtain⟨V,X,Z⟩:=L (i+1) f _ _ Q (by omega) (by omega) T S (λ x ad m n=>by
   have sv:x∈l:=lm ad;have bY:l[i]≠x:=λ e=>by have y:(l.drop i).Nodup:=H.sublist (List.drop_sublist _ _);rw[cw c]at y;exact(hJ.1 y).1 (by rw[e];exact ad)
   rw[fX];intro hc;rcases KX.1 hc with hc |⟨j,y,J,aq⟩;have:=q x (by rw[cw c];exact eD _ ad) m n;rw[this]at hc;cases hc
   ·have:=g.l.apart g.s _ s _ (fw Y (A _ sv)) bY;rw[b,bR]at this;unfold sz at n
    omega)
  refine⟨V,?_,?_⟩;rw[Hg,bH c,lA,br (aR c),ae,b,R,ae];dsimp only;rw[hV M,cw c,hz,List.foldl_append,b];exact X;rw[cw c,hz,List.foldl_append,hZ,b,bR];exact Z
end
theorem S2{W:List Int}{t i:Nat}{o:List Int}(hi:i<o.length):bk W t (o.take (i+1))=bk W t (o.take i)+sz W o[i]:=by rw[jQ hi,JJ]
theorem S3{W:List Int}{t i:Nat}{o:List Int}:bk W t (o.take i)<=bk W t o:=by
 conv=>rhs;rw[<-iJ i o,JK]
 exact lk
theorem afz{W:List Int}:∀ {o:List Int}{t i m:Nat}(hi:i<o.length),m<sz W o[i]->base W t o (bk W t (o.take i)+m)=wd W (o[i].toNat+m)
 |[],t,i,m,hi,_=>by simp at hi
 |a::r,t,0,m,hi,b=>by
  have b:m<sz W a:=b;show base W t (a::r) (t+m)=wd W (a.toNat+m)
  rw[base,lz (by omega),Nat.add_sub_cancel_left]
 |a::r,t,i+1,m,hi,b=>by
  have c:i<r.length:=by simpa using hi
  have b:m<sz W r[i]:=b;show base W t (a::r) (bk W (t+sz W a) (r.take i)+m)=wd W (r[i].toNat+m)
  have:=lk (W:=W) (o:=r.take i) (t:=t+sz W a);rw[base,ly (by omega)];exact afz c b
theorem ahQ{W:List Int}{o:List Int}{t i m:Nat}(hi:i<o.length)(a:m<sz W o[i]):gd W t o (bk W t (o.take i)+m)=wd W (o[i].toNat+m):=by have:=lk (W:=W) (o:=o.take i) (t:=t);unfold gd;rw[ly (by omega)];exact afz hi a
section
variable{F:Nat}{h:aP}{k:aN}{Y O:List Int}{ol yt nx:Int}{nt:List Int}
theorem aKE(aB:10000<F)(g:I.Good F h k Y O){t0:Nat}(iR:h.aD=(t0:Int))(M:∀dh,Ord Y dh->bk h.wO t0 dh<=h.wO.length) :
 ∀(d i f:Nat)(o:List Int)(D:Nat->Bool)(cN:List Int),Y.length<i+d->d<f->i<=o.length->Ord Y o->Inv h.wO h.ai t0 o D cN->(∀p,bk h.wO t0 (o.take i)<=p->D p=false) ->
 ∃fy z,Hh F f ((bk h.wO t0 (o.take i):Nat):Int) h.ai ol yt ((bk h.wO t0 o:Nat):Int) nt nx cN k.aV k.aT k.Fields k.Names k.aU (o.zip (news h.wO t0 o))=some (((),()),((),h.ai,ol,yt,((bk h.wO t0 (scan k h.wO h.ai d i o):Nat):Int),nt,nx,()),fy,((),k.aV,k.aT,k.Fields,k.Names,k.aU,(),()),(scan k h.wO h.ai d i o).zip (news h.wO t0 (scan k h.wO h.ai d i o)),())/\
  Inv h.wO h.ai t0 (scan k h.wO h.ai d i o) z fy/\(∃t,scan k h.wO h.ai d i o=o++t)/\
  ∀p,z p=true↔D p=true\/∃(j:Nat)(a:Int),i<=j/\(scan k h.wO h.ai d i o)[j]? =some a/\∃m,m<(wd h.wO (a.toNat+1)).toNat/\ep k (wd h.wO a.toNat) m=true/\p=bk h.wO t0 ((scan k h.wO h.ai d i o).take j)+3+m:=by
 intro d
 have gw:=HT g.hn g
 have E3:=g.s.eZ
 induction d with
 |zero=>intro i f o D cN hi aa Fj x;have:=x.len;omega
 |succ d aY=>
  intro i f o D cN aK aa Fj x hi G;obtain⟨f,rfl⟩:∃bq,f=bq+1:=⟨f-1,by omega⟩
  rcases fO i o.length with b6 |b6
  ·have ad:o[i]? =some o[i]:=aR b6;have A:o[i]∈Y:=x.sub _ (fa b6);have N:o[i]∈Y++O:=eS O A;obtain⟨cC,kN,rS⟩:=Dy g A;obtain⟨⟨⟨bK,du⟩,eH,eR⟩,hv,⟨mW,lG⟩,⟨jh,mX⟩,mV⟩:=g.s;obtain⟨a,r⟩:∃a:Nat,o[i]=(a:Int):=⟨o[i].toNat,by omega⟩
   have n1:=(jz.1 (g.l.u0 _ N).2).1;rw[r,bR]at n1;obtain⟨n,P⟩:∃n:Nat,wd h.wO (a+1)=(n:Int):=⟨(wd h.wO (a+1)).toNat,by omega⟩
   have Q:sz h.wO (a:Int)=3+n:=by unfold sz;rw[bR,P,bR]
   have H:=S2 (W:=h.wO) (t:=t0) b6;rw[r,Q]at H;have aQz:=S3 (W:=h.wO) (t:=t0) (i:=i+1) (o:=o);have Mb:=lk (W:=h.wO) (t:=t0) (o:=o.take i);have ajs:=M o x;obtain⟨u,K⟩:∃u,u=bk h.wO t0 (o.take i):=⟨_,rfl⟩
   rw[<-K]at H G Mb⊢;have Fa:∀m,m<sz h.wO (a:Int)->gd h.wO t0 o (u+m)=wd h.wO (a+m):=λ m hm=>by have:=ahQ (W:=h.wO) (t:=t0) (m:=m) b6 (by rw[r];exact hm);rw[<-K,r,bR]at this;exact this
   obtain⟨R,m1,L⟩:=am7 (ol:=ol) (yt:=yt) (nx:=nx) (nt:=nt) aB g iR M (a:=a) (u:=u) (by rw[<-r];exact N) (by omega) x hi Fa (by rw[Q];omega) (λ m _=>G _ (by omega));have S:Ord Y ((cW k h.wO (a:Int)).foldl (cc h.ai) o):=x.fold λ v af=>qC g (rB g (by rw[<-r];exact N) v af);obtain⟨q,T⟩:∃q,q=(cW k h.wO (a:Int)).foldl (cc h.ai) o:=⟨_,rfl⟩
   rw[<-T]at m1 L S;obtain⟨t,s⟩:=Bn (y:=h.ai) (l:=cW k h.wO (a:Int)) (o:=o);rw[<-T]at s;have B:q.take (i+1)=o.take (i+1):=by rw[s,jt (by omega)]
   have aQv:=M q S;have aCO:bk h.wO t0 o<=bk h.wO t0 q:=by rw[s,JK];exact lk
   obtain⟨r7,U,b7,cV,⟨t2,gD⟩,mA⟩:=aY (i+1) f q (AB k h.wO a u D) R (by omega) (by omega) (by rw[s,dj];omega) S L (λ p aC=>by
    rw[B,H]at aC;rw[fX];intro hc;rcases KX.1 hc with hc |⟨m,w,J,c⟩;rw[G p (by omega)]at hc;cases hc
    ·rw[P,bR]at w
     omega)
   have V:scan k h.wO h.ai (d+1) i o=scan k h.wO h.ai d (i+1) q:=by rw[scan,ad,r,T]
   rw[B,H]at b7;rw[V];refine⟨r7,U,?_,cV,⟨t++t2,by rw[gD,s,eY]⟩,λ p=>?_⟩
   ·have wv:u+1<R.length:=by rw[L.len];omega
    have yR:u<=100000:=by omega
    have X:u+(3+n)<=100000:=by omega
    have q4:wd R (u+1)=(n:Int):=by
     rw[L.rG _ (by omega),ly (by
      intro hc;rcases KX.1 hc with hc |⟨m,w,J,c⟩;rw[G (u+1) (by omega)]at hc;cases hc
      ·omega),s,ahR (by omega),Fa 1 (by rw[Q];omega),P]
    have c:3+n<=100000:=by omega
    have bz:((u:Nat):Int)<((bk h.wO t0 o:Nat):Int):=by omega
    rw[Hh,lu bz,lA,m1,ae];dsimp only;rw[hV yR,fI wv,ae,q4,show I.ap (3+(n:Int))=((3+n:Nat):Int) from lW (a:=3) c,lW X];exact b7
   ·rw[mA p,KX];have C:(scan k h.wO h.ai d (i+1) q)[i]? =some (a:Int):=by rw[gD,s,eY,dS (by omega),ad,r]
    have E:(scan k h.wO h.ai d (i+1) q).take i=o.take i:=by rw[gD,s,eY,jt (by omega)]
    constructor;rintro((hc |⟨m,w,J,c⟩)|⟨j,b,w,J,c⟩);exact .inl hc;exact .inr ⟨i,(a:Int),cP _,C,m,by rw[bR];exact w,by rw[bR];exact J,by rw[E,<-K];exact c⟩;exact .inr ⟨j,b,by omega,J,c⟩;rintro(hc |⟨j,b,w,J,m,c,Z,c6⟩);exact .inl (.inl hc);by_cases e:j=i;subst e;rw[C]at J;cases J;rw[bR]at c Z;rw[E,<-K]at c6;exact .inl (.inr ⟨m,c,Z,c6⟩);exact .inr ⟨j,b,by omega,J,m,c,Z,c6⟩
  ·have:i=o.length:=by omega
   subst this;have V:scan k h.wO h.ai (d+1) o.length o=o:=by rw[scan,fk (cP _)]
   rw[V,iH];refine⟨cN,D,?_,hi,⟨[],by simp⟩,λ p=>⟨.inl,?_⟩⟩;rw[Hh,lx (by omega),lK];rintro(hc |⟨j,b,w,J,_⟩);exact hc;rw[fk w]at J;cases J
end
theorem aLb{l:List Int}(h:A1 l):l.Nodup:=by rw[j7,iq];intro i j hi ax a e;have:=h i j a ax;rw[pd (aR hi),pd (aR ax)]at this;omega
theorem Vq{k:aN}{W:List Int}{p:Nat}:∀ {l:List Int}{D:Nat->Bool},l.foldl (λ D x=>AB k W x.toNat x.toNat D) D p=true↔D p=true\/∃x∈l,∃i,i<(wd W (x.toNat+1)).toNat/\ep k (wd W x.toNat) i=true/\p=x.toNat+3+i
 |[],D=>by simp
 |y::r,D=>by rw[hZ,Vq (l:=r),KX];constructor;rintro((h |⟨i,h⟩)|⟨x,ad,h⟩);exact .inl h;exact .inr ⟨y,iz,i,h⟩;exact .inr ⟨x,eD _ ad,h⟩;rintro(h |⟨x,ad,h⟩);exact .inl (.inl h);rcases cG.1 ad with rfl |ad;exact .inl (.inr h);exact .inr ⟨x,ad,h⟩
theorem K7{y v:Int}:∀ {l o:List Int},v∈l->1<=v->v<=y->v∈l.foldl (cc y) o
 |a::r,o,af,b,J=>by rw[hZ];rcases cG.1 af with rfl |af;obtain⟨t,c⟩:=Bn (y:=y) (l:=r) (o:=cc y o v);rw[c];exact eS _ (abM b J);exact K7 af b J
structure afj (k:aN) (W:List Int) (t0:Nat) (nt o:List Int) (p:Nat):Prop where
 it:(∃x∈nt,∃i,i<(wd W (x.toNat+1)).toNat/\ep k (wd W x.toNat) i=true/\p=x.toNat+3+i)\/
  ∃(j:Nat)(a:Int),o[j]? =some a/\∃m,m<(wd W (a.toNat+1)).toNat/\ep k (wd W a.toNat) m=true/\p=bk W t0 (o.take j)+3+m
section
variable{F:Nat}{h:aP}{k:aN}{Y O:List Int}
theorem run_eq(P:10000<F)(g:I.Good F h k Y O){t0:Nat}(q:h.aD=(t0:Int))(z:∀Q,Ord Y Q->bk h.wO t0 Q<=h.wO.length){roots:List Int}(ak:roots.length<=5000)(r:∀v∈roots,v=0\/v∈Y++O) :
 ∃(fy:List Int)(D:Nat->Bool),An F k.aV k.aT k.Fields k.Names k.aU (gr roots.length) h.ai h.az h.aI h.aD h.aJ h.Next h.wO roots=some ((),((),h.ai,h.az,1,((bk h.wO t0 (order k h Y roots):Nat):Int),[],h.Next,()),fy,roots.map (df (order k h Y roots) (news h.wO t0 (order k h Y roots))),())/\
  fy.length=h.wO.length/\
  (∀p:Nat,p<h.wO.length->wd fy p=if 1<=p/\(p:Int)<=h.ai then 0 else if D p=true then df (order k h Y roots) (news h.wO t0 (order k h Y roots)) (gd h.wO t0 (order k h Y roots) p)else gd h.wO t0 (order k h Y roots) p)/\
  (∀p:Nat,D p=true↔afj k h.wO t0 h.aJ (order k h Y roots) p)/\∀p:Nat,D p=true->h.ai<(p:Int)/\p<bk h.wO t0 (order k h Y roots):=by
 have E3:=g.s.eZ
 have aA:=g.I8
 have gw:=HT g.hn g
 have R:=aak g r
 have Lr:=RS g r
 obtain⟨⟨⟨bK,du⟩,eH,eR⟩,hv,⟨mW,lG⟩,⟨jh,mX⟩,mV⟩:=id g.s
 unfold okB at hv
 have LI:Inv h.wO h.ai t0 [] (λ _=>false) h.wO:=⟨rfl,λ p c=>by
  rw[ly (by simp)];unfold gd;by_cases S:p<t0;rw[lz S]
  ·rw[ly S]
   exact g.ok.fr p c (.inr (.inr (by omega))),λ p c=>by cases c⟩
 obtain⟨T,l1,A⟩:=aKC (F:=F) (c1:=k.aV) (c2:=k.aT) (c3:=k.Fields) (c4:=k.Names) (c5:=k.aU) (ol:=h.az) (yt:=h.aI) (nx:=h.Next) (nt:=h.aJ) (bg:=h.aD) g q z ak r roots.length 0 F [] h.wO roots (by omega) (by omega) Ord.nil LI (by simp) (by simp)
 rw[ei]at l1 A
 obtain⟨f,u⟩:∃f,f=roots.foldl (cc h.ai) []:=⟨_,rfl⟩
 rw[<-u]at l1 A R
 obtain⟨U,w,B⟩:=aKD (ol:=h.az) (yt:=h.aI) (nx:=h.Next) (nt:=h.aJ) (bg:=h.aD) P g q z (l:=h.aJ) aA (λ x ad=>(g.ok.nt x ad).1) (aLb g.ok.NJ) h.aJ.length 0 F f (λ _=>false) T (by omega) (by omega) R A (λ _ _ _ _=>rfl)
 rw[ei]at w B
 obtain⟨n,C⟩:∃n,n=(h.aJ.flatMap (cW k h.wO)).foldl (cc h.ai) f:=⟨_,rfl⟩
 rw[<-u]at Lr
 rw[<-C]at w B Lr
 have E:∀p,h.aJ.foldl (λ D x=>AB k h.wO x.toNat x.toNat D) (λ _=>false) p=true->p<t0:=λ p c=>by rcases Vq.1 c with c |⟨x,ad,i,h1,J,s⟩;cases c;have:=g.l.c' g.s x (g.ok.nt x ad).1;omega
 obtain⟨G,H,K,m,⟨acD,V⟩,W⟩:=aKE (ol:=h.az) (yt:=h.aI) (nx:=h.Next) (nt:=h.aJ) P g q z (Y.length+1) 0 F n _ U (by omega) (by omega) (fY _) Lr B (λ p c=>by rw[kJ]at c;have c:t0<=p:=c;rw[fX];intro hc;have:=E p hc;omega)
 have L:order k h Y roots=scan k h.wO h.ai (Y.length+1) 0 n:=by rw[C,u];rfl
 rw[<-L]at K m V W
 rw[kJ]at K
 have d:(eF (((h.ai+1)-1).toNat) (0 :Int)).length=h.ai.toNat:=by rw[js];omega
 refine⟨gC G 1 (eF (((h.ai+1)-1).toNat) 0),H,?_,?_,λ p c=>?_,λ p=>?_,λ p c=>⟨(m.EJ p c).1,(m.EJ p c).2.1⟩⟩
 ·rw[q]at l1 w;have M:Hf F F (t0:Int) (gr roots.length) (roots.length:Int) 0 h.ai h.az h.aI (t0:Int) h.aJ h.Next h.wO k.aV k.aT k.Fields k.Names k.aU [] roots=_:=l1;have rp:Hh F F (t0:Int) h.ai h.az h.aI ((bk h.wO t0 n:Nat):Int) h.aJ h.Next U k.aV k.aT k.Fields k.Names k.aU (n.zip (news h.wO t0 n))=_:=K;have N:Hg F F (t0:Int) h.aJ (h.aJ.length:Int) 0 h.ai h.az h.aI ((bk h.wO t0 f:Nat):Int) h.aJ h.Next T k.aV k.aT k.Fields k.Names k.aU (f.zip (news h.wO t0 f))=_:=w;have ww:I.ap (h.ai+1)=h.ai+1:=bX (by omega) (by omega);have aQi:=m.len;unfold An;rw[S7,q,M,ae];dsimp only;rw[N,ae];dsimp only;rw[rp,ae];dsimp only;rw[ww,lz (by omega),ae];unfold zC;rw[lz (lu (by omega)),ae];obtain⟨aQ0,X⟩:=Bn (y:=h.ai) (l:=h.aJ.flatMap (cW k h.wO)) (o:=f);rw[<-C]at X;have t:=RT g r
  have VD:roots.map (df f (news h.wO t0 f))=roots.map (df (order k h Y roots) (news h.wO t0 (order k h Y roots))):=by
   refine j1 λ v Z=>?_;rw[V,X,eY]at t⊢;refine(aoa (y:=h.ai) ?_ λ b ag=>?_).symm;rcases r v Z with e |e;exact .inl e;by_cases hy:h.ai<v;exact .inr (.inr hy);refine .inr (.inl ?_);rw[u];exact K7 Z (g.l.fit g.s v e).1 (by omega)
   ·have:=Dy g (t.sub b (fw _ ag));have s:3<=sz h.wO b:=by unfold sz;omega
    omega
  rw[VD];rfl
 ·rw[Jc (by rw[d,m.len];omega),m.len]
 ·rw[aoG (by rw[d,m.len];omega),d];by_cases wq:1<=p/\(p:Int)<=h.ai;rw[lz (by omega),lz wq];unfold wd;rw[List.getElem?_replicate];split<;>rfl;rw[ly (by omega),ly wq];exact m.rG p c
 ·rw[W p,Vq];constructor;rintro((hc |hc)|⟨j,a,_,J,s⟩);cases hc;exact⟨.inl hc⟩;exact⟨.inr ⟨j,a,J,s⟩⟩;rintro⟨hc |⟨j,a,J,s⟩⟩;exact .inl (.inr hc);exact .inr ⟨j,a,fY _,J,s⟩
end
theorem aoF{l m:List Int}(b:l.length=m.length)(h:∀p,p<l.length->wd l p=wd m p):l=m:=by refine List.ext_getElem b λ i a J=>?_;have:=h i a;rwa [pd (aR a),pd (aR J)]at this
theorem aL5{k:aN}{W:List Int}{to q:Nat}{L:List Int}(h:I.eQ k W to q L):∀ {p:Nat},q<=p->p<to->∃a∈L,∃i,i<sz W a/\p=a.toNat+i:=by
 induction h with
 |nil=>intro p b J;omega
 | @cons q r b J j l c=>intro p m d;by_cases hc:p<q+3+(wd W (q+1)).toNat;exact⟨_,iz,p-q,by unfold sz;rw[bR];omega,by rw[bR];omega⟩;obtain⟨a,e,i,f,g⟩:=c (p:=p) (by omega) d;exact⟨a,eD _ e,i,f,g⟩
theorem acI{W:List Int}:∀ {o:List Int}{t p:Nat},t<=p->p<bk W t o->∃j,∃ax:j<o.length,∃i,i<sz W o[j]/\p=bk W t (o.take j)+i
 |[],t,p,b,J=>by rw[bk]at J;omega
 |a::r,t,p,b,J=>by by_cases hc:p<t+sz W a;exact⟨0,by simp,p-t,by simpa using(by omega:p-t<sz W a),by simp[bk];omega⟩;obtain⟨j,ax,i,c,d⟩:=acI (o:=r) (t:=t+sz W a) (p:=p) (by omega) J;exact⟨j+1,by simpa using ax,i,by simpa using c,by simpa[bk]using d⟩
theorem an8{W:List Int}{o:List Int}{t i i' j hj:Nat}(ax:j<o.length)(d:hj<o.length)(hi:i<sz W o[j])(f:i'<sz W o[hj])(e:bk W t (o.take j)+i=bk W t (o.take hj)+i'):j=hj:=by
 have key:∀ {a b:Nat}(c:a<o.length),a<b->bk W t (o.take a)+sz W o[a]<=bk W t (o.take b):=λ{a b} c g=>by
  rw[<-S2 c];have:o.take (a+1)=(o.take b).take (a+1):=by rw[List.take_take,kF (by omega)]
  rw[this];exact S3
 rcases Nat.lt_trichotomy j hj with h |h |h;have:=key ax h;omega;exact h;have:=key d h;omega
theorem Zq{k:aN}{W o ns Z:List Int}:∀ {l:List Int}{t j m:Nat}(ax:j<l.length),laid k W o ns Z t l->m<sz W l[j]->wd Z (bk W t (l.take j)+m)=val k W o ns l[j].toNat m
 |[],t,j,m,ax,_,_=>by simp at ax
 |a::r,t,0,m,ax,b,c=>b.1 m c
 |a::r,t,j+1,m,ax,b,c=>by
  have d:j<r.length:=by simpa using ax
  exact Zq (l:=r) d b.2 c
section
variable{F:Nat}{h:aP}{k:aN}{Y O:List Int}
structure Kept (h:aP) (k:aN) (O:List Int) (t0:Nat) (o fy:List Int):Prop where
 len:fy.length=h.wO.length
 c':∀a∈O,∀i,i<sz h.wO a->wd fy (a.toNat+i)=val k h.wO o (news h.wO t0 o) a.toNat i
 new:∀j (ax:j<o.length),∀i,i<sz h.wO o[j]->wd fy (bk h.wO t0 (o.take j)+i)=val k h.wO o (news h.wO t0 o) o[j].toNat i
 fr:∀p,p<h.wO.length->(p<(h.ai+1).toNat\/bk h.wO t0 o<=p)->wd fy p=0
theorem aD5(g:I.Good F h k Y O){t0:Nat}(U:h.aD=(t0:Int)){o fy:List Int}{D:Nat->Bool}(K:Ord Y o)(V:bk h.wO t0 o<=h.wO.length)
 (l:fy.length=h.wO.length)(s:∀p:Nat,p<h.wO.length->wd fy p=if 1<=p/\(p:Int)<=h.ai then 0 else if D p=true then df o (news h.wO t0 o) (gd h.wO t0 o p)else gd h.wO t0 o p)
 (A:∀p:Nat,D p=true↔afj k h.wO t0 h.aJ o p)(u:∀p:Nat,D p=true->h.ai<(p:Int)/\p<bk h.wO t0 o):Kept h k O t0 o fy:=by
 obtain⟨⟨⟨X,Z⟩,eH,eR⟩,hv,⟨mW,lG⟩,⟨jh,mX⟩,mV⟩:=id g.s
 have eW:=lk (W:=h.wO) (o:=o) (t:=t0)
 refine⟨l,λ a q i d=>?_,λ j ax i d=>?_,λ p B hc=>?_⟩
 ·obtain⟨bh,bs⟩:=g.l.c' g.s a q;have L:sz h.wO a=3+(wd h.wO (a.toNat+1)).toNat:=rfl;have C:a.toNat+i<t0:=by omega
  rw[s _ (by omega),ly (by omega)];have M:gd h.wO t0 o (a.toNat+i)=wd h.wO (a.toNat+i):=by unfold gd;rw[lz C]
  rw[M];unfold val;have f:D (a.toNat+i)=true↔a∈h.aJ/\3<=i/\ep k (wd h.wO a.toNat) (i-3)=true:=by rw[A];constructor;rintro⟨⟨x,ad,m,E,r,v⟩|⟨j,b,_,m,_,_,v⟩⟩;have w:=(g.ok.nt x ad).1;by_cases e:a=x;subst e;refine⟨ad,by omega,?_⟩;rw[show i-3=m by omega];exact r;have:=g.l.apart g.s _ (fw Y q) _ (fw Y w) e;unfold sz at d;omega;have:=lk (W:=h.wO) (o:=o.take j) (t:=t0);omega;rintro⟨J,y,N⟩;unfold sz at d;exact⟨.inl ⟨a,J,i-3,by omega,N,by omega⟩⟩
  by_cases c:3<=i/\ep k (wd h.wO a.toNat) (i-3)=true
  ·rw[lz c];by_cases z:a∈h.aJ;rw[lz (f.2 ⟨z,c⟩)]
   ·rw[ly (λ hc=>z (f.1 hc).1)];unfold sz at d;have G:((a.toNat+i:Nat):Int)∈refs k h.wO a.toNat:=uG.2 ⟨i-3,by omega,c.2,by omega⟩;have n:=g.ok.must a q z _ G;have P:=g.ok.ref a (fw Y q) _ G;rw[bR]at n P;by_cases b8:wd h.wO (a.toNat+i)=0;rw[b8];unfold df;rw[lz rfl]
    ·refine(an' λ Q=>n ?_).symm;have:=Dy g (K.sub _ Q);have y:3<=sz h.wO (wd h.wO (a.toNat+i)):=by unfold sz;omega
     omega
  ·rw[ly c,ly (λ hc=>c (f.1 hc).2)]
 ·have Fx:=S2 (W:=h.wO) (t:=t0) ax;have su:=S3 (W:=h.wO) (t:=t0) (i:=j+1) (o:=o);have q3:=lk (W:=h.wO) (o:=o.take j) (t:=t0);have C: ¬bk h.wO t0 (o.take j)+i<t0:=by omega
  rw[s _ (by omega),ly (by omega),ahQ ax d];unfold val;have f:D (bk h.wO t0 (o.take j)+i)=true↔3<=i/\ep k (wd h.wO o[j].toNat) (i-3)=true:=by rw[A];constructor;rintro⟨⟨x,ad,m,E,r,v⟩|⟨hj,b,ag,m,E,r,v⟩⟩;have:=g.l.c' g.s x (g.ok.nt x ad).1;omega;obtain⟨R,e⟩:=ba.1 ag;have:=an8 (t:=t0) ax R d (i':=3+m) (by rw[e];unfold sz;omega) (by omega);subst this;rw[e];refine⟨by omega,?_⟩;rw[show i-3=m by omega];exact r;rintro⟨J,y⟩;unfold sz at d;exact⟨.inr ⟨j,o[j],aR ax,i-3,by omega,y,by omega⟩⟩
  by_cases c:3<=i/\ep k (wd h.wO o[j].toNat) (i-3)=true;rw[lz c,lz (f.2 c)];rw[ly c,ly (λ hc=>c (f.1 hc))]
 ·rw[s p B];by_cases H:1<=p/\(p:Int)<=h.ai;rw[lz H];rw[ly H,ly (λ S=>by have:=u p S;omega)];by_cases T:p=0;subst T;unfold gd;rw[lz (by omega)];exact g.ok.fr 0 B (.inl rfl);unfold gd;rw[ly (by omega)];exact afA (by omega)
theorem aKV(g:I.Good F h k Y O){t0:Nat}(n:h.aD=(t0:Int)){o fy Z:List Int}(b:Kept h k O t0 o fy)
 (l:Z.length=h.wO.length)(m:∀a∈O,∀i,i<sz h.wO a->wd Z (a.toNat+i)=val k h.wO o (news h.wO t0 o) a.toNat i)
 (z3:laid k h.wO o (news h.wO t0 o) Z t0 o)(z4:∀p,(p<(h.ai+1).toNat\/bk h.wO t0 o<=p)->wd Z p=0):fy=Z:=by
 refine aoF (by rw[b.len,l]) λ p d=>?_
 rw[b.len]at d
 obtain⟨⟨⟨q,r⟩,s,u⟩,v,⟨w,x⟩,⟨jh,y⟩,z⟩:=id g.s
 by_cases e:p<(h.ai+1).toNat\/bk h.wO t0 o<=p
 ·rw[b.fr p d e,z4 p e]
 by_cases A:p<t0
 ·obtain⟨a,f,i,c,rfl⟩:=aL5 g.l.o (p:=p) (by omega) (by omega);rw[m a f i c,b.c' a f i c]
 ·obtain⟨j,ax,i,c,rfl⟩:=acI (W:=h.wO) (o:=o) (t:=t0) (p:=p) (by omega) (by omega);rw[Zq ax z3 c,b.new j ax i c]
end
structure f_ (h:aP) (k:aN) (L:List Int) (x:aP):Prop where
 iV:L.Nodup
 cl:∀a∈L,∀v∈cW k h.wO a,v=0\/v∈L
 len:x.wO.length=h.wO.length
 y:x.ai=h.ai
 o:x.az=h.az
 yt:x.aI=1
 ot:x.aD=((bk h.wO (h.ai+1).toNat L:Nat):Int)
 nt:x.aJ=[]
 nx:x.Next=h.Next
 room:bk h.wO (h.ai+1).toNat L<=h.wO.length
 rG:∀j (ax:j<L.length),∀i,i<sz h.wO L[j]->wd x.wO (bk h.wO (h.ai+1).toNat (L.take j)+i)=val k h.wO L (news h.wO (h.ai+1).toNat L) L[j].toNat i
 fr:∀p,p<h.wO.length->(p<(h.ai+1).toNat\/bk h.wO (h.ai+1).toNat L<=p)->wd x.wO p=0
theorem I6{W:List Int}:∀ {L:List Int}{t j:Nat},j<L.length->(news W t L)[j]? =some ((bk W t (L.take j):Nat):Int)
 |[],t,j,h=>by simp at h
 |a::r,t,0,_=>rfl
 |a::r,t,j+1,h=>by
  have b:j<r.length:=by simpa using h
  show(news W (t+sz W a) r)[j]? =some ((bk W (t+sz W a) (r.take j):Nat):Int)
  exact I6 b
theorem pos_at:∀ {L:List Int}{j:Nat}(ax:j<L.length),L.Nodup->pos L L[j]=some j
 |[],j,ax,_=>by simp at ax
 |a::r,0,_,_=>by show pos (a::r) a=some 0;rw[pos,lz rfl]
 |a::r,j+1,ax,d=>by
  have b:j<r.length:=by simpa using ax
  have c:=hJ.1 d;show pos (a::r) r[j]=some (j+1)
  rw[pos,ly (λ e=>c.1 (by rw[e];exact fa b)),pos_at b c.2];rfl
section
variable{F:Nat}{h x:aP}{k:aN}{Y O L:List Int}
abbrev tn(h:aP)(L:List Int)(v:Int):Int:=df L (news h.wO (h.ai+1).toNat L) v
theorem NN:tn h L 0=0:=by unfold tn df;rw[lz rfl]
theorem S0(a:L.Nodup){j:Nat}(ax:j<L.length)(b:L[j]≠0):tn h L L[j]=((bk h.wO (h.ai+1).toNat (L.take j):Nat):Int):=by unfold tn df;rw[ly b,pos_at ax a];dsimp only;rw[I6 ax];rfl
theorem acE(a:L.Nodup){v:Int}(b:v≠0)(c:v∈L):tn h L v∈news h.wO (h.ai+1).toNat L/\((h.ai+1).toNat:Int)<=tn h L v:=by obtain⟨j,ax,rfl⟩:=hN c;rw[S0 a ax b];refine⟨b_ (I6 ax),?_⟩;have:=lk (W:=h.wO) (o:=L.take j) (t:=(h.ai+1).toNat);omega
theorem aLh(b:L.Nodup){v w:Int}(c:v≠0)(a:w≠0)(d:v∈L)(f:w∈L)(e:tn h L v=tn h L w):v=w:=by obtain⟨j,ax,rfl⟩:=hN d;obtain⟨i,hi,rfl⟩:=hN f;rw[S0 b ax c,S0 b hi a]at e;have:=an8 (W:=h.wO) (t:=(h.ai+1).toNat) ax hi (i:=0) (i':=0) (by unfold sz;omega) (by unfold sz;omega) (by omega);subst this;rfl
theorem alq{a:Int}(b:a∈news h.wO (h.ai+1).toNat L):∃j,∃_:j<L.length,a=((bk h.wO (h.ai+1).toNat (L.take j):Nat):Int):=by obtain⟨j,ax,rfl⟩:=hN b;rw[uP]at ax;refine⟨j,ax,?_⟩;have:=I6 (W:=h.wO) (t:=(h.ai+1).toNat) ax;rw[aR (by rw[uP];exact ax)]at this;exact ee this
theorem aLL{W o ns:List Int}{q i:Nat}(hi:i<3):val k W o ns q i=wd W (q+i):=by unfold val;rw[ly (by omega)]
theorem f_.lo(c:f_ h k L x){j:Nat}(ax:j<L.length){i:Nat}(hi:i<3):wd x.wO (bk h.wO (h.ai+1).toNat (L.take j)+i)=wd h.wO (L[j].toNat+i):=by rw[c.rG j ax i (by unfold sz;omega),aLL hi]
theorem f_.hi(c:f_ h k L x){j:Nat}(ax:j<L.length){i:Nat}(hi:i<(wd h.wO (L[j].toNat+1)).toNat):wd x.wO (bk h.wO (h.ai+1).toNat (L.take j)+3+i)=if ep k (wd h.wO L[j].toNat) i=true then tn h L (wd h.wO (L[j].toNat+3+i))else wd h.wO (L[j].toNat+3+i):=by rw[show bk h.wO (h.ai+1).toNat (L.take j)+3+i=bk h.wO (h.ai+1).toNat (L.take j)+(3+i) by omega,c.rG j ax (3+i) (by unfold sz;omega)];unfold val;rw[show 3+i-3=i by omega,show L[j].toNat+(3+i)=L[j].toNat+3+i by omega];by_cases a:ep k (wd h.wO L[j].toNat) i=true;rw[lz ⟨by omega,a⟩,lz a];rw[ly (λ e=>a e.2),ly a]
theorem f_.walk(g:I.Good F h k Y O)(c:f_ h k L x)(aj:∀a∈L,a∈Y++O):∀(d j:Nat),j+d=L.length->I.eQ k x.wO (bk h.wO (h.ai+1).toNat L) (bk h.wO (h.ai+1).toNat (L.take j)) (news h.wO (bk h.wO (h.ai+1).toNat (L.take j)) (L.drop j)):=by
 intro d;induction d with
 |zero=>
  intro j ax;have:j=L.length:=by omega
  subst this;rw[iH,gF];exact I.eQ.nil
 |succ d f=>
  intro j ax;have b:j<L.length:=by omega
  have l:=aj _ (fa b);obtain⟨m,n⟩:=g.l.u0 _ l;have b8:=c.lo b (i:=0) (by omega);have e1:=c.lo b (i:=1) (by omega);rw[jI,jI]at b8;have p:=S2 (W:=h.wO) (t:=(h.ai+1).toNat) b;have su:=S3 (W:=h.wO) (t:=(h.ai+1).toNat) (i:=j+1) (o:=L);have e:sz h.wO L[j]=3+(wd x.wO (bk h.wO (h.ai+1).toNat (L.take j)+1)).toNat:=by rw[e1];rfl
  rw[cw b,news];refine I.eQ.cons (by rw[b8];exact m) (by rw[b8,e1];exact n) (by omega) ?_;have:=f (j+1) (by omega);rw[p,e,show bk h.wO (h.ai+1).toNat (L.take j)+(3+(wd x.wO (bk h.wO (h.ai+1).toNat (L.take j)+1)).toNat)=bk h.wO (h.ai+1).toNat (L.take j)+3+(wd x.wO (bk h.wO (h.ai+1).toNat (L.take j)+1)).toNat by omega]at this;rw[e,show bk h.wO (h.ai+1).toNat (L.take j)+(3+(wd x.wO (bk h.wO (h.ai+1).toNat (L.take j)+1)).toNat)=bk h.wO (h.ai+1).toNat (L.take j)+3+(wd x.wO (bk h.wO (h.ai+1).toNat (L.take j)+1)).toNat by omega];exact this
theorem alE{α β:Type}{f:α->β}:∀ {M L:List α},(M.map f).Nodup->L.Nodup->(∀a∈L,a∈M)->(L.map f).Nodup
 |M,[],_,_,_=>kK
 |M,a::r,c,l,aj=>by
  have d:=hJ.1 l;rw[ea];refine hJ.2 ⟨λ m=>?_,alE c d.2 λ b ag=>aj b (eD _ ag)⟩;obtain⟨b,ag,e⟩:=ho.1 m;have n:b=a:=by obtain⟨i,hi,e1⟩:=hN (aj a iz);obtain⟨j,ax,e2⟩:=hN (aj b (eD _ ag));have g:=iq.1 (j7.1 c);rcases Nat.lt_trichotomy i j with ak |ak |ak;exact absurd (by rw[j5,j5,e1,e2,e]) (g i j (by simpa using hi) (by simpa using ax) ak);subst ak;rw[<-e1,<-e2];exact absurd (by rw[j5,j5,e1,e2,e]) (g j i (by simpa using ax) (by simpa using hi) ak)
  exact d.1 (n▸ag)
theorem f_.Xn(g:I.Good F h k Y O)(c:f_ h k L x)(aj:∀a∈L,a∈Y++O):I.Good F x k [] (news h.wO (h.ai+1).toNat L):=by
 obtain⟨⟨⟨q,r⟩,s,u⟩,m,⟨B,C⟩,⟨jh,D⟩,v⟩:=id g.s;unfold okB at m;have E:=c.room;have G:=lk (W:=h.wO) (o:=L) (t:=(h.ai+1).toNat);have y:∀a∈L,a≠0:=λ a d=>by have:=(g.l.fit g.s a (aj a d)).1;omega
 have n:(news h.wO (h.ai+1).toNat L).map (I.aj x.wO)=L.map (I.aj h.wO):=by
  refine List.ext_getElem (by rw[gJ,gJ,uP]) λ j l J=>?_;have ax:j<L.length:=by simpa using J
  rw[j5,j5];have:(news h.wO (h.ai+1).toNat L)[j]'(by rw[uP];exact ax)=((bk h.wO (h.ai+1).toNat (L.take j):Nat):Int):=by have:=I6 (W:=h.wO) (t:=(h.ai+1).toNat) ax;rw[aR (by rw[uP];exact ax)]at this;exact ee this
  rw[this];unfold I.aj;rw[bR];exact c.lo ax (by omega)
 have p:∀a∈news h.wO (h.ai+1).toNat L,∀w∈refs k x.wO a.toNat,wd x.wO w.toNat=0\/wd x.wO w.toNat∈news h.wO (h.ai+1).toNat L:=λ a d w f=>by obtain⟨j,ax,rfl⟩:=alq d;rw[bR]at f;obtain⟨i,l,J,rfl⟩:=uG.1 f;have b8:=c.lo ax (i:=0) (by omega);have e1:=c.lo ax (i:=1) (by omega);rw[jI,jI]at b8;rw[e1]at l;rw[b8]at J;rw[bR,c.hi ax l,lz J];have z:wd h.wO (L[j].toNat+3+i)∈cW k h.wO L[j]:=ho.2 ⟨((L[j].toNat+3+i:Nat):Int),uG.2 ⟨i,l,J,rfl⟩,by rw[bR]⟩;rcases c.cl _ (fa ax) _ z with e |e;rw[e,NN];exact .inl rfl;exact .inr (acE c.iV (y _ e) e).1
 refine⟨g.tN,g.hn,⟨?_,?_,?_⟩,⟨?_,?_⟩,?_,?_,?_,?_,?_,?_,?_⟩;unfold Cz;rw[c.y,c.o];exact⟨⟨q,r⟩,s,u⟩;unfold okB;rw[c.y,c.o,c.len];exact m;unfold I.I';rw[c.y,c.o,c.yt,c.ot,c.nx];exact⟨⟨by omega,by omega⟩,⟨by omega,by omega⟩,v⟩;rw[c.yt];exact I.eQ.nil;rw[c.ot,c.y,bR];have:=c.walk g aj L.length 0 (by omega);rw[kJ,ei]at this;exact this
 ·intro a d;rw[ie]at d;have A:I.aj x.wO a∈L.map (I.aj h.wO):=by rw[<-n];exact jq d
  obtain⟨b,ag,e⟩:=ho.1 A;rw[<-e,c.nx];exact g.ok.hash b (aj b ag)
 ·rw[ie,n];exact alE g.ok.nodup c.iV aj
 ·intro a d w f;rw[ie]at d⊢;exact p a d w f
 ·intro i hi hc;rw[c.len]at hi;rw[c.yt,c.ot,c.y]at hc;exact c.fr i hi (by omega)
 ·rw[c.nt];intro a b _ ag;simp at ag
 ·rw[c.nt];intro a d;simp at d
 ·intro a d _ w f hc;rw[c.y]at hc;rcases p a d w f with e |e;omega;obtain⟨j,ax,e2⟩:=alq e;have:=lk (W:=h.wO) (o:=L.take j) (t:=(h.ai+1).toNat);omega
end
section
variable{F:Nat}{k:aN}{y ol yt ot nx tp:Int}{W nt o ns pl rv:List Int}{M:List (Int×Int)}{c1:List al}{c2:List Int}{c3:List (List I.Field)}{c4:List (List (List UInt8))}{c5:List (List I.Target)}
theorem I2{x v:Int}:∀ {M:List (Int×Int)},x∉M.map j2->gP M x v=M++[(x,v)]
 |[],_=>rfl
 |p::r,h=>by simp only[ea,cG,not_or]at h;rw[gP,ly (λ e=>h.1 e.symm),I2 h.2];rfl
theorem azR(H:o.length<=5000)(J:W.length<=5000)
 (s:∀a∈o,1<=a/\a.toNat+3+(wd W (a.toNat+1)).toNat<=W.length/\0<=wd W (a.toNat+1))(u:o.Nodup):∀(d i f t:Nat)(M:List (Int×Int)),i+d=o.length->d<f->t+5000*d<=100000000 ->(∀a∈o.drop i,a∉M.map j2) ->
 Bp F f pl o (t:Int) o (o.length:Int) (i:Int) rv W y ol yt ot nt nx c1 c2 c3 c4 c5 M=some ((pl,(),(),o,(),((bk W t (o.drop i):Nat):Int),()),rv,((),()),(W,y,ol,yt,ot,nt,nx,()),(c1,c2,c3,c4,c5,()),M++(o.drop i).zip (news W t (o.drop i)),()):=by
 intro d
 induction d with
 |zero=>
  intro i f t M h v w g;obtain⟨f,rfl⟩:∃j,f=j+1:=⟨f-1,by omega⟩
  have:i=o.length:=by omega
  subst this;rw[Bp,bG,lK,gF];simp[bk,news]
 |succ d x=>
  intro i f t M h v w g;obtain⟨f,rfl⟩:∃j,f=j+1:=⟨f-1,by omega⟩
  have hi:i<o.length:=by omega
  have ad:o[i]? =some o[i]:=aR hi;obtain⟨K,z,a3⟩:=s _ (fa hi);have c:=cw hi;have e:(o.drop i).Nodup:=u.sublist (List.drop_sublist i o);rw[c]at g e;obtain⟨q,b⟩:∃q:Nat,o[i]=(q:Int):=⟨o[i].toNat,by omega⟩
  rw[b,bR]at z a3;have A:q<=100000:=by omega
  have B:q+1<W.length:=by omega
  obtain⟨n,l⟩:∃n,n=3+(wd W (q+1)).toNat:=⟨_,rfl⟩
  have C:n<=100000:=by omega
  have D:i<=100000:=by omega
  have E:sz W o[i]=n:=by rw[b];unfold sz;rw[bR,l]
  have G:t+n+5000*d<=100000000:=by omega
  have m:I.ap ((t:Int)+(n:Int))=((t+n:Nat):Int):=by rw[bX (by omega) (by omega)];omega
  have p:gP M o[i] (t:Int)=M++[(o[i],(t:Int))]:=I2 (g _ iz);rw[b]at p;rw[Bp,bH hi,lA,br ad,ae,b,hV A,fI B,ae,C3 a3 l C,m,hV D,p];clear m;refine(x (i+1) f (t+n) (M++[((q:Int),(t:Int))]) (by omega) (by omega) G (λ a r=>?_)).trans ?_
  ·rw[ja,cg,not_or];refine⟨g a (eD _ r),λ hc=>?_⟩;have hc:a=(q:Int):=by simpa using hc
   exact(hJ.1 e).1 (by rw[b,<-hc];exact r)
  ·rw[c,news,bk,E,b,List.zip_cons_cons,eY,jX]
theorem azT(x:gM k){q t n:Nat}(z:∀v∈cW k W (q:Int),(cB M v).getD 0=df o ns v)(E2:(cB M (q:Int)).getD 0=(t:Int))(J:n=3+(wd W (q+1)).toNat)(K:q+n<=W.length)(L:W.length<=5000)(A:fb k (wd W q)=true)(r:isLen k (wd W q) (wd W (q+1))=true){od:List Int}{ln oi:Int} :
 ∀(d i f:Nat)(Z:List Int),i+d=n->d<f->Z.length<=5000 ->t+n<=Z.length ->
 ∃a,vX F f pl tp (q:Int) od ln oi (n:Int) (i:Int) rv W y ol yt ot nt nx k.aV k.aT k.Fields k.Names k.aU M Z=some ((pl,(),(),(),tp,(),od,ln,oi,()),rv,((),()),(W,y,ol,yt,ot,nt,nx,()),(k.aV,k.aT,k.Fields,k.Names,k.aU,()),M,a,())/\
  a.length=Z.length/\∀p,wd a p=if t+i<=p/\p<t+n then val k W o ns q (p-t)else wd Z p:=by
 intro d
 have N:=(jz.1 r).1
 have O:n<=100000:=by omega
 have P:q<=100000:=by omega
 induction d with
 |zero=>
  intro i f Z h B s u;obtain⟨f,rfl⟩:∃e,f=e+1:=⟨f-1,by omega⟩
  have:i=n:=by omega
  subst this;rw[vX,bG,lK];refine⟨Z,rfl,rfl,λ p=>?_⟩;rw[ly (by omega)]
 |succ d C=>
  intro i f Z h B s u;obtain⟨f,rfl⟩:∃e,f=e+1:=⟨f-1,by omega⟩
  have hi:i<n:=by omega
  have D:q+i<W.length:=by omega
  have E:q+i<=100000:=by omega
  have g:t+i<=100000:=by omega
  have c:i<=100000:=by omega
  have G:idx W (I.ap ((q:Int)+i))=some (wd W (q+i)):=by rw[lW E];exact fI D
  have j:idx Z ((t+i:Nat):Int)=some (wd Z (t+i)):=fI (by omega)
  have step:∀v:Int,v=val k W o ns q i->∃a,vX F f pl tp (q:Int) od ln oi (n:Int) ((i+1 :Nat):Int) rv W y ol yt ot nt nx k.aV k.aT k.Fields k.Names k.aU M (Z.set (t+i) v)=some ((pl,(),(),(),tp,(),od,ln,oi,()),rv,((),()),(W,y,ol,yt,ot,nt,nx,()),(k.aV,k.aT,k.Fields,k.Names,k.aU,()),M,a,())/\
   a.length=Z.length/\∀p,wd a p=if t+i<=p/\p<t+n then val k W o ns q (p-t)else wd Z p:=λ v l=>by
   obtain⟨a,e1,e2,e3⟩:=C (i+1) f (Z.set (t+i) v) (by omega) (by omega) (by rw[gu];exact s) (by rw[gu];exact u)
   refine⟨a,e1,by rw[e2,gu],λ p=>?_⟩
   rw[e3 p]
   by_cases w:p=t+i
   ·subst w;rw[ly (by omega),lz (by omega),JP (by omega),lz rfl,l,show t+i-t=i by omega]
   ·by_cases b:t+(i+1)<=p/\p<t+n;rw[lz b,lz (by omega)];rw[ly b,ly (by omega),JP (by omega),ly w]
  rw[vX,bH hi,lA,G,ae];by_cases m:3<=i
  ·rw[lu (show(3 :Int)<=(i:Int) by omega),lA,fI (show q<W.length by omega),ae];have H:sp (b4.mk (aN.mk k.aV k.aT k.Fields k.Names k.aU)) (wd W q) (I.ap ((i:Int)-3))=some (ep k (wd W q) (i-3)):=by rw[aov c m];exact SI x A r (by omega)
   rw[H,ae];cases b:ep k (wd W q) (i-3)with
   |true=>have l:wd W (q+i)∈cW k W (q:Int):=ho.2 ⟨((q+i:Nat):Int),by rw[bR];exact uG.2 ⟨i-3,by omega,b,by omega⟩,by rw[bR]⟩;rw[lA,E2,lW g,j,ae,hV c,bR];exact step _ (by rw[z _ l];unfold val;rw[lz ⟨m,b⟩])
   |false=>rw[lK,E2,lW g,j,ae,hV c,bR];exact step _ (by unfold val;rw[ly (λ h=>by rw[b]at h;cases h.2)])
  ·rw[lx (show¬(3 :Int)<=(i:Int) by omega),lK,E2,lW g,j,ae,hV c,bR];exact step _ (by unfold val;rw[ly (λ h=>m h.1)])
theorem azS(aB:10000<F)(G:gM k)(ar:o.length<=5000)(gy:ns.length=o.length)(H:W.length<=5000)(J:∀a∈o,∀v∈cW k W a,(cB M v).getD 0=df o ns v)(E2:∀(j:Nat)(a:Int),o[j]? =some a->some ((cB M a).getD 0)=ns[j]?)
 (K:∀a∈o,1<=a/\a.toNat+3+(wd W (a.toNat+1)).toNat<=W.length/\fb k (wd W a.toNat)=true/\isLen k (wd W a.toNat) (wd W (a.toNat+1))=true):∀(d i f t:Nat)(Z:List Int),i+d=o.length->d<f->ns.drop i=news W t (o.drop i)->bk W t (o.drop i)<=W.length->Z.length=W.length ->
 ∃b,Bq F f pl tp o (o.length:Int) (i:Int) rv W y ol yt ot nt nx k.aV k.aT k.Fields k.Names k.aU M Z=some ((pl,(),(),tp,(),()),rv,((),()),(W,y,ol,yt,ot,nt,nx,()),(k.aV,k.aT,k.Fields,k.Names,k.aU,()),M,b,())/\
  b.length=W.length/\laid k W o ns b t (o.drop i)/\∀p,p<t\/bk W t (o.drop i)<=p->wd b p=wd Z p:=by
 intro d
 induction d with
 |zero=>
  intro i f t Z h L l r s;obtain⟨f,rfl⟩:∃u,f=u+1:=⟨f-1,by omega⟩
  have:i=o.length:=by omega
  subst this;refine⟨Z,?_,s,by rw[gF];trivial,λ p _=>rfl⟩;rw[Bq,bG,lK]
 |succ d N=>
  intro i f t Z h L l r s;obtain⟨f,rfl⟩:∃u,f=u+1:=⟨f-1,by omega⟩
  have hi:i<o.length:=by omega
  have ad:o[i]? =some o[i]:=aR hi;have A:i<ns.length:=by omega
  have wo:ns[i]? =some ns[i]:=aR A;rw[cw hi,cw A,news]at l;rw[cw hi,bk]at r;have O:ns[i]=(t:Int):=(eO l).1;have B:=(eO l).2;have C:=fa hi;obtain⟨b',P,a3,a4⟩:=K _ C;have c:=J _ C;have e:=E2 i _ ad;rw[wo,O]at e;have e:=ee e;obtain⟨q,g⟩:∃q:Nat,o[i]=(q:Int):=⟨o[i].toNat,by omega⟩
  rw[g,bR]at P a3 a4;rw[g]at c e;obtain⟨n,w⟩:∃n,n=3+(wd W (q+1)).toNat:=⟨_,rfl⟩
  have x:sz W o[i]=n:=by rw[g];unfold sz;rw[bR,w]
  rw[x]at B r;have wu:=lk (W:=W) (o:=o.drop (i+1)) (t:=t+n);have Q:i<=100000:=by omega
  have R:q<=100000:=by omega
  have S:q+1<W.length:=by omega
  have T:n<=100000:=by omega
  have U:=(jz.1 a4).1.1;obtain⟨V,X,Y,D⟩:=azT (F:=F) (pl:=pl) (tp:=tp) (rv:=rv) (y:=y) (ol:=ol) (yt:=yt) (ot:=ot) (nx:=nx) (nt:=nt) (od:=o) (ln:=(o.length:Int)) (oi:=(i:Int)) G c e w (by omega) H a3 a4 n 0 F Z (by omega) (by omega) (by omega) (by omega);have z:vX F F pl tp (q:Int) o (o.length:Int) (i:Int) (n:Int) 0 rv W y ol yt ot nt nx k.aV k.aT k.Fields k.Names k.aU M Z=_:=X;obtain⟨b,i1,i2,i3,E⟩:=N (i+1) f (t+n) V (by omega) (by omega) B r (by rw[Y,s]);refine⟨b,?_,i2,?_,λ p aC=>?_⟩;rw[Bq,bH hi,lA,br ad,ae,g,hV R,fI S,ae,C3 U w T,z,ae];dsimp only;rw[hV Q];exact i1;rw[cw hi,laid,x];refine⟨λ m hm=>?_,i3⟩;rw[E _ (by omega),D,lz (by omega),g,bR,show t+m-t=m by omega];rw[cw hi,bk,x]at aC;rw[E p (by omega),D,ly (by omega)]
theorem azU{Z:List Int}{roots:List Int}(m:roots.length<=5000)(e:∀v∈roots,(cB M v).getD 0=df o ns v):∀(d i f:Nat)(rs:List Int),i+d=roots.length->d<f->rs=(roots.take i).map (df o ns)++roots.drop i ->
 yk F f tp Z (gr roots.length) (roots.length:Int) (i:Int) W y ol yt ot nt nx M rs=some (((),tp,Z,()),((),()),(W,y,ol,yt,ot,nt,nx,()),M,roots.map (df o ns),()):=by
 intro d
 induction d with
 |zero=>
  intro i f rs h g b;obtain⟨f,rfl⟩:∃c,f=c+1:=⟨f-1,by omega⟩
  have:i=roots.length:=by omega
  subst this;rw[yk,bG,lK,b,gF,iH,gH]
 |succ d j=>
  intro i f rs h g b;obtain⟨f,rfl⟩:∃c,f=c+1:=⟨f-1,by omega⟩
  have a:i<roots.length:=by omega
  have l:i<=100000:=by omega
  have su:((roots.take i).map (df o ns)).length=i:=by simp;omega
  have ad:rs[i]? =some roots[i]:=by rw[b,eA (by omega),su,kG,cw a];rfl
  rw[yk,bH a,lA,br (acM a),ae,br ad,ae,hV l,bR,e _ (fa a)];refine j (i+1) f _ (by omega) (by omega) ?_;rw[b,List.set_append_right _ _ (by omega),su,kG,cw a,List.set_cons_zero,jQ a,ja,eY];rfl
end
open I a7
theorem Tc{k:aN}{W:List Int}{to q:Nat}{L:List Int}(h:I.eQ k W to q L):(∀a∈L,(q:Int)<=a)/\L.Pairwise (·< ·):=by
 induction h with
 |nil=>exact⟨λ a ao=>by simp at ao,List.Pairwise.nil⟩
 | @cons q r c J d e b=>refine⟨λ a ao=>?_,List.Pairwise.cons (λ a ao=>?_) b.2⟩;rcases cG.1 ao with rfl |ao;exact j6 _;have:=b.1 a ao;omega;have:=b.1 a ao;omega
def yY(Y O A:List Int):List Int:=O.filter (λ a=>decide (a∈A))++Y.filter (λ a=>decide (a∈A))
section
variable{F:Nat}{h:aP}{k:aN}{Y O A roots:List Int}
theorem yZ(b:∀a∈A,a∈Y++O){a:Int}:a∈yY Y O A↔a∈A:=by unfold yY;rw[cg,iF,iF,decide_eq_true_eq];constructor;rintro(h |h)<;>exact h.2;intro h;rcases cg.1 (b a h)with e |e;exact .inr ⟨e,h⟩;exact .inl ⟨e,h⟩
theorem aeA(g:I.Good F h k Y O):(∀a∈Y,a<=h.ai)/\∀a∈O,h.ai+1<=a/\a<=h.ai+h.az:=by obtain⟨⟨⟨d,e⟩,f,i⟩,j,⟨l,m⟩,⟨jh,n⟩,o⟩:=id g.s;refine⟨λ a b=>?_,λ a b=>?_⟩;have c:=g.l.Hc g.s a b;omega;have c:=g.l.c' g.s a b;omega
theorem ajP(g:I.Good F h k Y O)(d:∀a∈A,a∈Y++O):Ord (Y++O) (yY Y O A):=by obtain⟨f,J⟩:=aeA g;refine⟨?_,λ a c=>d a ((yZ d).1 c)⟩;refine eT.2 ⟨((Tc g.l.o).2.imp λ h=>by omega).filter _,((Tc g.l.y).2.imp λ h=>by omega).filter _,λ a c b ag e=>?_⟩;have i:=J a (iF.1 c).1;have j:=f b (iF.1 ag).1;omega
theorem aK7(g:I.Good F h k Y O)(q:A.Nodup)(m:∀a∈A,a∈Y++O):mC h.ai h.az A=yY Y O A:=by
 obtain⟨⟨⟨u,v⟩,w,x⟩,y,⟨z,B⟩,⟨jh,C⟩,D⟩:=id g.s;obtain⟨o,J⟩:=aeA g;have f:∀a∈Y,1<=a:=λ a d=>(g.l.fit g.s a (eS O d)).1;have r:∀a b c:Int,mw h.ai h.az a b=true->mw h.ai h.az b c=true->mw h.ai h.az a c=true:=λ a b c o J=>by simp only[mw,decide_eq_true_eq]at *;omega
 have s:∀a b:Int,(mw h.ai h.az a b||mw h.ai h.az b a)=true:=λ a b=>by simp only[mw,hA,decide_eq_true_eq];omega
 have i:∀a∈Y,fB h.ai h.az a=a+h.ai+h.az:=λ a d=>by unfold fB;rw[ly (by have:=o a d;omega)]
 have gB:∀a∈O,fB h.ai h.az a=a:=λ a d=>by unfold fB;rw[lz (by have:=J a d;omega)]
 have p:∀a∈Y++O,1<=a/\a<=h.ai+h.az:=λ a d=>by rcases cg.1 d with e |e;have:=o a e;have:=f a e;omega;have:=J a e;omega
 unfold mC;refine List.Perm.eq_of_pairwise (le:=λ a b=>mw h.ai h.az a b=true) (λ a b d ag j l=>?_) (kM r s A) ?_ ((j0 A _).trans ((jJ q (ajP g m).iV).2 λ a=>(yZ m).symm));have d:=p a (m a ((j0 A _).mem_iff.1 d));have ag:=p b (m b ((yZ m).1 ag));have j:fB h.ai h.az a<=fB h.ai h.az b:=of_decide_eq_true j;have l:fB h.ai h.az b<=fB h.ai h.az a:=of_decide_eq_true l;unfold fB at j l;by_cases f:h.ai<a<;>by_cases n:h.ai<b;rw[lz f,lz n]at j l;omega;rw[lz f,ly n]at j;omega;rw[ly f,lz n]at j l;omega;rw[ly f,ly n]at j l;omega;unfold yY;refine List.pairwise_append.2 ⟨ke (λ{a b} d ag t=>?_) ((Tc g.l.o).2.filter _),ke (λ{a b} d ag t=>?_) ((Tc g.l.y).2.filter _),λ a d b ag=>?_⟩;have d:=(iF.1 d).1;have ag:=(iF.1 ag).1;exact lu (by rw[gB a d,gB b ag];omega);have d:=(iF.1 d).1;have ag:=(iF.1 ag).1;exact lu (by rw[i a d,i b ag];omega);have d:=(iF.1 d).1;have ag:=(iF.1 ag).1;have:=J a d;have:=f b ag;exact lu (by rw[gB a d,i b ag];omega)
theorem f_.w_{x fu:aP}{L:List Int}(c:f_ h k L x)(a:f_ h k L fu):x.wO=fu.wO:=by refine aoF (by rw[c.len,a.len]) λ p b=>?_;rw[c.len]at b;by_cases d:p<(h.ai+1).toNat\/bk h.wO (h.ai+1).toNat L<=p;rw[c.fr p b d,a.fr p b d];obtain⟨j,ax,i,J,rfl⟩:=acI (W:=h.wO) (o:=L) (t:=(h.ai+1).toNat) (p:=p) (by omega) (by omega);rw[c.rG j ax i J,a.rG j ax i J]
theorem af'{o Z:List Int}(b:Ord (Y++O) o)(c:∀a∈o,∀v∈cW k h.wO a,v=0\/v∈o)(d:bk h.wO (h.ai+1).toNat o<=h.wO.length)(e:Z.length=h.wO.length)
 (J:laid k h.wO o (news h.wO (h.ai+1).toNat o) Z (h.ai+1).toNat o)(f:∀p,(p<(h.ai+1).toNat\/bk h.wO (h.ai+1).toNat o<=p)->wd Z p=0) :
 f_ h k o ⟨Z,h.ai,h.az,1,((bk h.wO (h.ai+1).toNat o:Nat):Int),[],h.Next⟩:=
 ⟨b.iV,c,e,rfl,rfl,rfl,rfl,rfl,rfl,d,λ _ ax _ hi=>Zq ax J hi,λ p _ g=>f p g⟩
theorem aoH{n p:Nat}:wd (eF n 0) p=0:=by unfold wd;rcases fO p n with q2 |q2;simp[q2];rw[fk (by simpa using q2)];rfl
theorem aJ_(d:10000<F)(g:I.Good F h k Y O){o:List Int}(l:Ord (Y++O) o)(z:roots.length<=5000)(m:bk h.wO (h.ai+1).toNat o<=h.wO.length) :
 ∃Z,tD F h.wO h.ai h.az h.aI h.aD h.aJ h.Next k.aV k.aT k.Fields k.Names k.aU o (I.ap (h.ai+1)) roots=some (((Z,h.ai,h.az,1,((bk h.wO (h.ai+1).toNat o:Nat):Int),[],h.Next,()),roots.map (df o (news h.wO (h.ai+1).toNat o)),()),())/\
  Z.length=h.wO.length/\laid k h.wO o (news h.wO (h.ai+1).toNat o) Z (h.ai+1).toNat o/\∀p,(p<(h.ai+1).toNat\/bk h.wO (h.ai+1).toNat o<=p)->wd Z p=0:=by
 have M:=EI g
 have N:=l.len
 have P:=g.s.eZ
 obtain⟨⟨⟨Q,R⟩,S,T⟩,B,⟨U,V⟩,⟨jh,X⟩,mV⟩:=g.s
 unfold okB at B
 obtain⟨t,C⟩:∃t:Nat,(h.ai+1).toNat=t:=⟨_,rfl⟩
 have e:I.ap (h.ai+1)=(t:Int):=by rw[bX (by omega) (by omega)];omega
 rw[C]at m⊢
 have f:(news h.wO t o).length=o.length:=uP
 have c:∀a∈o,1<=a/\a.toNat+3+(wd h.wO (a.toNat+1)).toNat<=h.wO.length/\fb k (wd h.wO a.toNat)=true/\isLen k (wd h.wO a.toNat) (wd h.wO (a.toNat+1))=true:=λ a b=>by have n:a∈Y++O:=l.sub a b;have q:=g.l.fit g.s a n;have J:=g.l.u0 a n;exact⟨q.1,q.2.1,J.1,J.2⟩
 rw[e]
 unfold tD
 have b8:=alo (F:=F) (y:=h.ai) (ol:=h.az) (yt:=h.aI) (ot:=h.aD) (nx:=h.Next) (W:=h.wO) (nt:=h.aJ) (c1:=k.aV) (c2:=k.aT) (c3:=k.Fields) (c4:=k.Names) (c5:=k.aU) (o:=o) (from_:=(t:Int)) (roots:=roots) (e1:=[]) (e2:=0) (e3:=0) (e4:=0) (e5:=0) (e6:=[]) (e7:=0) (by omega) (by omega) (λ a b=>⟨(c a b).1,(c a b).2.1,(jz.1 (c a b).2.2.2).1.1⟩) o.length 0 F t [] (by omega) (by omega) rfl (by omega)
 rw[ei,ie]at b8
 have r:AW F F (t:Int) roots (t:Int) 0 h.wO h.ai h.az h.aI h.aD h.aJ h.Next k.aV k.aT k.Fields k.Names k.aU o [] 0 0 0 0 [] 0 []=_:=b8
 rw[r,ae]
 dsimp only
 have s:ri (0 :Int) 8 ((hr h.wO:Nat):Int)=some (eF h.wO.length 0):=by unfold ri;rw[lz (by omega),bR]
 rw[s,ae,e]
 clear e b8 r s
 obtain⟨u,D,E,eI,G⟩:=alP (W:=h.wO) (y:=h.ai) (ol:=h.az) (yt:=h.aI) (ot:=h.aD) (nx:=h.Next) (nt:=h.aJ) (u1:=h.ai) (u2:=h.az) (u3:=1) (u4:=((bk h.wO t o:Nat):Int)) (u5:=[]) (u6:=h.Next) (e1:=[]) (e2:=0) (e3:=0) (e4:=0) (e5:=0) (e6:=[]) (e7:=0) (roots:=roots) d g.hn (by omega) f (by omega) (to:=t) (by omega) I.eQ.nil F (eF h.wO.length 0) (by omega) (by simp)
 rw[D,ae]
 dsimp only
 obtain⟨i,H,K,v,w⟩:=alm (y:=h.ai) (ol:=h.az) (yt:=h.aI) (ot:=h.aD) (nx:=h.Next) (nt:=h.aJ) (u1:=h.ai) (u2:=h.az) (u3:=1) (u4:=((bk h.wO t o:Nat):Int)) (u5:=[]) (u6:=h.Next) (e1:=[]) (e2:=0) (e3:=0) (e4:=0) (e5:=0) (e6:=[]) (e7:=0) (roots:=roots) d g.hn (by omega) f (by omega) c o.length 0 F t u (by omega) (by omega) (by rw[ei,ei]) (by rw[ei];exact m) E
 rw[ei]at v w
 have L:AX F F roots 0 o [] 0 0 0 0 [] 0 (news h.wO t o) h.ai h.az 1 ((bk h.wO t o:Nat):Int) [] h.Next u h.wO h.ai h.az h.aI h.aD h.aJ h.Next k.aV k.aT k.Fields k.Names k.aU=_:=H
 rw[L,ae]
 dsimp only
 have x:=ab7 (e1:=[]) (e2:=0) (e3:=0) (e4:=0) (e5:=0) (e6:=[]) (e7:=0) (u1:=h.ai) (u2:=h.az) (u3:=1) (u4:=((bk h.wO t o:Nat):Int)) (u5:=[]) (u6:=h.Next) d (o:=o) (ns:=news h.wO t o) (by omega) f z roots.length 0 F [] i (by omega) (by omega) rfl
 rw[ei,ie]at x
 have j:AY F F roots 0 [] 0 0 0 0 [] 0 o (news h.wO t o) h.ai h.az 1 ((bk h.wO t o:Nat):Int) [] h.Next i []=_:=x
 rw[j,ae]
 refine⟨i,rfl,K,v,λ p aC=>?_⟩
 rw[w p (by omega),G p (by omega)]
 exact aoH
theorem anX{W:List Int}:∀ {l:List Int}{n:Nat},(∀a∈l,1<=a/\a.toNat+3+(wd W (a.toNat+1)).toNat<=W.length/\0<=wd W (a.toNat+1))->W.length<=5000 ->n+10000*l.length<=1000000000 ->jW W l (n:Int)=some ((n+gQ W [] l:Nat):Int)
 |[],n,_,_,_=>rfl
 |a::r,n,h,e,f=>by
  obtain⟨o,g,a3⟩:=h a (by simp);obtain⟨q,rfl⟩:∃q:Nat,a=(q:Int):=⟨a.toNat,by omega⟩
  rw[bR]at g a3;rw[cT]at f;obtain⟨m,d⟩:∃m,m=3+(wd W (q+1)).toNat:=⟨_,rfl⟩
  have i:q<=100000:=by omega
  have c:m<=100000:=by omega
  have j:I.ap ((n:Int)+(m:Int))=((n+m:Nat):Int):=by rw[bX (by omega) (by omega)];omega
  rw[jW,hV i,fI (by omega),ae,C3 a3 d c,j,anX (l:=r) (λ b ag=>h b (by simp[ag])) e (by omega)];rw[gQ,ly (by simp),sz,bR,<-d,jE]
end
section
variable{F:Nat}{k:aN}{h:aP}{Y O:List Int}
theorem left_eq(g:I.Good F h k Y O):I.ap (I.ap (I.ap (I.ap (h.ai+h.az)+1)-h.aD)-I.ap (h.aI-1))=h.ai+h.az+1-h.aD- (h.aI-1):=by obtain⟨⟨⟨a,b⟩,c,d⟩,e,⟨f,i⟩,⟨jh,j⟩,l⟩:=g.s;rw[bX (n:=h.ai+h.az) (by omega) (by omega),bX (n:=h.ai+h.az+1) (by omega) (by omega),bX (n:=h.ai+h.az+1-h.aD) (by omega) (by omega),bX (n:=h.aI-1) (by omega) (by omega),bX (by omega) (by omega)]
theorem aFs(g:I.Good F h k Y O):I.ap (I.ap (I.ap (I.ap (I.ap (h.ai+h.az)+1)-h.aD)-h.aI)+1)=h.ai+h.az+1-h.aD- (h.aI-1):=by obtain⟨⟨⟨a,b⟩,c,d⟩,e,⟨f,i⟩,⟨jh,j⟩,l⟩:=g.s;rw[bX (n:=h.ai+h.az) (by omega) (by omega),bX (n:=h.ai+h.az+1) (by omega) (by omega),bX (n:=h.ai+h.az+1-h.aD) (by omega) (by omega),bX (n:=h.ai+h.az+1-h.aD-h.aI) (by omega) (by omega),bX (by omega) (by omega)];omega
theorem aHo(g:I.Good F h k Y O):nh h=some h:=by have a:=g.I8;have J:=g.s.eZ;unfold nh SJ;rw[im (by simp;omega),ae,im (by simp;omega)];rfl
abbrev h4(h:aP):List Int×Int×Int×Int×Int×List Int×Int×Unit:=(h.wO,h.ai,h.az,h.aI,h.aD,h.aJ,h.Next,())
end
section
variable{F:Nat}{h:aP}{k:aN}{Y O:List Int}
theorem aLM{l:List Int}(j:l.length<=5000):∀(d i f:Nat)(out:List Int),i+d=l.length->d<f->out.length=i ->
 EU F f (gr l.length) (l.length:Int) (i:Int) out l=some (((),()),out++l.drop i,l,()):=by
 intro d
 induction d with
 |zero=>
  intro i f out hi e c;obtain⟨f,rfl⟩:∃b,f=b+1:=⟨f-1,by omega⟩
  have:i=l.length:=by omega
  subst this;rw[EU,bG,lK,gF,gH]
 |succ d g=>
  intro i f out hi e c;obtain⟨f,rfl⟩:∃b,f=b+1:=⟨f-1,by omega⟩
  have a:i<l.length:=by omega
  have ad:l[i]? =some l[i]:=aR a;rw[EU,bH a,lA,br (acM a),ae,br ad,ae,av2 (by omega),ae,eE a (by omega)];refine(g (i+1) f _ (by omega) (by omega) (by simp[c])).trans ?_;rw[cw a,eY,jX]
theorem values_eq(b:10000<F){l:List Int}(a:l.length<=5000):PY F (gr l.length) l=some ((l,()),l,()):=by unfold PY;have e:=aLM (F:=F) a l.length 0 F [] (by omega) (by omega) rfl;rw[ei,ie]at e;have e':EU F F (gr l.length) (l.length:Int) 0 [] l=_:=e;rw[S7,e',ae]
theorem acG{S ns:List Int}(b:ns.length=S.length){v:Int}(c:v=0\/v∈S):(cB ((0,0)::S.zip ns) v).getD 0=df S ns v:=by
 unfold df;by_cases a:v=0;rw[cB,lz (by rw[a]),lz a,a];rfl
 ·rw[cB,ly (λ e=>a e.symm),ly a,Rj b];cases d:pos S v with
  |none=>exact absurd (c.resolve_left a) (zG.1 d)
  |some j=>rfl
abbrev kept(k:aN)(h:aP)(Y O roots:List Int):List Int:=yY Y O (gS k h Y O roots)
theorem FP(g:I.Good F h k Y O){roots:List Int}(b:∀a∈roots,a=0\/a∈Y++O):Ord (Y++O) (kept k h Y O roots):=ajP g (sV g b).sub
theorem QZ(g:I.Good F h k Y O){roots:List Int}(e:∀a∈roots,a=0\/a∈Y++O):(∀a∈kept k h Y O roots,∀v∈cW k h.wO a,v=0\/v∈kept k h Y O roots)/\∀v∈roots,v=0\/v∈kept k h Y O roots:=by have c:=λ a=>yZ (a:=a) (sV g e).sub;have hc:=Sk g e;refine⟨λ a f v d=>?_,λ v d=>?_⟩;by_cases b:v=0;exact .inl b;exact .inr ((c v).2 (hc.hE a ((c a).1 f) v d b));by_cases b:v=0;exact .inl b;exact .inr ((c v).2 (hc.rt v d b))
theorem akS(q:10000<F)(g:I.Good F h k Y O){roots:List Int}(r:roots.length<=5000)(b:∀a∈roots,a=0\/a∈Y++O) :
 ∃A,A.Perm (gS k h Y O roots)/\A.Nodup/\(∀a∈A,a∈Y++O)/\
  ET F roots k.aV k.aT k.Fields k.Names k.aU h.wO h.ai h.az h.aI h.aD h.aJ h.Next []=
   some ((),((),k.aV,k.aT,k.Fields,k.Names,k.aU,(),()),(h.wO,h.ai,h.az,h.aI,h.aD,h.aJ,h.Next,()),jR A,())/\
  EV h.wO (jR A)=some ((gQ h.wO [] (kept k h Y O roots):Nat):Int)/\Kz F h.wO h.ai h.az h.aI h.aD h.aJ h.Next k.aV k.aT k.Fields k.Names k.aU roots=some ((((gQ h.wO [] (kept k h Y O roots):Nat):Int),()),()):=by
 obtain⟨m,A,e,s,t,f,u,i,j⟩:=aFD q g r b
 have c:=FP g b
 have x:=EI g
 have y:=c.len
 have z:=g.s.eZ
 have v:A.Perm (kept k h Y O roots):=e.trans ((jJ (sV g b).iV c.iV).2 λ a=>(yZ (sV g b).sub).symm)
 have d:=anX (W:=h.wO) (l:=kept k h Y O roots) (n:=0) (λ a o=>by have p:=g.l.fit g.s a (c.sub a o);have J:=g.l.u0 a (c.sub a o);exact⟨p.1,p.2.1,(jz.1 J.2).1.1⟩) (by omega) (by omega)
 rw[acx v]at f
 have w:m=((gQ h.wO [] (kept k h Y O roots):Nat):Int):=by have:jW h.wO (kept k h Y O roots) 0=_:=d;rw[f]at this;have:=ee this;omega
 rw[w]at i j
 exact⟨A,e,s,t,u,i,j⟩
set_option maxHeartbeats 1000000
theorem azV(u:10000<F)(g:I.Good F h k Y O){roots:List Int}(ak:roots.length<=1000)(n:∀a∈roots,a=0\/a∈Y++O) :
 (h.az<((gQ h.wO [] (kept k h Y O roots):Nat):Int)->H_ F k.aV k.aT k.Fields k.Names k.aU (gr roots.length) h.wO h.ai h.az h.aI h.aD h.aJ h.Next roots=some ((false,()),(h.wO,h.ai,h.az,h.aI,h.aD,h.aJ,h.Next,()),roots,()))/\
 (¬h.az<((gQ h.wO [] (kept k h Y O roots):Nat):Int)->bk h.wO (h.ai+1).toNat (kept k h Y O roots)<=h.wO.length/\∃Z,H_ F k.aV k.aT k.Fields k.Names k.aU (gr roots.length) h.wO h.ai h.az h.aI h.aD h.aJ h.Next roots=some ((true,()),(Z,h.ai,h.az,1,((bk h.wO (h.ai+1).toNat (kept k h Y O roots):Nat):Int),[],h.Next,()),roots.map (tn h (kept k h Y O roots)),())/\
  f_ h k (kept k h Y O roots) ⟨Z,h.ai,h.az,1,((bk h.wO (h.ai+1).toNat (kept k h Y O roots):Nat):Int),[],h.Next⟩):=by
 obtain⟨A,K,T,w,L,N,U⟩:=akS u g (roots:=roots) (by omega) n
 have c:=FP g n
 have q:=QZ g n
 have eu:=EI g
 have V:=c.len
 have q5:=g.s.eZ
 have P_:A.length<=5000:=by rw[K.length_eq];have:=(sV g n).len;omega
 obtain⟨⟨⟨bK,du⟩,eH,eR⟩,X,⟨mW,lG⟩,⟨jh,mX⟩,mV⟩:=id g.s
 unfold okB at X
 have i:K' F k.aV k.aT k.Fields k.Names k.aU (gr roots.length) h.wO h.ai h.az h.aI h.aD h.aJ h.Next roots=
  some (((),()),(h.wO,h.ai,h.az,h.aI,h.aD,h.aJ,h.Next,()),roots,((),k.aV,k.aT,k.Fields,k.Names,k.aU,(),()),jR A,()):=by
  unfold K'
  rw[values_eq u (by omega),ae]
  dsimp only
  rw[L,ae]
 unfold H_
 rw[i,ae]
 dsimp only
 rw[N,ae,ae]
 clear L N U i
 obtain⟨S,l⟩:∃S,S=kept k h Y O roots:=⟨_,rfl⟩
 rw[<-l]at c q V⊢
 refine⟨λ hc=>?_,λ hc=>?_⟩
 ·rw[lu hc,lA]
 ·rw[lx hc,lK]
  have z:mC h.ai h.az A=S:=by
   rw[aK7 g T w,l];show yY Y O A=yY Y O (gS k h Y O roots)
   unfold yY;have:∀a,decide (a∈A)=decide (a∈gS k h Y O roots):=λ a=>decide_eq_decide.2 K.mem_iff;simp only[this]
  have B:FN h.ai h.az (List.map j2 (jR A)) []=some S:=by
   have C:List.map j2 (jR A)=A:=by unfold jR;rw[lq];exact List.map_id _
   rw[C];unfold FN;have ag:(decide (0<=h.ai)&&decide (h.ai<=100000)&&decide (0<=h.az)&&decide (h.az<=100000)&&decide (A.length<=200000)&&([]:List Int).isEmpty&&A.all (λ x=>decide (1<=x)&&decide (x<=h.ai+h.az)))=true:=by simp only[ca,decide_eq_true_eq,jM,List.isEmpty_nil,and_true];refine⟨⟨⟨⟨⟨by omega,by omega⟩,by omega⟩,by omega⟩,by omega⟩,λ x ad=>?_⟩;have r:=g.l.fit g.s x (w x ad);have J:=aeA g;rcases cg.1 (w x ad)with e |e;have:=J.1 x e;omega;have:=J.2 x e;omega
   rw[ag,z]
  have D:∀u1 u2 u3 u4 u5,II ((gr roots.length,(),(),(),(),()),((),()),(k.aV,k.aT,k.Fields,k.Names,k.aU,()),((),u1,u2,u3,u4,u5,(),()),(h.wO,h.ai,h.az,h.aI,h.aD,h.aJ,h.Next,()),jR A,roots,[],())=
   some ((gr roots.length,(),(),(),()),(((),()),(k.aV,k.aT,k.Fields,k.Names,k.aU,()),((),u1,u2,u3,u4,u5,(),()),(h.wO,h.ai,h.az,h.aI,h.aD,h.aJ,h.Next,()),jR A,roots,S,())):=λ u1 u2 u3 u4 u5=>by
   show(FN h.ai h.az (List.map j2 (jR A)) []).map _=_
   rw[B]
   rfl
  erw[D,ae];dsimp only;obtain⟨t,d⟩:∃t:Nat,(h.ai+1).toNat=t:=⟨_,rfl⟩
  have ww:I.ap (h.ai+1)=(t:Int):=by rw[bX (by omega) (by omega)];omega
  have E:bk h.wO t S<=h.wO.length:=by rw[I4];omega
  have m:(news h.wO t S).length=S.length:=uP;have P:=c.iV;have f:∀a∈S,1<=a/\a.toNat+3+(wd h.wO (a.toNat+1)).toNat<=h.wO.length/\fb k (wd h.wO a.toNat)=true/\isLen k (wd h.wO a.toNat) (wd h.wO (a.toNat+1))=true:=λ a b=>by have r:=g.l.fit g.s a (c.sub a b);have J:=g.l.u0 a (c.sub a b);exact⟨r.1,r.2.1,J.1,J.2⟩
  have e2:=azR (F:=F) (pl:=gr roots.length) (rv:=roots) (y:=h.ai) (ol:=h.az) (yt:=h.aI) (ot:=h.aD) (nx:=h.Next) (W:=h.wO) (nt:=h.aJ) (c1:=k.aV) (c2:=k.aT) (c3:=k.Fields) (c4:=k.Names) (c5:=k.aU) (o:=S) (by omega) (by omega) (λ a b=>⟨(f a b).1,(f a b).2.1,(jz.1 (f a b).2.2.2).1.1⟩) P S.length 0 F t [(0,0)] (by omega) (by omega) (by omega) (λ a b=>by have:=(f a (lm b)).1;simp;omega);rw[ei]at e2;have EK:Bp F F (gr roots.length) S (t:Int) S (S.length:Int) 0 roots h.wO h.ai h.az h.aI h.aD h.aJ h.Next k.aV k.aT k.Fields k.Names k.aU [(0,0)]=_:=e2;rw[ww];erw[EK,ae];dsimp only;have ah:ri (0 :Int) 8 ((hr h.wO:Nat):Int)=some (eF h.wO.length 0):=by unfold ri;rw[lz (by omega),bR]
  rw[ah,ae];have dK:∀a∈S,∀v∈cW k h.wO a,(cB ([(0,0)]++S.zip (news h.wO t S)) v).getD 0=df S (news h.wO t S) v:=λ a b v G=>acG m (q.1 a b v G);have E2:∀(j:Nat)(a:Int),S[j]? =some a->some ((cB ([(0,0)]++S.zip (news h.wO t S)) a).getD 0)=(news h.wO t S)[j]? :=λ j a ax=>by obtain⟨s,rfl⟩:=ba.1 ax;have r:=(f _ (fa s)).1;have:=acG m (v:=S[j]) (.inr (fa s));refine Eq.trans (congrArg some this) ?_;unfold df;rw[ly (by omega),pos_at s P];dsimp only;rw[aR (by rw[m];exact s)];rfl
  obtain⟨Z,bh,bs,Q,R⟩:=azS (pl:=gr roots.length) (tp:=((bk h.wO t S:Nat):Int)) (rv:=roots) (y:=h.ai) (ol:=h.az) (yt:=h.aI) (ot:=h.aD) (nx:=h.Next) (nt:=h.aJ) u g.hn (by omega) m (by omega) dK E2 f S.length 0 F t (eF h.wO.length 0) (by omega) (by omega) (by rw[ei,ei]) (by rw[ei];exact E) (by simp);rw[ei]at Q R;have rp:Bq F F (gr roots.length) ((bk h.wO t S:Nat):Int) S (S.length:Int) 0 roots h.wO h.ai h.az h.aI h.aD h.aJ h.Next k.aV k.aT k.Fields k.Names k.aU ([(0,0)]++S.zip (news h.wO t S)) (eF h.wO.length 0)=_:=bh;rw[rp,ae];dsimp only;have EM:=azU (F:=F) (tp:=((bk h.wO t S:Nat):Int)) (W:=h.wO) (y:=h.ai) (ol:=h.az) (yt:=h.aI) (ot:=h.aD) (nx:=h.Next) (nt:=h.aJ) (o:=S) (ns:=news h.wO t S) (M:=[(0,0)]++S.zip (news h.wO t S)) (Z:=Z) (roots:=roots) (by omega) (λ v G=>acG m (q.2 v G)) roots.length 0 F roots (by omega) (by omega) (by simp);have H2:yk F F ((bk h.wO t S:Nat):Int) Z (gr roots.length) (roots.length:Int) 0 h.wO h.ai h.az h.aI h.aD h.aJ h.Next ([(0,0)]++S.zip (news h.wO t S)) roots=_:=EM;rw[S7,H2,ae];have H:tn h S=df S (news h.wO t S):=by unfold tn;rw[d]
  rw[d,H];refine⟨E,Z,rfl,?_⟩;have:=af' (Z:=Z) c q.1 (by rw[d];exact E) bs (by rw[d];exact Q) (by rw[d];exact λ p aC=>(R p aC).trans aoH);rw[d]at this;exact this
end
section
variable{F:Nat}{h:aP}{k:aN}{Y O A roots:List Int}
section
variable{y ol yt ot nx:Int}{W nt:List Int}{c1:List al}{c2:List Int}{c3:List (List I.Field)}{c4:List (List (List UInt8))}{c5:List (List I.Target)}{u1 u6:List Int}{u2 u3 u4 u5 u7:Int}
theorem awL(n:A.length<=5000)(o:O.length<=5000)(p:10000<F):∀(d i f:Nat)(l:List Int),i+d=O.length->d<f->l.length<=i ->
 AO F f roots A Y O (i:Int) W y ol yt ot nt nx c1 c2 c3 c4 c5 u1 u2 u3 u4 u5 u6 u7 l=some ((roots,(),(),(),A,Y,(),()),(W,y,ol,yt,ot,nt,nx,()),(c1,c2,c3,c4,c5,()),(u1,u2,u3,u4,u5,u6,u7,()),l++(O.drop i).filter (λ a=>decide (a∈A)),()):=by
 intro d
 induction d with
 |zero=>
  intro i f l h g j;obtain⟨f,rfl⟩:∃b,f=b+1:=⟨f-1,by omega⟩
  have:i=O.length:=by omega
  subst this;rw[AO,bG,lK,gF,List.filter_nil,gH]
 |succ d c=>
  intro i f l h g j;obtain⟨f,rfl⟩:∃b,f=b+1:=⟨f-1,by omega⟩
  have hi:i<O.length:=by omega
  have m:i<=100000:=by omega
  have ad:O[i]? =some O[i]:=aR hi;rw[AO,bH hi,lA,br ad,ae,zK ⟨by omega,by omega⟩,ae,hV m,cw hi,List.filter_cons];by_cases e:O[i]∈A;rw[lu e,lA,ae,im (by simp only[iK];omega),ae,lz rfl];refine(c (i+1) f _ (by omega) (by omega) (by simp;omega)).trans ?_;rw[eY,jX];rw[lx e,lK,ly (by simp)];exact c (i+1) f _ (by omega) (by omega) (by omega)
theorem awM(n:A.length<=5000)(o:Y.length<=5000)(p:10000<F):∀(d i f:Nat)(l:List Int),i+d=Y.length->d<f->l.length<=10000+i ->
 AP F f roots A Y (i:Int) W y ol yt ot nt nx c1 c2 c3 c4 c5 u1 u2 u3 u4 u5 u6 u7 l=some ((roots,(),(),(),(),()),(W,y,ol,yt,ot,nt,nx,()),(c1,c2,c3,c4,c5,()),(u1,u2,u3,u4,u5,u6,u7,()),l++(Y.drop i).filter (λ a=>decide (a∈A)),()):=by
 intro d
 induction d with
 |zero=>
  intro i f l h g j;obtain⟨f,rfl⟩:∃b,f=b+1:=⟨f-1,by omega⟩
  have:i=Y.length:=by omega
  subst this;rw[AP,bG,lK,gF,List.filter_nil,gH]
 |succ d c=>
  intro i f l h g j;obtain⟨f,rfl⟩:∃b,f=b+1:=⟨f-1,by omega⟩
  have hi:i<Y.length:=by omega
  have m:i<=100000:=by omega
  have ad:Y[i]? =some Y[i]:=aR hi;rw[AP,bH hi,lA,br ad,ae,zK ⟨by omega,by omega⟩,ae,hV m,cw hi,List.filter_cons];by_cases e:Y[i]∈A;rw[lu e,lA,ae,im (by simp only[iK];omega),ae,lz rfl];refine(c (i+1) f _ (by omega) (by omega) (by simp;omega)).trans ?_;rw[eY,jX];rw[lx e,lK,ly (by simp)];exact c (i+1) f _ (by omega) (by omega) (by omega)
end
theorem awN(b:10000<F)(g:I.Good F h k Y O)(v:roots.length<=1000)(c:∀a∈roots,a=0\/a∈Y++O) :
 (h.az<((gQ h.wO [] (kept k h Y O roots):Nat):Int)->r4 F h.wO h.ai h.az h.aI h.aD h.aJ h.Next k.aV k.aT k.Fields k.Names k.aU roots=some (((h.wO,h.ai,h.az,h.aI,h.aD,h.aJ,h.Next,()),roots,false,()),()))/\
 (¬h.az<((gQ h.wO [] (kept k h Y O roots):Nat):Int)->∃Z,r4 F h.wO h.ai h.az h.aI h.aD h.aJ h.Next k.aV k.aT k.Fields k.Names k.aU roots=some (((Z,h.ai,h.az,1,((bk h.wO (h.ai+1).toNat (kept k h Y O roots):Nat):Int),[],h.Next,()),roots.map (tn h (kept k h Y O roots)),true,()),())/\
  f_ h k (kept k h Y O roots) ⟨Z,h.ai,h.az,1,((bk h.wO (h.ai+1).toNat (kept k h Y O roots):Nat):Int),[],h.Next⟩):=by
 obtain⟨_,_,_,_,_,_,f⟩:=akS b g (roots:=roots) (by omega) c
 have d:=FP g c
 have i:=QZ g c
 have j:=EI g
 rw[dj]at j
 have l:=(sV g c).len
 rw[dj]at l
 obtain⟨⟨⟨w,x⟩,z,B⟩,m,⟨C,D⟩,⟨jh,E⟩,G⟩:=id g.s
 unfold okB at m
 unfold r4
 rw[f,ae]
 dsimp only
 refine⟨λ hc=>by rw[lu hc,lA],λ hc=>?_⟩
 have e:bk h.wO (h.ai+1).toNat (kept k h Y O roots)<=h.wO.length:=by rw[I4];omega
 have n:qK F (⟨h.wO,h.ai,h.az,h.aI,h.aD,h.aJ,h.Next⟩:aP) (⟨k.aV,k.aT,k.Fields,k.Names,k.aU⟩:aN)=_:=an4 b g
 have b8:=awL (F:=F) (A:=gS k h Y O roots) (Y:=Y) (O:=O) (roots:=roots) (W:=h.wO) (y:=h.ai) (ol:=h.az) (yt:=h.aI) (ot:=h.aD) (nt:=h.aJ) (nx:=h.Next) (c1:=k.aV) (c2:=k.aT) (c3:=k.Fields) (c4:=k.Names) (c5:=k.aU) (u1:=[]) (u2:=0) (u3:=0) (u4:=0) (u5:=0) (u6:=[]) (u7:=0) (by omega) (by omega) b O.length 0 F [] (by omega) (by omega) (by simp)
 rw[ei,ie]at b8
 have o:AO F F roots (gS k h Y O roots) Y O 0 h.wO h.ai h.az h.aI h.aD h.aJ h.Next k.aV k.aT k.Fields k.Names k.aU [] 0 0 0 0 [] 0 []=_:=b8
 have H:=List.length_filter_le (λ a=>decide (a∈gS k h Y O roots)) O
 have e2:=awM (F:=F) (A:=gS k h Y O roots) (Y:=Y) (roots:=roots) (W:=h.wO) (y:=h.ai) (ol:=h.az) (yt:=h.aI) (ot:=h.aD) (nt:=h.aJ) (nx:=h.Next) (c1:=k.aV) (c2:=k.aT) (c3:=k.Fields) (c4:=k.Names) (c5:=k.aU) (u1:=[]) (u2:=0) (u3:=0) (u4:=0) (u5:=0) (u6:=[]) (u7:=0) (by omega) (by omega) b Y.length 0 F (O.filter λ a=>decide (a∈gS k h Y O roots)) (by omega) (by omega) (by omega)
 rw[ei]at e2
 have p:AP F F roots (gS k h Y O roots) Y 0 h.wO h.ai h.az h.aI h.aD h.aJ h.Next k.aV k.aT k.Fields k.Names k.aU [] 0 0 0 0 [] 0 (O.filter λ a=>decide (a∈gS k h Y O roots))=_:=e2
 obtain⟨Z,q,r,s,t⟩:=aJ_ b g d (roots:=roots) (by omega) e
 have u:tD F h.wO h.ai h.az h.aI h.aD h.aJ h.Next k.aV k.aT k.Fields k.Names k.aU (O.filter (λ a=>decide (a∈gS k h Y O roots))++Y.filter (λ a=>decide (a∈gS k h Y O roots))) (I.ap (h.ai+1)) roots=_:=q
 refine⟨Z,?_,af' d i.1 e r s t⟩
 rw[lx hc,lK,am5 b g (by omega) c,ae,n,ae]
 dsimp only
 rw[o,ae]
 dsimp only
 rw[p,ae]
 dsimp only
 rw[u,ae]
end
section
variable{F:Nat}{k:aN}{h:aP}{Y O:List Int}
theorem ah3(g:I.Good F h k Y O)(tag len:Int):BC ⟨k⟩ tag len=some (if fb k tag=true then(if isLen k tag len=true then 0 else 3)else 7):=by
 unfold BC;have e1:ui (⟨(⟨k.aV,k.aT,k.Fields,k.Names,k.aU⟩:aN)⟩:b4) tag=some (fb k tag):=aci g.hn tag;show(ui (⟨(⟨k.aV,k.aT,k.Fields,k.Names,k.aU⟩:aN)⟩:b4) tag).bind _=_
 rw[e1,ae];cases a:fb k tag with
 |false=>rfl
 |true=>
  have e2:uj (⟨(⟨k.aV,k.aT,k.Fields,k.Names,k.aU⟩:aN)⟩:b4) tag len=some (isLen k tag len):=acj g.hn a len;show(uj (⟨(⟨k.aV,k.aT,k.Fields,k.Names,k.aU⟩:aN)⟩:b4) tag len).bind _=_
  rw[e2,ae];cases isLen k tag len<;>rfl
def lP(h:aP)(tag len:Int)(c':Bool):aP:=
 if c' then⟨((h.wO.set h.aD.toNat tag).set (h.aD.toNat+1) len).set (h.aD.toNat+2) h.Next,h.ai,h.az,h.aI,h.aD+(3+len),h.aJ,ap (h.Next+1)⟩
 else⟨((h.wO.set h.aI.toNat tag).set (h.aI.toNat+1) len).set (h.aI.toNat+2) h.Next,h.ai,h.az,h.aI+(3+len),h.aD,h.aJ,ap (h.Next+1)⟩
def lT(h:aP)(c':Bool):Int:=if c' then h.aD else h.aI
def pQ(h:aP)(c':Bool):Int:=if c' then h.ai+h.az+1 else h.ai+1
theorem aHM(g:I.Good F h k Y O){tag len:Int}(a:isLen k tag len=true)(c':Bool) :
 qV h tag len c'=some (if pQ h c'<lT h c'+(3+len)then(0,false,h)else(lT h c',true,lP h tag len c')):=by
 have bO:(h.wO.length:Int)=1+h.ai+h.az:=g.s.B
 obtain⟨⟨c1,c2⟩,⟨c3,c4⟩,c5⟩:=id g.s.C
 obtain⟨⟨b,c⟩,a3,a4⟩:=id g.s.A
 obtain⟨⟨l0,l1⟩,_⟩:=jz.1 a
 unfold qV
 rw[bX (n:=h.ai+h.az) (by omega) (by omega),bX (n:=h.ai+h.az+1) (by omega) (by omega),bX (n:=h.ai+h.az+1-h.aD) (by omega) (by omega),bX (n:=3+len) (by omega) (by omega),
  bX (n:=h.ai+1) (by omega) (by omega),bX (n:=h.ai+1-h.aI) (by omega) (by omega),bX (n:=h.aD+1) (by omega) (by omega),bX (n:=h.aD+2) (by omega) (by omega),bX (n:=h.aI+1) (by omega) (by omega),bX (n:=h.aI+2) (by omega) (by omega),
  bX (n:=h.aD+(3+len)) (by omega) (by omega),bX (n:=h.aI+(3+len)) (by omega) (by omega)]
 unfold pQ lT lP
 cases c' with
 |true=>
  simp only[lA,if_true];by_cases q:h.ai+h.az+1<h.aD+(3+len)
  ·rw[lz q,lu (by omega)];rfl
  ·rw[ly q,lx (by omega),lK,h8 (i:=h.aD.toNat) (by omega) (by omega),ae,ae,h8 (i:=h.aD.toNat+1) (by omega) (by rw[gu];omega),ae,ae,
    h8 (i:=h.aD.toNat+2) (by omega) (by rw[gu,gu];omega),ae,ae,show(h.aD+1).toNat=h.aD.toNat+1 by omega,show(h.aD+2).toNat=h.aD.toNat+2 by omega]
 |false=>
  simp only[lK,gT,if_false];by_cases q:h.ai+1<h.aI+(3+len)
  ·rw[lz q,lu (by omega)];rfl
  ·rw[ly q,lx (by omega),lK,h8 (i:=h.aI.toNat) (by omega) (by omega),ae,ae,h8 (i:=h.aI.toNat+1) (by omega) (by rw[gu];omega),ae,ae,
    h8 (i:=h.aI.toNat+2) (by omega) (by rw[gu,gu];omega),ae,ae,show(h.aI+1).toNat=h.aI.toNat+1 by omega,show(h.aI+2).toNat=h.aI.toNat+2 by omega]
theorem bind_map{α β cp:Type}{o:Option α}{f:α->Option β}{g:α->Option cp}{m:cp->β}(h:∀a,f a=(g a).map m):o.bind f=(o.bind g).map m:=by
 cases o with
 |none=>rfl
 |some a=>exact h a
theorem aw0{β cp:Type}{b:Bool}{x y:Option β}{fu fl:Option cp}{m:cp->β}(a:x=fu.map m)(J:y=fl.map m):cond b x y=(cond b fu fl).map m:=by cases b;exact J;exact a
theorem anm{y ol yt ot nx tp ln:Int}{W nt pl Z:List Int}{M:List (Int×Int)}:∀(f:Nat)(i:Int)(rv:List Int),K_ F f tp pl ln i W y ol yt ot nt nx M Z rv=(yk F f tp Z pl ln i W y ol yt ot nt nx M rv).map λ r=>(((),r.1.2.1,(),()),r.2.1,r.2.2.1,r.2.2.2.1,r.1.2.2.1,r.2.2.2.2.1,())
 |0,i,rv=>rfl
 |f+1,i,rv=>by
  rw[K_,yk];cases decide (i<ln)with
  |false=>rfl
  |true=>
   rw[lA,lA];cases idx pl i with
   |none=>rfl
   |some x=>
    rw[ae,ae];cases idx rv x with
    |none=>rfl
    |some v=>rw[ae,ae];exact anm f _ _
theorem anl{c1:List al}{c2:List Int}{c3:List (List I.Field)}{c4:List (List (List UInt8))}{c5:List (List I.Target)}{pl W nt rv:List Int}{y ol yt ot nx:Int}:Br F c1 c2 c3 c4 c5 pl W y ol yt ot nt nx rv=(H_ F c1 c2 c3 c4 c5 pl W y ol yt ot nt nx rv).map λ r=>match r.1.1 with
 |true=>.inl (r.1,((),r.2.1.2),r.2.2.1,r.2.1.1,())
 |false=>.inr r:=by
 unfold Br H_
 refine bind_map λ a=>bind_map λ m=>aw0 rfl (bind_map λ b=>bind_map λ c=>bind_map λ z=>bind_map λ d=>?_)
 rw[anm]
 generalize yk F F _ _ _ _ _ _ _ _ _ _ _ _ _ _=o
 cases o<;>rfl
end
section
variable{F:Nat}{k:aN}{h:aP}{Y O:List Int}
theorem aw2(g:I.Good F h k Y O):I.vL h=some h:=by have a:=g.s.eZ;have b:=g.I8;unfold I.vL;rw[im (by simp;omega),ae,im (by simp;omega),ae];rfl
theorem aFU(g:I.Good F h k Y O){tag len:Int}(a:isLen k tag len=true)(c':Bool) :
 pI F h.wO h.ai h.az h.aI h.aD h.aJ h.Next tag len c'=some (if pQ h c'<lT h c'+(3+len)then((h4 h,0,false,()),())else((h4 (lP h tag len c'),lT h c',true,()),())):=by
 have bO:(h.wO.length:Int)=1+h.ai+h.az:=g.s.B
 obtain⟨⟨c1,c2⟩,⟨c3,c4⟩,c5⟩:=id g.s.C
 obtain⟨⟨b,c⟩,a3,a4⟩:=id g.s.A
 obtain⟨⟨l0,l1⟩,_⟩:=jz.1 a
 have ag2:I.vL (⟨h.wO,h.ai,h.az,h.aI,h.aD,h.aJ,h.Next⟩:aP)=some h:=aw2 g
 unfold pI
 rw[bX (n:=h.ai+h.az) (by omega) (by omega),bX (n:=h.ai+h.az+1) (by omega) (by omega),bX (n:=h.ai+1) (by omega) (by omega),bX (n:=h.aD+3) (by omega) (by omega),bX (n:=h.aD+3+len) (by omega) (by omega),bX (n:=h.aI+3) (by omega) (by omega),bX (n:=h.aI+3+len) (by omega) (by omega),ag2,
  bX (n:=h.aD+1) (by omega) (by omega),bX (n:=h.aD+2) (by omega) (by omega),bX (n:=h.aI+1) (by omega) (by omega),bX (n:=h.aI+2) (by omega) (by omega),bX (n:=3+len) (by omega) (by omega)]
 cases c' with
 |true=>
  have e1:pQ h true=h.ai+h.az+1:=rfl;have e2:lT h true=h.aD:=rfl;rw[e1,e2,lA];by_cases q:h.ai+h.az+1<h.aD+(3+len)
  ·rw[lz q,lu (by omega)];rfl
  ·rw[ly q,lx (by omega),lK,ae,bX (n:=h.aD+(3+len)) (by omega) (by omega),h8 (i:=h.aD.toNat) (by omega) (by omega),ae,h8 (i:=h.aD.toNat+1) (by omega) (by rw[gu];omega),ae,
    h8 (i:=h.aD.toNat+2) (by omega) (by rw[gu,gu];omega),ae,lA,show(h.aD+1).toNat=h.aD.toNat+1 by omega,show(h.aD+2).toNat=h.aD.toNat+2 by omega]
   rfl
 |false=>
  have e1:pQ h false=h.ai+1:=rfl;have e2:lT h false=h.aI:=rfl;rw[e1,e2,lK];by_cases q:h.ai+1<h.aI+(3+len)
  ·rw[lz q,lu (by omega)];rfl
  ·rw[ly q,lx (by omega),lK,ae,bX (n:=h.aI+(3+len)) (by omega) (by omega),h8 (i:=h.aI.toNat) (by omega) (by omega),ae,h8 (i:=h.aI.toNat+1) (by omega) (by rw[gu];omega),ae,
    h8 (i:=h.aI.toNat+2) (by omega) (by rw[gu,gu];omega),ae,lK,show(h.aI+1).toNat=h.aI.toNat+1 by omega,show(h.aI+2).toNat=h.aI.toNat+2 by omega]
   rfl
theorem azH(g:I.Good F h k Y O)(tag len:Int):HA F k.aV k.aT k.Fields k.Names k.aU tag len=some ((if fb k tag=true then(if isLen k tag len=true then 0 else 3)else 7,()),()):=by
 have c:=g.hn.cl;unfold HA;have a:(decide (1<=tag)&&decide (tag<I.ap (3+(k.aV.length:Int))))=fb k tag:=by unfold fb;rw[bX (by omega) (by omega)];congr 1;exact decide_eq_decide.2 (by omega)
 rw[a];cases b:fb k tag with
 |false=>rfl
 |true=>have e2:xT (aN.mk k.aV k.aT k.Fields k.Names k.aU) tag len=some (isLen k tag len):=amP g.hn b len;rw[c7,lK,e2,ae];cases isLen k tag len<;>rfl
end
def SG(b:List Int)(a:Int):Int×List Int:=if a=0 then(0,b)else match pos b a with
 |some i=>((i:Int)+1,b)
 |none=>((b.length:Int)+1,b++[a])
def ach:List Int->List Int->List Int->List Int×List Int
 |[],b,out=>(b,out)
 |a::r,b,out=>ach r (SG b a).2 (out++[(SG b a).1])
def SH:List (Bool×Int)->List Int->List Int->List Int×List Int
 |[],a,out=>(a,out)
 |(true,v)::r,a,out=>SH r (SG a v).2 (out++[(SG a v).1])
 |(false,v)::r,a,out=>SH r a (out++[v])
def cells(k:aN)(W:List Int)(q:Nat):List (Bool×Int):=(dR (wd W (q+1)).toNat).map λ j=>(ep k (wd W q) j,wd W (q+3+j))
def anH(k:aN)(W:List Int):Nat->Nat->List Int->List Int->List Int
 |0,_,_,out=>out
 |d+1,i,b,out=>match b[i]? with
  |some a=>anH k W d (i+1) (SH (cells k W a.toNat) b (out++[wd W a.toNat,wd W (a.toNat+1),wd W (a.toNat+2)])).1 (SH (cells k W a.toNat) b (out++[wd W a.toNat,wd W (a.toNat+1),wd W (a.toNat+2)])).2
  |none=>out
def hn(k:aN)(W roots:List Int):List Int:=anH k W 5001 0 (ach roots [] []).1 (ach roots [] []).2
section
variable{T:Int->Int}{S:List Int}
structure avN (T:Int->Int) (S:List Int):Prop where
 zero:T 0=0
 hl:∀v∈S,v≠0 ->T v≠0
 inj:∀v∈S,∀w∈S,v≠0 ->w≠0 ->T v=T w->v=w
 acs:∀v∈S,v≠0
end
section
variable{F:Nat}{h x:aP}{k:aN}{Y O L:List Int}
theorem aFY{W:List Int}{q:Nat}{v:Int}(a:(true,v)∈cells k W q):∃i,i<(wd W (q+1)).toNat/\ep k (wd W q) i=true/\v=wd W (q+3+i):=by unfold cells at a;obtain⟨i,hi,e⟩:=ho.1 a;exact⟨i,j3.1 hi,(Prod.mk.inj e).1,(Prod.mk.inj e).2.symm⟩
theorem awP{W:List Int}{a v:Int}(b:(true,v)∈cells k W a.toNat):v∈cW k W a:=by obtain⟨i,c,J,rfl⟩:=aFY b;exact ho.2 ⟨((a.toNat+3+i:Nat):Int),uG.2 ⟨i,c,J,rfl⟩,by rw[bR]⟩
theorem f_.inj(g:I.Good F h k Y O)(c:f_ h k L x)(aj:∀a∈L,a∈Y++O):avN (tn h L) L:=by
 have d:∀a∈L,a≠0:=λ a f=>by have:=(g.l.fit g.s a (aj a f)).1;omega
 obtain⟨⟨⟨m,n⟩,o,p⟩,q,⟨r,s⟩,⟨jh,t⟩,u⟩:=id g.s;exact⟨NN,λ v b i e=>by have:=(acE (h:=h) c.iV i b).2;omega,λ v b w j l J e=>aLh c.iV l J b j e,d⟩
theorem f_.cells(g:I.Good F h k Y O)(c:f_ h k L x)(aj:∀a∈L,a∈Y++O):∀a∈L,wd x.wO (tn h L a).toNat=wd h.wO a.toNat/\wd x.wO ((tn h L a).toNat+1)=wd h.wO (a.toNat+1)/\wd x.wO ((tn h L a).toNat+2)=wd h.wO (a.toNat+2)/\Go.Proofs.YteeliipnilghaaaGreat.cells k x.wO (tn h L a).toNat=(Go.Proofs.YteeliipnilghaaaGreat.cells k h.wO a.toNat).map λ p=>(p.1,if p.1=true then tn h L p.2 else p.2):=λ a b=>by
 obtain⟨j,ax,rfl⟩:=hN b;have d:L[j]≠0:=by have:=(g.l.fit g.s _ (aj _ b)).1;omega
 have b8:=c.lo ax (i:=0) (by omega);have e1:=c.lo ax (i:=1) (by omega);have e2:=c.lo ax (i:=2) (by omega);rw[jI,jI]at b8;rw[S0 c.iV ax d,bR];refine⟨b8,e1,e2,?_⟩;unfold Go.Proofs.YteeliipnilghaaaGreat.cells;rw[b8,e1,lq];refine j1 λ i hi=>?_;have hi:=j3.1 hi;rw[c.hi ax hi];rfl
end
theorem amh{o:List Int}{v:Int}:∀ {A:List Int},v∉A->pos (A++o) v=(pos o v).map (A.length+ ·)
 |[],_=>by simp
 |b::r,h=>by
  simp only[cG,not_or]at h;rw[hX,pos,ly (λ e=>h.1 e.symm),amh h.2,Option.map_map,cT];cases pos o v with
  |none=>rfl
  |some i=>simp;omega
theorem amg{o:List Int}{v:Int}:∀ {A:List Int}{j:Nat},pos A v=some j->pos (A++o) v=some j
 |[],j,h=>by simp[pos]at h
 |b::r,j,h=>by rw[hX,pos];rw[pos]at h;by_cases e:b=v;rw[lz e]at h⊢;exact h;rw[ly e]at h⊢;obtain⟨i,a,rfl⟩:=cF.1 h;rw[amg a];rfl
theorem aGz{k:aN}{W:List Int}{to q:Nat}{L:List Int}(h:I.eQ k W to q L):news W q L=L/\bk W q L=to:=by
 induction h with
 |nil=>exact⟨rfl,rfl⟩
 | @cons q r b J c d a=>
   have aj:sz W (q:Int)=3+(wd W (q+1)).toNat:=by unfold sz;rw[bR]
   rw[news,bk,aj,show q+(3+(wd W (q+1)).toNat)=q+3+(wd W (q+1)).toNat by omega,a.1,a.2];exact⟨rfl,rfl⟩
theorem alp{W:List Int}{p:List Int}:∀ {o:List Int}{t:Nat},news W t (o++p)=news W t o++news W (bk W t o) p
 |[],t=>rfl
 |a::r,t=>by simp[news,bk,alp (o:=r)]
theorem aLy{W O o:List Int}{q t:Nat}(d:news W q O=O)(J:bk W q O=t)(aK:∀v∈O,v∉o){v:Int}:df (O++o) (news W q (O++o)) v=df o (news W t o) v:=by
 rw[alp,d,J];unfold df;by_cases a:v=0;rw[lz a,lz a]
 ·rw[ly a,ly a];by_cases b:v∈O
  ·obtain⟨j,ax⟩:∃j,pos O v=some j:=by
    cases c:pos O v with
    |none=>exact absurd b (zG.1 c)
    |some j=>exact⟨j,rfl⟩
   have aj:=M2 ax;have e:=(ba.1 aj).1;rw[amg ax,zG.2 (aK v b)];dsimp only;rw[dS e,aj];rfl
  ·rw[amh b];cases c:pos o v with
   |none=>rfl
   |some j=>dsimp only[fs];rw[eA (by omega),show O.length+j-O.length=j by omega]
section
variable{F:Nat}{h:aP}{k:aN}{Y O:List Int}
theorem aL6{W:List Int}{to q:Nat}{L:List Int}(h:I.eQ k W to q L):(∀a∈L,(q:Int)<=a)/\L.Nodup:=by
 induction h with
 |nil=>exact⟨λ a ao=>by simp at ao,kK⟩
 | @cons q r d J e f b=>refine⟨λ a ao=>?_,hJ.2 ⟨λ c=>?_,b.2⟩⟩;rcases cG.1 ao with rfl |ao;exact j6 _;have:=b.1 a ao;omega;have:=b.1 _ c;omega
theorem anz(q:∀a∈Y,∀v∈cW k h.wO a,v=0\/v∈Y++O)(g:I.Good F h k Y O):∀ {d i:Nat}{o:List Int},Y.length<i+d->Ord Y o->(∀j a,j<i->o[j]? =some a->∀v∈cW k h.wO a,1<=v->v<=h.ai->v∈o) ->
 ∀a∈scan k h.wO h.ai d i o,∀v∈cW k h.wO a,1<=v->v<=h.ai->v∈scan k h.wO h.ai d i o
 |0,i,o,aK,n,hc=>λ a c v f m J=>by obtain⟨j,ax,e⟩:=hN (show a∈o from c);have:=n.len;exact hc j a (by omega) (by rw[aR ax,e]) v f m J
 |d+1,i,o,aK,n,hc=>by
  rw[scan];cases ad:o[i]? with
  |none=>dsimp only;intro a c v f m J;obtain⟨j,ax,e⟩:=hN c;have:=List.getElem?_eq_none_iff.1 ad;exact hc j a (by omega) (by rw[aR ax,e]) v f m J
  |some b=>
   dsimp only;have ag:=n.sub b (b_ ad);obtain⟨t,p⟩:=Bn (y:=h.ai) (l:=cW k h.wO b) (o:=o);have r:=(ba.1 ad).1;refine anz q g (by omega) (n.fold λ v f=>qC g (q b ag v f)) λ j a ax c v f m J=>?_;by_cases e:j=i
   ·subst e;have:a=b:=by rw[p,dS r,ad]at c;exact(ee c).symm
    subst this;exact K7 f m J
   ·rw[p,dS (by omega)]at c;rw[p];exact eS _ (hc j a (by omega) c v f m J)
theorem anB{W:List Int}{y:Int}:∀ {d i:Nat}{o:List Int},∃t,scan k W y d i o=o++t
 |0,i,o=>⟨[],by simp[scan]⟩
 |d+1,i,o=>by
  rw[scan];cases o[i]? with
  |none=>exact⟨[],by simp⟩
  |some a=>obtain⟨t,b⟩:=Bn (y:=y) (l:=cW k W a) (o:=o);obtain⟨u,c⟩:=anB (W:=W) (y:=y) (d:=d) (i:=i+1) (o:=(cW k W a).foldl (cc y) o);exact⟨t++u,by dsimp only;rw[c,b,eY]⟩
theorem akf(g:I.Good F h k Y O){roots:List Int}(f:∀a∈roots,a=0\/a∈Y++O):(∀a∈O++order k h Y roots,∀v∈cW k h.wO a,v=0\/v∈O++order k h Y roots)/\∀v∈roots,v=0\/v∈O++order k h Y roots:=by
 have Lr:=RS g f;obtain⟨t,p⟩:=anB (k:=k) (W:=h.wO) (y:=h.ai) (d:=Y.length+1) (i:=0) (o:=(h.aJ.flatMap (cW k h.wO)).foldl (cc h.ai) (roots.foldl (cc h.ai) []));have q:=anz (λ a ao v b=>rB g (eS O ao) v b) g (d:=Y.length+1) (i:=0) (by omega) Lr (λ j a ax=>by omega);have m:∀v,v=0\/v∈Y++O->(1<=v->v<=h.ai->v∈order k h Y roots)->v=0\/v∈O++order k h Y roots:=λ v b hc=>by
  rcases b with e |e;exact .inl e
  ·rcases cg.1 e with e |e
   ·have:=Dy g e;have x:3<=sz h.wO v:=by unfold sz;omega
    exact .inr (fw _ (hc this.1 (by omega)))
   ·exact .inr (eS _ e)
 refine⟨λ a ao v b=>?_,λ v b=>?_⟩
 ·rcases cg.1 ao with ao |ao
  ·refine m v (rB g (fw Y ao) v b) λ c J=>?_;have n:a∈h.aJ:=kd λ n=>by obtain⟨w,r,e⟩:=ho.1 b;exact g.ok.must a ao n w r (by rw[e];omega)
   show v∈scan k h.wO h.ai (Y.length+1) 0 _
   rw[p];exact eS _ (K7 (g_.2 ⟨a,n,b⟩) c J)
  ·exact m v (rB g (eS O ((RT g f).sub a ao)) v b) λ c J=>q a ao v b c J
 ·refine m v (f v b) λ c J=>?_;show v∈scan k h.wO h.ai (Y.length+1) 0 _
  rw[p];obtain⟨u,s⟩:=Bn (y:=h.ai) (l:=h.aJ.flatMap (cW k h.wO)) (o:=roots.foldl (cc h.ai) []);rw[s];exact eS _ (eS _ (K7 b c J))
theorem aw3(g:I.Good F h k Y O){t0:Nat}(y:h.aD=(t0:Int)){roots fy:List Int}(u:∀a∈roots,a=0\/a∈Y++O)(z:bk h.wO t0 (order k h Y roots)<=h.wO.length)(f:Kept h k O t0 (order k h Y roots) fy) :
 f_ h k (O++order k h Y roots) ⟨fy,h.ai,h.az,1,((bk h.wO t0 (order k h Y roots):Nat):Int),[],h.Next⟩/\(∀v,df (order k h Y roots) (news h.wO t0 (order k h Y roots)) v=tn h (O++order k h Y roots) v)/\∀a∈O++order k h Y roots,a∈Y++O:=by
 have c:=RT g u
 have m:=g.l.o
 rw[y,bR]at m
 obtain⟨w,n⟩:=aGz m
 have o:∀v∈Y,v<=h.ai:=λ v r=>by
  have:=Dy g r;have E:3<=sz h.wO v:=by unfold sz;omega
  omega
 have d:∀v∈O,v∉order k h Y roots:=λ v r A=>by have G:=(g.l.c' g.s v r).1;have J:=o v (c.sub v A);omega
 have x:∀v,df (order k h Y roots) (news h.wO t0 (order k h Y roots)) v=tn h (O++order k h Y roots) v:=λ v=>(aLy w n d).symm
 have s:bk h.wO (h.ai+1).toNat (O++order k h Y roots)=bk h.wO t0 (order k h Y roots):=by rw[JK,n]
 have B:∀q i,val k h.wO (order k h Y roots) (news h.wO t0 (order k h Y roots)) q i=val k h.wO (O++order k h Y roots) (news h.wO (h.ai+1).toNat (O++order k h Y roots)) q i:=λ q i=>by unfold val;rw[x]
 refine⟨⟨?_,(akf g u).1,f.len,rfl,rfl,rfl,by rw[s],rfl,rfl,by rw[s];exact z,λ j ax i hi=>?_,λ p C hc=>?_⟩,x,λ a ao=>?_⟩
 ·exact eT.2 ⟨(aL6 m).2,c.iV,λ a ao b ag e=>d a ao (e▸ag)⟩
 ·rw[<-B];by_cases l:j<O.length
  ·have e1:(O++order k h Y roots)[j]=O[j]:=List.getElem_append_left l;have e2:bk h.wO (h.ai+1).toNat ((O++order k h Y roots).take j)=O[j].toNat:=by rw[jt (by omega)];have:=I6 (W:=h.wO) (t:=(h.ai+1).toNat) l;rw[w,aR l]at this;have:=ee this;omega
   rw[e1]at hi⊢;rw[e2];exact f.c' _ (fa l) i hi
  ·have D:j-O.length<(order k h Y roots).length:=by rw[dj]at ax;omega
   have e1:(O++order k h Y roots)[j]=(order k h Y roots)[j-O.length]:=List.getElem_append_right (by omega);have e2:bk h.wO (h.ai+1).toNat ((O++order k h Y roots).take j)=bk h.wO t0 ((order k h Y roots).take (j-O.length)):=by rw[j4,hp (by omega),JK,n]
   rw[e1]at hi⊢;rw[e2];exact f.new _ D i hi
 ·rw[s]at hc;exact f.fr p C hc
 ·rcases cg.1 ao with ao |ao;exact fw _ ao;exact eS _ (c.sub a ao)
end
section
variable{F:Nat}{h x:aP}{k:aN}{Y O L roots:List Int}
theorem ab'{W:List Int}{a v:Int}:v∈cW k W a↔(true,v)∈cells k W a.toNat:=by refine⟨λ h=>?_,awP⟩;obtain⟨w,b,rfl⟩:=ho.1 h;obtain⟨i,c,J,rfl⟩:=uG.1 b;unfold cells;exact ho.2 ⟨i,j3.2 c,by rw[J,bR]⟩
theorem f_.cW(g:I.Good F h k Y O)(c:f_ h k L x)(aj:∀a∈L,a∈Y++O){a:Int}(f:a∈L){v:Int}:v∈Go.Proofs.YteeliipnilghaaaGreat.cW k x.wO (tn h L a)↔∃u∈Go.Proofs.YteeliipnilghaaaGreat.cW k h.wO a,v=tn h L u:=by rw[ab',(c.cells g aj a f).2.2.2,ho];constructor;rintro⟨⟨b,u⟩,d,e⟩;simp only[cI]at e;obtain⟨rfl,e⟩:=e;rw[lz rfl]at e;exact⟨u,ab'.2 d,e.symm⟩;rintro⟨u,d,rfl⟩;exact⟨(true,u),ab'.1 d,by rw[lz rfl]⟩
theorem f_.sz(g:I.Good F h k Y O)(c:f_ h k L x)(aj:∀a∈L,a∈Y++O){a:Int}(b:a∈L):Go.Proofs.YteeliipnilghaaaGreat.sz x.wO (tn h L a)=Go.Proofs.YteeliipnilghaaaGreat.sz h.wO a:=by unfold Go.Proofs.YteeliipnilghaaaGreat.sz;rw[(c.cells g aj a b).2.1]
theorem am4(c:f_ h k L x)(e:∀v∈roots,v=0\/v∈L):∀a∈gS k h Y O roots,a∈L:=Sl ⟨λ v b d=>(e v b).resolve_left d,λ a f v b d=>(c.cl a f v b).resolve_left d⟩
theorem f_.Sy(g:I.Good F h k Y O)(c:f_ h k L x)(aj:∀a∈L,a∈Y++O)(b:∀v∈roots,v=0\/v∈L):∀v∈roots.map (tn h L),v=0\/v∈[]++news h.wO (h.ai+1).toNat L:=λ v d=>by obtain⟨w,f,rfl⟩:=ho.1 d;rcases b w f with e |e;rw[e,NN];exact .inl rfl;exact .inr (acE c.iV ((c.inj g aj).acs w e) e).1
theorem aJ9(g:I.Good F h k Y O)(c:f_ h k L x)(aj:∀a∈L,a∈Y++O)(j:∀v∈roots,v=0\/v∈L){b:Int} :
 b∈gS k x [] (news h.wO (h.ai+1).toNat L) (roots.map (tn h L))↔∃a∈gS k h Y O roots,b=tn h L a:=by
 have n:=c.Xn g aj
 have hi:=c.inj g aj
 have o:∀a∈gS k h Y O roots,a∈L:=am4 c j
 have l:OQ k h.wO roots (·∈gS k h Y O roots):=Sk g λ v d=>(j v d).imp id (aj v)
 have m:OQ k x.wO (roots.map (tn h L)) (·∈gS k x [] (news h.wO (h.ai+1).toNat L) (roots.map (tn h L))):=Sk n (c.Sy g aj j)
 constructor
 ·refine Sl (P:=λ b=>∃a∈gS k h Y O roots,b=tn h L a) ⟨λ v d f=>?_,λ b ag v d f=>?_⟩ b;obtain⟨w,p,rfl⟩:=ho.1 d;exact⟨w,l.rt w p λ e=>f (by rw[e,NN]),rfl⟩;obtain⟨a,i,rfl⟩:=ag;obtain⟨u,q,rfl⟩:=(c.cW g aj (o a i)).1 d;exact⟨u,l.hE a i u q λ e=>f (by rw[e,NN]),rfl⟩
 ·rintro⟨a,i,rfl⟩;refine(Sl (P:=λ a=>a∈L/\tn h L a∈gS k x [] (news h.wO (h.ai+1).toNat L) (roots.map (tn h L))) ⟨λ v d f=>?_,λ a i v d f=>?_⟩ a i).2;have ev:=(j v d).resolve_left f;exact⟨ev,m.rt _ (jq d) (hi.hl v ev f)⟩;have ev:=(c.cl a i.1 v d).resolve_left f;exact⟨ev,m.hE _ i.2 _ ((c.cW g aj i.1).2 ⟨v,d,rfl⟩) (hi.hl v ev f)⟩
theorem alf{W S:List Int}:gQ W [] S=(S.map (sz W)).sum:=by have a:=I4 (W:=W) (S:=S) (t:=0);have J:=acJ (W:=W) (o:=S) (t:=0);omega
theorem aD4(g:I.Good F h k Y O)(c:f_ h k L x)(aj:∀a∈L,a∈Y++O)(j:∀v∈roots,v=0\/v∈L) :
 gQ x.wO [] (kept k x [] (news h.wO (h.ai+1).toNat L) (roots.map (tn h L)))=gQ h.wO [] (kept k h Y O roots):=by
 have o:=c.Xn g aj
 have hi:=c.inj g aj
 have l:∀v∈roots,v=0\/v∈Y++O:=λ v p=>(j v p).imp id (aj v)
 have f:=c.Sy g aj j
 have m:=FP g l
 have n:=FP o f
 have i:∀a∈kept k h Y O roots,a∈L:=λ a d=>am4 (Y:=Y) (O:=O) c j a ((yZ (sV g l).sub).1 d)
 have q:((kept k h Y O roots).map (tn h L)).Nodup:=List.pairwise_map.2 (ke (λ{a b} d ag r e=>r (hi.inj a (i a d) b (i b ag) (hi.acs a (i a d)) (hi.acs b (i b ag)) e)) m.iV)
 have s:(kept k x [] (news h.wO (h.ai+1).toNat L) (roots.map (tn h L))).Perm ((kept k h Y O roots).map (tn h L)):=(jJ n.iV q).2 λ b=>by rw[yZ (sV o f).sub,aJ9 g c aj j,ho];exact⟨λ⟨a,d,e⟩=>⟨a,(yZ (sV g l).sub).2 d,e.symm⟩,λ⟨a,d,e⟩=>⟨a,(yZ (sV g l).sub).1 d,e.symm⟩⟩
 rw[alf,alf,(s.map _).sum_nat,lq]
 congr 1
 exact j1 λ a d=>c.sz g aj (i a d)
theorem f_.ow(g:I.Good F h k Y O)(c:f_ h k L x)(aj:∀a∈L,a∈Y++O)(i:roots.length<=1000)(b:∀v∈roots,v=0\/v∈L):I.ow [] (news h.wO (h.ai+1).toNat L) (roots.map (tn h L))=0:=by unfold I.ow;rw[ly (by rw[gJ];omega),ly];intro d;obtain⟨v,f,ag⟩:=h6.1 d;unfold x3 at ag;rcases c.Sy g aj b v f with e |e;rw[lu e]at ag;cases ag;rw[lu e,c7,Bool.and_false]at ag;cases ag
end
abbrev zs(k:aN)(h:aP)(Y O l:List Int):Nat:=gQ h.wO [] (kept k h Y O l)
inductive vB (F:Nat) (k:aN) (h:aP) (Y O roots:List Int):aP->List Int->List Int->List Int->Prop
 |refl:vB F k h Y O roots h Y O roots
 |step {x fu:aP} {mT mR l L:List Int}:vB F k h Y O roots x mT mR l->I.Good F x k mT mR->f_ x k L fu->(∀a∈L,a∈mT++mR)->(∀v∈l,v=0\/v∈L)->vB F k h Y O roots fu [] (news x.wO (x.ai+1).toNat L) (l.map (tn x L))
section
variable{F:Nat}{k:aN}{h x:aP}{Y O mT mR roots l:List Int}
theorem vB.all(aK:vB F k h Y O roots x mT mR l)(g:I.Good F h k Y O)(d:∀v∈roots,v=0\/v∈Y++O) :
 I.Good F x k mT mR/\l.length=roots.length/\(∀v∈l,v=0\/v∈mT++mR)/\x.ai=h.ai/\x.az=h.az/\x.Next=h.Next/\x.wO.length=h.wO.length/\zs k x mT mR l=zs k h Y O roots:=by
 induction aK with
 |refl=>exact⟨g,rfl,d,rfl,rfl,rfl,rfl,rfl⟩
 | @step x fu mT mR l L _ a c aj b e=>obtain⟨_,f,o,i,j,m,n,i8⟩:=e;exact⟨c.Xn a aj,by rw[gJ,f],c.Sy a aj b,c.y.trans i,c.o.trans j,c.nx.trans m,c.len.trans n,(aD4 a c aj b).trans i8⟩
end
section
variable{F:Nat}{k:aN}{h x:aP}{Y O:List Int}
theorem ah'(a:10000<F)(g:I.Good F h k Y O){l:List Int}(b:l.length<=1000)(c:∀v∈l,v=0\/v∈Y++O) :
 (h.az<(zs k h Y O l:Int)->Br F k.aV k.aT k.Fields k.Names k.aU (gr l.length) h.wO h.ai h.az h.aI h.aD h.aJ h.Next l=some (.inr ((false,()),h4 h,l,()))/\
  r4 F h.wO h.ai h.az h.aI h.aD h.aJ h.Next k.aV k.aT k.Fields k.Names k.aU l=some ((h4 h,l,false,()),()))/\
 (¬h.az<(zs k h Y O l:Int)->∃x,f_ h k (kept k h Y O l) x/\
  Br F k.aV k.aT k.Fields k.Names k.aU (gr l.length) h.wO h.ai h.az h.aI h.aD h.aJ h.Next l=some (.inl ((true,()),((),(h4 x).2),l.map (tn h (kept k h Y O l)),x.wO,()))/\
  r4 F h.wO h.ai h.az h.aI h.aD h.aJ h.Next k.aV k.aT k.Fields k.Names k.aU l=some ((h4 x,l.map (tn h (kept k h Y O l)),true,()),())):=by
 obtain⟨e,f⟩:=azV a g b c
 obtain⟨i,j⟩:=awN a g b c
 refine⟨λ hc=>⟨?_,i hc⟩,λ hc=>?_⟩
 ·rw[anl,e hc];rfl
 ·obtain⟨_,Z,m,d⟩:=f hc;obtain⟨n,o,p⟩:=j hc;obtain rfl:Z=n:=d.w_ p;refine⟨_,d,?_,o⟩;rw[anl,m];rfl
theorem aPE(i:10000<F)(g:I.Good F h k Y O){l:List Int}(E:l.length<=1000)(b:∀v∈l,v=0\/v∈Y++O)(t:0<=h.ai+h.az+1-h.aD- (h.aI-1)) :
 ∃x L,f_ h k L x/\(∀a∈L,a∈Y++O)/\(∀v∈l,v=0\/v∈L)/\
  An F k.aV k.aT k.Fields k.Names k.aU (gr l.length) h.ai h.az h.aI h.aD h.aJ h.Next h.wO l=some ((),((),(h4 x).2),x.wO,l.map (tn h L),())/\
  D2 F h.wO h.ai h.az h.aI h.aD h.aJ h.Next k.aV k.aT k.Fields k.Names k.aU l=some ((h4 x,l.map (tn h L),()),()):=by
 obtain⟨⟨⟨G,H⟩,J,K⟩,M,⟨N,P⟩,⟨jh,Q⟩,R⟩:=id g.s
 obtain⟨t0,e⟩:∃t0:Nat,h.aD=(t0:Int):=⟨h.aD.toNat,by omega⟩
 have j:h.aD.toNat=t0:=by omega
 have f:∀m,Ord Y m->bk h.wO t0 m<=h.wO.length:=λ m u=>by rw[<-j];exact aKj g u t
 have d:=RT g b
 obtain⟨W,D,n,w,gD,mA,y⟩:=run_eq i g e f (roots:=l) (by omega) b
 have o:=aD5 g e d (f _ d) w gD mA y
 obtain⟨c,z,aj⟩:=aw3 g e b (f _ d) o
 obtain⟨Z,p,A,q,r,s⟩:=aJ' i g d (roots:=l) (by omega) (by rw[j];exact f _ d)
 rw[j]at p q r s
 have B:W=Z:=aKV g e o A q r s
 subst B
 have C:l.map (df (order k h Y l) (news h.wO t0 (order k h Y l)))=l.map (tn h (O++order k h Y l)):=j1 λ v _=>z v
 have e2:=(axp i g g.I8 (by omega) b).trans p
 rw[C]at n e2
 exact⟨_,_,c,aj,(akf g b).2,n,e2⟩
end
section
variable{F:Nat}{k:aN}{h x:aP}{Y O mT mR roots l:List Int}
set_option maxHeartbeats 2000000
theorem aK_(w:10000<F)(g:I.Good F h k Y O)(D:roots.length<=1000)(b:∀v∈roots,v=0\/v∈Y++O){tag len:Int}(f:isLen k tag len=true) :
 ∃x mT mR l,vB F k h Y O roots x mT mR l/\
  ((∃c',¬pQ x c'<lT x c'+(3+len)/\
    Bo F k.aV k.aT k.Fields k.Names k.aU (gr roots.length) tag len h.ai h.az h.aI h.aD h.aJ h.Next h.wO roots=some ((lT x c',true,()),h4 (lP x tag len c'),(),l,())/\
    Et F h.wO h.ai h.az h.aI h.aD h.aJ h.Next k.aV k.aT k.Fields k.Names k.aU roots tag len=some ((h4 (lP x tag len c'),l,lT x c',true,()),()))\/
  (h.az<(zs k h Y O roots:Int)+(3+len)/\
   Bo F k.aV k.aT k.Fields k.Names k.aU (gr roots.length) tag len h.ai h.az h.aI h.aD h.aJ h.Next h.wO roots=some ((0,false,()),h4 x,(),l,())/\
   Et F h.wO h.ai h.az h.aI h.aD h.aJ h.Next k.aV k.aT k.Fields k.Names k.aU roots tag len=some ((h4 x,l,0,false,()),()))):=by
 obtain⟨⟨l0,l1⟩,_⟩:=jz.1 f
 have j:∀ {x:aP}{mT mR:List Int},I.Good F x k mT mR->∀c',qV (⟨x.wO,x.ai,x.az,x.aI,x.aD,x.aJ,x.Next⟩:aP) tag len c'=some (if pQ x c'<lT x c'+(3+len)then(0,false,x)else(lT x c',true,lP x tag len c')):=λ a c'=>aHM a f c'
 have m:∀ {x:aP}{mT mR:List Int},I.Good F x k mT mR->∀c',pI F x.wO x.ai x.az x.aI x.aD x.aJ x.Next tag len c'=_:=λ a c'=>aFU a f c'
 have G:∀x:aP,lP x tag len true=⟨(lP x tag len true).wO,x.ai,x.az,(lP x tag len true).aI,(lP x tag len true).aD,x.aJ,(lP x tag len true).Next⟩:=λ x=>rfl
 have H:∀x:aP,lP x tag len false=⟨(lP x tag len false).wO,x.ai,x.az,(lP x tag len false).aI,(lP x tag len false).aD,x.aJ,(lP x tag len false).Next⟩:=λ x=>rfl
 have tight:∀ {z x:aP}{n o L l:List Int},vB F k h Y O roots z n o l->L=kept k z n o l->f_ z k L x->pQ x true<lT x true+(3+len)->h.az<(zs k h Y O roots:Int)+(3+len):=λ{z x n o L l} aK e c hc=>by obtain⟨r,_,_,Q,R,_,_,T⟩:=aK.all g b;have hc:x.ai+x.az+1<x.aD+(3+len):=hc;obtain⟨⟨⟨U,V⟩,X,Z⟩,_⟩:=id r.s;have d:=c.ot;have J:=c.y;have i:=c.o;have K:=I4 (W:=z.wO) (S:=L) (t:=(z.ai+1).toNat);rw[e]at K;rw[e]at d;have c6:zs k z n o l=gQ z.wO [] (kept k z n o l):=rfl;omega
 unfold Bo Et
 rw[j g false,m g false,ae,ae]
 by_cases p:pQ h false<lT h false+(3+len)
 ·rw[lz p,lz p];dsimp only[h4];rw[lK,lK,left_eq g,aFs g];by_cases E:h.ai+h.az+1-h.aD- (h.aI-1)<0
  ·rw[lu E,c7,lK,lA];obtain⟨s,u⟩:=ah' w g D b;by_cases hc:h.az<(zs k h Y O roots:Int);obtain⟨e1,e2⟩:=s hc;refine⟨h,Y,O,roots,.refl,.inr ⟨by omega,?_,?_⟩⟩;rw[e1];rfl;rw[e2];rfl
   ·obtain⟨x,c,e1,e2⟩:=u hc;have aK:vB F k h Y O roots x [] _ (roots.map (tn h (kept k h Y O roots))):=.step .refl g c (FP g b).sub (QZ g b).2;have a:=(aK.all g b).1;rw[e1,e2];dsimp only[h4,dd];rw[c7,lK,j a false,ae,ae];dsimp only[h4];rw[c7,lK,m a false,ae];by_cases d:pQ x false<lT x false+(3+len)
    ·rw[lz d,lz d];dsimp only[h4];rw[lK,hF,lA,j a true,ae,m a true,ae];by_cases J:pQ x true<lT x true+(3+len)
     ·rw[lz J,lz J];dsimp only[h4];rw[lK,lK,lA,lA];exact⟨x,_,_,_,aK,.inr ⟨tight .refl rfl c J,rfl,rfl⟩⟩
     ·rw[ly J,ly J];exact⟨x,_,_,_,aK,.inl ⟨true,J,rfl,rfl⟩⟩
    ·rw[ly d,ly d];exact⟨x,_,_,_,aK,.inl ⟨false,d,rfl,rfl⟩⟩
  ·rw[lx E,hF,lA,lK];obtain⟨x,L,c,aj,y,e1,e2⟩:=aPE w g D b (by omega);have aK:vB F k h Y O roots x [] _ (roots.map (tn h L)):=.step .refl g c aj y;have a:=(aK.all g b).1;have M:(roots.map (tn h L)).length=roots.length:=gJ _;rw[e1,e2,ae,ae];dsimp only[h4];rw[j a false,ae,m a false,ae];by_cases d:pQ x false<lT x false+(3+len)
   ·rw[lz d,lz d];dsimp only[h4];rw[lK,hF,lA,j a true,ae,m a true,ae];by_cases J:pQ x true<lT x true+(3+len)
    ·rw[lz J,lz J];dsimp only[h4];rw[lK,lK,lK,lK];obtain⟨s,u⟩:=ah' w a (l:=roots.map (tn h L)) (by omega) (aK.all g b).2.2.1;rw[M]at s u;by_cases hc:x.az<(zs k x [] (news h.wO (h.ai+1).toNat L) (roots.map (tn h L)):Int);obtain⟨A,B⟩:=s hc;have N:=(aK.all g b).2.2.2.2.2.2.2;have P:=(aK.all g b).2.2.2.2.1;refine⟨x,_,_,_,aK,.inr ⟨by omega,?_,?_⟩⟩;rw[A];rfl;rw[B];rfl
     ·obtain⟨z,q,A,B⟩:=u hc;have C:vB F k h Y O roots z [] _ _:=.step aK a q (FP a (aK.all g b).2.2.1).sub (QZ a (aK.all g b).2.2.1).2;have r:=(C.all g b).1;rw[A,B];dsimp only[h4,dd];rw[c7,lK,j r true,ae,ae];dsimp only[h4];rw[c7,lK,m r true,ae];by_cases i:pQ z true<lT z true+(3+len)
      ·rw[lz i,lz i];exact⟨z,_,_,_,C,.inr ⟨tight aK rfl q i,rfl,rfl⟩⟩
      ·rw[ly i,ly i];exact⟨z,_,_,_,C,.inl ⟨true,i,rfl,rfl⟩⟩
    ·rw[ly J,ly J];exact⟨x,_,_,_,aK,.inl ⟨true,J,rfl,rfl⟩⟩
   ·rw[ly d,ly d];exact⟨x,_,_,_,aK,.inl ⟨false,d,rfl,rfl⟩⟩
 ·rw[ly p,ly p];exact⟨h,Y,O,roots,.refl,.inl ⟨false,p,rfl,rfl⟩⟩
end
def yi(k:aN)(tag len:Int):Int:=if fb k tag=true then(if isLen k tag len=true then 0 else 3)else 7
section
variable{F:Nat}{k:aN}{h:aP}{Y O roots:List Int}{tag len:Int}
theorem azG(h:yi k tag len=0):isLen k tag len=true:=by
 unfold yi at h;cases a:fb k tag with
 |false=>rw[a,ly (by decide)]at h;exact absurd h (by decide)
 |true=>
  cases J:isLen k tag len with
  |false=>rw[a,J,lz rfl,ly (by decide)]at h;exact absurd h (by decide)
  |true=>rfl
theorem azY{r:Option bp×Int}(e:mj F h k=some r)(a:r.1=none)(J:r.2≠0) :
 vY F h.wO h.ai h.az h.aI h.aD h.aJ h.Next k.aV k.aT k.Fields k.Names k.aU roots tag len=some ((([],0,0,0,0,[],0,()),[],0,false,r.2,()),()):=by
 unfold vY
 rw[azF e a J]
 dsimp only[dd]
 rw[lx J,lK,hF,lA]
theorem az1(a:10000<F)(g:I.Good F h k Y O)(b:ow Y O roots≠0) :
 vY F h.wO h.ai h.az h.aI h.aD h.aJ h.Next k.aV k.aT k.Fields k.Names k.aU roots tag len=some ((([],0,0,0,0,[],0,()),[],0,false,ow Y O roots,()),()):=by
 unfold vY
 rw[Wh a g]
 dsimp only[dd]
 rw[lx b,lK,hF,lA]
theorem azZ(a:10000<F)(g:I.Good F h k Y O)(b:ow Y O roots=0)(c:yi k tag len≠0) :
 vY F h.wO h.ai h.az h.aI h.aD h.aJ h.Next k.aV k.aT k.Fields k.Names k.aU roots tag len=some ((([],0,0,0,0,[],0,()),[],0,false,yi k tag len,()),()):=by
 have d:BC (b4.mk (aN.mk k.aV k.aT k.Fields k.Names k.aU)) tag len=some (yi k tag len):=ah3 g tag len
 unfold vY
 rw[Wh a g]
 dsimp only[dd]
 rw[b,lu (rfl:(0 :Int)=0),lA,d,ae,lx c,hF,lA]
theorem az0(c:10000<F)(g:I.Good F h k Y O)(d:ow Y O roots=0)(f:yi k tag len=0){H:aP}{l:List Int}{at_:Int}{ok:Bool}
 (e:Bo F k.aV k.aT k.Fields k.Names k.aU (gr roots.length) tag len h.ai h.az h.aI h.aD h.aJ h.Next h.wO roots=some ((at_,ok,()),h4 H,(),l,())) :
 vY F h.wO h.ai h.az h.aI h.aD h.aJ h.Next k.aV k.aT k.Fields k.Names k.aU roots tag len=some ((h4 H,l,at_,ok,0,()),()):=by
 have i:BC (b4.mk (aN.mk k.aV k.aT k.Fields k.Names k.aU)) tag len=some (yi k tag len):=ah3 g tag len
 obtain⟨j,m⟩:=anc d
 have a:nh (⟨h.wO,h.ai,h.az,h.aI,h.aD,h.aJ,h.Next⟩:aP)=_:=aHo g
 have Pt:bE 8 [] roots=some roots:=im (by simp;omega)
 have b:I.rV F (roots.length:Int)=_:=aHC (by omega) c
 unfold vY
 rw[Wh c g]
 dsimp only[dd]
 rw[d,lu (rfl:(0 :Int)=0),lA,i,ae,f,lu (rfl:(0 :Int)=0),c7,lK,a,ae,Pt,ae,b,ae,e,ae]
theorem ak1{c':Bool}:(lP h tag len c').wO.length=h.wO.length/\(lP h tag len c').aJ=h.aJ:=by cases c'<;>exact⟨by simp[lP],rfl⟩
end
theorem ai1{F:Nat}{e:Int}{x w:aP}(ad:e=0 ->Small F x.wO.length/\Small F x.aJ.length)(b:0<F)(ex:x=if e=0 then w else(⟨[],0,0,0,0,[],0⟩:aP)):ma F x e e w=some true:=by
 unfold ma;by_cases a:e=0
 ·rw[lz a]at ex;subst ex;rw[a,show decide ((0 :Int)=0)=true from rfl,c7,lK,ae];have:=ans (F:=F) (h:=x) (ad a).1 (ad a).2;show cond (decide ((0 :Int)=0)) ((Em F x x).bind _) _=_
  rw[this];rfl
 ·rw[ly a]at ex;subst ex;rw[lx a,hF,lA,ae];have:=ans (F:=F) (h:=(⟨[],0,0,0,0,[],0⟩:aP)) ⟨by simp,by simpa using b⟩ ⟨by simp,by simpa using b⟩;show cond (decide (e=e)) ((Em F (⟨[],0,0,0,0,[],0⟩:aP) (⟨[],0,0,0,0,[],0⟩:aP)).bind _) _=_
  rw[this,lu rfl];rfl
theorem Z7{F:Nat}(b:0<F)(e:Int)(a:e≠0)(w:aP):ma F (⟨[],0,0,0,0,[],0⟩:aP) e e w=some true:=ai1 (λ q=>absurd q a) b (by rw[ly a])
theorem Z6{F:Nat}(a:0<F):ka F [] []=some true:=SB ⟨by simp,by simpa using a⟩
theorem aHE(h:aP)(q:afd Go.reachBytes h)(k:aN)(w:OX Go.reachBytes k)(roots:List Int)(_:roots.length*8<=Go.reachBytes/\∀x∈roots,aw.jK x)(tag:Int)(_:aw.jK tag)(len:Int)(_:aw.jK len) :
 ∃F,Hr F h.wO h.ai h.az h.aI h.aD h.aJ h.Next k.aV k.aT k.Fields k.Names k.aU roots tag len=some ((true,()),()):=by
 refine⟨140737488355940+60,?_⟩
 have a:10000<140737488355940+60:=by omega
 have n:=awT w
 have s:Small (140737488355940+60) h.aJ.length:=rD 7 q.2.2.2.2.2.1.1
 generalize i:(140737488355940+60 :Nat)=F at a s⊢
 have n:∃e,rb F k=some e/\xS F k=some e/\(e≠0\/(e=0/\gM k)):=by rw[<-i];exact n
 clear i
 obtain⟨r,e1,e2,hc⟩:=aHh a n s q.2.2.2.2.2.2.2
 have b:0<F:=by omega
 unfold Hr
 rcases hc with⟨c1,c2⟩|⟨Y,O,g,rfl⟩
 ·have d:tx F (⟨h.wO,h.ai,h.az,h.aI,h.aD,h.aJ,h.Next⟩:aP) (⟨k.aV,k.aT,k.Fields,k.Names,k.aU⟩:aN) roots=_:=aHk roots e2 c1;rw[azY e1 c2 c1,ae,d,ae,lx c1,lK,lK];dsimp only;rw[Z7 b _ c1,ae,lA,Z6 b,ae];rfl
 ·have e2:r5 F h k=some 0:=e2;have d:tx F (⟨h.wO,h.ai,h.az,h.aI,h.aD,h.aJ,h.Next⟩:aP) (⟨k.aV,k.aT,k.Fields,k.Names,k.aU⟩:aN) roots=_:=aHj a g roots e2;by_cases c:ow Y O roots=0
  ·rw[c]at d;have o:HA F k.aV k.aT k.Fields k.Names k.aU tag len=some ((yi k tag len,()),()):=azH g tag len;obtain⟨y,t⟩:=anc c;by_cases f:yi k tag len=0
   ·rw[f]at o
    have key:∀(H:aP)(l:List Int)(at_:Int)(ok:Bool),H.wO.length=h.wO.length->H.aJ.length<=5000 ->l.length=roots.length ->
     Bo F k.aV k.aT k.Fields k.Names k.aU (gr roots.length) tag len h.ai h.az h.aI h.aD h.aJ h.Next h.wO roots=some ((at_,ok,()),h4 H,(),l,()) ->
     Et F h.wO h.ai h.az h.aI h.aD h.aJ h.Next k.aV k.aT k.Fields k.Names k.aU roots tag len=some ((h4 H,l,at_,ok,()),())->Hr F h.wO h.ai h.az h.aI h.aD h.aJ h.Next k.aV k.aT k.Fields k.Names k.aU roots tag len=some ((true,()),()):=λ H l at_ ok A B C j m=>by
     have D:=g.s.eZ
     have ad:ma F (⟨H.wO,H.ai,H.az,H.aI,H.aD,H.aJ,H.Next⟩:aP) 0 0 (⟨H.wO,H.ai,H.az,H.aI,H.aD,H.aJ,H.Next⟩:aP)=some true:=ai1 (λ _=>⟨⟨by show H.wO.length<=_;omega,by show H.wO.length<_;omega⟩,⟨by show H.aJ.length<=_;omega,by show H.aJ.length<_;omega⟩⟩) b (by rw[lz rfl])
     unfold Hr
     rw[az0 a g c f j,ae,d,ae,lu (rfl:(0 :Int)=0),lA,o,ae]
     dsimp only
     rw[lu (rfl:(0 :Int)=0),lA,m,ae]
     dsimp only[h4]
     rw[ad,ae,lA,SB ⟨by omega,by omega⟩,ae,lu (rfl:at_=at_),beq_self_eq_true]
     rfl
    obtain⟨x,mT,mR,l,aK,p⟩:=aK_ a g y t (azG f);obtain⟨z,u,_,_,_,_,v,_⟩:=aK.all g t;have wo:=z.I8;rcases p with⟨c',_,j,m⟩|⟨_,j,m⟩;exact key _ l _ _ (ak1.1.trans v) (by rw[ak1.2];exact wo) u j m;exact key x l _ _ v wo u j m
   ·rw[azZ a g c f,ae,d,ae,lu (rfl:(0 :Int)=0),lA,o,ae];dsimp only;rw[lx f,lK,Z7 b _ f,ae,lA,Z6 b,ae];rfl
  ·rw[az1 a g c,ae,d,ae,lx c,lK,lK];dsimp only;rw[Z7 b _ c,ae,lA,Z6 b,ae];rfl
end Go.Proofs.YteeliipnilghaaaGreat
namespace Go.Proofs.YteeliipnilghaaaGreat.fullSpaces
open Go Go.ChangeShapes Go.WideShapes Go.ChangeAt Go.RowKit
theorem own:ownKnob Tryz.prog.godebug=none:=by kernel_rfl
set_option maxRecDepth 100000 in
theorem aw1(H:Type)(enc:TypeId×Value->H)(W:World)(base:Nat)(args:Array Value)(ds gs:List (DataW H))(before:List MemPlace)
 (d:∀(j:Nat) t v,Tryz.f7.params[j]? =some t->args[j]? =some v->Value.okWide Tryz.prog W .any base t v)
 (o:DataW.Whole enc Tryz.prog Tryz.f7.params.toList Rows.fullSpacesSpec.vars false W args.toList ds gs before)(QB:∀n∈DataW.weightsEach Tryz.prog Tryz.f7.params.toList ds,n<=reachBytes) :
 Calls Tryz.prog 7 args W λ e cN=>∃v,e= .returned v/\Rows.fullSpacesSpec.post enc Tryz.prog Tryz.f7 false true false false W args v cN:=by
 have s:=o
 have u:=o.lt
 obtain⟨p,q,w,sl,y,sr,jy⟩:=o
 have cR:DataW.TrodAll enc Tryz.prog W 0 (λ _=>true) true Tryz.f7.params.toList args.toList ds p:=w
 have h:=QB
 rw[Tryz.params7]at cR d h
 obtain⟨v0,aLN,a,aP5,h9,aQV,XA,rfl,rfl,aH,z⟩:=trodAll_cons cR
 obtain⟨v1,aQ8,b,aP6,cO,bh,rfl,rfl,rfl,h1,A⟩:=trodAll_cons z
 obtain⟨v2,aQ9,f,aP7,ef,bs,rfl,rfl,rfl,J,B⟩:=trodAll_cons A
 obtain⟨v3,aLO,d3,aP8,eI,bL,rfl,rfl,rfl,aq,C⟩:=trodAll_cons B
 obtain⟨v4,aQ_,d4,aP9,iC,eL,rfl,rfl,rfl,a6,D⟩:=trodAll_cons C
 obtain⟨rfl,rfl,rfl⟩:=trodAll_nil D
 obtain rfl:args= #[v0,v1,v2,v3,v4]:=by cases args;simp_all
 obtain⟨rfl,rfl⟩:=trodVars_none sl
 have G:=aJV (enc:=enc) (N:=reachBytes)
 have I:=aw.U2 G aH (λ x ad=>u x (by subst y;simp[ad]))
 have K:=I (λ m g=>h m (by simp only[DataW.weightsEach,cg];simp[g]))
 obtain⟨a,fK,jA⟩:=K
 obtain⟨v0,rfl,_⟩:=okWide_struct Tryz.underlying24 (d 0 24 v0 rfl rfl)
 obtain⟨aPH,aPV,aPI,aPW,b8,L,M⟩:=fK
 obtain rfl:=aw.afm b8
 have O:=aJW (enc:=enc) (N:=reachBytes)
 have P:=aw.U2 O h1 (λ x ad=>u x (by subst y;simp[ad]))
 have Q:=P (λ m g=>h m (by simp only[DataW.weightsEach,cg];simp[g]))
 obtain⟨b,b7,bj⟩:=Q
 obtain⟨v1,rfl,_⟩:=okWide_struct Tryz.underlying30 (d 1 30 v1 rfl rfl)
 obtain⟨aPJ,aPX,aPK,aPY,aPL,aPZ,aPM,aP0,aPN,aP1,e1,R,S,T,U,V⟩:=b7
 obtain rfl:=aw.afm e1
 have X:=Sj (enc:=enc) (N:=reachBytes)
 have Y:=aw.U2 X J (λ x ad=>u x (by subst y;simp[ad]))
 have Z:=Y (λ m g=>h m (by simp only[DataW.weightsEach,cg];simp[g]))
 obtain⟨f,cV,bd⟩:=Z
 obtain⟨a2,qd,c2,rfl⟩:=okWide_slice Tryz.underlying22 (d 2 22 v2 rfl rfl)
 obtain⟨dq,aeP,e2⟩:=aw.pb cV
 obtain⟨rfl,rfl,rfl⟩:=Value.slice.inj (eO e2).1
 obtain⟨i,rfl,cf⟩:=aw.aft Tryz.underlying3 (d 3 3 v3 rfl rfl) aq
 obtain⟨l,rfl,dl⟩:=aw.aft Tryz.underlying3 (d 4 3 v4 rfl rfl) a6
 obtain⟨F,aB⟩:=Go.Proofs.YteeliipnilghaaaGreat.aHE a jA b bj f bd i cf l dl
 have c:∀k,aw.jb [] W k->k<W.heap.size/\W.heap[k]? =W.heap[k]? :=λ k hk=>⟨hk.2,rfl⟩
 have hh:((Y8 F).run aE [.a [.s 3 a.wO,.p (.int .i64 a.ai),.p (.int .i64 a.az),.p (.int .i64 a.aI),.p (.int .i64 a.aD),.s 3 a.aJ,.p (.int .i64 a.Next)],.a [.s 134 b.aV,.s 3 b.aT,.s 124 b.Fields,.s 120 b.Names,.s 121 b.aU],.s 3 f,.p (.int .i64 i),.p (.int .i64 l)] [])= .op (Hr F a.wO a.ai a.az a.aI a.aD a.aJ a.Next b.aV b.aT b.Fields b.Names b.aU f i l) λ r=>.ok ⟨.ret (.p (.bool r.1.1)),[],[]⟩:=by kernel_rfl
 refine(a7.aFq (E:=aE) rfl (awy F) (ys:=[.a [.s 3 a.wO,.p (.int .i64 a.ai),.p (.int .i64 a.az),.p (.int .i64 a.aI),.p (.int .i64 a.aD),.s 3 a.aJ,.p (.int .i64 a.Next)],.a [.s 134 b.aV,.s 3 b.aT,.s 124 b.Fields,.s 120 b.Names,.s 121 b.aU],.s 3 f,.p (.int .i64 i),.p (.int .i64 l)]) (W:=W) (by rw[hh];exact⟨((true,()),()),aB,rfl⟩) ⟨_,_,rfl,⟨_,rfl,_,_,rfl,a7.jC (λ _ _=>Si) ((aw.b2 _).law c L),_,_,rfl,rfl,_,_,rfl,rfl,_,_,rfl,rfl,_,_,rfl,rfl,_,_,rfl,a7.jC (λ _ _=>Si) ((aw.b2 _).law c M),_,_,rfl,rfl,rfl⟩,_,_,rfl,⟨_,rfl,_,_,rfl,a7.jC (λ _ _=>aJO) ((aw.b2 _).law c R),_,_,rfl,a7.jC (λ _ _=>Si) ((aw.b2 _).law c S),_,_,rfl,a7.jC (λ _ _=>aJL) ((aw.b2 _).law c T),_,_,rfl,a7.jC (λ _ _=>aJJ) ((aw.b2 _).law c U),_,_,rfl,a7.jC (λ _ _=>aJK) ((aw.b2 _).law c V),rfl⟩,_,_,rfl,a7.jC (λ _ _=>Si) ((aw.b2 _).law c cV),_,_,rfl,rfl,_,_,rfl,rfl,rfl⟩).mono λ e cN ⟨he,af⟩=>?_
 exact⟨_,he,aw.aHH s (by kernel_rfl) (by kernel_rfl) rfl rfl Tryz.underlying4 rfl af⟩
theorem aFo(os:Os):laidMet Tryz.prog Rows.fullSpacesRow.laid ((World.holding Tryz.prog os ⟨#[],#[],[]⟩).forCall (λ _ _=>0) ⟨#[],#[.agg #[.slice none 0 0,.int .i64 0,.int .i64 0,.int .i64 0,.int .i64 0,.slice none 0 0,.int .i64 0],.agg #[.slice none 0 0,.slice none 0 0,.slice none 0 0,.slice none 0 0,.slice none 0 0],.slice none 0 0,.int .i64 0,.int .i64 0],[]⟩).memory:=laidMet_of_run' 8 (by kernel_rfl) (by kernel_rfl)
theorem reads(os:Os){H:Type}(enc:TypeId×Value->H):∃places,DataW.whole enc Tryz.prog ((World.holding Tryz.prog os ⟨#[],#[],[]⟩).forCall (λ _ _=>0) ⟨#[],#[.agg #[.slice none 0 0,.int .i64 0,.int .i64 0,.int .i64 0,.int .i64 0,.slice none 0 0,.int .i64 0],.agg #[.slice none 0 0,.slice none 0 0,.slice none 0 0,.slice none 0 0,.slice none 0 0],.slice none 0 0,.int .i64 0,.int .i64 0],[]⟩).memory Tryz.f7.params.toList Rows.fullSpacesSpec.vars false (#[.agg #[.slice none 0 0,.int .i64 0,.int .i64 0,.int .i64 0,.int .i64 0,.slice none 0 0,.int .i64 0],.agg #[.slice none 0 0,.slice none 0 0,.slice none 0 0,.slice none 0 0,.slice none 0 0],.slice none 0 0,.int .i64 0,.int .i64 0]:Array Value).toList 8=some ([.agg [.nil,.lit (.int .i64 0),.lit (.int .i64 0),.lit (.int .i64 0),.lit (.int .i64 0),.nil,.lit (.int .i64 0)],.agg [.nil,.nil,.nil,.nil,.nil],.nil,.lit (.int .i64 0),.lit (.int .i64 0)],[],places):=⟨[],by kernel_rfl⟩
set_option maxRecDepth 100000 in
theorem lifted(os:Os)(a:os.Started)(H:Type)(enc:TypeId×Value->H)(F:Stop.Interp) :
 ReturnsInHanded {} Tryz.checked os 7 .any ((OpenSpec.ofChange Rows.fullSpacesSpec).preRow enc Tryz.prog Tryz.f7 Rows.fullSpacesRow.domain false Rows.fullSpacesRow.laid) (((OpenSpec.ofChange Rows.fullSpacesSpec).at F).post enc Tryz.prog Tryz.f7 false true false false):=by
 obtain⟨places,ad⟩:=reads os enc
 refine returnsInHanded_of_row (C:=Tryz.checked) (s:=OpenSpec.ofChange Rows.fullSpacesSpec) own a (by kernel_rfl) Tryz.func7
  (witness_row_at (enc:=enc) (C:=Tryz.checked) false (World.holding Tryz.prog os ⟨#[],#[],[]⟩) #[.agg #[.slice none 0 0,.int .i64 0,.int .i64 0,.int .i64 0,.int .i64 0,.slice none 0 0,.int .i64 0],.agg #[.slice none 0 0,.slice none 0 0,.slice none 0 0,.slice none 0 0,.slice none 0 0],.slice none 0 0,.int .i64 0,.int .i64 0] rfl (by kernel_rfl) (by kernel_rfl) (by kernel_rfl)
   (OpenSpec.preRow_of_cond 8 ad (by kernel_rfl) (λ k e=>by cases e) (by kernel_rfl) (aFo os))) ?_
 intro W base args ds gs before f c _ g b _ _ _
 exact aw1 H enc W base args ds gs before f c (λ n h=>by obtain⟨_,_,_,sl,_,_,_⟩:=c;obtain⟨rfl,_⟩:=trodVars_none sl;have d:(DataW.weightsEach Tryz.prog (Tryz.f7.params.toList++[]) (ds++[])).all (·<=reachBytes)=true:=b;rw[gH,gH]at d;exact of_decide_eq_true (jM.1 d n h))
theorem said:Rows.FullSpacesSaid:=
 OpenClaim.holds_of_cond 7 Tryz.f7 rfl rfl rfl rfl rfl rfl rfl ⟨rfl,rfl,rfl,rfl,rfl⟩ rfl rfl rfl rfl rfl (by kernel_rfl) Tryz.func7 (by kernel_rfl)
  (of_decide_eq_true (by kernel_rfl)) (by unfold Func.isWrapper;first |(rw[lz (by decide+kernel)];kernel_rfl)|(rw[ly (by decide+kernel)];exact⟨rfl,rfl⟩))
  (λ os a H enc _ F=>by rw[OpenClaim.pre_eq_preRow];exact lifted os a H enc F)
end Go.Proofs.YteeliipnilghaaaGreat.fullSpaces
