/- LAW: THE WALK AND THE PLAIN LAW, JOINED TO THE GIVEN STATEMENT: for every input that the row speaks of, the call returns true and what came in reads as it did. Made by program (liftgen2.py). -/
import Derived.Test.YteeliipnilghaaaGreatGn7
import Derived.Test.YteeliipnilghaaaGreatRows
import Derived.WalkKit
import Derived.ProofKit
import Derived.OpenShut
import Derived.Deep.DeepHandedRow
open Bool renaming and_eq_true->cd,and_false->mT,eq_false_iff->gQ,false_eq_true->hM,not_false->ib,not_true->dS,or_eq_true->h3
open Classical renaming byContradiction->lm
open Int renaming le_refl->k7,toNat_natCast->bV
open List renaming Pairwise.imp_of_mem->lp,all_eq_true->kp,any_eq_true->il,append_assoc->fA,append_nil->hv,cons.inj->fN,cons_append->ih,drop_eq_getElem_cons->de,drop_length->hW,drop_zero->hf,foldl_cons->jn,getElem?_append_left->er,getElem?_append_right->eS,getElem?_eq_getElem->aN,getElem?_eq_none->gH,getElem?_eq_some_iff->aR,getElem?_map->jv,getElem_map->kA,getElem_mem->hj,getElem_of_mem->ie,length->h8,length_append->dM,length_cons->di,length_map->hd,length_nil->gR,length_range->iC,length_replicate->j3,length_set->hg,length_singleton->j4,map_append->jM,map_congr_left->j1,map_cons->ez,map_map->me,map_nil->ig,mem_append->cf,mem_append_left->e8,mem_append_right->fe,mem_cons->cH,mem_cons_of_mem->d_,mem_cons_self->hZ,mem_filter->jt,mem_flatMap->hN,mem_map->hQ,mem_map_of_mem->jS,mem_of_getElem?->bH,mem_of_mem_drop->lW,mem_range->kF,mem_singleton->dV,mergeSort_perm->k0,nil_append->jI,nodup_append->fx,nodup_cons->h4,nodup_iff_pairwise_ne->lf,nodup_nil->mg,pairwise_iff_getElem->i_,pairwise_mergeSort->mo,perm_ext_iff_of_nodup->ke,range->ef,replicate->gk,singleton_append->k9,take_append->k3,take_append_drop->ju,take_append_of_le_length->j5,take_length->jy,take_of_length_le->hS,take_succ_eq_append_getElem->kC,take_zero->mf
open Nat renaming add_assoc->kb,add_zero->j_,le_refl->cP,lt_or_ge->gI,min_eq_left->l2,sub_self->l4,zero_le->gY
open Option renaming bind_some->ae,map_eq_some_iff->cA,map_some->fY,some.inj->eD
open Prod renaming fst->k1,mk.injEq->cB
noncomputable section
namespace Go.Proofs.YteeliipnilghaaaGreat
open I
theorem RC{W:List Int}{t i:Nat}{o:List Int}(hi:i<o.length):bB W t (o.take (i+1))=bB W t (o.take i)+sz W o[i]:=by rw[kC hi,Ih]
theorem RD{W:List Int}{t i:Nat}{o:List Int}:bB W t (o.take i)<=bB W t o:=by
 conv=>rhs;rw[<-ju i o,Ii]
 exact lF
theorem aen{W:List Int}:∀ {o:List Int}{t i m:Nat}(hi:i<o.length),m<sz W o[i]->base W t o (bB W t (o.take i)+m)=wd W (o[i].toNat+m)
 |[],t,i,m,hi,_=>by simp at hi
 |a::r,t,0,m,hi,b=>by
  have b:m<sz W a:=b;show base W t (a::r) (t+m)=wd W (a.toNat+m)
  rw[base,nf (by omega),Nat.add_sub_cancel_left]
 |a::r,t,i+1,m,hi,b=>by
  have c:i<r.length:=by simpa using hi
  have b:m<sz W r[i]:=b;show base W t (a::r) (bB W (t+sz W a) (r.take i)+m)=wd W (r[i].toNat+m)
  have:=lF (W:=W) (o:=r.take i) (t:=t+sz W a);rw[base,nc (by omega)];exact aen c b
theorem agL{W:List Int}{o:List Int}{t i m:Nat}(hi:i<o.length)(a:m<sz W o[i]):fQ W t o (bB W t (o.take i)+m)=wd W (o[i].toNat+m):=by have:=lF (W:=W) (o:=o.take i) (t:=t);unfold fQ;rw[nc (by omega)];exact aen hi a
section
variable{F:Nat}{h:aV}{k:aP}{Y O:List Int}{ol yt nx:Int}{nt:List Int}
theorem aJw(aC:10000<F)(g:I.Good F h k Y O){t0:Nat}(iS:h.aM=(t0:Int))(L:∀dd,Ord Y dd->bB h.Words t0 dd<=h.Words.length) :
 ∀(d i f:Nat)(o:List Int)(D:Nat->Bool)(W':List Int),Y.length<i+d->d<f->i<=o.length->Ord Y o->Inv h.Words h.ak t0 o D W'->(∀p,bB h.Words t0 (o.take i)<=p->D p=false) ->
 ∃fF x,FU F f ((bB h.Words t0 (o.take i):Nat):Int) h.ak ol yt ((bB h.Words t0 o:Nat):Int) nt nx W' k.a1 k.aY k.Fields k.Names k.aZ (o.zip (news h.Words t0 o))=some (((),()),((),h.ak,ol,yt,((bB h.Words t0 (scan k h.Words h.ak d i o):Nat):Int),nt,nx,()),fF,((),k.a1,k.aY,k.Fields,k.Names,k.aZ,(),()),(scan k h.Words h.ak d i o).zip (news h.Words t0 (scan k h.Words h.ak d i o)),())/\
  Inv h.Words h.ak t0 (scan k h.Words h.ak d i o) x fF/\(∃t,scan k h.Words h.ak d i o=o++t)/\
  ∀p,x p=true↔D p=true\/∃(j:Nat)(a:Int),i<=j/\(scan k h.Words h.ak d i o)[j]? =some a/\∃m,m<(wd h.Words (a.toNat+1)).toNat/\en k (wd h.Words a.toNat) m=true/\p=bB h.Words t0 ((scan k h.Words h.ak d i o).take j)+3+m:=by
 intro d
 have ji:=aeW g.fM g
 have GM:=g.s.e1
 induction d with
 |zero=>intro i f o D W' hi ad Kq w;have:=w.len;omega
 |succ d a'=>
  intro i f o D W' aJ ad Kq w hi E;obtain⟨f,rfl⟩:∃bE,f=bE+1:=⟨f-1,by omega⟩
  rcases gI i o.length with bX |bX
  ·have aa:o[i]? =some o[i]:=aN bX;have z:o[i]∈Y:=w.sub _ (hj bX);have M:o[i]∈Y++O:=e8 O z;obtain⟨cO,k_,qU⟩:=Co g z;obtain⟨⟨⟨bO,dF⟩,e5,ff⟩,jH,⟨q9,oJ⟩,⟨kN,q_⟩,q8⟩:=g.s;obtain⟨a,ap⟩:∃a:Nat,o[i]=(a:Int):=⟨o[i].toNat,by omega⟩
   have kT:=(iE.1 (g.l.tW _ M).2).1;rw[ap,bV]at kT;obtain⟨n,N⟩:∃n:Nat,wd h.Words (a+1)=(n:Int):=⟨(wd h.Words (a+1)).toNat,by omega⟩
   have P:sz h.Words (a:Int)=3+n:=by unfold sz;rw[bV,N,bV]
   have G:=RC (W:=h.Words) (t:=t0) bX;rw[ap,P]at G;have aPC:=RD (W:=h.Words) (t:=t0) (i:=i+1) (o:=o);have Xr:=lF (W:=h.Words) (t:=t0) (o:=o.take i);have aip:=L o w;obtain⟨u,H⟩:∃u,u=bB h.Words t0 (o.take i):=⟨_,rfl⟩
   rw[<-H]at G E Xr⊢;have DO:∀m,m<sz h.Words (a:Int)->fQ h.Words t0 o (u+m)=wd h.Words (a+m):=λ m hm=>by have:=agL (W:=h.Words) (t:=t0) (m:=m) bX (by rw[ap];exact hm);rw[<-H,ap,bV]at this;exact this
   obtain⟨Q,m1,K⟩:=al5 (ol:=ol) (yt:=yt) (nx:=nx) (nt:=nt) aC g iS L (a:=a) (u:=u) (by rw[<-ap];exact M) (by omega) w hi DO (by rw[P];omega) (λ m _=>E _ (by omega));have R:Ord Y ((dq k h.Words (a:Int)).foldl (cV h.ak) o):=w.fold λ v af=>y4 g (qx g (by rw[<-ap];exact M) v af);obtain⟨q,S⟩:∃q,q=(dq k h.Words (a:Int)).foldl (cV h.ak) o:=⟨_,rfl⟩
   rw[<-S]at m1 K R;obtain⟨t,r⟩:=Dv (y:=h.ak) (l:=dq k h.Words (a:Int)) (o:=o);rw[<-S]at r;have A:q.take (i+1)=o.take (i+1):=by rw[r,j5 (by omega)]
   have aPz:=L q R;have aBH:bB h.Words t0 o<=bB h.Words t0 q:=by rw[r,Ii];exact lF
   obtain⟨q6,T,b',c',⟨t2,gg⟩,lC⟩:=a' (i+1) f q (zg k h.Words a u D) Q (by omega) (by omega) (by rw[r,dM];omega) R K (λ p aD=>by
    rw[A,G]at aD;rw[gQ];intro hc;rcases JC.1 hc with hc |⟨m,s,J,c⟩;rw[E p (by omega)]at hc;cases hc
    ·rw[N,bV]at s
     omega)
   have U:scan k h.Words h.ak (d+1) i o=scan k h.Words h.ak d (i+1) q:=by rw[scan,aa,ap,S]
   rw[A,G]at b';rw[U];refine⟨q6,T,?_,c',⟨t++t2,by rw[gg,r,fA]⟩,λ p=>?_⟩
   ·have vk:u+1<Q.length:=by rw[K.len];omega
    have Hf:u<=100000:=by omega
    have V:u+(3+n)<=100000:=by omega
    have p9:wd Q (u+1)=(n:Int):=by
     rw[K.qC _ (by omega),nc (by
      intro hc;rcases JC.1 hc with hc |⟨m,s,J,c⟩;rw[E (u+1) (by omega)]at hc;cases hc
      ·omega),r,agM (by omega),DO 1 (by rw[P];omega),N]
    have c:3+n<=100000:=by omega
    have bD:((u:Nat):Int)<((bB h.Words t0 o:Nat):Int):=by omega
    rw[FU,mU bD,ng,m1,ae];dsimp only;rw[iw Hf,fh vk,ae,p9,show I.aw (3+(n:Int))=((3+n:Nat):Int) from mj (a:=3) c,mj V];exact b'
   ·rw[lC p,JC];have B:(scan k h.Words h.ak d (i+1) q)[i]? =some (a:Int):=by rw[gg,r,fA,er (by omega),aa,ap]
    have C:(scan k h.Words h.ak d (i+1) q).take i=o.take i:=by rw[gg,r,fA,j5 (by omega)]
    constructor;rintro((hc |⟨m,s,J,c⟩)|⟨j,b,s,J,c⟩);exact .inl hc;exact .inr ⟨i,(a:Int),cP _,B,m,by rw[bV];exact s,by rw[bV];exact J,by rw[C,<-H];exact c⟩;exact .inr ⟨j,b,by omega,J,c⟩;rintro(hc |⟨j,b,s,J,m,c,X,Z⟩);exact .inl (.inl hc);by_cases e:j=i;subst e;rw[B]at J;cases J;rw[bV]at c X;rw[C,<-H]at Z;exact .inl (.inr ⟨m,c,X,Z⟩);exact .inr ⟨j,b,by omega,J,m,c,X,Z⟩
  ·have:i=o.length:=by omega
   subst this;have U:scan k h.Words h.ak (d+1) o.length o=o:=by rw[scan,gH (cP _)]
   rw[U,jy];refine⟨W',D,?_,hi,⟨[],by simp⟩,λ p=>⟨.inl,?_⟩⟩;rw[FU,mV (by omega),nh];rintro(hc |⟨j,b,s,J,_⟩);exact hc;rw[gH s]at J;cases J
end
theorem aJ'{l:List Int}(h:zD l):l.Nodup:=by rw[lf,i_];intro i j hi aA a e;have:=h i j a aA;rw[n4 (aN hi),n4 (aN aA)]at this;omega
theorem Uq{k:aP}{W:List Int}{p:Nat}:∀ {l:List Int}{D:Nat->Bool},l.foldl (λ D x=>zg k W x.toNat x.toNat D) D p=true↔D p=true\/∃x∈l,∃i,i<(wd W (x.toNat+1)).toNat/\en k (wd W x.toNat) i=true/\p=x.toNat+3+i
 |[],D=>by simp
 |y::r,D=>by rw[jn,Uq (l:=r),JC];constructor;rintro((h |⟨i,h⟩)|⟨x,aa,h⟩);exact .inl h;exact .inr ⟨y,hZ,i,h⟩;exact .inr ⟨x,d_ _ aa,h⟩;rintro(h |⟨x,aa,h⟩);exact .inl (.inl h);rcases cH.1 aa with rfl |aa;exact .inl (.inr h);exact .inr ⟨x,aa,h⟩
theorem JO{y v:Int}:∀ {l o:List Int},v∈l->1<=v->v<=y->v∈l.foldl (cV y) o
 |a::r,o,af,b,J=>by rw[jn];rcases cH.1 af with rfl |af;obtain⟨t,c⟩:=Dv (y:=y) (l:=r) (o:=cV y o v);rw[c];exact e8 _ (aaH b J);exact JO af b J
structure ad7 (k:aP) (W:List Int) (t0:Nat) (nt o:List Int) (p:Nat):Prop where
 it:(∃x∈nt,∃i,i<(wd W (x.toNat+1)).toNat/\en k (wd W x.toNat) i=true/\p=x.toNat+3+i)\/
  ∃(j:Nat)(a:Int),o[j]? =some a/\∃m,m<(wd W (a.toNat+1)).toNat/\en k (wd W a.toNat) m=true/\p=bB W t0 (o.take j)+3+m
section
variable{F:Nat}{h:aV}{k:aP}{Y O:List Int}
theorem run_eq(R:10000<F)(g:I.Good F h k Y O){t0:Nat}(q:h.aM=(t0:Int))(z:∀S,Ord Y S->bB h.Words t0 S<=h.Words.length){roots:List Int}(al:roots.length<=5000)(r:∀v∈roots,v=0\/v∈Y++O) :
 ∃(fF:List Int)(D:Nat->Bool),y5 F k.a1 k.aY k.Fields k.Names k.aZ (gj roots.length) h.ak h.aK h.aO h.aM h.aU h.Next h.Words roots=some ((),((),h.ak,h.aK,1,((bB h.Words t0 (order k h Y roots):Nat):Int),[],h.Next,()),fF,roots.map (dD (order k h Y roots) (news h.Words t0 (order k h Y roots))),())/\
  fF.length=h.Words.length/\
  (∀p:Nat,p<h.Words.length->wd fF p=if 1<=p/\(p:Int)<=h.ak then 0 else if D p=true then dD (order k h Y roots) (news h.Words t0 (order k h Y roots)) (fQ h.Words t0 (order k h Y roots) p)else fQ h.Words t0 (order k h Y roots) p)/\
  (∀p:Nat,D p=true↔ad7 k h.Words t0 h.aU (order k h Y roots) p)/\∀p:Nat,D p=true->h.ak<(p:Int)/\p<bB h.Words t0 (order k h Y roots):=by
 have GM:=g.s.e1
 have aB:=g.Qs
 have ji:=aeW g.fM g
 have T:=akN g r
 have A:=Zi g r
 obtain⟨⟨⟨bO,dF⟩,e5,ff⟩,jH,⟨q9,oJ⟩,⟨kN,q_⟩,q8⟩:=id g.s
 unfold okB at jH
 have Kp:Inv h.Words h.ak t0 [] (λ _=>false) h.Words:=⟨rfl,λ p c=>by
  rw[nc (by simp)];unfold fQ;by_cases U:p<t0;rw[nf U]
  ·rw[nc U]
   exact g.ok.fr p c (.inr (.inr (by omega))),λ p c=>by cases c⟩
 obtain⟨V,l1,B⟩:=aJu (F:=F) (c1:=k.a1) (c2:=k.aY) (c3:=k.Fields) (c4:=k.Names) (c5:=k.aZ) (ol:=h.aK) (yt:=h.aO) (nx:=h.Next) (nt:=h.aU) (bg:=h.aM) g q z al r roots.length 0 F [] h.Words roots (by omega) (by omega) Ord.nil Kp (by simp) (by simp)
 rw[hf]at l1 B
 obtain⟨f,u⟩:∃f,f=roots.foldl (cV h.ak) []:=⟨_,rfl⟩
 rw[<-u]at l1 B T
 obtain⟨W,w,C⟩:=aJv (ol:=h.aK) (yt:=h.aO) (nx:=h.Next) (nt:=h.aU) (bg:=h.aM) R g q z (l:=h.aU) aB (λ x E=>(g.ok.nt x E).1) (aJ' g.ok.Ib) h.aU.length 0 F f (λ _=>false) V (by omega) (by omega) T B (λ _ _ _ _=>rfl)
 rw[hf]at w C
 obtain⟨n,G⟩:∃n,n=(h.aU.flatMap (dq k h.Words)).foldl (cV h.ak) f:=⟨_,rfl⟩
 rw[<-u]at A
 rw[<-G]at w C A
 have H:∀p,h.aU.foldl (λ D x=>zg k h.Words x.toNat x.toNat D) (λ _=>false) p=true->p<t0:=λ p c=>by rcases Uq.1 c with c |⟨x,E,i,h1,J,s⟩;cases c;have:=g.l.cn g.s x (g.ok.nt x E).1;omega
 obtain⟨K,L,M,m,⟨abv,X⟩,Z⟩:=aJw (ol:=h.aK) (yt:=h.aO) (nx:=h.Next) (nt:=h.aU) R g q z (Y.length+1) 0 F n _ W (by omega) (by omega) (gY _) A C (λ p c=>by rw[mf]at c;have c:t0<=p:=c;rw[gQ];intro hc;have:=H p hc;omega)
 have N:order k h Y roots=scan k h.Words h.ak (Y.length+1) 0 n:=by rw[G,u];rfl
 rw[<-N]at M m X Z
 rw[mf]at M
 have d:(gk (((h.ak+1)-1).toNat) (0 :Int)).length=h.ak.toNat:=by rw[j3];omega
 refine⟨gf K 1 (gk (((h.ak+1)-1).toNat) 0),L,?_,?_,λ p c=>?_,λ p=>?_,λ p c=>⟨(m.Dp p c).1,(m.Dp p c).2.1⟩⟩
 ·rw[q]at l1 w;have P:FR F F (t0:Int) (gj roots.length) (roots.length:Int) 0 h.ak h.aK h.aO (t0:Int) h.aU h.Next h.Words k.a1 k.aY k.Fields k.Names k.aZ [] roots=_:=l1;have EW:FU F F (t0:Int) h.ak h.aK h.aO ((bB h.Words t0 n:Nat):Int) h.aU h.Next W k.a1 k.aY k.Fields k.Names k.aZ (n.zip (news h.Words t0 n))=_:=M;have Q:FT F F (t0:Int) h.aU (h.aU.length:Int) 0 h.ak h.aK h.aO ((bB h.Words t0 f:Nat):Int) h.aU h.Next V k.a1 k.aY k.Fields k.Names k.aZ (f.zip (news h.Words t0 f))=_:=w;have XE:I.aw (h.ak+1)=h.ak+1:=cg (by omega) (by omega);have aPl:=m.len;unfold y5;rw[RJ,q,P,ae];dsimp only;rw[Q,ae];dsimp only;rw[EW,ae];dsimp only;rw[XE,nf (by omega),ae];unfold yk;rw[nf (mU (by omega)),ae];obtain⟨aP2,hm⟩:=Dv (y:=h.ak) (l:=h.aU.flatMap (dq k h.Words)) (o:=f);rw[<-G]at hm;have t:=QB g r
  have JJ:roots.map (dD f (news h.Words t0 f))=roots.map (dD (order k h Y roots) (news h.Words t0 (order k h Y roots))):=by
   refine j1 λ v af=>?_;rw[X,hm,fA]at t⊢;refine(am' (y:=h.ak) ?_ λ b ag=>?_).symm;rcases r v af with e |e;exact .inl e;by_cases hy:h.ak<v;exact .inr (.inr hy);refine .inr (.inl ?_);rw[u];exact JO af (g.l.fit g.s v e).1 (by omega)
   ·have:=Co g (t.sub b (fe _ ag));have s:3<=sz h.Words b:=by unfold sz;omega
    omega
  rw[JJ];rfl
 ·rw[HJ (by rw[d,m.len];omega),m.len]
 ·rw[anF (by rw[d,m.len];omega),d];by_cases DZ:1<=p/\(p:Int)<=h.ak;rw[nf (by omega),nf DZ];unfold wd;rw[List.getElem?_replicate];split<;>rfl;rw[nc (by omega),nc DZ];exact m.qC p c
 ·rw[Z p,Uq];constructor;rintro((hc |hc)|⟨j,a,_,J,s⟩);cases hc;exact⟨.inl hc⟩;exact⟨.inr ⟨j,a,J,s⟩⟩;rintro⟨hc |⟨j,a,J,s⟩⟩;exact .inl (.inr hc);exact .inr ⟨j,a,gY _,J,s⟩
end
theorem aLb{l m:List Int}(b:l.length=m.length)(h:∀p,p<l.length->wd l p=wd m p):l=m:=by refine List.ext_getElem b λ i a J=>?_;have:=h i a;rwa [n4 (aN a),n4 (aN J)]at this
theorem am7{W:List Int}:∀ {o:List Int}{t p:Nat},t<=p->p<bB W t o->∃j,∃aA:j<o.length,∃i,i<sz W o[j]/\p=bB W t (o.take j)+i
 |[],t,p,b,J=>by rw[bB]at J;omega
 |a::r,t,p,b,J=>by by_cases hc:p<t+sz W a;exact⟨0,by simp,p-t,by simpa using(by omega:p-t<sz W a),by simp[bB];omega⟩;obtain⟨j,aA,i,c,d⟩:=am7 (o:=r) (t:=t+sz W a) (p:=p) (by omega) J;exact⟨j+1,by simpa using aA,i,by simpa using c,by simpa[bB]using d⟩
theorem am8{W:List Int}{o:List Int}{t i i' j gN:Nat}(aA:j<o.length)(c:gN<o.length)(hi:i<sz W o[j])(d:i'<sz W o[gN])(e:bB W t (o.take j)+i=bB W t (o.take gN)+i'):j=gN:=by
 have key:∀ {a b:Nat}(ap:a<o.length),a<b->bB W t (o.take a)+sz W o[a]<=bB W t (o.take b):=λ{a b} ap f=>by
  rw[<-RC ap];have:o.take (a+1)=(o.take b).take (a+1):=by rw[List.take_take,l2 (by omega)]
  rw[this];exact RD
 rcases Nat.lt_trichotomy j gN with h |h |h;have:=key aA h;omega;exact h;have:=key c h;omega
theorem ajF{k:aP}{W o ns Z:List Int}:∀ {l:List Int}{t j m:Nat}(aA:j<l.length),laid k W o ns Z t l->m<sz W l[j]->wd Z (bB W t (l.take j)+m)=val k W o ns l[j].toNat m
 |[],t,j,m,aA,_,_=>by simp at aA
 |a::r,t,0,m,aA,b,c=>b.1 m c
 |a::r,t,j+1,m,aA,b,c=>by
  have d:j<r.length:=by simpa using aA
  exact ajF (l:=r) d b.2 c
section
variable{F:Nat}{h:aV}{k:aP}{Y O:List Int}
structure Kept (h:aV) (k:aP) (O:List Int) (t0:Nat) (o fF:List Int):Prop where
 len:fF.length=h.Words.length
 cn:∀a∈O,∀i,i<sz h.Words a->wd fF (a.toNat+i)=val k h.Words o (news h.Words t0 o) a.toNat i
 new:∀j (aA:j<o.length),∀i,i<sz h.Words o[j]->wd fF (bB h.Words t0 (o.take j)+i)=val k h.Words o (news h.Words t0 o) o[j].toNat i
 fr:∀p,p<h.Words.length->(p<(h.ak+1).toNat\/bB h.Words t0 o<=p)->wd fF p=0
theorem aCZ(g:I.Good F h k Y O){t0:Nat}(V:h.aM=(t0:Int)){o fF:List Int}{D:Nat->Bool}(K:Ord Y o)(X:bB h.Words t0 o<=h.Words.length)
 (l:fF.length=h.Words.length)(u:∀p:Nat,p<h.Words.length->wd fF p=if 1<=p/\(p:Int)<=h.ak then 0 else if D p=true then dD o (news h.Words t0 o) (fQ h.Words t0 o p)else fQ h.Words t0 o p)
 (B:∀p:Nat,D p=true↔ad7 k h.Words t0 h.aU o p)(v:∀p:Nat,D p=true->h.ak<(p:Int)/\p<bB h.Words t0 o):Kept h k O t0 o fF:=by
 obtain⟨⟨⟨bO,Z⟩,e5,ff⟩,jH,⟨q9,oJ⟩,⟨kN,q_⟩,q8⟩:=id g.s
 have c6:=lF (W:=h.Words) (o:=o) (t:=t0)
 refine⟨l,λ a ap i d=>?_,λ j aA i d=>?_,λ p C hc=>?_⟩
 ·obtain⟨bq,bx⟩:=g.l.cn g.s a ap;have L:sz h.Words a=3+(wd h.Words (a.toNat+1)).toNat:=rfl;have n:a.toNat+i<t0:=by omega
  rw[u _ (by omega),nc (by omega)];have M:fQ h.Words t0 o (a.toNat+i)=wd h.Words (a.toNat+i):=by unfold fQ;rw[nf n]
  rw[M];unfold val;have f:D (a.toNat+i)=true↔a∈h.aU/\3<=i/\en k (wd h.Words a.toNat) (i-3)=true:=by rw[B];constructor;rintro⟨⟨x,r,m,E,s,w⟩|⟨j,b,_,m,_,_,w⟩⟩;have y:=(g.ok.nt x r).1;by_cases e:a=x;subst e;refine⟨r,by omega,?_⟩;rw[show i-3=m by omega];exact s;have:=g.l.apart g.s _ (fe Y ap) _ (fe Y y) e;unfold sz at d;omega;have:=lF (W:=h.Words) (o:=o.take j) (t:=t0);omega;rintro⟨J,z,N⟩;unfold sz at d;exact⟨.inl ⟨a,J,i-3,by omega,N,by omega⟩⟩
  by_cases c:3<=i/\en k (wd h.Words a.toNat) (i-3)=true
  ·rw[nf c];by_cases A:a∈h.aU;rw[nf (f.2 ⟨A,c⟩)]
   ·rw[nc (λ hc=>A (f.1 hc).1)];unfold sz at d;have G:((a.toNat+i:Nat):Int)∈refs k h.Words a.toNat:=qj.2 ⟨i-3,by omega,c.2,by omega⟩;have q:=g.ok.must a ap A _ G;have P:=g.ok.ref a (fe Y ap) _ G;rw[bV]at q P;by_cases Q:wd h.Words (a.toNat+i)=0;rw[Q];unfold dD;rw[nf rfl]
    ·refine(am_ λ R=>q ?_).symm;have:=Co g (K.sub _ R);have z:3<=sz h.Words (wd h.Words (a.toNat+i)):=by unfold sz;omega
     omega
  ·rw[nc c,nc (λ hc=>c (f.1 hc).2)]
 ·have D5:=RC (W:=h.Words) (t:=t0) aA;have rC:=RD (W:=h.Words) (t:=t0) (i:=j+1) (o:=o);have p8:=lF (W:=h.Words) (o:=o.take j) (t:=t0);have n: ¬bB h.Words t0 (o.take j)+i<t0:=by omega
  rw[u _ (by omega),nc (by omega),agL aA d];unfold val;have f:D (bB h.Words t0 (o.take j)+i)=true↔3<=i/\en k (wd h.Words o[j].toNat) (i-3)=true:=by rw[B];constructor;rintro⟨⟨x,r,m,E,s,w⟩|⟨gN,b,ag,m,E,s,w⟩⟩;have:=g.l.cn g.s x (g.ok.nt x r).1;omega;obtain⟨S,e⟩:=aR.1 ag;have:=am8 (t:=t0) aA S d (i':=3+m) (by rw[e];unfold sz;omega) (by omega);subst this;rw[e];refine⟨by omega,?_⟩;rw[show i-3=m by omega];exact s;rintro⟨J,z⟩;unfold sz at d;exact⟨.inr ⟨j,o[j],aN aA,i-3,by omega,z,by omega⟩⟩
  by_cases c:3<=i/\en k (wd h.Words o[j].toNat) (i-3)=true;rw[nf c,nf (f.2 c)];rw[nc c,nc (λ hc=>c (f.1 hc))]
 ·rw[u p C];by_cases H:1<=p/\(p:Int)<=h.ak;rw[nf H];rw[nc H,nc (λ T=>by have:=v p T;omega)];by_cases U:p=0;subst U;unfold fQ;rw[nf (by omega)];exact g.ok.fr 0 C (.inl rfl);unfold fQ;rw[nc (by omega)];exact aeo (by omega)
end
structure fD (h:aV) (k:aP) (L:List Int) (x:aV):Prop where
 hG:L.Nodup
 cl:∀a∈L,∀v∈dq k h.Words a,v=0\/v∈L
 len:x.Words.length=h.Words.length
 y:x.ak=h.ak
 o:x.aK=h.aK
 yt:x.aO=1
 ot:x.aM=((bB h.Words (h.ak+1).toNat L:Nat):Int)
 nt:x.aU=[]
 nx:x.Next=h.Next
 room:bB h.Words (h.ak+1).toNat L<=h.Words.length
 qC:∀j (aA:j<L.length),∀i,i<sz h.Words L[j]->wd x.Words (bB h.Words (h.ak+1).toNat (L.take j)+i)=val k h.Words L (news h.Words (h.ak+1).toNat L) L[j].toNat i
 fr:∀p,p<h.Words.length->(p<(h.ak+1).toNat\/bB h.Words (h.ak+1).toNat L<=p)->wd x.Words p=0
theorem HC{W:List Int}:∀ {L:List Int}{t j:Nat},j<L.length->(news W t L)[j]? =some ((bB W t (L.take j):Nat):Int)
 |[],t,j,h=>by simp at h
 |a::r,t,0,_=>rfl
 |a::r,t,j+1,h=>by
  have b:j<r.length:=by simpa using h
  show(news W (t+sz W a) r)[j]? =some ((bB W (t+sz W a) (r.take j):Nat):Int)
  exact HC b
theorem pos_at:∀ {L:List Int}{j:Nat}(aA:j<L.length),L.Nodup->pos L L[j]=some j
 |[],j,aA,_=>by simp at aA
 |a::r,0,_,_=>by show pos (a::r) a=some 0;rw[pos,nf rfl]
 |a::r,j+1,aA,d=>by
  have b:j<r.length:=by simpa using aA
  have c:=h4.1 d;show pos (a::r) r[j]=some (j+1)
  rw[pos,nc (λ e=>c.1 (by rw[e];exact hj b)),pos_at b c.2];rfl
section
variable{F:Nat}{h x:aV}{k:aP}{Y O L:List Int}
abbrev tn(h:aV)(L:List Int)(v:Int):Int:=dD L (news h.Words (h.ak+1).toNat L) v
theorem Mp:tn h L 0=0:=by unfold tn dD;rw[nf rfl]
theorem RA(a:L.Nodup){j:Nat}(aA:j<L.length)(b:L[j]≠0):tn h L L[j]=((bB h.Words (h.ak+1).toNat (L.take j):Nat):Int):=by unfold tn dD;rw[nc b,pos_at aA a];dsimp only;rw[HC aA];rfl
theorem abw(a:L.Nodup){v:Int}(b:v≠0)(c:v∈L):tn h L v∈news h.Words (h.ak+1).toNat L/\((h.ak+1).toNat:Int)<=tn h L v:=by obtain⟨j,aA,rfl⟩:=ie c;rw[RA a aA b];refine⟨bH (HC aA),?_⟩;have:=lF (W:=h.Words) (o:=L.take j) (t:=(h.ak+1).toNat);omega
theorem aKg(b:L.Nodup){v w:Int}(cc:v≠0)(a:w≠0)(c:v∈L)(d:w∈L)(e:tn h L v=tn h L w):v=w:=by obtain⟨j,aA,rfl⟩:=ie c;obtain⟨i,hi,rfl⟩:=ie d;rw[RA b aA cc,RA b hi a]at e;have:=am8 (W:=h.Words) (t:=(h.ak+1).toNat) aA hi (i:=0) (i':=0) (by unfold sz;omega) (by unfold sz;omega) (by omega);subst this;rfl
theorem akl{a:Int}(ap:a∈news h.Words (h.ak+1).toNat L):∃j,∃_:j<L.length,a=((bB h.Words (h.ak+1).toNat (L.take j):Nat):Int):=by obtain⟨j,aA,rfl⟩:=ie ap;rw[yl]at aA;refine⟨j,aA,?_⟩;have:=HC (W:=h.Words) (t:=(h.ak+1).toNat) aA;rw[aN (by rw[yl];exact aA)]at this;exact eD this
theorem aKK{W o ns:List Int}{q i:Nat}(hi:i<3):val k W o ns q i=wd W (q+i):=by unfold val;rw[nc (by omega)]
theorem fD.lo(c:fD h k L x){j:Nat}(aA:j<L.length){i:Nat}(hi:i<3):wd x.Words (bB h.Words (h.ak+1).toNat (L.take j)+i)=wd h.Words (L[j].toNat+i):=by rw[c.qC j aA i (by unfold sz;omega),aKK hi]
theorem fD.hi(c:fD h k L x){j:Nat}(aA:j<L.length){i:Nat}(hi:i<(wd h.Words (L[j].toNat+1)).toNat):wd x.Words (bB h.Words (h.ak+1).toNat (L.take j)+3+i)=if en k (wd h.Words L[j].toNat) i=true then tn h L (wd h.Words (L[j].toNat+3+i))else wd h.Words (L[j].toNat+3+i):=by rw[show bB h.Words (h.ak+1).toNat (L.take j)+3+i=bB h.Words (h.ak+1).toNat (L.take j)+(3+i) by omega,c.qC j aA (3+i) (by unfold sz;omega)];unfold val;rw[show 3+i-3=i by omega,show L[j].toNat+(3+i)=L[j].toNat+3+i by omega];by_cases a:en k (wd h.Words L[j].toNat) i=true;rw[nf ⟨by omega,a⟩,nf a];rw[nc (λ e=>a e.2),nc a]
theorem fD.walk(g:I.Good F h k Y O)(c:fD h k L x)(aj:∀a∈L,a∈Y++O):∀(d j:Nat),j+d=L.length->I.eB k x.Words (bB h.Words (h.ak+1).toNat L) (bB h.Words (h.ak+1).toNat (L.take j)) (news h.Words (bB h.Words (h.ak+1).toNat (L.take j)) (L.drop j)):=by
 intro d;induction d with
 |zero=>
  intro j aA;have:j=L.length:=by omega
  subst this;rw[jy,hW];exact I.eB.nil
 |succ d m=>
  intro j aA;have b:j<L.length:=by omega
  have ap:=aj _ (hj b);obtain⟨n,p⟩:=g.l.tW _ ap;have e:=c.lo b (i:=0) (by omega);have f:=c.lo b (i:=1) (by omega);rw[j_,j_]at e;have q:=RC (W:=h.Words) (t:=(h.ak+1).toNat) b;have r:=RD (W:=h.Words) (t:=(h.ak+1).toNat) (i:=j+1) (o:=L);have l:sz h.Words L[j]=3+(wd x.Words (bB h.Words (h.ak+1).toNat (L.take j)+1)).toNat:=by rw[f];rfl
  rw[de b,news];refine I.eB.cons (by rw[e];exact n) (by rw[e,f];exact p) (by omega) ?_;have:=m (j+1) (by omega);rw[q,l,show bB h.Words (h.ak+1).toNat (L.take j)+(3+(wd x.Words (bB h.Words (h.ak+1).toNat (L.take j)+1)).toNat)=bB h.Words (h.ak+1).toNat (L.take j)+3+(wd x.Words (bB h.Words (h.ak+1).toNat (L.take j)+1)).toNat by omega]at this;rw[l,show bB h.Words (h.ak+1).toNat (L.take j)+(3+(wd x.Words (bB h.Words (h.ak+1).toNat (L.take j)+1)).toNat)=bB h.Words (h.ak+1).toNat (L.take j)+3+(wd x.Words (bB h.Words (h.ak+1).toNat (L.take j)+1)).toNat by omega];exact this
theorem aky{α β:Type}{f:α->β}:∀ {M L:List α},(M.map f).Nodup->L.Nodup->(∀a∈L,a∈M)->(L.map f).Nodup
 |M,[],_,_,_=>mg
 |M,a::r,d,m,aj=>by
  have g:=h4.1 m;rw[ez];refine h4.2 ⟨λ n=>?_,aky d g.2 λ b ag=>aj b (d_ _ ag)⟩;obtain⟨b,ag,e⟩:=hQ.1 n;have o:b=a:=by obtain⟨i,hi,c⟩:=ie (aj a hZ);obtain⟨j,aA,ao⟩:=ie (aj b (d_ _ ag));have l:=i_.1 (lf.1 d);rcases Nat.lt_trichotomy i j with al |al |al;exact absurd (by rw[kA,kA,c,ao,e]) (l i j (by simpa using hi) (by simpa using aA) al);subst al;rw[<-c,<-ao];exact absurd (by rw[kA,kA,c,ao,e]) (l j i (by simpa using aA) (by simpa using hi) al)
  exact g.1 (o▸ag)
theorem fD.Wk(g:I.Good F h k Y O)(c:fD h k L x)(aj:∀a∈L,a∈Y++O):I.Good F x k [] (news h.Words (h.ak+1).toNat L):=by
 obtain⟨⟨⟨bO,q⟩,e5,r⟩,l,⟨A,B⟩,⟨kN,C⟩,s⟩:=id g.s;unfold okB at l;have D:=c.room;have E:=lF (W:=h.Words) (o:=L) (t:=(h.ak+1).toNat);have u:∀a∈L,a≠0:=λ a ap=>by have:=(g.l.fit g.s a (aj a ap)).1;omega
 have m:(news h.Words (h.ak+1).toNat L).map (I.aj x.Words)=L.map (I.aj h.Words):=by
  refine List.ext_getElem (by rw[hd,hd,yl]) λ j f J=>?_;have aA:j<L.length:=by simpa using J
  rw[kA,kA];have:(news h.Words (h.ak+1).toNat L)[j]'(by rw[yl];exact aA)=((bB h.Words (h.ak+1).toNat (L.take j):Nat):Int):=by have:=HC (W:=h.Words) (t:=(h.ak+1).toNat) aA;rw[aN (by rw[yl];exact aA)]at this;exact eD this
  rw[this];unfold I.aj;rw[bV];exact c.lo aA (by omega)
 have n:∀a∈news h.Words (h.ak+1).toNat L,∀w∈refs k x.Words a.toNat,wd x.Words w.toNat=0\/wd x.Words w.toNat∈news h.Words (h.ak+1).toNat L:=λ a ap w d=>by obtain⟨j,aA,rfl⟩:=akl ap;rw[bV]at d;obtain⟨i,f,J,rfl⟩:=qj.1 d;have p:=c.lo aA (i:=0) (by omega);have v:=c.lo aA (i:=1) (by omega);rw[j_,j_]at p;rw[v]at f;rw[p]at J;rw[bV,c.hi aA f,nf J];have y:wd h.Words (L[j].toNat+3+i)∈dq k h.Words L[j]:=hQ.2 ⟨((L[j].toNat+3+i:Nat):Int),qj.2 ⟨i,f,J,rfl⟩,by rw[bV]⟩;rcases c.cl _ (hj aA) _ y with e |e;rw[e,Mp];exact .inl rfl;exact .inr (abw c.hG (u _ e) e).1
 refine⟨g.pX,g.fM,⟨?_,?_,?_⟩,⟨?_,?_⟩,?_,?_,?_,?_,?_,?_,?_⟩;unfold Bi;rw[c.y,c.o];exact⟨⟨bO,q⟩,e5,r⟩;unfold okB;rw[c.y,c.o,c.len];exact l;unfold I.HG;rw[c.y,c.o,c.yt,c.ot,c.nx];exact⟨⟨by omega,by omega⟩,⟨by omega,by omega⟩,s⟩;rw[c.yt];exact I.eB.nil;rw[c.ot,c.y,bV];have:=c.walk g aj L.length 0 (by omega);rw[mf,hf]at this;exact this
 ·intro a ap;rw[jI]at ap;have z:I.aj x.Words a∈L.map (I.aj h.Words):=by rw[<-m];exact jS ap
  obtain⟨b,ag,e⟩:=hQ.1 z;rw[<-e,c.nx];exact g.ok.hash b (aj b ag)
 ·rw[jI,m];exact aky g.ok.nodup c.hG aj
 ·intro a ap w d;rw[jI]at ap⊢;exact n a ap w d
 ·intro i hi hc;rw[c.len]at hi;rw[c.yt,c.ot,c.y]at hc;exact c.fr i hi (by omega)
 ·rw[c.nt];intro a b _ ag;simp at ag
 ·rw[c.nt];intro a ap;simp at ap
 ·intro a ap _ w d hc;rw[c.y]at hc;rcases n a ap w d with e |e;omega;obtain⟨j,aA,ao⟩:=akl e;have:=lF (W:=h.Words) (o:=L.take j) (t:=(h.ak+1).toNat);omega
end
section
variable{F:Nat}{k:aP}{y ol yt ot nx tp:Int}{W nt o ns pl rv:List Int}{M:List (Int×Int)}{c1:List aq}{c2:List Int}{c3:List (List I.Field)}{c4:List (List (List UInt8))}{c5:List (List I.Target)}
theorem Hz{x v:Int}:∀ {M:List (Int×Int)},x∉M.map k1->gy M x v=M++[(x,v)]
 |[],_=>rfl
 |p::r,h=>by simp only[ez,cH,not_or]at h;rw[gy,nc (λ e=>h.1 e.symm),Hz h.2];rfl
theorem ayF(E:o.length<=5000)(e6:W.length<=5000)
 (r:∀a∈o,1<=a/\a.toNat+3+(wd W (a.toNat+1)).toNat<=W.length/\0<=wd W (a.toNat+1))(s:o.Nodup):∀(d i f t:Nat)(M:List (Int×Int)),i+d=o.length->d<f->t+5000*d<=100000000 ->(∀a∈o.drop i,a∉M.map k1) ->
 z7 F f pl o (t:Int) o (o.length:Int) (i:Int) rv W y ol yt ot nt nx c1 c2 c3 c4 c5 M=some ((pl,(),(),o,(),((bB W t (o.drop i):Nat):Int),()),rv,((),()),(W,y,ol,yt,ot,nt,nx,()),(c1,c2,c3,c4,c5,()),M++(o.drop i).zip (news W t (o.drop i)),()):=by
 intro d
 induction d with
 |zero=>
  intro i f t M h ad u g;obtain⟨f,rfl⟩:∃j,f=j+1:=⟨f-1,by omega⟩
  have:i=o.length:=by omega
  subst this;rw[z7,bL,nh,hW];simp[bB,news]
 |succ d v=>
  intro i f t M h ad u g;obtain⟨f,rfl⟩:∃j,f=j+1:=⟨f-1,by omega⟩
  have hi:i<o.length:=by omega
  have w:o[i]? =some o[i]:=aN hi;obtain⟨G,x,a3⟩:=r _ (hj hi);have c:=de hi;have e:(o.drop i).Nodup:=s.sublist (List.drop_sublist i o);rw[c]at g e;obtain⟨q,b⟩:∃q:Nat,o[i]=(q:Int):=⟨o[i].toNat,by omega⟩
  rw[b,bV]at x a3;have z:q<=100000:=by omega
  have A:q+1<W.length:=by omega
  obtain⟨n,l⟩:∃n,n=3+(wd W (q+1)).toNat:=⟨_,rfl⟩
  have B:n<=100000:=by omega
  have kR:i<=100000:=by omega
  have C:sz W o[i]=n:=by rw[b];unfold sz;rw[bV,l]
  have D:t+n+5000*d<=100000000:=by omega
  have m:I.aw ((t:Int)+(n:Int))=((t+n:Nat):Int):=by rw[cg (by omega) (by omega)];omega
  have p:gy M o[i] (t:Int)=M++[(o[i],(t:Int))]:=Hz (g _ hZ);rw[b]at p;rw[z7,bM hi,ng,bu w,ae,b,iw z,fh A,ae,RN a3 l B,m,iw kR,p];clear m;refine(v (i+1) f (t+n) (M++[((q:Int),(t:Int))]) (by omega) (by omega) D (λ a ap=>?_)).trans ?_
  ·rw[jM,cf,not_or];refine⟨g a (d_ _ ap),λ hc=>?_⟩;have hc:a=(q:Int):=by simpa using hc
   exact(h4.1 e).1 (by rw[b,<-hc];exact ap)
  ·rw[c,news,bB,C,b,List.zip_cons_cons,fA,k9]
theorem ayH(A:gA k){q t n:Nat}(B:∀v∈dq k W (q:Int),(cE M v).getD 0=dD o ns v)(e:(cE M (q:Int)).getD 0=(t:Int))(J:n=3+(wd W (q+1)).toNat)(K:q+n<=W.length)(e6:W.length<=5000)(C:eY k (wd W q)=true)(w:isLen k (wd W q) (wd W (q+1))=true){od:List Int}{ln oi:Int} :
 ∀(d i f:Nat)(Z:List Int),i+d=n->d<f->Z.length<=5000 ->t+n<=Z.length ->
 ∃a,uY F f pl tp (q:Int) od ln oi (n:Int) (i:Int) rv W y ol yt ot nt nx k.a1 k.aY k.Fields k.Names k.aZ M Z=some ((pl,(),(),(),tp,(),od,ln,oi,()),rv,((),()),(W,y,ol,yt,ot,nt,nx,()),(k.a1,k.aY,k.Fields,k.Names,k.aZ,()),M,a,())/\
  a.length=Z.length/\∀p,wd a p=if t+i<=p/\p<t+n then val k W o ns q (p-t)else wd Z p:=by
 intro d
 have L:=(iE.1 w).1
 have N:n<=100000:=by omega
 have O:q<=100000:=by omega
 induction d with
 |zero=>
  intro i f Z h ad Ah x;obtain⟨f,rfl⟩:∃g,f=g+1:=⟨f-1,by omega⟩
  have:i=n:=by omega
  subst this;rw[uY,bL,nh];refine⟨Z,rfl,rfl,λ p=>?_⟩;rw[nc (by omega)]
 |succ d D=>
  intro i f Z h ad Ah x;obtain⟨f,rfl⟩:∃g,f=g+1:=⟨f-1,by omega⟩
  have hi:i<n:=by omega
  have j:q+i<W.length:=by omega
  have l:q+i<=100000:=by omega
  have m:t+i<=100000:=by omega
  have c:i<=100000:=by omega
  have E:idx W (I.aw ((q:Int)+i))=some (wd W (q+i)):=by rw[mj l];exact fh j
  have r:idx Z ((t+i:Nat):Int)=some (wd Z (t+i)):=fh (by omega)
  have step:∀v:Int,v=val k W o ns q i->∃a,uY F f pl tp (q:Int) od ln oi (n:Int) ((i+1 :Nat):Int) rv W y ol yt ot nt nx k.a1 k.aY k.Fields k.Names k.aZ M (Z.set (t+i) v)=some ((pl,(),(),(),tp,(),od,ln,oi,()),rv,((),()),(W,y,ol,yt,ot,nt,nx,()),(k.a1,k.aY,k.Fields,k.Names,k.aZ,()),M,a,())/\
   a.length=Z.length/\∀p,wd a p=if t+i<=p/\p<t+n then val k W o ns q (p-t)else wd Z p:=λ v s=>by
   obtain⟨a,G,ao,aW⟩:=D (i+1) f (Z.set (t+i) v) (by omega) (by omega) (by rw[hg];exact Ah) (by rw[hg];exact x)
   refine⟨a,G,by rw[ao,hg],λ p=>?_⟩
   rw[aW p]
   by_cases z:p=t+i
   ·subst z;rw[nc (by omega),nf (by omega),qB (by omega),nf rfl,s,show t+i-t=i by omega]
   ·by_cases b:t+(i+1)<=p/\p<t+n;rw[nf b,nf (by omega)];rw[nc b,nc (by omega),qB (by omega),nc z]
  rw[uY,bM hi,ng,E,ae];by_cases u:3<=i
  ·rw[mU (show(3 :Int)<=(i:Int) by omega),ng,fh (show q<W.length by omega),ae];have H:rr (b9.mk (aP.mk k.a1 k.aY k.Fields k.Names k.aZ)) (wd W q) (I.aw ((i:Int)-3))=some (en k (wd W q) (i-3)):=by rw[aKT c u];exact Rk A C w (by omega)
   rw[H,ae];cases b:en k (wd W q) (i-3)with
   |true=>have s:wd W (q+i)∈dq k W (q:Int):=hQ.2 ⟨((q+i:Nat):Int),by rw[bV];exact qj.2 ⟨i-3,by omega,b,by omega⟩,by rw[bV]⟩;rw[ng,e,mj m,r,ae,iw c,bV];exact step _ (by rw[B _ s];unfold val;rw[nf ⟨u,b⟩])
   |false=>rw[nh,e,mj m,r,ae,iw c,bV];exact step _ (by unfold val;rw[nc (λ h=>by rw[b]at h;cases h.2)])
  ·rw[mV (show¬(3 :Int)<=(i:Int) by omega),nh,e,mj m,r,ae,iw c,bV];exact step _ (by unfold val;rw[nc (λ h=>u h.1)])
theorem ayG(aC:10000<F)(H:gA k)(au:o.length<=5000)(o4:ns.length=o.length)(e6:W.length<=5000)(J:∀a∈o,∀v∈dq k W a,(cE M v).getD 0=dD o ns v)(K:∀(j:Nat)(a:Int),o[j]? =some a->some ((cE M a).getD 0)=ns[j]?)
 (L:∀a∈o,1<=a/\a.toNat+3+(wd W (a.toNat+1)).toNat<=W.length/\eY k (wd W a.toNat)=true/\isLen k (wd W a.toNat) (wd W (a.toNat+1))=true):∀(d i f t:Nat)(Z:List Int),i+d=o.length->d<f->ns.drop i=news W t (o.drop i)->bB W t (o.drop i)<=W.length->Z.length=W.length ->
 ∃b,z8 F f pl tp o (o.length:Int) (i:Int) rv W y ol yt ot nt nx k.a1 k.aY k.Fields k.Names k.aZ M Z=some ((pl,(),(),tp,(),()),rv,((),()),(W,y,ol,yt,ot,nt,nx,()),(k.a1,k.aY,k.Fields,k.Names,k.aZ,()),M,b,())/\
  b.length=W.length/\laid k W o ns b t (o.drop i)/\∀p,p<t\/bB W t (o.drop i)<=p->wd b p=wd Z p:=by
 intro d
 induction d with
 |zero=>
  intro i f t Z h ad l r Ah;obtain⟨f,rfl⟩:∃s,f=s+1:=⟨f-1,by omega⟩
  have:i=o.length:=by omega
  subst this;refine⟨Z,?_,Ah,by rw[hW];trivial,λ p _=>rfl⟩;rw[z8,bL,nh]
 |succ d N=>
  intro i f t Z h ad l r Ah;obtain⟨f,rfl⟩:∃s,f=s+1:=⟨f-1,by omega⟩
  have hi:i<o.length:=by omega
  have A:o[i]? =some o[i]:=aN hi;have B:i<ns.length:=by omega
  have O:ns[i]? =some ns[i]:=aN B;rw[de hi,de B,news]at l;rw[de hi,bB]at r;have P:ns[i]=(t:Int):=(fN l).1;have C:=(fN l).2;have D:=hj hi;obtain⟨cb,Q,a3,a4⟩:=L _ D;have c:=J _ D;have e:=K i _ A;rw[O,P]at e;have e:=eD e;obtain⟨q,g⟩:∃q:Nat,o[i]=(q:Int):=⟨o[i].toNat,by omega⟩
  rw[g,bV]at Q a3 a4;rw[g]at c e;obtain⟨n,u⟩:∃n,n=3+(wd W (q+1)).toNat:=⟨_,rfl⟩
  have w:sz W o[i]=n:=by rw[g];unfold sz;rw[bV,u]
  rw[w]at C r;have xA:=lF (W:=W) (o:=o.drop (i+1)) (t:=t+n);have kR:i<=100000:=by omega
  have R:q<=100000:=by omega
  have S:q+1<W.length:=by omega
  have T:n<=100000:=by omega
  have kT:=(iE.1 a4).1.1;obtain⟨x,U,V,E⟩:=ayH (F:=F) (pl:=pl) (tp:=tp) (rv:=rv) (y:=y) (ol:=ol) (yt:=yt) (ot:=ot) (nx:=nx) (nt:=nt) (od:=o) (ln:=(o.length:Int)) (oi:=(i:Int)) H c e u (by omega) e6 a3 a4 n 0 F Z (by omega) (by omega) (by omega) (by omega);have z:uY F F pl tp (q:Int) o (o.length:Int) (i:Int) (n:Int) 0 rv W y ol yt ot nt nx k.a1 k.aY k.Fields k.Names k.aZ M Z=_:=U;obtain⟨b,X,Y,i3,G⟩:=N (i+1) f (t+n) x (by omega) (by omega) C r (by rw[V,Ah]);refine⟨b,?_,Y,?_,λ p aD=>?_⟩;rw[z8,bM hi,ng,bu A,ae,g,iw R,fh S,ae,RN kT u T,z,ae];dsimp only;rw[iw kR];exact X;rw[de hi,laid,w];refine⟨λ m hm=>?_,i3⟩;rw[G _ (by omega),E,nf (by omega),g,bV,show t+m-t=m by omega];rw[de hi,bB,w]at aD;rw[G p (by omega),E,nc (by omega)]
theorem ayI{Z:List Int}{roots:List Int}(m:roots.length<=5000)(g:∀v∈roots,(cE M v).getD 0=dD o ns v):∀(d i f:Nat)(rs:List Int),i+d=roots.length->d<f->rs=(roots.take i).map (dD o ns)++roots.drop i ->
 w7 F f tp Z (gj roots.length) (roots.length:Int) (i:Int) W y ol yt ot nt nx M rs=some (((),tp,Z,()),((),()),(W,y,ol,yt,ot,nt,nx,()),M,roots.map (dD o ns),()):=by
 intro d
 induction d with
 |zero=>
  intro i f rs h ad b;obtain⟨f,rfl⟩:∃c,f=c+1:=⟨f-1,by omega⟩
  have:i=roots.length:=by omega
  subst this;rw[w7,bL,nh,b,hW,jy,hv]
 |succ d j=>
  intro i f rs h ad b;obtain⟨f,rfl⟩:∃c,f=c+1:=⟨f-1,by omega⟩
  have a:i<roots.length:=by omega
  have kR:i<=100000:=by omega
  have e:((roots.take i).map (dD o ns)).length=i:=by simp;omega
  have l:rs[i]? =some roots[i]:=by rw[b,eS (by omega),e,l4,de a];rfl
  rw[w7,bM a,ng,bu (abE a),ae,bu l,ae,iw kR,bV,g _ (hj a)];refine j (i+1) f _ (by omega) (by omega) ?_;rw[b,List.set_append_right _ _ (by omega),e,l4,de a,List.set_cons_zero,kC a,jM,fA];rfl
end
open I ba
theorem RR{k:aP}{W:List Int}{to q:Nat}{L:List Int}(h:I.eB k W to q L):(∀a∈L,(q:Int)<=a)/\L.Pairwise (·< ·):=by
 induction h with
 |nil=>exact⟨λ a ap=>by simp at ap,List.Pairwise.nil⟩
 | @cons q r c J d e b=>refine⟨λ a ap=>?_,List.Pairwise.cons (λ a ap=>?_) b.2⟩;rcases cH.1 ap with rfl |ap;exact k7 _;have:=b.1 a ap;omega;have:=b.1 a ap;omega
def xH(Y O A:List Int):List Int:=O.filter (λ a=>decide (a∈A))++Y.filter (λ a=>decide (a∈A))
section
variable{F:Nat}{h:aV}{k:aP}{Y O A roots:List Int}
theorem xI(b:∀a∈A,a∈Y++O){a:Int}:a∈xH Y O A↔a∈A:=by unfold xH;rw[cf,jt,jt,decide_eq_true_eq];constructor;rintro(h |h)<;>exact h.2;intro h;rcases cf.1 (b a h)with e |e;exact .inr ⟨e,h⟩;exact .inl ⟨e,h⟩
theorem adx(g:I.Good F h k Y O):(∀a∈Y,a<=h.ak)/\∀a∈O,h.ak+1<=a/\a<=h.ak+h.aK:=by obtain⟨⟨⟨bO,c⟩,e5,d⟩,e,⟨f,i⟩,⟨kN,j⟩,l⟩:=id g.s;refine⟨λ a ap=>?_,λ a ap=>?_⟩;have b:=g.l.FO g.s a ap;omega;have b:=g.l.cn g.s a ap;omega
theorem aiN(g:I.Good F h k Y O)(c:∀a∈A,a∈Y++O):Ord (Y++O) (xH Y O A):=by obtain⟨d,J⟩:=adx g;refine⟨?_,λ a ap=>c a ((xI c).1 ap)⟩;refine fx.2 ⟨((RR g.l.o).2.imp λ h=>by omega).filter _,((RR g.l.y).2.imp λ h=>by omega).filter _,λ a ap b ag e=>?_⟩;have f:=J a (jt.1 ap).1;have i:=d b (jt.1 ag).1;omega
theorem aJ6(g:I.Good F h k Y O)(p:A.Nodup)(j:∀a∈A,a∈Y++O):lD h.ak h.aK A=xH Y O A:=by
 obtain⟨⟨⟨bO,t⟩,e5,u⟩,v,⟨w,x⟩,⟨kN,y⟩,z⟩:=id g.s;obtain⟨m,J⟩:=adx g;have d:∀a∈Y,1<=a:=λ a ap=>(g.l.fit g.s a (e8 O ap)).1;have q:∀a b c:Int,lz h.ak h.aK a b=true->lz h.ak h.aK b c=true->lz h.ak h.aK a c=true:=λ a b c m J=>by simp only[lz,decide_eq_true_eq]at *;omega
 have r:∀a b:Int,(lz h.ak h.aK a b||lz h.ak h.aK b a)=true:=λ a b=>by simp only[lz,h3,decide_eq_true_eq];omega
 have n:∀a∈Y,fk h.ak h.aK a=a+h.ak+h.aK:=λ a ap=>by unfold fk;rw[nc (by have:=m a ap;omega)]
 have gd:∀a∈O,fk h.ak h.aK a=a:=λ a ap=>by unfold fk;rw[nf (by have:=J a ap;omega)]
 have o:∀a∈Y++O,1<=a/\a<=h.ak+h.aK:=λ a ap=>by rcases cf.1 ap with e |e;have:=m a e;have:=d a e;omega;have:=J a e;omega
 unfold lD;refine List.Perm.eq_of_pairwise (le:=λ a b=>lz h.ak h.aK a b=true) (λ a b ap ag f i=>?_) (mo q r A) ?_ ((k0 A _).trans ((ke p (aiN g j).hG).2 λ a=>(xI j).symm));have ap:=o a (j a ((k0 A _).mem_iff.1 ap));have ag:=o b (j b ((xI j).1 ag));have f:fk h.ak h.aK a<=fk h.ak h.aK b:=of_decide_eq_true f;have i:fk h.ak h.aK b<=fk h.ak h.aK a:=of_decide_eq_true i;unfold fk at f i;by_cases d:h.ak<a<;>by_cases l:h.ak<b;rw[nf d,nf l]at f i;omega;rw[nf d,nc l]at f;omega;rw[nc d,nf l]at f i;omega;rw[nc d,nc l]at f i;omega;unfold xH;refine List.pairwise_append.2 ⟨lp (λ{a b} ap ag s=>?_) ((RR g.l.o).2.filter _),lp (λ{a b} ap ag s=>?_) ((RR g.l.y).2.filter _),λ a ap b ag=>?_⟩;have ap:=(jt.1 ap).1;have ag:=(jt.1 ag).1;exact mU (by rw[gd a ap,gd b ag];omega);have ap:=(jt.1 ap).1;have ag:=(jt.1 ag).1;exact mU (by rw[n a ap,n b ag];omega);have ap:=(jt.1 ap).1;have ag:=(jt.1 ag).1;have:=J a ap;have:=d b ag;exact mU (by rw[gd a ap,n b ag];omega)
theorem fD.yD{x e2:aV}{L:List Int}(c:fD h k L x)(a:fD h k L e2):x.Words=e2.Words:=by refine aLb (by rw[c.len,a.len]) λ p b=>?_;rw[c.len]at b;by_cases d:p<(h.ak+1).toNat\/bB h.Words (h.ak+1).toNat L<=p;rw[c.fr p b d,a.fr p b d];obtain⟨j,aA,i,J,rfl⟩:=am7 (W:=h.Words) (o:=L) (t:=(h.ak+1).toNat) (p:=p) (by omega) (by omega);rw[c.qC j aA i J,a.qC j aA i J]
theorem avV{o Z:List Int}(b:Ord (Y++O) o)(c:∀a∈o,∀v∈dq k h.Words a,v=0\/v∈o)(d:bB h.Words (h.ak+1).toNat o<=h.Words.length)(e:Z.length=h.Words.length)
 (J:laid k h.Words o (news h.Words (h.ak+1).toNat o) Z (h.ak+1).toNat o)(f:∀p,(p<(h.ak+1).toNat\/bB h.Words (h.ak+1).toNat o<=p)->wd Z p=0) :
 fD h k o ⟨Z,h.ak,h.aK,1,((bB h.Words (h.ak+1).toNat o:Nat):Int),[],h.Next⟩:=
 ⟨b.hG,c,e,rfl,rfl,rfl,rfl,rfl,rfl,d,λ _ aA _ hi=>ajF aA J hi,λ p _ g=>f p g⟩
theorem aLc{n p:Nat}:wd (gk n 0) p=0:=by unfold wd;rcases gI p n with D0 |D0;simp[D0];rw[gH (by simpa using D0)];rfl
theorem amW{W:List Int}:∀ {l:List Int}{n:Nat},(∀a∈l,1<=a/\a.toNat+3+(wd W (a.toNat+1)).toNat<=W.length/\0<=wd W (a.toNat+1))->W.length<=5000 ->n+10000*l.length<=1000000000 ->js W l (n:Int)=some ((n+fB W [] l:Nat):Int)
 |[],n,_,_,_=>rfl
 |a::r,n,h,e6,e=>by
  obtain⟨j,f,a3⟩:=h a (by simp);obtain⟨q,rfl⟩:∃q:Nat,a=(q:Int):=⟨a.toNat,by omega⟩
  rw[bV]at f a3;rw[di]at e;obtain⟨m,d⟩:∃m,m=3+(wd W (q+1)).toNat:=⟨_,rfl⟩
  have g:q<=100000:=by omega
  have c:m<=100000:=by omega
  have i:I.aw ((n:Int)+(m:Int))=((n+m:Nat):Int):=by rw[cg (by omega) (by omega)];omega
  rw[js,iw g,fh (by omega),ae,RN a3 d c,i,amW (l:=r) (λ b ag=>h b (by simp[ag])) e6 (by omega)];rw[fB,nc (by simp),sz,bV,<-d,kb]
end
section
variable{F:Nat}{k:aP}{h:aV}{Y O:List Int}
theorem left_eq(g:I.Good F h k Y O):I.aw (I.aw (I.aw (I.aw (h.ak+h.aK)+1)-h.aM)-I.aw (h.aO-1))=h.ak+h.aK+1-h.aM- (h.aO-1):=by obtain⟨⟨⟨bO,a⟩,e5,b⟩,c,⟨d,e⟩,⟨kN,f⟩,i⟩:=g.s;rw[cg (n:=h.ak+h.aK) (by omega) (by omega),cg (n:=h.ak+h.aK+1) (by omega) (by omega),cg (n:=h.ak+h.aK+1-h.aM) (by omega) (by omega),cg (n:=h.aO-1) (by omega) (by omega),cg (by omega) (by omega)]
theorem aGg(g:I.Good F h k Y O):nI h=some h:=by have a:=g.Qs;have J:=g.s.e1;unfold nI Rl;rw[jf (by simp;omega),ae,jf (by simp;omega)];rfl
abbrev lS(h:aV):List Int×Int×Int×Int×Int×List Int×Int×Unit:=(h.Words,h.ak,h.aK,h.aO,h.aM,h.aU,h.Next,())
end
section
variable{F:Nat}{h:aV}{k:aP}{Y O:List Int}
theorem aKN{l:List Int}(j:l.length<=5000):∀(d i f:Nat)(out:List Int),i+d=l.length->d<f->out.length=i ->
 Dz F f (gj l.length) (l.length:Int) (i:Int) out l=some (((),()),out++l.drop i,l,()):=by
 intro d
 induction d with
 |zero=>
  intro i f out hi ad c;obtain⟨f,rfl⟩:∃b,f=b+1:=⟨f-1,by omega⟩
  have:i=l.length:=by omega
  subst this;rw[Dz,bL,nh,hW,hv]
 |succ d e=>
  intro i f out hi ad c;obtain⟨f,rfl⟩:∃b,f=b+1:=⟨f-1,by omega⟩
  have a:i<l.length:=by omega
  have g:l[i]? =some l[i]:=aN a;rw[Dz,bM a,ng,bu (abE a),ae,bu g,ae,T2 (by omega),ae,eO a (by omega)];refine(e (i+1) f _ (by omega) (by omega) (by simp[c])).trans ?_;rw[de a,fA,k9]
theorem values_eq(b:10000<F){l:List Int}(a:l.length<=5000):Ov F (gj l.length) l=some ((l,()),l,()):=by unfold Ov;have e:=aKN (F:=F) a l.length 0 F [] (by omega) (by omega) rfl;rw[hf,jI]at e;have e':Dz F F (gj l.length) (l.length:Int) 0 [] l=_:=e;rw[RJ,e',ae]
theorem aby{S ns:List Int}(b:ns.length=S.length){v:Int}(c:v=0\/v∈S):(cE ((0,0)::S.zip ns) v).getD 0=dD S ns v:=by
 unfold dD;by_cases a:v=0;rw[cE,nf (by rw[a]),nf a,a];rfl
 ·rw[cE,nc (λ e=>a e.symm),nc a,P1 b];cases d:pos S v with
  |none=>exact absurd (c.resolve_left a) (tL.1 d)
  |some j=>rfl
abbrev kept(k:aP)(h:aV)(Y O roots:List Int):List Int:=xH Y O (iV k h Y O roots)
theorem AF(g:I.Good F h k Y O){roots:List Int}(b:∀a∈roots,a=0\/a∈Y++O):Ord (Y++O) (kept k h Y O roots):=aiN g (tQ g b).sub
theorem X_(g:I.Good F h k Y O){roots:List Int}(e:∀a∈roots,a=0\/a∈Y++O):(∀a∈kept k h Y O roots,∀v∈dq k h.Words a,v=0\/v∈kept k h Y O roots)/\∀v∈roots,v=0\/v∈kept k h Y O roots:=by have c:=λ a=>xI (a:=a) (tQ g e).sub;have hc:=Q1 g e;refine⟨λ a ap v d=>?_,λ v d=>?_⟩;by_cases b:v=0;exact .inl b;exact .inr ((c v).2 (hc.hb a ((c a).1 ap) v d b));by_cases b:v=0;exact .inl b;exact .inr ((c v).2 (hc.rt v d b))
theorem ajP(p:10000<F)(g:I.Good F h k Y O){roots:List Int}(q:roots.length<=5000)(b:∀a∈roots,a=0\/a∈Y++O) :
 ∃A,A.Perm (iV k h Y O roots)/\A.Nodup/\(∀a∈A,a∈Y++O)/\
  Dx F roots k.a1 k.aY k.Fields k.Names k.aZ h.Words h.ak h.aK h.aO h.aM h.aU h.Next []=
   some ((),((),k.a1,k.aY,k.Fields,k.Names,k.aZ,(),()),(h.Words,h.ak,h.aK,h.aO,h.aM,h.aU,h.Next,()),jm A,())/\
  DB h.Words (jm A)=some ((fB h.Words [] (kept k h Y O roots):Nat):Int)/\Np F h.Words h.ak h.aK h.aO h.aM h.aU h.Next k.a1 k.aY k.Fields k.Names k.aZ roots=some ((((fB h.Words [] (kept k h Y O roots):Nat):Int),()),()):=by
 obtain⟨m,A,e,r,s,f,t,i,j⟩:=aEz p g q b
 have c:=AF g b
 have w:=Jy g
 have x:=c.len
 have y:=g.s.e1
 have u:A.Perm (kept k h Y O roots):=e.trans ((ke (tQ g b).hG c.hG).2 λ a=>(xI (tQ g b).sub).symm)
 have d:=amW (W:=h.Words) (l:=kept k h Y O roots) (n:=0) (λ a ap=>by have o:=g.l.fit g.s a (c.sub a ap);have J:=g.l.tW a (c.sub a ap);exact⟨o.1,o.2.1,(iE.1 J.2).1.1⟩) (by omega) (by omega)
 rw[abo u]at f
 have v:m=((fB h.Words [] (kept k h Y O roots):Nat):Int):=by have:js h.Words (kept k h Y O roots) 0=_:=d;rw[f]at this;have:=eD this;omega
 rw[v]at i j
 exact⟨A,e,r,s,t,i,j⟩
set_option maxHeartbeats 1000000
theorem ayJ(u:10000<F)(g:I.Good F h k Y O){roots:List Int}(al:roots.length<=1000)(n:∀a∈roots,a=0\/a∈Y++O) :
 (h.aK<((fB h.Words [] (kept k h Y O roots):Nat):Int)->JS F k.a1 k.aY k.Fields k.Names k.aZ (gj roots.length) h.Words h.ak h.aK h.aO h.aM h.aU h.Next roots=some ((false,()),(h.Words,h.ak,h.aK,h.aO,h.aM,h.aU,h.Next,()),roots,()))/\
 (¬h.aK<((fB h.Words [] (kept k h Y O roots):Nat):Int)->bB h.Words (h.ak+1).toNat (kept k h Y O roots)<=h.Words.length/\∃Z,JS F k.a1 k.aY k.Fields k.Names k.aZ (gj roots.length) h.Words h.ak h.aK h.aO h.aM h.aU h.Next roots=some ((true,()),(Z,h.ak,h.aK,1,((bB h.Words (h.ak+1).toNat (kept k h Y O roots):Nat):Int),[],h.Next,()),roots.map (tn h (kept k h Y O roots)),())/\
  fD h k (kept k h Y O roots) ⟨Z,h.ak,h.aK,1,((bB h.Words (h.ak+1).toNat (kept k h Y O roots):Nat):Int),[],h.Next⟩):=by
 obtain⟨A,Q,eT,w,R,T,HK⟩:=ajP u g (roots:=roots) (by omega) n
 have c:=AF g n
 have q:=X_ g n
 have dO:=Jy g
 have G8:=c.len
 have p_:=g.s.e1
 have ahr:A.length<=5000:=by rw[Q.length_eq];have:=(tQ g n).len;omega
 obtain⟨⟨⟨bO,dF⟩,e5,ff⟩,jH,⟨q9,oJ⟩,⟨kN,q_⟩,q8⟩:=id g.s
 unfold okB at jH
 have i:JU F k.a1 k.aY k.Fields k.Names k.aZ (gj roots.length) h.Words h.ak h.aK h.aO h.aM h.aU h.Next roots=
  some (((),()),(h.Words,h.ak,h.aK,h.aO,h.aM,h.aU,h.Next,()),roots,((),k.a1,k.aY,k.Fields,k.Names,k.aZ,(),()),jm A,()):=by
  unfold JU
  rw[values_eq u (by omega),ae]
  dsimp only
  rw[R,ae]
 unfold JS
 rw[i,ae]
 dsimp only
 rw[T,ae,ae]
 clear R T HK i
 obtain⟨S,l⟩:∃S,S=kept k h Y O roots:=⟨_,rfl⟩
 rw[<-l]at c q G8⊢
 refine⟨λ hc=>?_,λ hc=>?_⟩
 ·rw[mU hc,ng]
 ·rw[mV hc,nh]
  have z:lD h.ak h.aK A=S:=by
   rw[aJ6 g eT w,l];show xH Y O A=xH Y O (iV k h Y O roots)
   unfold xH;have:∀a,decide (a∈A)=decide (a∈iV k h Y O roots):=λ a=>decide_eq_decide.2 Q.mem_iff;simp only[this]
  have B:Ej h.ak h.aK (List.map k1 (jm A)) []=some S:=by
   have C:List.map k1 (jm A)=A:=by unfold jm;rw[me];exact List.map_id _
   rw[C];unfold Ej;have ag:(decide (0<=h.ak)&&decide (h.ak<=100000)&&decide (0<=h.aK)&&decide (h.aK<=100000)&&decide (A.length<=200000)&&([]:List Int).isEmpty&&A.all (λ x=>decide (1<=x)&&decide (x<=h.ak+h.aK)))=true:=by simp only[cd,decide_eq_true_eq,kp,List.isEmpty_nil,and_true];refine⟨⟨⟨⟨⟨by omega,by omega⟩,by omega⟩,by omega⟩,by omega⟩,λ x U=>?_⟩;have r:=g.l.fit g.s x (w x U);have J:=adx g;rcases cf.1 (w x U)with e |e;have:=J.1 x e;omega;have:=J.2 x e;omega
   rw[ag,z]
  have D:∀E G H K b,Hm ((gj roots.length,(),(),(),(),()),((),()),(k.a1,k.aY,k.Fields,k.Names,k.aZ,()),((),E,G,H,K,b,(),()),(h.Words,h.ak,h.aK,h.aO,h.aM,h.aU,h.Next,()),jm A,roots,[],())=
   some ((gj roots.length,(),(),(),()),(((),()),(k.a1,k.aY,k.Fields,k.Names,k.aZ,()),((),E,G,H,K,b,(),()),(h.Words,h.ak,h.aK,h.aO,h.aM,h.aU,h.Next,()),jm A,roots,S,())):=λ E G H K b=>by
   show(Ej h.ak h.aK (List.map k1 (jm A)) []).map _=_
   rw[B]
   rfl
  erw[D,ae];dsimp only;obtain⟨t,d⟩:∃t:Nat,(h.ak+1).toNat=t:=⟨_,rfl⟩
  have XE:I.aw (h.ak+1)=(t:Int):=by rw[cg (by omega) (by omega)];omega
  have L:bB h.Words t S<=h.Words.length:=by rw[Li];omega
  have m:(news h.Words t S).length=S.length:=yl;have V:=c.hG;have f:∀a∈S,1<=a/\a.toNat+3+(wd h.Words (a.toNat+1)).toNat<=h.Words.length/\eY k (wd h.Words a.toNat)=true/\isLen k (wd h.Words a.toNat) (wd h.Words (a.toNat+1))=true:=λ a ap=>by have r:=g.l.fit g.s a (c.sub a ap);have J:=g.l.tW a (c.sub a ap);exact⟨r.1,r.2.1,J.1,J.2⟩
  have ao:=ayF (F:=F) (pl:=gj roots.length) (rv:=roots) (y:=h.ak) (ol:=h.aK) (yt:=h.aO) (ot:=h.aM) (nx:=h.Next) (W:=h.Words) (nt:=h.aU) (c1:=k.a1) (c2:=k.aY) (c3:=k.Fields) (c4:=k.Names) (c5:=k.aZ) (o:=S) (by omega) (by omega) (λ a ap=>⟨(f a ap).1,(f a ap).2.1,(iE.1 (f a ap).2.2.2).1.1⟩) V S.length 0 F t [(0,0)] (by omega) (by omega) (by omega) (λ a ap=>by have:=(f a (lW ap)).1;simp;omega);rw[hf]at ao;have JD:z7 F F (gj roots.length) S (t:Int) S (S.length:Int) 0 roots h.Words h.ak h.aK h.aO h.aM h.aU h.Next k.a1 k.aY k.Fields k.Names k.aZ [(0,0)]=_:=ao;rw[XE];erw[JD,ae];dsimp only;have ah:x' (0 :Int) 8 ((h8 h.Words:Nat):Int)=some (gk h.Words.length 0):=by unfold x';rw[nf (by omega),bV]
  rw[ah,ae];have dL:∀a∈S,∀v∈dq k h.Words a,(cE ([(0,0)]++S.zip (news h.Words t S)) v).getD 0=dD S (news h.Words t S) v:=λ a ap v N=>aby m (q.1 a ap v N);have DI:∀(j:Nat)(a:Int),S[j]? =some a->some ((cE ([(0,0)]++S.zip (news h.Words t S)) a).getD 0)=(news h.Words t S)[j]? :=λ j a aA=>by obtain⟨s,rfl⟩:=aR.1 aA;have r:=(f _ (hj s)).1;have:=aby m (v:=S[j]) (.inr (hj s));refine Eq.trans (congrArg some this) ?_;unfold dD;rw[nc (by omega),pos_at s V];dsimp only;rw[aN (by rw[m];exact s)];rfl
  obtain⟨Z,bq,bx,X,fL⟩:=ayG (pl:=gj roots.length) (tp:=((bB h.Words t S:Nat):Int)) (rv:=roots) (y:=h.ak) (ol:=h.aK) (yt:=h.aO) (ot:=h.aM) (nx:=h.Next) (nt:=h.aU) u g.fM (by omega) m (by omega) dL DI f S.length 0 F t (gk h.Words.length 0) (by omega) (by omega) (by rw[hf,hf]) (by rw[hf];exact L) (by simp);rw[hf]at X fL;have EW:z8 F F (gj roots.length) ((bB h.Words t S:Nat):Int) S (S.length:Int) 0 roots h.Words h.ak h.aK h.aO h.aM h.aU h.Next k.a1 k.aY k.Fields k.Names k.aZ ([(0,0)]++S.zip (news h.Words t S)) (gk h.Words.length 0)=_:=bq;rw[EW,ae];dsimp only;have Dq:=ayI (F:=F) (tp:=((bB h.Words t S:Nat):Int)) (W:=h.Words) (y:=h.ak) (ol:=h.aK) (yt:=h.aO) (ot:=h.aM) (nx:=h.Next) (nt:=h.aU) (o:=S) (ns:=news h.Words t S) (M:=[(0,0)]++S.zip (news h.Words t S)) (Z:=Z) (roots:=roots) (by omega) (λ v N=>aby m (q.2 v N)) roots.length 0 F roots (by omega) (by omega) (by simp);have Ux:w7 F F ((bB h.Words t S:Nat):Int) Z (gj roots.length) (roots.length:Int) 0 h.Words h.ak h.aK h.aO h.aM h.aU h.Next ([(0,0)]++S.zip (news h.Words t S)) roots=_:=Dq;rw[RJ,Ux,ae];have P:tn h S=dD S (news h.Words t S):=by unfold tn;rw[d]
  rw[d,P];refine⟨L,Z,rfl,?_⟩;have:=avV (Z:=Z) c q.1 (by rw[d];exact L) bx (by rw[d];exact X) (by rw[d];exact λ p aD=>(fL p aD).trans aLc);rw[d]at this;exact this
end
section
variable{F:Nat}{k:aP}{h:aV}{Y O:List Int}
theorem agZ(g:I.Good F h k Y O)(tag len:Int):Am ⟨k⟩ tag len=some (if eY k tag=true then(if isLen k tag len=true then 0 else 3)else 7):=by
 unfold Am;have a:s6 (⟨(⟨k.a1,k.aY,k.Fields,k.Names,k.aZ⟩:aP)⟩:b9) tag=some (eY k tag):=abb g.fM tag;show(s6 (⟨(⟨k.a1,k.aY,k.Fields,k.Names,k.aZ⟩:aP)⟩:b9) tag).bind _=_
 rw[a,ae];cases b:eY k tag with
 |false=>rfl
 |true=>
  have ao:s7 (⟨(⟨k.a1,k.aY,k.Fields,k.Names,k.aZ⟩:aP)⟩:b9) tag len=some (isLen k tag len):=abd g.fM b len;show(s7 (⟨(⟨k.a1,k.aY,k.Fields,k.Names,k.aZ⟩:aP)⟩:b9) tag len).bind _=_
  rw[ao,ae];cases isLen k tag len<;>rfl
def gO(h:aV)(tag len:Int)(cn:Bool):aV:=
 if cn then⟨((h.Words.set h.aM.toNat tag).set (h.aM.toNat+1) len).set (h.aM.toNat+2) h.Next,h.ak,h.aK,h.aO,h.aM+(3+len),h.aU,aw (h.Next+1)⟩
 else⟨((h.Words.set h.aO.toNat tag).set (h.aO.toNat+1) len).set (h.aO.toNat+2) h.Next,h.ak,h.aK,h.aO+(3+len),h.aM,h.aU,aw (h.Next+1)⟩
def fX(h:aV)(cn:Bool):Int:=if cn then h.aM else h.aO
def rk(h:aV)(cn:Bool):Int:=if cn then h.ak+h.aK+1 else h.ak+1
theorem aGD(g:I.Good F h k Y O){tag len:Int}(a:isLen k tag len=true)(cn:Bool) :
 p3 h tag len cn=some (if rk h cn<fX h cn+(3+len)then(0,false,h)else(fX h cn,true,gO h tag len cn)):=by
 have b:(h.Words.length:Int)=1+h.ak+h.aK:=g.s.B
 obtain⟨⟨c1,c2⟩,⟨c3,c4⟩,c5⟩:=id g.s.C
 obtain⟨⟨c,d⟩,a3,a4⟩:=id g.s.A
 obtain⟨⟨l0,l1⟩,_⟩:=iE.1 a
 unfold p3
 rw[cg (n:=h.ak+h.aK) (by omega) (by omega),cg (n:=h.ak+h.aK+1) (by omega) (by omega),cg (n:=h.ak+h.aK+1-h.aM) (by omega) (by omega),cg (n:=3+len) (by omega) (by omega),
  cg (n:=h.ak+1) (by omega) (by omega),cg (n:=h.ak+1-h.aO) (by omega) (by omega),cg (n:=h.aM+1) (by omega) (by omega),cg (n:=h.aM+2) (by omega) (by omega),cg (n:=h.aO+1) (by omega) (by omega),cg (n:=h.aO+2) (by omega) (by omega),
  cg (n:=h.aM+(3+len)) (by omega) (by omega),cg (n:=h.aO+(3+len)) (by omega) (by omega)]
 unfold rk fX gO
 cases cn with
 |true=>
  simp only[ng,if_true];by_cases q:h.ak+h.aK+1<h.aM+(3+len)
  ·rw[nf q,mU (by omega)];rfl
  ·rw[nc q,mV (by omega),nh,jl (i:=h.aM.toNat) (by omega) (by omega),ae,ae,jl (i:=h.aM.toNat+1) (by omega) (by rw[hg];omega),ae,ae,
    jl (i:=h.aM.toNat+2) (by omega) (by rw[hg,hg];omega),ae,ae,show(h.aM+1).toNat=h.aM.toNat+1 by omega,show(h.aM+2).toNat=h.aM.toNat+2 by omega]
 |false=>
  simp only[nh,hM,if_false];by_cases q:h.ak+1<h.aO+(3+len)
  ·rw[nf q,mU (by omega)];rfl
  ·rw[nc q,mV (by omega),nh,jl (i:=h.aO.toNat) (by omega) (by omega),ae,ae,jl (i:=h.aO.toNat+1) (by omega) (by rw[hg];omega),ae,ae,
    jl (i:=h.aO.toNat+2) (by omega) (by rw[hg,hg];omega),ae,ae,show(h.aO+1).toNat=h.aO.toNat+1 by omega,show(h.aO+2).toNat=h.aO.toNat+2 by omega]
theorem bind_map{α β ct:Type}{o:Option α}{f:α->Option β}{g:α->Option ct}{m:ct->β}(h:∀a,f a=(g a).map m):o.bind f=(o.bind g).map m:=by
 cases o with
 |none=>rfl
 |some a=>exact h a
theorem avT{β ct:Type}{b:Bool}{x y:Option β}{e2 e3:Option ct}{m:ct->β}(a:x=e2.map m)(J:y=e3.map m):cond b x y=(cond b e2 e3).map m:=by cases b;exact J;exact a
theorem amj{y ol yt ot nx tp ln:Int}{W nt pl Z:List Int}{M:List (Int×Int)}:∀(f:Nat)(i:Int)(rv:List Int),JT F f tp pl ln i W y ol yt ot nt nx M Z rv=(w7 F f tp Z pl ln i W y ol yt ot nt nx M rv).map λ r=>(((),r.1.2.1,(),()),r.2.1,r.2.2.1,r.2.2.2.1,r.1.2.2.1,r.2.2.2.2.1,())
 |0,i,rv=>rfl
 |f+1,i,rv=>by
  rw[JT,w7];cases decide (i<ln)with
  |false=>rfl
  |true=>
   rw[ng,ng];cases idx pl i with
   |none=>rfl
   |some x=>
    rw[ae,ae];cases idx rv x with
    |none=>rfl
    |some v=>rw[ae,ae];exact amj f _ _
theorem ami{c1:List aq}{c2:List Int}{c3:List (List I.Field)}{c4:List (List (List UInt8))}{c5:List (List I.Target)}{pl W nt rv:List Int}{y ol yt ot nx:Int}:z_ F c1 c2 c3 c4 c5 pl W y ol yt ot nt nx rv=(JS F c1 c2 c3 c4 c5 pl W y ol yt ot nt nx rv).map λ r=>match r.1.1 with
 |true=>.inl (r.1,((),r.2.1.2),r.2.2.1,r.2.1.1,())
 |false=>.inr r:=by
 unfold z_ JS
 refine bind_map λ a=>bind_map λ m=>avT rfl (bind_map λ b=>bind_map λ c=>bind_map λ z=>bind_map λ d=>?_)
 rw[amj]
 generalize w7 F F _ _ _ _ _ _ _ _ _ _ _ _ _ _=o
 cases o<;>rfl
end
def k4(met:List Int)(a:Int):Int×List Int:=if a=0 then(0,met)else match pos met a with
 |some i=>((i:Int)+1,met)
 |none=>((met.length:Int)+1,met++[a])
def jr:List Int->List Int->List Int->List Int×List Int
 |[],met,out=>(met,out)
 |a::r,met,out=>jr r (k4 met a).2 (out++[(k4 met a).1])
def iv:List (Bool×Int)->List Int->List Int->List Int×List Int
 |[],met,out=>(met,out)
 |(true,v)::r,met,out=>iv r (k4 met v).2 (out++[(k4 met v).1])
 |(false,v)::r,met,out=>iv r met (out++[v])
def cells(k:aP)(W:List Int)(q:Nat):List (Bool×Int):=(ef (wd W (q+1)).toNat).map λ j=>(en k (wd W q) j,wd W (q+3+j))
def tU(k:aP)(W:List Int):Nat->Nat->List Int->List Int->List Int
 |0,_,_,out=>out
 |d+1,i,met,out=>match met[i]? with
  |some a=>tU k W d (i+1) (iv (cells k W a.toNat) met (out++[wd W a.toNat,wd W (a.toNat+1),wd W (a.toNat+2)])).1 (iv (cells k W a.toNat) met (out++[wd W a.toNat,wd W (a.toNat+1),wd W (a.toNat+2)])).2
  |none=>out
def fM(k:aP)(W roots:List Int):List Int:=tU k W 5001 0 (jr roots [] []).1 (jr roots [] []).2
theorem H'{S met:List Int}{a:Int}(h:Ord S met)(ap:a=0\/a∈S):Ord S (k4 met a).2:=by
 unfold k4;by_cases d:a=0;rw[nf d];exact h
 ·rw[nc d];cases f:pos met a with
  |some i=>exact h
  |none=>have g:=tL.1 f;refine⟨fx.2 ⟨h.hG,by simp,λ b ag c hc e=>?_⟩,λ b ag=>?_⟩;cases dV.1 hc;subst e;exact g ag;rcases cf.1 ag with ag |ag;exact h.sub b ag;cases dV.1 ag;rcases ap with ap |ap;exact absurd ap d;exact ap
theorem aJX{met:List Int}{a:Int}:met.length<=(k4 met a).2.length:=by unfold k4;split;exact cP _;split;exact cP _;simp
theorem L6{S:List Int}:∀ {l:List (Bool×Int)}{met out:List Int},Ord S met->(∀v,(true,v)∈l->v=0\/v∈S)->Ord S (iv l met out).1/\(iv l met out).2.length=out.length+l.length/\met.length<=(iv l met out).1.length
 |[],met,out,h,_=>⟨h,rfl,cP _⟩
 |(true,v)::r,met,out,h,b=>by have:=L6 (l:=r) (met:=(k4 met v).2) (out:=out++[(k4 met v).1]) (H' h (b v (by simp))) λ w c=>b w (d_ _ c);have J:=aJX (met:=met) (a:=v);refine⟨this.1,by rw[iv,this.2.1];simp;omega,by rw[iv];omega⟩
 |(false,v)::r,met,out,h,b=>by have:=L6 (l:=r) (met:=met) (out:=out++[v]) h λ w c=>b w (d_ _ c);exact⟨this.1,by rw[iv,this.2.1];simp;omega,this.2.2⟩
theorem Rj{S:List Int}:∀ {l met out:List Int},Ord S met->(∀v∈l,v=0\/v∈S)->Ord S (jr l met out).1/\(jr l met out).2.length=out.length+l.length
 |[],met,out,h,_=>⟨h,rfl⟩
 |v::r,met,out,h,a=>by have:=Rj (l:=r) (met:=(k4 met v).2) (out:=out++[(k4 met v).1]) (H' h (a v (by simp))) λ w b=>a w (d_ _ b);exact⟨this.1,by rw[jr,this.2];simp;omega⟩
theorem amE{k:aP}{W S:List Int}(hc:∀a∈S,∀v,(true,v)∈cells k W a.toNat->v=0\/v∈S)(b:∀a∈S,(wd W (a.toNat+1)).toNat<=500):∀ {d i:Nat}{met out:List Int},Ord S met->(tU k W d i met out).length<=out.length+503*d
 |0,i,met,out,_=>cP _
 |d+1,i,met,out,h=>by
  rw[tU];cases e:met[i]? with
  |none=>dsimp only;omega
  |some a=>
   dsimp only;have ap:=h.sub a (bH e);have c:=L6 (out:=out++[wd W a.toNat,wd W (a.toNat+1),wd W (a.toNat+2)]) h (hc a ap);have J:=amE hc b (d:=d) (i:=i+1) (out:=(iv (cells k W a.toNat) met (out++[wd W a.toNat,wd W (a.toNat+1),wd W (a.toNat+2)])).2) c.1;have g:(cells k W a.toNat).length<=500:=by unfold cells;rw[hd,iC];exact b a ap
   have f:=c.2.1;simp only[dM,di,gR]at f;omega
section
variable{T:Int->Int}{S:List Int}
structure Cx (T:Int->Int) (S:List Int):Prop where
 zero:T 0=0
 gF:∀v∈S,v≠0 ->T v≠0
 inj:∀v∈S,∀w∈S,v≠0 ->w≠0 ->T v=T w->v=w
 Mj:∀v∈S,v≠0
theorem alc(c:Cx T S):∀ {met:List Int}{v:Int},(∀a∈met,a∈S)->v∈S->pos (met.map T) (T v)=pos met v
 |[],v,_,_=>rfl
 |b::r,v,f,d=>by have ag:=f b hZ;rw[ez,pos,pos,alc c (λ a ap=>f a (d_ _ ap)) d];by_cases e:b=v;rw[nf e,nf (by rw[e])];rw[nc e,nc (λ h=>e (c.inj b ag v d (c.Mj b ag) (c.Mj v d) h))]
theorem amH(c:Cx T S){met:List Int}{v:Int}(e:∀a∈met,a∈S)(f:v=0\/v∈S):k4 (met.map T) (T v)=((k4 met v).1,(k4 met v).2.map T):=by
 unfold k4;by_cases b:v=0;subst b;rw[c.zero,nf rfl,nf rfl]
 ·have d:v∈S:=f.resolve_left b;rw[nc (c.gF v d b),nc b,alc c e d];cases pos met v with
  |some i=>rfl
  |none=>simp
theorem amF(a:Cx T S):∀ {l met out:List Int},Ord S met->(∀v∈l,v=0\/v∈S)->jr (l.map T) (met.map T) out=((jr l met out).1.map T,(jr l met out).2)
 |[],met,out,_,_=>rfl
 |v::r,met,out,h,b=>by have cc:=b v hZ;rw[ez,jr,jr,amH a h.sub cc];exact amF a (H' h cc) λ w c=>b w (d_ _ c)
theorem aba(b:Cx T S):∀ {l:List (Bool×Int)}{met out:List Int},Ord S met->(∀v,(true,v)∈l->v=0\/v∈S)->iv (l.map λ p=>(p.1,if p.1=true then T p.2 else p.2)) (met.map T) out=((iv l met out).1.map T,(iv l met out).2)
 |[],met,out,_,_=>rfl
 |(true,v)::r,met,out,h,a=>by
  have cc:=a v hZ;rw[ez];show iv ((true,T v)::_) _ _=_
  rw[iv,iv,amH b h.sub cc];exact aba b (H' h cc) λ w c=>a w (d_ _ c)
 |(false,v)::r,met,out,h,a=>by
  rw[ez];show iv ((false,v)::_) _ _=_
  rw[iv,iv];exact aba b h λ w c=>a w (d_ _ c)
theorem aa'{k:aP}{W W':List Int}(b:Cx T S)(hc:∀a∈S,∀v,(true,v)∈cells k W a.toNat->v=0\/v∈S)
 (c:∀a∈S,wd W' (T a).toNat=wd W a.toNat/\wd W' ((T a).toNat+1)=wd W (a.toNat+1)/\wd W' ((T a).toNat+2)=wd W (a.toNat+2)/\cells k W' (T a).toNat=(cells k W a.toNat).map λ p=>(p.1,if p.1=true then T p.2 else p.2)) :
 ∀ {d i:Nat}{met out:List Int},Ord S met->tU k W' d i (met.map T) out=tU k W d i met out
 |0,i,met,out,_=>rfl
 |d+1,i,met,out,h=>by
  rw[tU,tU,jv];cases e:met[i]? with
  |none=>rfl
  |some a=>have ap:=h.sub a (bH e);obtain⟨f,g,ao,aW⟩:=c a ap;dsimp only[fY];rw[f,g,ao,aW,aba b h (hc a ap)];exact aa' b hc c (L6 h (hc a ap)).1
end
section
variable{F:Nat}{h x:aV}{k:aP}{Y O L:List Int}
theorem aEX{W:List Int}{q:Nat}{v:Int}(a:(true,v)∈cells k W q):∃i,i<(wd W (q+1)).toNat/\en k (wd W q) i=true/\v=wd W (q+3+i):=by unfold cells at a;obtain⟨i,hi,e⟩:=hQ.1 a;exact⟨i,kF.1 hi,(Prod.mk.inj e).1,(Prod.mk.inj e).2.symm⟩
theorem NL{W:List Int}{a v:Int}(b:(true,v)∈cells k W a.toNat):v∈dq k W a:=by obtain⟨i,c,J,rfl⟩:=aEX b;exact hQ.2 ⟨((a.toNat+3+i:Nat):Int),qj.2 ⟨i,c,J,rfl⟩,by rw[bV]⟩
theorem fD.inj(g:I.Good F h k Y O)(c:fD h k L x)(aj:∀a∈L,a∈Y++O):Cx (tn h L) L:=by
 have d:∀a∈L,a≠0:=λ a ap=>by have:=(g.l.fit g.s a (aj a ap)).1;omega
 obtain⟨⟨⟨bO,l⟩,e5,m⟩,n,⟨o,p⟩,⟨kN,q⟩,r⟩:=id g.s;exact⟨Mp,λ v b f e=>by have:=(abw (h:=h) c.hG f b).2;omega,λ v b w i j J e=>aKg c.hG j J b i e,d⟩
theorem fD.cells(g:I.Good F h k Y O)(c:fD h k L x)(aj:∀a∈L,a∈Y++O):∀a∈L,wd x.Words (tn h L a).toNat=wd h.Words a.toNat/\wd x.Words ((tn h L a).toNat+1)=wd h.Words (a.toNat+1)/\wd x.Words ((tn h L a).toNat+2)=wd h.Words (a.toNat+2)/\Go.Proofs.YteeliipnilghaaaGreat.cells k x.Words (tn h L a).toNat=(Go.Proofs.YteeliipnilghaaaGreat.cells k h.Words a.toNat).map λ p=>(p.1,if p.1=true then tn h L p.2 else p.2):=λ a ap=>by
 obtain⟨j,aA,rfl⟩:=ie ap;have e:L[j]≠0:=by have:=(g.l.fit g.s _ (aj _ ap)).1;omega
 have b:=c.lo aA (i:=0) (by omega);have d:=c.lo aA (i:=1) (by omega);have ao:=c.lo aA (i:=2) (by omega);rw[j_,j_]at b;rw[RA c.hG aA e,bV];refine⟨b,d,ao,?_⟩;unfold Go.Proofs.YteeliipnilghaaaGreat.cells;rw[b,d,me];refine j1 λ i hi=>?_;have hi:=kF.1 hi;rw[c.hi aA hi];rfl
theorem fD.shape(g:I.Good F h k Y O)(c:fD h k L x)(aj:∀a∈L,a∈Y++O){roots:List Int}(b:∀v∈roots,v=0\/v∈L):fM k x.Words (roots.map (tn h L))=fM k h.Words roots:=by have d:=c.inj g aj;have e:=amF d (l:=roots) (met:=[]) (out:=[]) Ord.nil b;rw[ig]at e;unfold fM;rw[e];exact aa' d (λ a ap v f=>c.cl a ap v (NL f)) (c.cells g aj) (Rj Ord.nil b).1
end
theorem ald{o:List Int}{v:Int}:∀ {A:List Int},v∉A->pos (A++o) v=(pos o v).map (A.length+ ·)
 |[],_=>by simp
 |b::r,h=>by
  simp only[cH,not_or]at h;rw[ih,pos,nc (λ e=>h.1 e.symm),ald h.2,Option.map_map,di];cases pos o v with
  |none=>rfl
  |some i=>simp;omega
theorem alb{o:List Int}{v:Int}:∀ {A:List Int}{j:Nat},pos A v=some j->pos (A++o) v=some j
 |[],j,h=>by simp[pos]at h
 |b::r,j,h=>by rw[ih,pos];rw[pos]at h;by_cases e:b=v;rw[nf e]at h⊢;exact h;rw[nc e]at h⊢;obtain⟨i,a,rfl⟩:=cA.1 h;rw[alb a];rfl
theorem aFu{k:aP}{W:List Int}{to q:Nat}{L:List Int}(h:I.eB k W to q L):news W q L=L/\bB W q L=to:=by
 induction h with
 |nil=>exact⟨rfl,rfl⟩
 | @cons q r b J c d a=>
   have aj:sz W (q:Int)=3+(wd W (q+1)).toNat:=by unfold sz;rw[bV]
   rw[news,bB,aj,show q+(3+(wd W (q+1)).toNat)=q+3+(wd W (q+1)).toNat by omega,a.1,a.2];exact⟨rfl,rfl⟩
theorem akk{W:List Int}{p:List Int}:∀ {o:List Int}{t:Nat},news W t (o++p)=news W t o++news W (bB W t o) p
 |[],t=>rfl
 |a::r,t=>by simp[news,bB,akk (o:=r)]
theorem aKx{W O o:List Int}{q t:Nat}(d:news W q O=O)(J:bB W q O=t)(aJ:∀v∈O,v∉o){v:Int}:dD (O++o) (news W q (O++o)) v=dD o (news W t o) v:=by
 rw[akk,d,J];unfold dD;by_cases a:v=0;rw[nf a,nf a]
 ·rw[nc a,nc a];by_cases b:v∈O
  ·obtain⟨j,aA⟩:∃j,pos O v=some j:=by
    cases c:pos O v with
    |none=>exact absurd b (tL.1 c)
    |some j=>exact⟨j,rfl⟩
   have aj:=LF aA;have e:=(aR.1 aj).1;rw[alb aA,tL.2 (aJ v b)];dsimp only;rw[er e,aj];rfl
  ·rw[ald b];cases c:pos o v with
   |none=>rfl
   |some j=>dsimp only[fY];rw[eS (by omega),show O.length+j-O.length=j by omega]
section
variable{F:Nat}{h:aV}{k:aP}{Y O:List Int}
theorem aK7{W:List Int}{to q:Nat}{L:List Int}(h:I.eB k W to q L):(∀a∈L,(q:Int)<=a)/\L.Nodup:=by
 induction h with
 |nil=>exact⟨λ a ap=>by simp at ap,mg⟩
 | @cons q r d J e f b=>refine⟨λ a ap=>?_,h4.2 ⟨λ c=>?_,b.2⟩⟩;rcases cH.1 ap with rfl |ap;exact k7 _;have:=b.1 a ap;omega;have:=b.1 _ c;omega
theorem amu(q:∀a∈Y,∀v∈dq k h.Words a,v=0\/v∈Y++O)(g:I.Good F h k Y O):∀ {d i:Nat}{o:List Int},Y.length<i+d->Ord Y o->(∀j a,j<i->o[j]? =some a->∀v∈dq k h.Words a,1<=v->v<=h.ak->v∈o) ->
 ∀a∈scan k h.Words h.ak d i o,∀v∈dq k h.Words a,1<=v->v<=h.ak->v∈scan k h.Words h.ak d i o
 |0,i,o,aJ,m,hc=>λ a ap v c f J=>by obtain⟨j,aA,e⟩:=ie (show a∈o from ap);have:=m.len;exact hc j a (by omega) (by rw[aN aA,e]) v c f J
 |d+1,i,o,aJ,m,hc=>by
  rw[scan];cases n:o[i]? with
  |none=>dsimp only;intro a ap v c f J;obtain⟨j,aA,e⟩:=ie ap;have:=List.getElem?_eq_none_iff.1 n;exact hc j a (by omega) (by rw[aN aA,e]) v c f J
  |some b=>
   dsimp only;have ag:=m.sub b (bH n);obtain⟨t,p⟩:=Dv (y:=h.ak) (l:=dq k h.Words b) (o:=o);have r:=(aR.1 n).1;refine amu q g (by omega) (m.fold λ v c=>y4 g (q b ag v c)) λ j a aA ap v c f J=>?_;by_cases e:j=i
   ·subst e;have:a=b:=by rw[p,er r,n]at ap;exact(eD ap).symm
    subst this;exact JO c f J
   ·rw[p,er (by omega)]at ap;rw[p];exact e8 _ (hc j a (by omega) ap v c f J)
theorem amw{W:List Int}{y:Int}:∀ {d i:Nat}{o:List Int},∃t,scan k W y d i o=o++t
 |0,i,o=>⟨[],by simp[scan]⟩
 |d+1,i,o=>by
  rw[scan];cases o[i]? with
  |none=>exact⟨[],by simp⟩
  |some a=>obtain⟨t,b⟩:=Dv (y:=y) (l:=dq k W a) (o:=o);obtain⟨u,c⟩:=amw (W:=W) (y:=y) (d:=d) (i:=i+1) (o:=(dq k W a).foldl (cV y) o);exact⟨t++u,by dsimp only;rw[c,b,fA]⟩
theorem ajd(g:I.Good F h k Y O){roots:List Int}(f:∀a∈roots,a=0\/a∈Y++O):(∀a∈O++order k h Y roots,∀v∈dq k h.Words a,v=0\/v∈O++order k h Y roots)/\∀v∈roots,v=0\/v∈O++order k h Y roots:=by
 have q:=Zi g f;obtain⟨t,p⟩:=amw (k:=k) (W:=h.Words) (y:=h.ak) (d:=Y.length+1) (i:=0) (o:=(h.aU.flatMap (dq k h.Words)).foldl (cV h.ak) (roots.foldl (cV h.ak) []));have r:=amu (λ a ap v b=>qx g (e8 O ap) v b) g (d:=Y.length+1) (i:=0) (by omega) q (λ j a aA=>by omega);have m:∀v,v=0\/v∈Y++O->(1<=v->v<=h.ak->v∈order k h Y roots)->v=0\/v∈O++order k h Y roots:=λ v b hc=>by
  rcases b with e |e;exact .inl e
  ·rcases cf.1 e with e |e
   ·have:=Co g e;have z:3<=sz h.Words v:=by unfold sz;omega
    exact .inr (fe _ (hc this.1 (by omega)))
   ·exact .inr (e8 _ e)
 refine⟨λ a ap v b=>?_,λ v b=>?_⟩
 ·rcases cf.1 ap with ap |ap
  ·refine m v (qx g (fe Y ap) v b) λ c J=>?_;have n:a∈h.aU:=lm λ n=>by obtain⟨w,s,e⟩:=hQ.1 b;exact g.ok.must a ap n w s (by rw[e];omega)
   show v∈scan k h.Words h.ak (Y.length+1) 0 _
   rw[p];exact e8 _ (JO (hN.2 ⟨a,n,b⟩) c J)
  ·exact m v (qx g (e8 O ((QB g f).sub a ap)) v b) λ c J=>r a ap v b c J
 ·refine m v (f v b) λ c J=>?_;show v∈scan k h.Words h.ak (Y.length+1) 0 _
  rw[p];obtain⟨u,x⟩:=Dv (y:=h.ak) (l:=h.aU.flatMap (dq k h.Words)) (o:=roots.foldl (cV h.ak) []);rw[x];exact e8 _ (e8 _ (JO b c J))
theorem avW(g:I.Good F h k Y O){t0:Nat}(z:h.aM=(t0:Int)){roots fF:List Int}(w:∀a∈roots,a=0\/a∈Y++O)(A:bB h.Words t0 (order k h Y roots)<=h.Words.length)(f:Kept h k O t0 (order k h Y roots) fF) :
 fD h k (O++order k h Y roots) ⟨fF,h.ak,h.aK,1,((bB h.Words t0 (order k h Y roots):Nat):Int),[],h.Next⟩/\(∀v,dD (order k h Y roots) (news h.Words t0 (order k h Y roots)) v=tn h (O++order k h Y roots) v)/\∀a∈O++order k h Y roots,a∈Y++O:=by
 have c:=QB g w
 have m:=g.l.o
 rw[z,bV]at m
 obtain⟨x,n⟩:=aFu m
 have o:∀v∈Y,v<=h.ak:=λ v r=>by
  have:=Co g r;have G:3<=sz h.Words v:=by unfold sz;omega
  omega
 have d:∀v∈O,v∉order k h Y roots:=λ v r B=>by have H:=(g.l.cn g.s v r).1;have J:=o v (c.sub v B);omega
 have y:∀v,dD (order k h Y roots) (news h.Words t0 (order k h Y roots)) v=tn h (O++order k h Y roots) v:=λ v=>(aKx x n d).symm
 have s:bB h.Words (h.ak+1).toNat (O++order k h Y roots)=bB h.Words t0 (order k h Y roots):=by rw[Ii,n]
 have C:∀q i,val k h.Words (order k h Y roots) (news h.Words t0 (order k h Y roots)) q i=val k h.Words (O++order k h Y roots) (news h.Words (h.ak+1).toNat (O++order k h Y roots)) q i:=λ q i=>by unfold val;rw[y]
 refine⟨⟨?_,(ajd g w).1,f.len,rfl,rfl,rfl,by rw[s],rfl,rfl,by rw[s];exact A,λ j aA i hi=>?_,λ p D hc=>?_⟩,y,λ a ap=>?_⟩
 ·exact fx.2 ⟨(aK7 m).2,c.hG,λ a ap b ag e=>d a ap (e▸ag)⟩
 ·rw[<-C];by_cases l:j<O.length
  ·have u:(O++order k h Y roots)[j]=O[j]:=List.getElem_append_left l;have ao:bB h.Words (h.ak+1).toNat ((O++order k h Y roots).take j)=O[j].toNat:=by rw[j5 (by omega)];have:=HC (W:=h.Words) (t:=(h.ak+1).toNat) l;rw[x,aN l]at this;have:=eD this;omega
   rw[u]at hi⊢;rw[ao];exact f.cn _ (hj l) i hi
  ·have E:j-O.length<(order k h Y roots).length:=by rw[dM]at aA;omega
   have u:(O++order k h Y roots)[j]=(order k h Y roots)[j-O.length]:=List.getElem_append_right (by omega);have ao:bB h.Words (h.ak+1).toNat ((O++order k h Y roots).take j)=bB h.Words t0 ((order k h Y roots).take (j-O.length)):=by rw[k3,hS (by omega),Ii,n]
   rw[u]at hi⊢;rw[ao];exact f.new _ E i hi
 ·rw[s]at hc;exact f.fr p D hc
 ·rcases cf.1 ap with ap |ap;exact fe _ ap;exact e8 _ (c.sub a ap)
end
section
variable{F:Nat}{h x:aV}{k:aP}{Y O L roots:List Int}
theorem aa4{W:List Int}{a v:Int}:v∈dq k W a↔(true,v)∈cells k W a.toNat:=by refine⟨λ h=>?_,NL⟩;obtain⟨w,b,rfl⟩:=hQ.1 h;obtain⟨i,c,J,rfl⟩:=qj.1 b;unfold cells;exact hQ.2 ⟨i,kF.2 c,by rw[J,bV]⟩
theorem fD.dq(g:I.Good F h k Y O)(c:fD h k L x)(aj:∀a∈L,a∈Y++O){a:Int}(ap:a∈L){v:Int}:v∈Go.Proofs.YteeliipnilghaaaGreat.dq k x.Words (tn h L a)↔∃u∈Go.Proofs.YteeliipnilghaaaGreat.dq k h.Words a,v=tn h L u:=by rw[aa4,(c.cells g aj a ap).2.2.2,hQ];constructor;rintro⟨⟨b,u⟩,d,e⟩;simp only[cB]at e;obtain⟨rfl,e⟩:=e;rw[nf rfl]at e;exact⟨u,aa4.2 d,e.symm⟩;rintro⟨u,d,rfl⟩;exact⟨(true,u),aa4.1 d,by rw[nf rfl]⟩
theorem fD.sz(g:I.Good F h k Y O)(c:fD h k L x)(aj:∀a∈L,a∈Y++O){a:Int}(ap:a∈L):Go.Proofs.YteeliipnilghaaaGreat.sz x.Words (tn h L a)=Go.Proofs.YteeliipnilghaaaGreat.sz h.Words a:=by unfold Go.Proofs.YteeliipnilghaaaGreat.sz;rw[(c.cells g aj a ap).2.1]
theorem al2(c:fD h k L x)(e:∀v∈roots,v=0\/v∈L):∀a∈iV k h Y O roots,a∈L:=Q2 ⟨λ v b d=>(e v b).resolve_left d,λ a ap v b d=>(c.cl a ap v b).resolve_left d⟩
theorem fD.Rc(g:I.Good F h k Y O)(c:fD h k L x)(aj:∀a∈L,a∈Y++O)(b:∀v∈roots,v=0\/v∈L):∀v∈roots.map (tn h L),v=0\/v∈[]++news h.Words (h.ak+1).toNat L:=λ v d=>by obtain⟨w,f,rfl⟩:=hQ.1 d;rcases b w f with e |e;rw[e,Mp];exact .inl rfl;exact .inr (abw c.hG ((c.inj g aj).Mj w e) e).1
theorem aI2(g:I.Good F h k Y O)(c:fD h k L x)(aj:∀a∈L,a∈Y++O)(i:∀v∈roots,v=0\/v∈L){b:Int} :
 b∈iV k x [] (news h.Words (h.ak+1).toNat L) (roots.map (tn h L))↔∃a∈iV k h Y O roots,b=tn h L a:=by
 have m:=c.Wk g aj
 have hi:=c.inj g aj
 have n:∀a∈iV k h Y O roots,a∈L:=al2 c i
 have j:Nd k h.Words roots (·∈iV k h Y O roots):=Q1 g λ v d=>(i v d).imp id (aj v)
 have l:Nd k x.Words (roots.map (tn h L)) (·∈iV k x [] (news h.Words (h.ak+1).toNat L) (roots.map (tn h L))):=Q1 m (c.Rc g aj i)
 constructor
 ·refine Q2 (P:=λ b=>∃a∈iV k h Y O roots,b=tn h L a) ⟨λ v d f=>?_,λ b ag v d f=>?_⟩ b;obtain⟨w,o,rfl⟩:=hQ.1 d;exact⟨w,j.rt w o λ e=>f (by rw[e,Mp]),rfl⟩;obtain⟨a,ap,rfl⟩:=ag;obtain⟨u,p,rfl⟩:=(c.dq g aj (n a ap)).1 d;exact⟨u,j.hb a ap u p λ e=>f (by rw[e,Mp]),rfl⟩
 ·rintro⟨a,ap,rfl⟩;refine(Q2 (P:=λ a=>a∈L/\tn h L a∈iV k x [] (news h.Words (h.ak+1).toNat L) (roots.map (tn h L))) ⟨λ v d f=>?_,λ a ap v d f=>?_⟩ a ap).2;have ev:=(i v d).resolve_left f;exact⟨ev,l.rt _ (jS d) (hi.gF v ev f)⟩;have ev:=(c.cl a ap.1 v d).resolve_left f;exact⟨ev,l.hb _ ap.2 _ ((c.dq g aj ap.1).2 ⟨v,d,rfl⟩) (hi.gF v ev f)⟩
theorem P7{W S:List Int}:fB W [] S=(S.map (sz W)).sum:=by have a:=Li (W:=W) (S:=S) (t:=0);have J:=abA (W:=W) (o:=S) (t:=0);omega
theorem aCY(g:I.Good F h k Y O)(c:fD h k L x)(aj:∀a∈L,a∈Y++O)(i:∀v∈roots,v=0\/v∈L) :
 fB x.Words [] (kept k x [] (news h.Words (h.ak+1).toNat L) (roots.map (tn h L)))=fB h.Words [] (kept k h Y O roots):=by
 have n:=c.Wk g aj
 have hi:=c.inj g aj
 have j:∀v∈roots,v=0\/v∈Y++O:=λ v o=>(i v o).imp id (aj v)
 have d:=c.Rc g aj i
 have l:=AF g j
 have m:=AF n d
 have f:∀a∈kept k h Y O roots,a∈L:=λ a ap=>al2 (Y:=Y) (O:=O) c i a ((xI (tQ g j).sub).1 ap)
 have p:((kept k h Y O roots).map (tn h L)).Nodup:=List.pairwise_map.2 (lp (λ{a b} ap ag q e=>q (hi.inj a (f a ap) b (f b ag) (hi.Mj a (f a ap)) (hi.Mj b (f b ag)) e)) l.hG)
 have r:(kept k x [] (news h.Words (h.ak+1).toNat L) (roots.map (tn h L))).Perm ((kept k h Y O roots).map (tn h L)):=(ke m.hG p).2 λ b=>by rw[xI (tQ n d).sub,aI2 g c aj i,hQ];exact⟨λ⟨a,ap,e⟩=>⟨a,(xI (tQ g j).sub).2 ap,e.symm⟩,λ⟨a,ap,e⟩=>⟨a,(xI (tQ g j).sub).1 ap,e.symm⟩⟩
 rw[P7,P7,(r.map _).sum_nat,me]
 congr 1
 exact j1 λ a ap=>c.sz g aj (f a ap)
theorem fD.kv(g:I.Good F h k Y O)(c:fD h k L x)(aj:∀a∈L,a∈Y++O)(f:roots.length<=1000)(b:∀v∈roots,v=0\/v∈L):I.kv [] (news h.Words (h.ak+1).toNat L) (roots.map (tn h L))=0:=by unfold I.kv;rw[nc (by rw[hd];omega),nc];intro ap;obtain⟨v,d,ag⟩:=il.1 ap;unfold uN at ag;rcases c.Rc g aj b v d with e |e;rw[mU e]at ag;cases ag;rw[mU e,dS,mT]at ag;cases ag
theorem ayp(a:10000<F)(g:I.Good F h k Y O)(b:I.kv Y O roots=0) :
 z6 F h.Words h.ak h.aK h.aO h.aM h.aU h.Next k.a1 k.aY k.Fields k.Names k.aZ roots=some ((((fB h.Words [] (kept k h Y O roots):Nat):Int),0,()),()):=by
 obtain⟨f,c⟩:=aa0 b
 obtain⟨A,_,_,_,d,e,_⟩:=ajP a g (roots:=roots) (by omega) c
 unfold z6
 rw[JP a g]
 dsimp only[cZ]
 rw[b,mU (rfl:(0 :Int)=0),dS,nh,aGr a (by omega),ae]
 unfold Vo
 dsimp only
 rw[aKM a (by omega),ae]
 dsimp only
 rw[d,ae,ae]
 dsimp only
 rw[e,ae,ae]
end
abbrev rM(k:aP)(h:aV)(Y O l:List Int):Nat:=fB h.Words [] (kept k h Y O l)
inductive q0 (F:Nat) (k:aP) (h:aV) (Y O roots:List Int):aV->List Int->List Int->List Int->Prop
 |refl:q0 F k h Y O roots h Y O roots
 |step {x e2:aV} {jG jD l L:List Int}:q0 F k h Y O roots x jG jD l->I.Good F x k jG jD->fD x k L e2->(∀a∈L,a∈jG++jD)->(∀v∈l,v=0\/v∈L)->q0 F k h Y O roots e2 [] (news x.Words (x.ak+1).toNat L) (l.map (tn x L))
section
variable{F:Nat}{k:aP}{h x:aV}{Y O jG jD roots l:List Int}
theorem q0.all(aJ:q0 F k h Y O roots x jG jD l)(g:I.Good F h k Y O)(d:∀v∈roots,v=0\/v∈Y++O) :
 I.Good F x k jG jD/\l.length=roots.length/\(∀v∈l,v=0\/v∈jG++jD)/\x.ak=h.ak/\x.aK=h.aK/\x.Next=h.Next/\x.Words.length=h.Words.length/\rM k x jG jD l=rM k h Y O roots:=by
 induction aJ with
 |refl=>exact⟨g,rfl,d,rfl,rfl,rfl,rfl,rfl⟩
 | @step x e2 jG jD l L _ a c aj b e=>obtain⟨_,f,o,i,j,m,n,i8⟩:=e;exact⟨c.Wk a aj,by rw[hd,f],c.Rc a aj b,c.y.trans i,c.o.trans j,c.nx.trans m,c.len.trans n,(aCY a c aj b).trans i8⟩
end
section
variable{F:Nat}{k:aP}{h x:aV}{Y O jG jD roots l:List Int}
theorem ag7(a:10000<F)(g:I.Good F h k Y O){l:List Int}(b:l.length<=1000)(c:∀v∈l,v=0\/v∈Y++O) :
 (h.aK<(rM k h Y O l:Int)->z_ F k.a1 k.aY k.Fields k.Names k.aZ (gj l.length) h.Words h.ak h.aK h.aO h.aM h.aU h.Next l=some (.inr ((false,()),lS h,l,())))/\
 (¬h.aK<(rM k h Y O l:Int)->∃x,fD h k (kept k h Y O l) x/\
  z_ F k.a1 k.aY k.Fields k.Names k.aZ (gj l.length) h.Words h.ak h.aK h.aO h.aM h.aU h.Next l=some (.inl ((true,()),((),(lS x).2),l.map (tn h (kept k h Y O l)),x.Words,()))):=by
 obtain⟨d,e⟩:=ayJ a g b c
 refine⟨λ hc=>?_,λ hc=>?_⟩
 ·rw[ami,d hc];rfl
 ·obtain⟨_,Z,f,i⟩:=e hc;refine⟨_,i,?_⟩;rw[ami,f];rfl
theorem aOJ(m:10000<F)(g:I.Good F h k Y O){l:List Int}(w:l.length<=1000)(b:∀v∈l,v=0\/v∈Y++O)(n:0<=h.ak+h.aK+1-h.aM- (h.aO-1)) :
 ∃x L,fD h k L x/\(∀a∈L,a∈Y++O)/\(∀v∈l,v=0\/v∈L)/\
  y5 F k.a1 k.aY k.Fields k.Names k.aZ (gj l.length) h.ak h.aK h.aO h.aM h.aU h.Next h.Words l=some ((),((),(lS x).2),x.Words,l.map (tn h L),()):=by
 obtain⟨⟨⟨bO,y⟩,e5,z⟩,A,⟨B,C⟩,⟨kN,E⟩,G⟩:=id g.s
 obtain⟨t0,d⟩:∃t0:Nat,h.aM=(t0:Int):=⟨h.aM.toNat,by omega⟩
 have o:h.aM.toNat=t0:=by omega
 have e:∀f,Ord Y f->bB h.Words t0 f<=h.Words.length:=λ f p=>by rw[<-o];exact aJb g p n
 have i:=QB g b
 obtain⟨W,D,j,q,gg,lC,r⟩:=run_eq m g d e (roots:=l) (by omega) b
 have s:=aCZ g d i (e _ i) q gg lC r
 obtain⟨c,t,aj⟩:=avW g d b (e _ i) s
 have u:l.map (dD (order k h Y l) (news h.Words t0 (order k h Y l)))=l.map (tn h (O++order k h Y l)):=j1 λ v _=>t v
 rw[u]at j
 exact⟨_,_,c,aj,(ajd g b).2,j⟩
set_option maxHeartbeats 2000000
theorem ayi(s:10000<F)(g:I.Good F h k Y O)(B:roots.length<=1000)(a:∀v∈roots,v=0\/v∈Y++O){tag len:Int}(f:isLen k tag len=true) :
 ∃x jG jD l,q0 F k h Y O roots x jG jD l/\
  ((∃cn,¬rk x cn<fX x cn+(3+len)/\
    Dw F k.a1 k.aY k.Fields k.Names k.aZ (gj roots.length) tag len h.ak h.aK h.aO h.aM h.aU h.Next h.Words roots=some ((fX x cn,true,()),lS (gO x tag len cn),(),l,()))\/
  (h.aK<(rM k h Y O roots:Int)+(3+len)/\
   Dw F k.a1 k.aY k.Fields k.Names k.aZ (gj roots.length) tag len h.ak h.aK h.aO h.aM h.aU h.Next h.Words roots=some ((0,false,()),lS x,(),l,()))):=by
 obtain⟨⟨l0,l1⟩,_⟩:=iE.1 f
 have i:∀ {x:aV}{jG jD:List Int},I.Good F x k jG jD->∀cn,p3 (⟨x.Words,x.ak,x.aK,x.aO,x.aM,x.aU,x.Next⟩:aV) tag len cn=some (if rk x cn<fX x cn+(3+len)then(0,false,x)else(fX x cn,true,gO x tag len cn)):=λ b cn=>aGD b f cn
 have D:∀x:aV,gO x tag len true=⟨(gO x tag len true).Words,x.ak,x.aK,(gO x tag len true).aO,(gO x tag len true).aM,x.aU,(gO x tag len true).Next⟩:=λ x=>rfl
 have E:∀x:aV,gO x tag len false=⟨(gO x tag len false).Words,x.ak,x.aK,(gO x tag len false).aO,(gO x tag len false).aM,x.aU,(gO x tag len false).Next⟩:=λ x=>rfl
 have tight:∀ {z x:aV}{j m L l:List Int},q0 F k h Y O roots z j m l->L=kept k z j m l->fD z k L x->rk x true<fX x true+(3+len)->h.aK<(rM k h Y O roots:Int)+(3+len):=λ{z x j m L l} aJ e c hc=>by obtain⟨u,_,_,M,N,_,_,P⟩:=aJ.all g a;have hc:x.ak+x.aK+1<x.aM+(3+len):=hc;obtain⟨⟨⟨bO,Q⟩,e5,R⟩,_⟩:=id u.s;have d:=c.ot;have J:=c.y;have n:=c.o;have G:=Li (W:=z.Words) (S:=L) (t:=(z.ak+1).toNat);rw[e]at G;rw[e]at d;have T:rM k z j m l=fB z.Words [] (kept k z j m l):=rfl;omega
 unfold Dw
 rw[i g false,ae]
 by_cases ap:rk h false<fX h false+(3+len)
 ·rw[nf ap];dsimp only[lS];rw[nh,left_eq g];by_cases C:h.ak+h.aK+1-h.aM- (h.aO-1)<0
  ·rw[mU C,dS,nh];obtain⟨q,r⟩:=ag7 s g B a;by_cases hc:h.aK<(rM k h Y O roots:Int);have o:=q hc;refine⟨h,Y,O,roots,.refl,.inr ⟨by omega,?_⟩⟩;rw[o];rfl
   ·obtain⟨x,c,o⟩:=r hc;have aJ:q0 F k h Y O roots x [] _ (roots.map (tn h (kept k h Y O roots))):=.step .refl g c (AF g a).sub (X_ g a).2;have b:=(aJ.all g a).1;rw[o];dsimp only[lS,cZ];rw[dS,nh,i b false,ae];by_cases d:rk x false<fX x false+(3+len)
    ·rw[nf d];dsimp only[lS];rw[nh,i b true,ae];by_cases J:rk x true<fX x true+(3+len)
     ·rw[nf J];dsimp only[lS];rw[nh,ng];exact⟨x,_,_,_,aJ,.inr ⟨tight .refl rfl c J,rfl⟩⟩
     ·rw[nc J];exact⟨x,_,_,_,aJ,.inl ⟨true,J,rfl⟩⟩
    ·rw[nc d];exact⟨x,_,_,_,aJ,.inl ⟨false,d,rfl⟩⟩
  ·rw[mV C,ib,ng];obtain⟨x,L,c,aj,w,o⟩:=aOJ s g B a (by omega);have aJ:q0 F k h Y O roots x [] _ (roots.map (tn h L)):=.step .refl g c aj w;have b:=(aJ.all g a).1;have H:(roots.map (tn h L)).length=roots.length:=hd _;rw[o,ae];dsimp only[lS];rw[i b false,ae];by_cases d:rk x false<fX x false+(3+len)
   ·rw[nf d];dsimp only[lS];rw[nh,i b true,ae];by_cases J:rk x true<fX x true+(3+len)
    ·rw[nf J];dsimp only[lS];rw[nh,nh];obtain⟨q,r⟩:=ag7 s b (l:=roots.map (tn h L)) (by omega) (aJ.all g a).2.2.1;rw[H]at q r;by_cases hc:x.aK<(rM k x [] (news h.Words (h.ak+1).toNat L) (roots.map (tn h L)):Int);have y:=q hc;have U:=(aJ.all g a).2.2.2.2.2.2.2;have K:=(aJ.all g a).2.2.2.2.1;refine⟨x,_,_,_,aJ,.inr ⟨by omega,?_⟩⟩;rw[y];rfl
     ·obtain⟨z,p,y⟩:=r hc;have A:q0 F k h Y O roots z [] _ _:=.step aJ b p (AF b (aJ.all g a).2.2.1).sub (X_ b (aJ.all g a).2.2.1).2;have u:=(A.all g a).1;rw[y];dsimp only[lS,cZ];rw[dS,nh,i u true,ae];by_cases n:rk z true<fX z true+(3+len)
      ·rw[nf n];exact⟨z,_,_,_,A,.inr ⟨tight aJ rfl p n,rfl⟩⟩
      ·rw[nc n];exact⟨z,_,_,_,A,.inl ⟨true,n,rfl⟩⟩
    ·rw[nc J];exact⟨x,_,_,_,aJ,.inl ⟨true,J,rfl⟩⟩
   ·rw[nc d];exact⟨x,_,_,_,aJ,.inl ⟨false,d,rfl⟩⟩
 ·rw[nc ap];exact⟨h,Y,O,roots,.refl,.inl ⟨false,ap,rfl⟩⟩
end
def uV(k:aP)(tag len:Int):Int:=if eY k tag=true then(if isLen k tag len=true then 0 else 3)else 7
section
variable{F:Nat}{k:aP}{h:aV}{Y O roots:List Int}{tag len:Int}
theorem ayu(h:uV k tag len=0):isLen k tag len=true:=by
 unfold uV at h;cases a:eY k tag with
 |false=>rw[a,nc (by decide)]at h;exact absurd h (by decide)
 |true=>
  cases J:isLen k tag len with
  |false=>rw[a,J,nf rfl,nc (by decide)]at h;exact absurd h (by decide)
  |true=>rfl
theorem ayM{r:Option bk×Int}(e:kQ F h k=some r)(a:r.1=none)(J:r.2≠0) :
 uZ F h.Words h.ak h.aK h.aO h.aM h.aU h.Next k.a1 k.aY k.Fields k.Names k.aZ roots tag len=some ((([],0,0,0,0,[],0,()),[],0,false,r.2,()),()):=by
 unfold uZ
 rw[agY e a J]
 dsimp only[cZ]
 rw[mV J,nh,ib,ng]
theorem ayO(a:10000<F)(g:I.Good F h k Y O)(b:kv Y O roots≠0) :
 uZ F h.Words h.ak h.aK h.aO h.aM h.aU h.Next k.a1 k.aY k.Fields k.Names k.aZ roots tag len=some ((([],0,0,0,0,[],0,()),[],0,false,kv Y O roots,()),()):=by
 unfold uZ
 rw[JP a g]
 dsimp only[cZ]
 rw[mV b,nh,ib,ng]
theorem ayN(a:10000<F)(g:I.Good F h k Y O)(b:kv Y O roots=0)(ad:uV k tag len≠0) :
 uZ F h.Words h.ak h.aK h.aO h.aM h.aU h.Next k.a1 k.aY k.Fields k.Names k.aZ roots tag len=some ((([],0,0,0,0,[],0,()),[],0,false,uV k tag len,()),()):=by
 have c:Am (b9.mk (aP.mk k.a1 k.aY k.Fields k.Names k.aZ)) tag len=some (uV k tag len):=agZ g tag len
 unfold uZ
 rw[JP a g]
 dsimp only[cZ]
 rw[b,mU (rfl:(0 :Int)=0),ng,c,ae,mV ad,ib,ng]
theorem ag6(b:10000<F)(g:I.Good F h k Y O)(c:kv Y O roots=0)(ad:uV k tag len=0){H:aV}{l:List Int}{at_:Int}{ok:Bool}
 (e:Dw F k.a1 k.aY k.Fields k.Names k.aZ (gj roots.length) tag len h.ak h.aK h.aO h.aM h.aU h.Next h.Words roots=some ((at_,ok,()),lS H,(),l,())) :
 uZ F h.Words h.ak h.aK h.aO h.aM h.aU h.Next k.a1 k.aY k.Fields k.Names k.aZ roots tag len=some ((lS H,l,at_,ok,0,()),()):=by
 have d:Am (b9.mk (aP.mk k.a1 k.aY k.Fields k.Names k.aZ)) tag len=some (uV k tag len):=agZ g tag len
 obtain⟨j,m⟩:=aa0 c
 have a:nI (⟨h.Words,h.ak,h.aK,h.aO,h.aM,h.aU,h.Next⟩:aV)=_:=aGg g
 have f:bI 8 [] roots=some roots:=jf (by simp;omega)
 have i:I.sp F (roots.length:Int)=_:=aGt (by omega) b
 unfold uZ
 rw[JP b g]
 dsimp only[cZ]
 rw[c,mU (rfl:(0 :Int)=0),ng,d,ae,ad,mU (rfl:(0 :Int)=0),dS,nh,a,ae,f,ae,i,ae,e,ae]
theorem aER{cn:Bool}:(gO h tag len cn).Words.length=h.Words.length/\(gO h tag len cn).aU=h.aU:=by cases cn<;>exact⟨by simp[gO],rfl⟩
end
section
variable{F:Nat}{h:aV}{k:aP}{Y O:List Int}{W nt:List Int}{y ol yt ot nx:Int}
theorem Jn{α:Type}{l m:List α}(a:l.length<=10000000)(b:m.length<=3):bI 8 l m=some (l++m):=by unfold bI;rw[nf (by omega)]
theorem amG(c:10000<F){met:List Int}{a:Int}(d:met.length<=5000):zi F a met=some (((k4 met a).1,()),((),()),(k4 met a).2,()):=by
 unfold zi k4;by_cases b:a=0;rw[mU b,ng,nf b]
 ·rw[mV b,nh,nc b,ak6 d c,ae];cases e:pos met a with
  |some i=>
   have hi:=(aR.1 (LF e)).1;have kR:i<=100000:=by omega
   dsimp only;rw[mV (by omega),nh,iw kR];rfl
  |none=>
   dsimp only;have f:(((met++[a]).length:Nat):Int)-1=((met.length:Nat):Int):=by rw[dM,j4];omega
   have g:met.length<=100000:=by omega
   have j:I.aw ((met.length:Nat):Int)=((met.length:Nat):Int):=cg (by omega) (by omega);rw[mU (by omega),ng,Jn (by omega) (by simp),ae,f,j,iw g];rfl
theorem aJW{S l:List Int}(e:10000<F)(m:S.length<=5000)(n:l.length<=5000)(g:∀v∈l,v=0\/v∈S):∀(d i f:Nat)(met out:List Int),i+d=l.length->d<f->Ord S met->out.length=i ->
 Cz F f l (i:Int) W y ol yt ot nt nx k.a1 k.aY k.Fields k.Names k.aZ met out=some (((),(),(),(),((),()),()),(W,y,ol,yt,ot,nt,nx,()),(k.a1,k.aY,k.Fields,k.Names,k.aZ,()),((),()),(jr (l.drop i) met out).1,(jr (l.drop i) met out).2,()):=by
 intro d
 induction d with
 |zero=>
  intro i f met out h ad a c;obtain⟨f,rfl⟩:∃b,f=b+1:=⟨f-1,by omega⟩
  have:i=l.length:=by omega
  subst this;rw[Cz,bL,nh,hW];rfl
 |succ d j=>
  intro i f met out h ad a c;obtain⟨f,rfl⟩:∃b,f=b+1:=⟨f-1,by omega⟩
  have hi:i<l.length:=by omega
  have kR:i<=100000:=by omega
  have o:=a.len;rw[Cz,bM hi,ng,bu (aN hi),ae,amG e (by omega),ae,Jn (by omega) (by simp),ae,iw kR];dsimp only;rw[j (i+1) f _ _ (by omega) (by omega) (H' a (g _ (hj hi))) (by rw[dM,c];rfl),de hi,jr]
theorem aJY(r:10000<F)(s:gA k){S:List Int}(A:S.length<=5000){q len:Nat}{m:Int}(B:q+3+len<=W.length)(e6:W.length<=5000)(a:wd W (q+1)=(len:Int))(t:eY k (wd W q)=true)(l:isLen k (wd W q) (wd W (q+1))=true)
 (hc:∀v,(true,v)∈cells k W q->v=0\/v∈S):∀(d i f:Nat)(met out:List Int),i+d=len->d<f->Ord S met->out.length+d<=5000000 ->
 zj F f m (q:Int) (i:Int) W y ol yt ot nt nx k.a1 k.aY k.Fields k.Names k.aZ met out=some (((),(),(),(),((),()),m,()),(W,y,ol,yt,ot,nt,nx,()),(k.a1,k.aY,k.Fields,k.Names,k.aZ,()),((),()),(iv ((cells k W q).drop i) met out).1,(iv ((cells k W q).drop i) met out).2,()):=by
 intro d
 have n:q<=100000:=by omega
 have o:q+1<W.length:=by omega
 have C:(cells k W q).length=len:=by unfold cells;rw[hd,iC,a,bV]
 induction d with
 |zero=>
  intro i f met out h ad c u;obtain⟨f,rfl⟩:∃e,f=e+1:=⟨f-1,by omega⟩
  have:i=len:=by omega
  subst this;rw[zj,iw n,fh o,ae,a,bL,nh,List.drop_eq_nil_of_le (by omega)];rfl
 |succ d p=>
  intro i f met out h ad c u;obtain⟨f,rfl⟩:∃e,f=e+1:=⟨f-1,by omega⟩
  have hi:i<len:=by omega
  have kR:i<=100000:=by omega
  have g:q+3<=100000:=by omega
  have j:q+3+i<=100000:=by omega
  have w:q+3+i<W.length:=by omega
  have kT:q<W.length:=by omega
  have D:=c.len;have aJ:(cells k W q).drop i=(en k (wd W q) i,wd W (q+3+i))::(cells k W q).drop (i+1):=by unfold cells;rw[a,bV,de (by simpa using hi),kA,List.getElem_range]
  have x:uK (aP.mk k.a1 k.aY k.Fields k.Names k.aZ) (wd W q) (i:Int)=some (en k (wd W q) i):=alQ s t (by rw[a]at l;exact l) (by omega);rw[zj,iw n,fh o,ae,a,bM hi,ng,show I.aw ((q:Int)+3)=((q+3 :Nat):Int) from mj (b:=3) g,mj j,fh w,ae,fh kT,ae,x,ae,iw kR,aJ];cases z:en k (wd W q) i with
  |true=>rw[ng,amG r (by omega),ae,Jn (by omega) (by simp),ae];dsimp only;rw[p (i+1) f _ _ (by omega) (by omega) (H' c (hc _ (by rw[<-z];exact lW (i:=i) (by rw[aJ];exact hZ)))) (by rw[dM,j4];omega),iv]
  |false=>rw[nh,Jn (by omega) (by simp),ae];rw[p (i+1) f _ _ (by omega) (by omega) c (by rw[dM,j4];omega),iv]
theorem aJV(u:10000<F)(w:gA k){S:List Int}(x:S.length<=5000)(e6:W.length<=5000)
 (z:∀a∈S,1<=a/\a.toNat+3+(wd W (a.toNat+1)).toNat<=W.length/\eY k (wd W a.toNat)=true/\isLen k (wd W a.toNat) (wd W (a.toNat+1))=true/\∀v,(true,v)∈cells k W a.toNat->v=0\/v∈S) :
 ∀(d i f:Nat)(met out:List Int),S.length<i+d->d<f->i<=met.length->Ord S met->out.length<=1000+503*i ->
 ∃g,uz F f (i:Int) W y ol yt ot nt nx k.a1 k.aY k.Fields k.Names k.aZ met out=some (((),()),(W,y,ol,yt,ot,nt,nx,()),(k.a1,k.aY,k.Fields,k.Names,k.aZ,()),((),()),g,tU k W d i met out,()):=by
 intro d
 induction d with
 |zero=>intro i f met out h ad hi e;have:=e.len;omega
 |succ d A=>
  intro i f met out h ad hi e N;obtain⟨f,rfl⟩:∃B,f=B+1:=⟨f-1,by omega⟩
  have P:=e.len;rcases gI i met.length with bX |bX
  ·have kR:i<=100000:=by omega
   have s:met[i]? =some met[i]:=aN bX;obtain⟨Q,J,t,j,n⟩:=z _ (e.sub _ (hj bX));obtain⟨q,o⟩:∃q:Nat,met[i]=(q:Int):=⟨met[i].toNat,by omega⟩
   rw[o,bV]at J t j n;have kT:=(iE.1 j).1;obtain⟨len,c⟩:∃len:Nat,wd W (q+1)=(len:Int):=⟨(wd W (q+1)).toNat,by omega⟩
   have C:q<=100000:=by omega
   have D:q+2<=100000:=by omega
   have E:q<W.length:=by omega
   have G:q+1<W.length:=by omega
   have H:q+2<W.length:=by omega
   have K:q+3+len<=W.length:=by omega
   have L:len<=500:=by omega
   have M:(cells k W q).length=len:=by unfold cells;rw[hd,iC,c,bV]
   have bR:=aJY (F:=F) (y:=y) (ol:=ol) (yt:=yt) (ot:=ot) (nt:=nt) (nx:=nx) (m:=(i:Int)) u w x K e6 c t j n len 0 F met (out++[wd W q,wd W (q+1),wd W (q+2)]) (by omega) (by omega) e (by rw[dM];simp only[di,gR];omega);rw[hf]at bR;have p:zj F F (i:Int) (q:Int) 0 W y ol yt ot nt nx k.a1 k.aY k.Fields k.Names k.aZ met (out++[wd W q,wd W (q+1),wd W (q+2)])=_:=bR;have r:=L6 (l:=cells k W q) (out:=out++[wd W q,wd W (q+1),wd W (q+2)]) e n;obtain⟨g,dx⟩:=A (i+1) f _ (iv (cells k W q) met (out++[wd W q,wd W (q+1),wd W (q+2)])).2 (by omega) (by omega) (by have:=r.2.2;omega) r.1 (by rw[r.2.1,M,dM];simp only[di,gR];omega);refine⟨g,?_⟩;rw[uz,bM bX,ng,bu s,ae,o,fh E,ae,iw C,fh G,ae,show I.aw ((q:Int)+2)=((q+2 :Nat):Int) from mj (b:=2) D,fh H,ae,Jn (by omega) (by simp),ae,p,ae];dsimp only;rw[iw kR,dx,tU,s];dsimp only;rw[o,bV]
  ·have:i=met.length:=by omega
   subst this;refine⟨met,?_⟩;rw[uz,bL,nh,tU,gH (cP _)]
theorem amI(c:10000<F)(g:I.Good F h k Y O){roots:List Int}(n:roots.length<=1000)(e:∀v∈roots,v=0\/v∈Y++O) :
 zh F h.Words h.ak h.aK h.aO h.aM h.aU h.Next k.a1 k.aY k.Fields k.Names k.aZ roots=some ((fM k h.Words roots,()),())/\(fM k h.Words roots).length<=3000000:=by
 have w:=g.s.e1
 have f:(Y++O).length<=5000:=by have:Y.length+O.length<=5000:=(g.l.py g.fM g.s).oK;rw[dM];exact this
 have j:∀a∈Y++O,∀v,(true,v)∈cells k h.Words a.toNat->v=0\/v∈Y++O:=λ a ap v o=>qx g ap v (NL o)
 have m:=aJW (F:=F) (W:=h.Words) (y:=h.ak) (ol:=h.aK) (yt:=h.aO) (ot:=h.aM) (nt:=h.aU) (nx:=h.Next) (k:=k) c f (by omega) e roots.length 0 F [] [] (by omega) (by omega) Ord.nil rfl
 rw[hf]at m
 have p:Cz F F roots 0 h.Words h.ak h.aK h.aO h.aM h.aU h.Next k.a1 k.aY k.Fields k.Names k.aZ [] []=_:=m
 have b:=Rj (S:=Y++O) (l:=roots) (met:=[]) (out:=[]) Ord.nil e
 have x:(jr roots [] []).2.length<=1000:=by rw[b.2];simpa using n
 obtain⟨z,ao⟩:=aJV (F:=F) (W:=h.Words) (y:=h.ak) (ol:=h.aK) (yt:=h.aO) (ot:=h.aM) (nt:=h.aU) (nx:=h.Next) (k:=k) c g.fM f (by omega) (λ a ap=>by obtain⟨q,r,_⟩:=g.l.fit g.s a ap;obtain⟨s,t⟩:=g.l.tW a ap;exact⟨q,r,s,t,j a ap⟩) 5001 0 F (jr roots [] []).1 (jr roots [] []).2 (by omega) (by omega) (gY _) b.1 (by omega)
 have u:uz F F 0 h.Words h.ak h.aK h.aO h.aM h.aU h.Next k.a1 k.aY k.Fields k.Names k.aZ (jr roots [] []).1 (jr roots [] []).2=_:=ao
 refine⟨?_,?_⟩
 ·unfold zh;rw[p,ae];dsimp only;rw[u,ae];rfl
 ·have:=amE (k:=k) (W:=h.Words) (S:=Y++O) j (λ a ap=>by
   have:=(iE.1 (g.l.tW a ap).2).1;omega) (d:=5001) (i:=0) (out:=(jr roots [] []).2) b.1
  unfold fM;omega
end
section
variable{F:Nat}{k:aP}{h x y z:aV}{Y O jG jD roots l:List Int}{tag len:Int}
theorem q0.shape(aJ:q0 F k h Y O roots x jG jD l):fM k x.Words l=fM k h.Words roots:=by
 induction aJ with
 |refl=>rfl
 | @step x e2 jG jD l L _ a c aj b d=>exact(c.shape a aj b).trans d
theorem ajY(a:x.Next<=4611686018427387904)(b:1<=x.Next):I.aw (x.Next+1)=x.Next+1:=cg (by omega) (by omega)
theorem amA{W:List Int}{t p:Nat}{a b c:Int}(e:p<t\/t+3<=p)(d:t+2<W.length):wd (((W.set t a).set (t+1) b).set (t+2) c) p=wd W p:=by rw[qB (by rw[hg,hg];exact d),nc (by omega),qB (by rw[hg];omega),nc (by omega),qB (by omega),nc (by omega)]
theorem amB{W:List Int}{t:Nat}{a b c:Int}(d:t+2<W.length):wd (((W.set t a).set (t+1) b).set (t+2) c) t=a/\wd (((W.set t a).set (t+1) b).set (t+2) c) (t+1)=b/\wd (((W.set t a).set (t+1) b).set (t+2) c) (t+2)=c:=by have e:=λ p=>qB (W:=(W.set t a).set (t+1) b) (p:=t+2) (j:=p) (x:=c) (by rw[hg,hg];exact d);have f:=λ p=>qB (W:=W.set t a) (p:=t+1) (j:=p) (x:=b) (by rw[hg];omega);have q:=λ p=>qB (W:=W) (p:=t) (j:=p) (x:=a) (by omega);refine⟨?_,?_,?_⟩;rw[e,nc (by omega),f,nc (by omega),q,nf rfl];rw[e,nc (by omega),f,nf rfl];rw[e,nf rfl]
theorem aEQ(d:I.Good F x k Y O)(v:eY k tag=true)(j:isLen k tag len=true)(A:x.Next<=4611686018427387904)(cn:Bool)(f: ¬rk x cn<fX x cn+(3+len)) :
 ∃Y' O',I.Good F (gO x tag len cn) k Y' O'/\(∀a∈Y++O,a∈Y'++O')/\fX x cn∈Y'++O'/\fX x cn∉Y++O/\1<=fX x cn/\(fX x cn).toNat+2<x.Words.length/\
  (∀a∈Y++O,∀i,i<sz x.Words a->wd (gO x tag len cn).Words (a.toNat+i)=wd x.Words (a.toNat+i))/\
  wd (gO x tag len cn).Words (fX x cn).toNat=tag/\wd (gO x tag len cn).Words ((fX x cn).toNat+1)=len/\wd (gO x tag len cn).Words ((fX x cn).toNat+2)=x.Next:=by
 have B:(x.Words.length:Int)=1+x.ak+x.aK:=d.s.B
 obtain⟨⟨c1,c2⟩,⟨c3,c4⟩,c5⟩:=id d.s.C
 obtain⟨⟨C,D⟩,a3,a4⟩:=id d.s.A
 obtain⟨⟨l0,l1⟩,_⟩:=iE.1 j
 have g:=d.l.fit d.s
 have w:=ajY A c5
 cases cn with
 |true=>
  have f: ¬x.ak+x.aK+1<x.aM+(3+len):=f;obtain⟨m,n,o,_,_⟩:=aES d.s d.l d.ok v j (by omega);have p:gO x tag len true=⟨((x.Words.set x.aM.toNat tag).set (x.aM.toNat+1) len).set (x.aM.toNat+2) x.Next,x.ak,x.aK,x.aO,x.aM+(3+len),x.aU,x.Next+1⟩:=by rw[<-w];rfl
  have q:fX x true=x.aM:=rfl;rw[p,q];obtain⟨r,s,u⟩:=amB (W:=x.Words) (t:=x.aM.toNat) (a:=tag) (b:=len) (c:=x.Next) (by omega);refine⟨Y,O++[x.aM],⟨d.pX,d.fM,m,n,o⟩,λ a ap=>?_,by simp,λ hc=>?_,by omega,by omega,λ a ap i hi=>?_,r,s,u⟩;rw[<-fA];exact e8 _ ap;have:=g _ hc;omega;have:=g a ap;unfold sz at hi;exact amA (by omega) (by omega)
 |false=>
  have f: ¬x.ak+1<x.aO+(3+len):=f;obtain⟨m,n,o,_,_⟩:=aET d.s d.l d.ok v j (by omega);have p:gO x tag len false=⟨((x.Words.set x.aO.toNat tag).set (x.aO.toNat+1) len).set (x.aO.toNat+2) x.Next,x.ak,x.aK,x.aO+(3+len),x.aM,x.aU,x.Next+1⟩:=by rw[<-w];rfl
  have q:fX x false=x.aO:=rfl;rw[p,q];obtain⟨r,s,u⟩:=amB (W:=x.Words) (t:=x.aO.toNat) (a:=tag) (b:=len) (c:=x.Next) (by omega);refine⟨Y++[x.aO],O,⟨d.pX,d.fM,m,n,o⟩,λ a ap=>?_,by simp,λ hc=>?_,by omega,by omega,λ a ap i hi=>?_,r,s,u⟩;rcases cf.1 ap with e |e;exact e8 _ (e8 _ e);exact fe _ e;have:=g _ hc;omega;have:=g a ap;unfold sz at hi;exact amA (by omega) (by omega)
theorem aJ0(c:I.Good F x k Y O){W:List Int}(e6:∀a∈Y++O,∀i,i<sz x.Words a->wd W (a.toNat+i)=wd x.Words (a.toNat+i)){l:List Int}(j:∀v∈l,v=0\/v∈Y++O):fM k W l=fM k x.Words l:=by
 have m:Cx (λ v=>v) (Y++O):=⟨rfl,λ v _ b=>b,λ v _ w _ _ _ e=>e,λ a ap=>by have:=(c.l.fit c.s a ap).1;omega⟩
 have key:=aa' (k:=k) (W:=x.Words) (W':=W) m (λ a ap v n=>qx c ap v (NL n)) (λ a ap=>by have b:=e6 a ap 0 (by unfold sz;omega);have f:=e6 a ap 1 (by unfold sz;omega);have J:=e6 a ap 2 (by unfold sz;omega);rw[j_]at b;refine⟨b,f,J,?_⟩;unfold cells;rw[b,f,me];refine j1 λ i hi=>?_;have hi:=kF.1 hi;have g:=e6 a ap (3+i) (by unfold sz;omega);rw[show a.toNat+(3+i)=a.toNat+3+i by omega]at g;rw[g];simp) (d:=5001) (i:=0) (met:=(jr l [] []).1) (out:=(jr l [] []).2) (Rj Ord.nil j).1;rw[List.map_id']at key;exact key
theorem aea(a:10000<F)(w:3000000<F)(n:∃e,pa F k=some e/\uI F k=some e/\(e≠0\/(e=0/\gA k)))(d:I.Good F y k Y O)(c:I.Good F z k jG jD)(o:z.Next<=9223372036854775807)(i:roots.length<=1000)(Pa:l.length=roots.length)
 (f:∀v∈roots,v=0\/v∈Y++O)(b:∀v∈l,v=0\/v∈jG++jD)(g:fM k z.Words l=fM k y.Words roots) :
 F3 F y.Words y.ak y.aK y.aO y.aM y.aU y.Next k.a1 k.aY k.Fields k.Names k.aZ roots z.Words z.ak z.aK z.aO z.aM z.aU z.Next l=some ((true,()),()):=by
 have p:=c.Qs
 obtain⟨r,j,ao,hc⟩:=akL (h:=z) a n ⟨by omega,by omega⟩ o
 have Xk:r.2=0:=by have:=c.open a;rw[this]at j;obtain rfl:=eD j;rfl
 rw[Xk]at ao
 have q:I.kv jG jD l=0:=by unfold I.kv;rw[nc (by rw[Pa];omega),nc];intro ap;obtain⟨v,s,ag⟩:=il.1 ap;unfold uN at ag;rcases b v s with e |e;rw[mU e]at ag;cases ag;rw[mU e,dS,mT]at ag;cases ag
 have Ds:zw F (aV.mk z.Words z.ak z.aK z.aO z.aM z.aU z.Next) (aP.mk k.a1 k.aY k.Fields k.Names k.aZ)=_:=ao
 have t:zu F (aV.mk z.Words z.ak z.aK z.aO z.aM z.aU z.Next) (aP.mk k.a1 k.aY k.Fields k.Names k.aZ) l=_:=aJc a c l
 obtain⟨u,A⟩:=amI a d i f
 obtain⟨m,_⟩:=amI a c (roots:=l) (by rw[Pa];exact i) b
 rw[g]at m
 unfold F3
 rw[Ds,ae,mU (rfl:(0 :Int)=0),ng,t,ae,q,Pa,mU (rfl:(0 :Int)=0),mU (rfl:(roots.length:Int)=roots.length),Bool.and_self,ng,u,ae,m,ae]
 dsimp only
 rw[aJI ⟨by omega,by omega⟩,ae]
theorem aKe(b:10000<F)(g:I.Good F h k Y O){a:Int}(ap:a∈Y++O):Jf F h.Words h.ak h.aK h.aO h.aM h.aU h.Next k.a1 k.aY k.Fields k.Names k.aZ a=some ((true,()),()):=by have hc:Y.length+O.length<=5000:=(g.l.py g.fM g.s).oK;have c:oH F (⟨h.Words,h.ak,h.aK,h.aO,h.aM,h.aU,h.Next⟩:aV) (⟨k.a1,k.aY,k.Fields,k.Names,k.aZ⟩:aP)=_:=am3 b g;unfold Jf;rw[c,ae];dsimp only;rw[show iL F Y a=some (decide (a∈Y)) from Bq ⟨by omega,by omega⟩ a,ae];by_cases hy:a∈Y;rw[mU hy];rfl;rw[mV hy,nh,show iL F O a=some (decide (a∈O)) from Bq ⟨by omega,by omega⟩ a,mU ((cf.1 ap).resolve_left hy)];rfl
theorem ayv(h:uV k tag len=0):eY k tag=true:=by
 unfold uV at h;cases a:eY k tag with
 |false=>rw[a,nc (by decide)]at h;exact absurd h (by decide)
 |true=>rfl
end
theorem aGv(h:aV)(G:ad0 Go.reachBytes h)(k:aP)(H:Nk Go.reachBytes k)(roots:List Int)(_:roots.length*8<=Go.reachBytes/\∀x∈roots,ay.ja x)(tag:Int)(_:ay.ja tag)(len:Int)(_:ay.ja len) :
 ∃F,Nj F h.Words h.ak h.aK h.aO h.aM h.aU h.Next k.a1 k.aY k.Fields k.Names k.aZ roots tag len=some ((true,()),()):=by
 refine⟨140737488355940+60,?_⟩
 have b:10000<140737488355940+60:=by omega
 have z:3000000<140737488355940+60:=by omega
 have m:=avM H
 have K:Small (140737488355940+60) h.aU.length:=qy 7 G.2.2.2.2.2.1.1
 generalize p:(140737488355940+60 :Nat)=F at b z K⊢
 have m:∃e,pa F k=some e/\uI F k=some e/\(e≠0\/(e=0/\gA k)):=by rw[<-p];exact m
 clear p
 obtain⟨r,L,ao,hc⟩:=akL b m K G.2.2.2.2.2.2.2
 unfold Nj
 by_cases s:(4611686018427387904 :Int)<h.Next
 ·rw[mU s,ng]
 rw[mV s,nh]
 rcases hc with⟨c1,c2⟩|⟨Y,O,g,rfl⟩
 ·rw[ayo L c2 c1,ae,ayM L c2 c1,ae];dsimp only;rw[mV c1];rfl
 ·by_cases d:kv Y O roots=0
  ·obtain⟨A,j⟩:=aa0 d;rw[ayp b g d,ae];by_cases ad:uV k tag len=0
   ·have c:=ayu ad;obtain⟨⟨l0,l1⟩,_⟩:=iE.1 c;obtain⟨x,jG,jD,l,aJ,B⟩:=ayi b g A j c;obtain⟨t,M,y,_,_,a5,iM,_⟩:=aJ.all g j;have u:=aJ.shape;rcases B with⟨cn,P,q⟩|⟨Q,q⟩
    ·obtain⟨Y',O',w,R,T,U,m4,m5,V,X,Z,m9⟩:=aEQ t (ayv ad) c (by omega) cn P
     have C:(gO x tag len cn).Next<=9223372036854775807:=by
      have:=ajY (x:=x) (by omega) t.s.C.2.2;have e:(gO x tag len cn).Next=I.aw (x.Next+1):=by cases cn<;>rfl
      omega
     have D:=aJ0 t V y;have E:=aea b z m g w C A M j (λ v af=>(y v af).imp id (R v)) (D.trans u);have aPu:(gO x tag len cn).Words.length=x.Words.length:=aER.1;have GM:=t.s.e1;have l8:fX x cn=((fX x cn).toNat:Int):=by omega
     have aPE:(fX x cn).toNat<=100000:=by omega
     have i0:idx (gO x tag len cn).Words (fX x cn)=some tag:=by rw[jl l8 (by omega),X]
     have i1:idx (gO x tag len cn).Words (I.aw (fX x cn+1))=some len:=by rw[cg (by omega) (by omega),jl (i:=(fX x cn).toNat+1) (by omega) (by omega),Z]
     have i2:idx (gO x tag len cn).Words (I.aw (fX x cn+2))=some h.Next:=by rw[cg (by omega) (by omega),jl (i:=(fX x cn).toNat+2) (by omega) (by omega),m9,a5]
     have aD:pos l (fX x cn)=none:=tL.2 λ hc=>by rcases y _ hc with e |e;omega;exact U e
     have N:=ak6 (F:=F) (o:=l) (a:=fX x cn) (by omega) b;rw[aD]at N;rw[ag6 b g d ad q,ae];dsimp only[lS];rw[mU (rfl:(0 :Int)=0),dS,Bool.or_false,nh,E,ae];dsimp only;rw[dS,nh,nh,aKe b w T,ae];dsimp only;rw[ng,i0,ae,mU (rfl:tag=tag),ng,i1,ae,mU (rfl:len=len),ng,i2,ae,mU (rfl:h.Next=h.Next),ng,N,ae];rfl
    ·have E:=aea b z m g t (by omega) A M j y u;have W4:(rM k h Y O roots:Int)<=100000:=by have H:=abn (f:=sz h.Words) (AF g j).hG (AF g j).sub;have J:=P7 (W:=h.Words) (S:=kept k h Y O roots);have ar:=P7 (W:=h.Words) (S:=Y++O);have a7:=aka g;have cQ:rM k h Y O roots=fB h.Words [] (kept k h Y O roots):=rfl;omega
     rw[ag6 b g d ad q,ae];dsimp only[lS];rw[mU (rfl:(0 :Int)=0),dS,Bool.or_false,nh,E,ae];dsimp only;rw[dS,nh,ib,ng];have hw:I.aw (I.aw (((fB h.Words [] (kept k h Y O roots):Nat):Int)+3)+len)=((fB h.Words [] (kept k h Y O roots):Nat):Int)+(3+len):=by have cQ:rM k h Y O roots=fB h.Words [] (kept k h Y O roots):=rfl;rw[cg (n:=((fB h.Words [] (kept k h Y O roots):Nat):Int)+3) (by omega) (by omega),cg (by omega) (by omega)];omega
     rw[hw,mU Q];rfl
   ·rw[ayN b g d ad,ae];dsimp only;rw[mV ad];rfl
  ·rw[ayq b g d,ae,ayO b g d,ae];dsimp only;rw[mV d];rfl
end Go.Proofs.YteeliipnilghaaaGreat
namespace Go.Proofs.YteeliipnilghaaaGreat.fullEnough
open Go Go.ChangeShapes Go.WideShapes Go.ChangeAt Go.RowKit
theorem own:ownKnob Tryz.prog.godebug=none:=by kernel_rfl
set_option maxRecDepth 100000 in
theorem avU(H:Type)(enc:TypeId×Value->H)(W:World)(base:Nat)(args:Array Value)(ds gs:List (DataW H))(before:List MemPlace)
 (d:∀(j:Nat) t v,Tryz.f8.params[j]? =some t->args[j]? =some v->Value.okWide Tryz.prog W .any base t v)
 (e6:DataW.Whole enc Tryz.prog Tryz.f8.params.toList Rows.fullEnoughSpec.vars false W args.toList ds gs before)(Ph:∀n∈DataW.weightsEach Tryz.prog Tryz.f8.params.toList ds,n<=reachBytes) :
 Calls Tryz.prog 8 args W λ e W'=>∃v,e= .returned v/\Rows.fullEnoughSpec.post enc Tryz.prog Tryz.f8 false true false false W args v W':=by
 have s:=e6
 have u:=e6.lt
 obtain⟨p,q,w,rp,y,ry,iR⟩:=e6
 have cT:DataW.TrodAll enc Tryz.prog W 0 (λ _=>true) true Tryz.f8.params.toList args.toList ds p:=w
 have i:=Ph
 rw[Tryz.params8]at cT d i
 obtain⟨v0,aKO,a,aO_,hJ,aPX,Wy,rfl,rfl,aE,z⟩:=trodAll_cons cT
 obtain⟨v1,aP',b,aO',c9,bq,rfl,rfl,rfl,h1,A⟩:=trodAll_cons z
 obtain⟨v2,aQa,f,aPa,eT,bx,rfl,rfl,rfl,J,B⟩:=trodAll_cons A
 obtain⟨v3,aKP,d3,aPb,fK,bT,rfl,rfl,rfl,ar,C⟩:=trodAll_cons B
 obtain⟨v4,aQb,d4,aPc,jo,fL,rfl,rfl,rfl,a7,D⟩:=trodAll_cons C
 obtain⟨rfl,rfl,rfl⟩:=trodAll_nil D
 obtain rfl:args= #[v0,v1,v2,v3,v4]:=by cases args;simp_all
 obtain⟨rfl,rfl⟩:=trodVars_none rp
 have G:=aIO (enc:=enc) (N:=reachBytes)
 have I:=ay.T3 G aE (λ x g=>u x (by subst y;simp[g]))
 have K:=I (λ m h=>i m (by simp only[DataW.weightsEach,cf];simp[h]))
 obtain⟨a,fq,iT⟩:=K
 obtain⟨v0,rfl,_⟩:=okWide_struct Tryz.underlying24 (d 0 24 v0 rfl rfl)
 obtain⟨aOM,aO0,aON,aO1,cq,L,M⟩:=fq
 obtain rfl:=ay.ad_ cq
 have O:=aIP (enc:=enc) (N:=reachBytes)
 have P:=ay.T3 O h1 (λ x g=>u x (by subst y;simp[g]))
 have Q:=P (λ m h=>i m (by simp only[DataW.weightsEach,cf];simp[h]))
 obtain⟨b,b',bn⟩:=Q
 obtain⟨v1,rfl,_⟩:=okWide_struct Tryz.underlying30 (d 1 30 v1 rfl rfl)
 obtain⟨aOO,aO2,aOP,aO3,aOQ,aO4,aOR,aO5,aOS,aO6,ai,R,S,T,U,V⟩:=b'
 obtain rfl:=ay.ad_ ai
 have X:=Q0 (enc:=enc) (N:=reachBytes)
 have Y:=ay.T3 X J (λ x g=>u x (by subst y;simp[g]))
 have Z:=Y (λ m h=>i m (by simp only[DataW.weightsEach,cf];simp[h]))
 obtain⟨f,c',bi⟩:=Z
 obtain⟨a2,pf,c2,rfl⟩:=okWide_slice Tryz.underlying22 (d 2 22 v2 rfl rfl)
 obtain⟨dr,adK,ao⟩:=ay.n2 c'
 obtain⟨rfl,rfl,rfl⟩:=Value.slice.inj (fN ao).1
 obtain⟨l,rfl,ch⟩:=ay.aeh Tryz.underlying3 (d 3 3 v3 rfl rfl) ar
 obtain⟨o,rfl,dh⟩:=ay.aeh Tryz.underlying3 (d 4 3 v4 rfl rfl) a7
 obtain⟨F,aC⟩:=Go.Proofs.YteeliipnilghaaaGreat.aGv a iT b bn f bi l ch o dh
 have c:∀k,ay.iK [] W k->k<W.heap.size/\W.heap[k]? =W.heap[k]? :=λ k hk=>⟨hk.2,rfl⟩
 have gM:((X8 F).run aI [.a [.s 3 a.Words,.p (.int .i64 a.ak),.p (.int .i64 a.aK),.p (.int .i64 a.aO),.p (.int .i64 a.aM),.s 3 a.aU,.p (.int .i64 a.Next)],.a [.s 134 b.a1,.s 3 b.aY,.s 124 b.Fields,.s 120 b.Names,.s 121 b.aZ],.s 3 f,.p (.int .i64 l),.p (.int .i64 o)] [])= .op (Nj F a.Words a.ak a.aK a.aO a.aM a.aU a.Next b.a1 b.aY b.Fields b.Names b.aZ f l o) λ r=>.ok ⟨.ret (.p (.bool r.1.1)),[],[]⟩:=by kernel_rfl
 refine(ba.aEn (E:=aI) rfl (avy F) (ys:=[.a [.s 3 a.Words,.p (.int .i64 a.ak),.p (.int .i64 a.aK),.p (.int .i64 a.aO),.p (.int .i64 a.aM),.s 3 a.aU,.p (.int .i64 a.Next)],.a [.s 134 b.a1,.s 3 b.aY,.s 124 b.Fields,.s 120 b.Names,.s 121 b.aZ],.s 3 f,.p (.int .i64 l),.p (.int .i64 o)]) (W:=W) (by rw[gM];exact⟨((true,()),()),aC,rfl⟩) ⟨_,_,rfl,⟨_,rfl,_,_,rfl,ba.jV (λ _ _=>QZ) ((ay.b7 _).law c L),_,_,rfl,rfl,_,_,rfl,rfl,_,_,rfl,rfl,_,_,rfl,rfl,_,_,rfl,ba.jV (λ _ _=>QZ) ((ay.b7 _).law c M),_,_,rfl,rfl,rfl⟩,_,_,rfl,⟨_,rfl,_,_,rfl,ba.jV (λ _ _=>aIH) ((ay.b7 _).law c R),_,_,rfl,ba.jV (λ _ _=>QZ) ((ay.b7 _).law c S),_,_,rfl,ba.jV (λ _ _=>aIE) ((ay.b7 _).law c T),_,_,rfl,ba.jV (λ _ _=>aIC) ((ay.b7 _).law c U),_,_,rfl,ba.jV (λ _ _=>aID) ((ay.b7 _).law c V),rfl⟩,_,_,rfl,ba.jV (λ _ _=>QZ) ((ay.b7 _).law c c'),_,_,rfl,rfl,_,_,rfl,rfl,rfl⟩).mono λ e W' ⟨he,af⟩=>?_
 exact⟨_,he,ay.aGy s (by kernel_rfl) (by kernel_rfl) rfl rfl Tryz.underlying4 rfl af⟩
theorem aEl(os:Os):laidMet Tryz.prog Rows.fullEnoughRow.laid ((World.holding Tryz.prog os ⟨#[],#[],[]⟩).forCall (λ _ _=>0) ⟨#[],#[.agg #[.slice none 0 0,.int .i64 0,.int .i64 0,.int .i64 0,.int .i64 0,.slice none 0 0,.int .i64 0],.agg #[.slice none 0 0,.slice none 0 0,.slice none 0 0,.slice none 0 0,.slice none 0 0],.slice none 0 0,.int .i64 0,.int .i64 0],[]⟩).memory:=laidMet_of_run' 8 (by kernel_rfl) (by kernel_rfl)
theorem reads(os:Os){H:Type}(enc:TypeId×Value->H):∃places,DataW.whole enc Tryz.prog ((World.holding Tryz.prog os ⟨#[],#[],[]⟩).forCall (λ _ _=>0) ⟨#[],#[.agg #[.slice none 0 0,.int .i64 0,.int .i64 0,.int .i64 0,.int .i64 0,.slice none 0 0,.int .i64 0],.agg #[.slice none 0 0,.slice none 0 0,.slice none 0 0,.slice none 0 0,.slice none 0 0],.slice none 0 0,.int .i64 0,.int .i64 0],[]⟩).memory Tryz.f8.params.toList Rows.fullEnoughSpec.vars false (#[.agg #[.slice none 0 0,.int .i64 0,.int .i64 0,.int .i64 0,.int .i64 0,.slice none 0 0,.int .i64 0],.agg #[.slice none 0 0,.slice none 0 0,.slice none 0 0,.slice none 0 0,.slice none 0 0],.slice none 0 0,.int .i64 0,.int .i64 0]:Array Value).toList 8=some ([.agg [.nil,.lit (.int .i64 0),.lit (.int .i64 0),.lit (.int .i64 0),.lit (.int .i64 0),.nil,.lit (.int .i64 0)],.agg [.nil,.nil,.nil,.nil,.nil],.nil,.lit (.int .i64 0),.lit (.int .i64 0)],[],places):=⟨[],by kernel_rfl⟩
set_option maxRecDepth 100000 in
theorem lifted(os:Os)(a:os.Started)(H:Type)(enc:TypeId×Value->H)(F:Stop.Interp) :
 ReturnsInHanded {} Tryz.checked os 8 .any ((OpenSpec.ofChange Rows.fullEnoughSpec).preRow enc Tryz.prog Tryz.f8 Rows.fullEnoughRow.domain false Rows.fullEnoughRow.laid) (((OpenSpec.ofChange Rows.fullEnoughSpec).at F).post enc Tryz.prog Tryz.f8 false true false false):=by
 obtain⟨places,d⟩:=reads os enc
 refine returnsInHanded_of_row (C:=Tryz.checked) (s:=OpenSpec.ofChange Rows.fullEnoughSpec) own a (by kernel_rfl) Tryz.func8
  (witness_row_at (enc:=enc) (C:=Tryz.checked) false (World.holding Tryz.prog os ⟨#[],#[],[]⟩) #[.agg #[.slice none 0 0,.int .i64 0,.int .i64 0,.int .i64 0,.int .i64 0,.slice none 0 0,.int .i64 0],.agg #[.slice none 0 0,.slice none 0 0,.slice none 0 0,.slice none 0 0,.slice none 0 0],.slice none 0 0,.int .i64 0,.int .i64 0] rfl (by kernel_rfl) (by kernel_rfl) (by kernel_rfl)
   (OpenSpec.preRow_of_cond 8 d (by kernel_rfl) (λ k e=>by cases e) (by kernel_rfl) (aEl os))) ?_
 intro W base args ds gs before f e6 _ g b _ _ _
 exact avU H enc W base args ds gs before f e6 (λ n h=>by obtain⟨_,_,_,i,_,_,_⟩:=e6;obtain⟨rfl,_⟩:=trodVars_none i;have c:(DataW.weightsEach Tryz.prog (Tryz.f8.params.toList++[]) (ds++[])).all (·<=reachBytes)=true:=b;rw[hv,hv]at c;exact of_decide_eq_true (kp.1 c n h))
theorem said:Rows.FullEnoughSaid:=
 OpenClaim.holds_of_cond 8 Tryz.f8 rfl rfl rfl rfl rfl rfl rfl ⟨rfl,rfl,rfl,rfl,rfl⟩ rfl rfl rfl rfl rfl (by kernel_rfl) Tryz.func8 (by kernel_rfl)
  (of_decide_eq_true (by kernel_rfl)) (by unfold Func.isWrapper;first |(rw[nf (by decide+kernel)];kernel_rfl)|(rw[nc (by decide+kernel)];exact⟨rfl,rfl⟩))
  (λ os a H enc _ F=>by rw[OpenClaim.pre_eq_preRow];exact lifted os a H enc F)
end Go.Proofs.YteeliipnilghaaaGreat.fullEnough
