/- Part 7 of the proof that is ended in the last text: small logic, what the functions compute, walks, plain laws. -/
import Derived.Test.YteeliipnilghaaaGreatGk6
import Derived.KernelRfl
open Bool renaming and_eq_false_iff->mh,and_eq_true->bH,and_false->mF,eq_false_iff->hz,eq_iff_iff->ie,false_eq_true->hG,false_ne_true->kv,false_or->iu,not_eq_true'->gI,not_false->hN,not_true->dC,or_eq_false_iff->h0,or_eq_true->hV,true_and->j0
open Classical renaming byContradiction->lW
open Int renaming le_refl->k2,toNat_natCast->c6
open List renaming Pairwise.imp_of_mem->lY,all_eq_true->kh,any_eq_false->iO,any_eq_true->h2,append_assoc->hM,append_nil->hp,cons.inj->eE,drop_eq_getElem_cons->cZ,drop_length->iL,drop_zero->gS,eq_nil_of_length_eq_zero->hf,exists_of_findSome?_eq_some->ee,ext_getElem?->kL,findSome?_cons->iJ,findSome?_eq_none_iff->gf,flatMap_cons->iN,flatten_cons->ma,foldl_cons->lK,getElem?_append_left->fc,getElem?_append_right->fI,getElem?_drop->je,getElem?_eq_getElem->aJ,getElem?_eq_none->gH,getElem?_eq_some_iff->aO,getElem?_map->jb,getElem?_range->lE,getElem?_take->gT,getElem_map->kr,getElem_mem->hh,getElem_of_mem->iK,length->iv,length_append->dJ,length_cons->de,length_erase_of_mem->lX,length_map->fW,length_nil->fT,length_range->iq,length_set->kb,length_singleton->jX,length_take->gw,map_append->kc,map_cons->eu,map_nil->hS,map_singleton->ll,mem_append->b_,mem_append_left->kz,mem_append_right->js,mem_cons->cR,mem_cons_of_mem->dX,mem_cons_self->iD,mem_filter->i_,mem_flatMap->hF,mem_iff_getElem->iP,mem_iff_getElem?->mi,mem_map->hB,mem_map_of_mem->jM,mem_of_getElem?->bE,mem_of_mem_drop->mA,mem_range->kS,mem_singleton->dR,mergeSort_perm->kO,nil_append->ju,nodup_append->eQ,nodup_cons->im,nodup_iff_pairwise_ne->lx,nodup_nil->lZ,pairwise_iff_getElem->jr,pairwise_mergeSort->l6,perm_ext_iff_of_nodup->k4,range->dM,replicate->fN,singleton_append->lr,take->mf,take_add_one->k5,take_append_drop->ja,take_length->jZ,take_of_length_le->hQ
open Nat renaming add_assoc->kg,add_zero->ky,eq_zero_or_pos->lj,le_mul_of_pos_right->l2,le_refl->cC,le_trans->gJ,lt_or_ge->gg,min_eq_left->lJ,zero_add->jx,zero_le->gK
open Option renaming bind->d_,bind_some->ae,getD_none->jw,map_eq_some_iff->cu,map_none->iW,map_some->fm,some.inj->ei,some.injEq->aF
open Prod renaming fst->kQ,mk.injEq->ca
namespace I
def wd(W:List Int)(i:Nat):Int:=(W[i]?).getD 0
def io(k:aR)(t:Int):List Field:=(k.Fields[(t-3).toNat]?).getD []
def gx(k:aR)(t:Int):Bool:=decide (1<=t)&&decide (t<=2+k.a8.length)
def isLen(k:aR)(t n:Int):Bool:=decide (0<=n)&&decide (n<=500)&&(decide (t<3)||decide (n=(io k t).length))
def fQ(k:aR)(t:Int)(j:Nat):Bool:=decide (t=2)||(decide (3<=t)&&((io k t)[j]?.map λ f=>!decide (f.Kind.Kind=1)).getD false)
structure gi (k:aR):Prop where
 cl:k.a8.length<=1000
 nP:k.Fields.length=k.a8.length
theorem fP{W:List Int}{i:Nat}(h:i<W.length):idx W (i:Int)=some (wd W i):=by
 rw[bu (aJ h)];unfold wd;rw[aJ h];rfl
theorem o'{W:List Int}{a:Int}{i:Nat}(e:a=(i:Int))(h:i<W.length):idx W a=some (wd W i):=by rw[e];exact fP h
theorem azW{k:aR}{t:Int}:gx k t=true↔1<=t/\t<=2+k.a8.length:=by simp[gx]
theorem mJ{k:aR}{t n:Int}:isLen k t n=true↔(0<=n/\n<=500)/\(t<3\/n=(io k t).length):=by simp[isLen]
section
variable{k:aR}
theorem akI(h:gi k)(t:Int):vQ ⟨k⟩ t=some (gx k t):=by
 have hc:=h.cl;unfold vQ o6 gx;have e:ax (ax (3+(k.a8.length:Int))-1)=2+k.a8.length:=by rw[cT (n:=3+(k.a8.length:Int)) (by omega) (by omega),cT (by omega) (by omega)];omega
 simp only[e,ae];by_cases a:t=1
 ·subst a;simp;omega
 by_cases J:t=2
 ·subst J;simp;omega
 rw[show((decide (t=1))||(decide (t=2)))=false by simp[a,J],cond_false,aF,ie];simp;omega
theorem P7(h:gi k){t:Int}(a:gx k t=true)(ap: ¬t<3):idx k.Fields (ax (t-3))=some (io k t):=by
 obtain⟨b,J⟩:=azW.1 a;have hc:=h.cl;have ad:=h.nP;rw[cT (by omega) (by omega)];unfold idx io;rw[if_pos (by omega)];have:(t-3).toNat<k.Fields.length:=by omega
 rw[aJ this];rfl
theorem akJ(h:gi k){t:Int}(a:gx k t=true)(n:Int):vR ⟨k⟩ t n=some (isLen k t n):=by
 unfold vR o6 isLen;simp only[ae];cases af:(decide (0<=n)&&decide (n<=500))with
 |false=>simp
 |true=>
  by_cases ap:t<3
  ·simp[ap]
  ·rw[P7 h a ap];simp[ap]
theorem ZU(h:gi k){t:Int}(c:gx k t=true){n:Int}(d:isLen k t n=true){j:Nat}(aA:(j:Int)<n):rM ⟨k⟩ t (j:Int)=some (fQ k t j):=by
 unfold rM fQ;obtain⟨_,a⟩:=mJ.1 d;by_cases J:t=2
 ·simp[J]
 by_cases ap:t<3
 ·have: ¬3<=t:=by omega
  simp[J,this]
 ·have a:=a.resolve_left ap
  have e:3<=t:=by omega
  have b:j<(io k t).length:=by omega
  rw[P7 h c ap,ae,bu (aJ b),aJ b]
  simp[J,e]
inductive eO (k:aR) (W:List Int) (to:Nat):Nat->List Int->Prop
 |nil:eO k W to to []
 |cons {q:Nat} {r:List Int}:gx k (wd W q)=true->isLen k (wd W q) (wd W (q+1))=true->q+3+(wd W (q+1)).toNat<=to->eO k W to (q+3+(wd W (q+1)).toNat) r->eO k W to q ((q:Int)::r)
theorem eO.inv{W:List Int}{to q:Nat}{L:List Int}(h:eO k W to q L)(c:q<to):∃r,L=(q:Int)::r/\gx k (wd W q)=true/\isLen k (wd W q) (wd W (q+1))=true/\q+3+(wd W (q+1)).toNat<=to/\eO k W to (q+3+(wd W (q+1)).toNat) r:=by
 cases h with
 |nil=>omega
 |cons a J ap b=>exact⟨_,rfl,a,J,ap,b⟩
theorem aHn(v:bj)(aj:gi v.S.K){to:Nat}(z:to<=v.H.Words.length)(A:v.H.Words.length<=5000):∀(f q:Nat)(acc:List Int)(m:List (Int×Bool)),q<=to->to-q<f->acc.length+(to-q)<=5000 ->(∀p∈m,p.1<(q:Int)) ->
 (∃L,eO v.S.K v.H.Words to q L/\o5 (to:Int) v f acc m (q:Int)=some (.go (acc++L,m++L.map λ a=>(a,true))))\/
 ((∀L,¬eO v.S.K v.H.Words to q L)/\ ∃g,o5 (to:Int) v f acc m (q:Int)=some (.out ([],false,{ v with dH:=g }))):=by
 intro f
 induction f with
 |zero=>intro q acc m _ h;omega
 |succ f d=>
  intro q acc m B ad C j
  rw[o5]
  by_cases c:q<to
  case neg=>
   have:q=to:=by omega
   subst this
   refine .inl ⟨[],.nil,?_⟩
   rw[bJ];simp
  rw[bK c,cond_true,cT (n:=(q:Int)+3) (by omega) (by omega)]
  by_cases ap:(to:Int)<(q:Int)+3
  ·rw[decide_eq_true ap]
   refine .inr ⟨λ L b=>?_,m,rfl⟩
   obtain⟨_,_,_,_,h,_⟩:=b.inv c
   omega
  rw[decide_eq_false ap,cond_false,fP (by omega),ae,cT (n:=(q:Int)+1) (by omega) (by omega),o' (i:=q+1) (by omega) (by omega),ae]
  have s:vQ (⟨(⟨v.S.K.a8,v.S.K.aZ,v.S.K.Fields,v.S.K.Names,v.S.K.a1⟩:aR)⟩:b9) (wd v.H.Words q)=some (gx v.S.K (wd v.H.Words q)):=akI aj _
  rw[s,ae]
  cases l:gx v.S.K (wd v.H.Words q)with
  |false=>
   refine .inr ⟨λ L b=>?_,m,rfl⟩
   obtain⟨_,_,h,_⟩:=b.inv c
   rw[l]at h;cases h
  |true=>
   have ak:vR (⟨(⟨v.S.K.a8,v.S.K.aZ,v.S.K.Fields,v.S.K.Names,v.S.K.a1⟩:aR)⟩:b9) (wd v.H.Words q) (wd v.H.Words (q+1))=some (isLen v.S.K (wd v.H.Words q) (wd v.H.Words (q+1))):=akJ aj l _
   rw[ak,ae,dC,cond_false]
   cases o:isLen v.S.K (wd v.H.Words q) (wd v.H.Words (q+1))with
   |false=>
    refine .inr ⟨λ L b=>?_,m,rfl⟩
    obtain⟨_,_,_,h,_⟩:=b.inv c
    rw[o]at h;cases h
   |true=>
    obtain⟨⟨l0,l1⟩,_⟩:=mJ.1 o
    rw[dC,iu,cT (n:=(q:Int)+3+wd v.H.Words (q+1)) (by omega) (by omega)]
    by_cases t:(to:Int)<(q:Int)+3+wd v.H.Words (q+1)
    ·rw[decide_eq_true t]
     refine .inr ⟨λ L b=>?_,m,rfl⟩
     obtain⟨_,_,_,_,h,_⟩:=b.inv c
     omega
    rw[decide_eq_false t,cond_false,iz (by simp;omega),ae,cT (n:=3+wd v.H.Words (q+1)) (by omega) (by omega),cT (n:=(q:Int)+(3+wd v.H.Words (q+1))) (by omega) (by omega)]
    have u:cJ m (q:Int)=none:=by
     clear d s ak;induction m with
     |nil=>rfl
     |cons p r d=>
      have aI:=j p iD
      rw[cJ,if_neg (by omega)]
      exact d (λ x w=>j x (dX _ w))
    rw[FY u,show(q:Int)+(3+wd v.H.Words (q+1))=((q+3+(wd v.H.Words (q+1)).toNat:Nat):Int) by omega]
    rcases d (q+3+(wd v.H.Words (q+1)).toNat) (acc++[(q:Int)]) (m++[((q:Int),true)]) (by omega) (by omega) (by simp;omega) (λ p aI=>by
     rcases b_.1 aI with aI |aI
     ·have:=j p aI;omega
     ·simp at aI;subst aI;simp;omega)with⟨L,b,e⟩|⟨y,g,e⟩
    ·refine .inl ⟨(q:Int)::L,.cons l o (by omega) b,?_⟩
     rw[e];simp
    ·refine .inr ⟨λ L b=>?_,g,e⟩
     obtain⟨r,_,_,_,_,h⟩:=b.inv c
     exact y r h
theorem ak3{F:Nat}(j:6000<F)(v:bj)(aj:gi v.S.K){q to:Nat}(c:q<=to)(d:to<=v.H.Words.length)(f:v.H.Words.length<=5000)(g:∀p∈v.dH,p.1<(q:Int)) :
 (∃L,eO v.S.K v.H.Words to q L/\mE F v (q:Int) (to:Int)=some (L,true,{ v with dH:=v.dH++L.map λ a=>(a,true) }))\/
 ((∀L,¬eO v.S.K v.H.Words to q L)/\ ∃b,mE F v (q:Int) (to:Int)=some ([],false,{ v with dH:=b })):=by
 unfold mE
 rcases aHn v aj d f F q [] v.dH c (by omega) (by simp;omega) g with⟨L,h,e⟩|⟨i,b,e⟩
 ·exact .inl ⟨L,h,by rw[e,qK];simp⟩
 ·exact .inr ⟨i,b,by rw[e,akz]⟩
end
end I
namespace I
def refs(k:aR)(W:List Int)(q:Nat):List Int:=(dM (wd W (q+1)).toNat).flatMap λ j=>if fQ k (wd W q) j then[((q+3+j:Nat):Int)]else[]
theorem wO{k:aR}{W:List Int}{q:Nat}{x:Int}:x∈refs k W q↔ ∃j,j<(wd W (q+1)).toNat/\fQ k (wd W q) j=true/\x=((q+3+j:Nat):Int):=by
 unfold refs;rw[hF];constructor
 ·rintro⟨j,aA,a⟩
  split at a
  ·rename_i h;exact⟨j,by simpa using aA,h,by simpa using a⟩
  ·cases a
 ·rintro⟨j,aA,h,e⟩
  exact⟨j,by simpa using aA,by rw[if_pos h,e];simp⟩
section
variable{F:Nat}{k:aR}
theorem aGl(o:6000<F)(v:bj)(aj:gi v.S.K){q:Nat}(d:q+3+(wd v.H.Words (q+1)).toNat<=v.H.Words.length)(p:v.H.Words.length<=5000)(e:gx v.S.K (wd v.H.Words q)=true)(b:isLen v.S.K (wd v.H.Words q) (wd v.H.Words (q+1))=true) :
 qb F v (q:Int)=some (refs v.S.K v.H.Words q):=by
 obtain⟨⟨l0,l1⟩,_⟩:=mJ.1 b
 unfold qb
 rw[cT (n:=(q:Int)+1) (by omega) (by omega),o' (i:=q+1) (by omega) (by omega),ae]
 generalize g:(wd v.H.Words (q+1)).toNat=n at d
 have h:wd v.H.Words (q+1)=(n:Int):=by omega
 have c:=b
 rw[h]at c⊢
 have l1:=vb (l:=dM n) (λ k acc i=>vS (q:Int) v (n:Int) k acc (i:Int)) (λ j=>if fQ v.S.K (wd v.H.Words q) j then[((q+3+j:Nat):Int)]else[]) 1 5000 (λ x _=>by split<;>simp) (λ f i x acc a r=>by
  have hi:i<n:=by have:=(aO.1 a).1;simpa using this
  rw[lE hi]at a;simp only[aF]at a;subst a;rw[vS,bK hi,cond_true,fP (by omega),ae];have m:rM (⟨(⟨v.S.K.a8,v.S.K.aZ,v.S.K.Fields,v.S.K.Names,v.S.K.a1⟩:aR)⟩:b9) (wd v.H.Words q) (i:Int)=some (fQ v.S.K (wd v.H.Words q) i):=ZU aj e c (by omega);rw[m,ae];show _=vS (q:Int) v (n:Int) f _ _
  cases fQ v.S.K (wd v.H.Words q) i with
  |true=>
   rw[cond_true,cT (n:=(q:Int)+3) (by omega) (by omega),cT (n:=(q:Int)+3+i) (by omega) (by omega),iz (by simp;omega),ae,ae,eA hi (by omega),if_pos rfl]
   congr 2
  |false=>
   rw[cond_false,ae,eA hi (by omega),if_neg (by decide),hp]) (λ f acc=>by
  rw[iq,vS,bJ];rfl) (F:=F) (by simp;omega) (acc:=[]) (by simp;omega)
 have l1:vS (q:Int) v (n:Int) F [] 0=_:=l1
 rw[l1,ae,ju,refs,g]
theorem adE(o:10000<F){ls:List (List Int)}(p:ls.length<=10)(J:ls.flatten.length<=10000):GB F ls=some ls.flatten:=by
 unfold GB;have c:∀(d i f:Nat)(n:Int),i+d=ls.length->d<f->0<=n->n+(ls.drop i).flatten.length<=10000 ->w8 ls f n (i:Int)=some (n+(ls.drop i).flatten.length):=by
  intro d;induction d with
  |zero=>
   intro i f n h ad m _
   obtain⟨f,rfl⟩:∃a,f=a+1:=⟨f-1,by omega⟩
   have:i=ls.length:=by omega
   subst this
   rw[w8,bJ];simp
  |succ d e=>
   intro i f n h ad m af
   obtain⟨f,rfl⟩:∃a,f=a+1:=⟨f-1,by omega⟩
   have hi:i<ls.length:=by omega
   rw[cZ hi]at af
   simp only[ma,dJ]at af
   rw[w8,bK hi,cond_true,bu (aJ hi),ae,cT (n:=n+((ls[i]).length:Int)) (by omega) (by omega),show decide (n+((ls[i]).length:Int)<0)=false from decide_eq_false (by omega),cond_false,ae,eA hi (by omega),e (i+1) f _ (by omega) (by omega) (by omega) (by omega),cZ hi]
   simp only[ma,dJ]
   congr 1;omega
 have g:=c ls.length 0 F 0 (by omega) (by omega) (by omega) (by simp at J⊢;omega);have g:w8 ls F 0 0=some (0+((ls.drop 0).flatten.length:Int)):=g;rw[g,ae,gS,Int.zero_add];have b:PY (ls.flatten.length:Int)=some []:=by
  unfold PY;rw[show decide ((ls.flatten.length:Int)<0)=false from decide_eq_false (by omega),cond_false,ae,cT (n:=(ls.flatten.length:Int)-0) (by omega) (by omega),Int.sub_zero];by_cases j:(0 :Int)<(ls.flatten.length:Int)
  ·rw[decide_eq_true j,cond_true]
   unfold HQ
   rw[if_pos ⟨j,by omega⟩];rfl
  ·rw[decide_eq_false j];rfl
 rw[b,ae];have l:∀(d i f:Nat)(acc:List Int),i+d=ls.length->d<f->acc.length+(ls.drop i).flatten.length<=10000 ->w9 ls f acc (i:Int)=some (acc++(ls.drop i).flatten):=by
  intro d;induction d with
  |zero=>
   intro i f n h ad m
   obtain⟨f,rfl⟩:∃a,f=a+1:=⟨f-1,by omega⟩
   have:i=ls.length:=by omega
   subst this
   rw[w9,bJ];simp
  |succ d e=>
   intro i f acc h ad af
   obtain⟨f,rfl⟩:∃a,f=a+1:=⟨f-1,by omega⟩
   have hi:i<ls.length:=by omega
   rw[cZ hi]at af
   simp only[ma,dJ]at af
   rw[w9,bK hi,cond_true,bu (aJ hi),ae,iz (by omega),ae,eA hi (by omega),e (i+1) f _ (by omega) (by omega) (by simp only[dJ];omega),cZ hi,ma,hM]
 have b:=l ls.length 0 F [] (by omega) (by omega) (by simp at J⊢;omega);have b:w9 ls F [] 0=some ([]++(ls.drop 0).flatten):=b;rw[b];simp
theorem all_eq(a:10000<F)(v:bj)(h:v.au.length+v.aN.length<=10000):yH F v=some (v.au++v.aN):=by
 unfold yH;rw[adE a (by simp) (by simp;omega)];simp
def aj(W:List Int)(a:Int):Int:=wd W (a.toNat+2)
def zE(l:List Int)(m:List (Int×Bool)):List (Int×Bool):=l.foldl (λ m x=>gA m x true) m
theorem ajz:∀(l:List Int)(m:List (Int×Bool)),(zE l m).length<=m.length+l.length/\((zE l m).length=m.length+l.length↔l.Nodup/\ ∀x∈l,(cJ m x).isSome=false)
 |[],m=>by simp[zE]
 |x::r,m=>by
  have c:=ajz r (gA m x true);have e:zE (x::r) m=zE r (gA m x true):=rfl;rw[e];have a:=OD (k:=x) (v:=true) m;rw[de];cases b:(cJ m x).isSome with
  |true=>
   rw[b,if_pos rfl]at a
   rw[a]at c
   refine⟨by omega,⟨λ h=>by omega,λ h=>?_⟩⟩
   have:=h.2 x iD
   rw[b]at this;cases this
  |false=>
   rw[b,if_neg (by decide)]at a
   rw[a]at c
   refine⟨by omega,?_⟩
   rw[show m.length+(r.length+1)=m.length+1+r.length by omega,c.2,im]
   constructor
   ·rintro⟨d,J⟩
    refine⟨⟨λ g=>?_,d⟩,λ y hy=>?_⟩
    ·have:=J x g
     have ap:=(JM (k:=x) (s:=x) (v:=true) m).2 (.inl rfl)
     rw[this]at ap;cases ap
    ·rcases cR.1 hy with rfl |hy
     ·exact b
     ·cases f:(cJ m y).isSome with
      |false=>rfl
      |true=>
       have ap:=(JM (k:=x) (s:=y) (v:=true) m).2 (.inr f)
       rw[J y hy]at ap;cases ap
   ·rintro⟨⟨d,J⟩,ap⟩
    refine⟨J,λ y hy=>?_⟩
    cases f:(cJ (gA m x true) y).isSome with
    |false=>rfl
    |true=>
     rcases(JM (k:=x) (s:=y) (v:=true) m).1 f with e |e
     ·subst e;exact absurd hy d
     ·rw[ap y (dX _ hy)]at e;cases e
def lN(v:bj)(a:Int):Bool:=decide (aj v.H.Words a<1)||decide (v.H.Next<=aj v.H.Words a)
theorem axh(v:bj)(r:List Int)(e:r.length<=10000)(af:∀a∈r,0<=a/\a.toNat+3<=v.H.Words.length)(g:v.H.Words.length<=5000):∀(d i f:Nat)(m:List (Int×Bool)),i+d=r.length->d<f ->
 vT v r f m (i:Int)=if(r.drop i).any (lN v)then some (.out 3)else some (.go (zE ((r.drop i).map (aj v.H.Words)) m)):=by
 intro d
 induction d with
 |zero=>
  intro i f m h ad
  obtain⟨f,rfl⟩:∃b,f=b+1:=⟨f-1,by omega⟩
  have:i=r.length:=by omega
  subst this
  rw[vT,bJ];simp[zE]
 |succ d c=>
  intro i f m h ad
  obtain⟨f,rfl⟩:∃b,f=b+1:=⟨f-1,by omega⟩
  have hi:i<r.length:=by omega
  obtain⟨j,l⟩:=af r[i] (hh hi)
  rw[vT,bK hi,cond_true,bu (aJ hi),ae,cT (n:=r[i]+2) (by omega) (by omega),o' (i:=(r[i]).toNat+2) (by omega) (by omega),ae,cZ hi,List.any_cons]
  show cond (lN v r[i]) _ _=_
  cases lN v r[i]with
  |true=>rfl
  |false=>
   rw[cond_false,eA hi (by omega),c (i+1) f _ (by omega) (by omega),iu]
   rfl
theorem axg(f:10000<F)(v:bj)(h:v.au.length+v.aN.length<=5000)(af:∀a∈v.au++v.aN,0<=a/\a.toNat+3<=v.H.Words.length)(g:v.H.Words.length<=5000)(b:v.dH.length=(v.au++v.aN).length) :
 Fl F v=some (if(v.au++v.aN).any (lN v)then 3 else if((v.au++v.aN).map (aj v.H.Words)).Nodup then 0 else 6):=by
 unfold Fl
 have e:yH F (⟨(⟨v.H.Words,v.H.au,v.H.aN,v.H.aX,v.H.aW,v.H.aV,v.H.Next⟩:aU),(⟨(⟨v.S.K.a8,v.S.K.aZ,v.S.K.Fields,v.S.K.Names,v.S.K.a1⟩:aR)⟩:b9),v.au,v.aN,v.dH⟩:bj)=some (v.au++v.aN):=all_eq f v (by omega)
 rw[e,ae]
 have l1:=axh v (v.au++v.aN) (by simp;omega) af g (v.au++v.aN).length 0 F [] (by omega) (by simp;omega)
 have l1:vT v (v.au++v.aN) F [] 0=_:=l1
 rw[l1,gS]
 cases(v.au++v.aN).any (lN v)with
 |true=>rfl
 |false=>
  rw[if_neg (by decide),if_neg (by decide),qK]
  obtain⟨i,d⟩:=ajz ((v.au++v.aN).map (aj v.H.Words)) []
  rw[fW,fT,jx]at i d
  by_cases c:((v.au++v.aN).map (aj v.H.Words)).Nodup
  ·rw[if_pos c]
   have:=d.2 ⟨c,λ _ _=>rfl⟩
   rw[decide_eq_false (by rw[this,b];omega)];rfl
  ·rw[if_neg c]
   have:(zE ((v.au++v.aN).map (aj v.H.Words)) []).length≠(v.au++v.aN).length:=λ e=>c (d.1 e).1
   rw[decide_eq_true (by rw[b];omega)];rfl
end
end I
namespace I
def BH(l:List Int):Prop:=∀a b,a<b->b<l.length->wd l a<wd l b
theorem Z3{l:List Int}(h:∀i,i+1<l.length->wd l i<wd l (i+1)):BH l:=by
 intro a b d;induction b with
 |zero=>omega
 |succ b c=>
  intro af
  by_cases e:a=b
  ·subst e;exact h a af
  ·exact Int.lt_trans (c (by omega) (by omega)) (h b af)
theorem aaq{l:List Int}{i:Nat}(h:i<l.length):wd l i∈l:=by unfold wd;rw[aJ h];exact hh h
theorem pB{l:List Int}{i:Nat}{x:Int}(h:l[i]? =some x):wd l i=x:=by unfold wd;rw[h];rfl
theorem Xl{l:List Int}{x:Int}(h:x∈l):∃i,i<l.length/\wd l i=x:=by
 obtain⟨i,hi,e⟩:=iK h;exact⟨i,hi,pB (by rw[aJ hi,e])⟩
theorem ajo{α:Type}{p:α->Bool}:∀ {l:List α},(er p l).isSome=l.any p
 |[]=>rfl
 |x::r=>by
  rw[er,List.any_cons];cases h:p x with
  |true=>rfl
  |false=>simp only[hG,if_false,iu];rw[<-ajo (l:=r)];cases er p r<;>rfl
theorem TV{α:Type}{l:List α}{L:Nat->Int->Option (Way Int Unit)}(p:α->Bool)(a:l.length<=140737488355328)
 (aj:∀k (i:Nat) x,l[i]? =some x->L (k+1) (i:Int)=cond (p x) (some (.out (i:Int))) (L k (ax ((i:Int)+1))))
 (b:∀k,L (k+1) (l.length:Int)=some (.go ())){F:Nat}(c:l.length<F):((ch (α:=Unit) (L F 0) λ(_:Unit)=>some (-1)).bind λ r=>some (decide ((0 :Int)<=r)))=some (l.any p):=by
 rw[TW p (λ n:Nat=>(n:Int)) a aj b c,<-ajo]
 cases er p l with
 |none=>rfl
 |some i=>
  show some (decide ((0 :Int)<=(i:Int)))=_
  rw[decide_eq_true (by omega)];rfl
section
variable{F:Nat}
theorem aG2{l:List Int}(k:l.length<=10000)(t:Int):∀(f i j:Nat),i<=j->j<=l.length->j-i<f->(∀a,a<i->wd l a<t)->(∀a,j<=a->a<l.length->t<=wd l a)->BH l ->
 ∃p:Nat,uz t l f (i:Int) (j:Int)=some (p:Int)/\p<=l.length/\(∀a,a<p->wd l a<t)/\(∀a,p<=a->a<l.length->t<=wd l a):=by
 intro f
 induction f with
 |zero=>intro i j _ _ h;omega
 |succ f b=>
  intro i j m aA ad c J aj
  rw[uz]
  by_cases h:i<j
  case neg=>
   have:i=j:=by omega
   subst this
   rw[bJ]
   exact⟨i,rfl,aA,c,J⟩
  have d:ax (w7 (GM (ax ((i:Int)+(j:Int)))) 1)=(((i+j) / 2 :Nat):Int):=by
   rw[cT (n:=(i:Int)+j) (by omega) (by omega)];unfold GM w7;rw[cT (by omega) (by omega)];omega
  have o:(i+j) / 2<j:=by omega
  have q:i<=(i+j) / 2:=by omega
  rw[bK h,cond_true,d,fP (by omega),ae]
  unfold cmp_Less_int cmp_isNaN_int
  rw[ae,show(!decide (wd l ((i+j) / 2)=wd l ((i+j) / 2)))=false by simp,cond_false,ae]
  by_cases hc:wd l ((i+j) / 2)<t
  ·rw[decide_eq_true hc,cond_true,ae]
   show∃p:Nat,uz t l f (ax ((((i+j) / 2 :Nat):Int)+1)) (j:Int)=_/\_
   rw[cT (n:=(((i+j) / 2 :Nat):Int)+1) (by omega) (by omega),show(((i+j) / 2 :Nat):Int)+1=(((i+j) / 2+1 :Nat):Int) by omega]
   refine b ((i+j) / 2+1) j (by omega) aA (by omega) (λ a g=>?_) J aj
   by_cases e:a=(i+j) / 2
   ·subst e;exact hc
   ·exact Int.lt_trans (aj a ((i+j) / 2) (by omega) (by omega)) hc
  ·rw[decide_eq_false hc,cond_false,ae]
   show∃p:Nat,uz t l f (i:Int) (((i+j) / 2 :Nat):Int)=_/\_
   refine b i ((i+j) / 2) (by omega) (by omega) (by omega) c (λ a g af=>?_) aj
   by_cases e:a=(i+j) / 2
   ·subst e;omega
   ·have:=aj ((i+j) / 2) a (by omega) af
    omega
theorem aG1(n:10000<F){l:List Int}(j:l.length<=10000)(aj:BH l)(t:Int) :
 ∃p:Nat,Kz F l t=some ((p:Int),decide (t∈l))/\p<=l.length/\(∀a,a<p->wd l a<t)/\(∀a,p<=a->a<l.length->t<=wd l a):=by
 obtain⟨p,e,k,f,J⟩:=aG2 j t F 0 l.length (by omega) (cC _) (by omega) (λ a b=>by omega) (λ a b af=>by omega) aj
 refine⟨p,?_,k,f,J⟩
 unfold Kz
 have e:uz t l F 0 (l.length:Int)=some (p:Int):=e
 rw[e,ae]
 by_cases c:p<l.length
 ·rw[bK c,cond_true,fP c,ae]
  by_cases d:wd l p=t
  ·rw[decide_eq_true d,cond_true,decide_eq_true (d▸aaq c)]
  ·have g: ¬t∈l:=λ h=>by
    obtain⟨a,b,i⟩:=Xl h;by_cases m:a<p
    ·have:=f a m;omega
    ·have ap:=J p (cC _) c
     by_cases e:a=p
     ·subst e;exact d i
     ·have:=aj p a (by omega) b;omega
   rw[decide_eq_false d,cond_false,ae,decide_eq_false g];unfold P2;rw[ae,show(!decide (wd l p=wd l p))=false by simp,cond_false]
 ·have:p=l.length:=by omega
  subst this
  have g: ¬t∈l:=λ h=>by
   obtain⟨a,b,i⟩:=Xl h;have:=f a b;omega
  rw[bJ,cond_false,decide_eq_false g]
structure rf (v:bj) (a:Int):Prop where
 pos:0<=a
 fit:a.toNat+3+(wd v.H.Words (a.toNat+1)).toNat<=v.H.Words.length
 tag:gx v.S.K (wd v.H.Words a.toNat)=true
 len:isLen v.S.K (wd v.H.Words a.toNat) (wd v.H.Words (a.toNat+1))=true
structure oV (v:bj):Prop where
 jk:gi v.S.K
 fz:v.H.Words.length<=4900
 p4:v.au.length+v.aN.length<=5000
 st:∀a∈v.au++v.aN,rf v a
 dH:∀x,(cJ v.dH x).getD false=decide (x∈v.au++v.aN)
theorem rf.ZB{v:bj}{a:Int}(b:oV v)(h:rf v a)(c:6000<F):qb F v a=some (refs v.S.K v.H.Words a.toNat):=by
 have:=aGl c v b.jk h.fit (by have:=b.fz;omega) h.tag h.len;rwa [show((a.toNat:Nat):Int)=a by have:=h.pos;omega]at this
theorem rf.PE{v:bj}{a w:Int}(h:rf v a)(b:w∈refs v.S.K v.H.Words a.toNat):idx v.H.Words w=some (wd v.H.Words w.toNat):=by
 obtain⟨j,aA,_,e⟩:=wO.1 b;have:=h.fit;subst e;exact fP (by omega)
theorem PF{v:bj}{a:Int}(b:oV v)(h:rf v a):(refs v.S.K v.H.Words a.toNat).length<=5000:=by
 have:(refs v.S.K v.H.Words a.toNat).length<=1*(dM (wd v.H.Words (a.toNat+1)).toNat).length:=yv λ x _=>by split<;>simp
 have c:=h.fit;have J:=b.fz;rw[iq]at this;omega
def uF(v:bj)(w:Int):Bool:=!decide (wd v.H.Words w.toNat=0)&& !decide (wd v.H.Words w.toNat∈v.au++v.aN)
def ou(v:bj)(a:Int):Bool:=(refs v.S.K v.H.Words a.toNat).any (uF v)
def free(h:aU):List Int:=h.Words.take 1++((h.Words.take (h.au+1).toNat).drop h.aX.toNat++h.Words.drop h.aW.toNat)
theorem nS{α:Type}{p:α->Bool}{e:Int}:∀l:List α,l.findSome? (λ x=>if p x then some e else none)=if l.any p then some e else none
 |[]=>rfl
 |x::r=>by
  rw[iJ,List.any_cons];cases p x with
  |true=>rfl
  |false=>simp only[hG,if_false,iu];exact nS r
theorem aIk(j:10000<F){v:bj}(b:oV v)(q:0<=v.H.au)(r:0<=v.H.aX/\v.H.aX<=v.H.au+1/\v.H.au+1<=v.H.Words.length)(J:0<=v.H.aW/\v.H.aW<=v.H.Words.length) :
 Fo F v=some (if(v.au++v.aN).any (ou v)then 5 else if(free v.H).any (λ x=>!decide (x=0))then 1 else 0):=by
 have hc:=b.p4;have s:=b.fz
 unfold Fo
 have e:yH F (⟨(⟨v.H.Words,v.H.au,v.H.aN,v.H.aX,v.H.aW,v.H.aV,v.H.Next⟩:aU),(⟨(⟨v.S.K.a8,v.S.K.aZ,v.S.K.Fields,v.S.K.Names,v.S.K.a1⟩:aR)⟩:b9),v.au,v.aN,v.dH⟩:bj)=some (v.au++v.aN):=all_eq j v (by omega)
 rw[e,ae]
 have l1:yI F v (v.au++v.aN) F 0=some (cw ((v.au++v.aN).findSome? λ a=>if ou v a then some 5 else none)):=each _ (by simp;omega) (λ f i a c=>by
  have m:=bE c;have d:=b.st a m;rw[yI,bK (aO.1 c).1,cond_true,bu c,ae];have ak:qb F (⟨(⟨v.H.Words,v.H.au,v.H.aN,v.H.aX,v.H.aW,v.H.aV,v.H.Next⟩:aU),(⟨(⟨v.S.K.a8,v.S.K.aZ,v.S.K.Fields,v.S.K.Names,v.S.K.a1⟩:aR)⟩:b9),v.au,v.aN,v.dH⟩:bj) a=some (refs v.S.K v.H.Words a.toNat):=d.ZB b (by omega);have FD:=PF b d;rw[ak,ae];have n:vV v (refs v.S.K v.H.Words a.toNat) F 0=some (cw ((refs v.S.K v.H.Words a.toNat).findSome? λ w=>if uF v w then some 5 else none)):=each _ (by omega) (λ o i' w g=>by
   have p:=bE g;rw[vV,bK (aO.1 g).1,cond_true,bu g,ae,d.PE p,ae,b.dH];unfold uF;cases decide (wd v.H.Words w.toNat=0)<;>cases decide (wd v.H.Words w.toNat∈v.au++v.aN)<;>rfl) (λ o=>by rw[vV,bJ];rfl) (by omega)
  rw[n,nS];show _=gR (if(refs v.S.K v.H.Words a.toNat).any (uF v)then some 5 else none) _
  cases(refs v.S.K v.H.Words a.toNat).any (uF v)<;>rfl) (λ f=>by rw[yI,bJ];rfl) (by simp;omega)
 rw[l1,nS]
 cases(v.au++v.aN).any (ou v)with
 |true=>rfl
 |false=>
  simp only[hG,if_false,cw,qK]
  have c1:cut v.H.Words 0 1=some (v.H.Words.take 1):=by
   unfold cut;rw[if_pos ⟨by omega,by omega,by omega⟩];rfl
  have c2:cut v.H.Words v.H.aX (ax (v.H.au+1))=some ((v.H.Words.take (v.H.au+1).toNat).drop v.H.aX.toNat):=by
   rw[cT (by omega) (by omega)];unfold cut;rw[if_pos ⟨by omega,by omega,by omega⟩]
  have c3:cut v.H.Words v.H.aW (v.H.Words.length:Int)=some (v.H.Words.drop v.H.aW.toNat):=by
   unfold cut;rw[if_pos ⟨by omega,by omega,by omega⟩,c6,jZ]
  have t:(free v.H).length<=10000:=by unfold free;simp;omega
  rw[c1,c2,c3,ae,ae,ae,adE j (by simp) (by simp;omega),ae]
  have h:[v.H.Words.take 1,(v.H.Words.take (v.H.au+1).toNat).drop v.H.aX.toNat,v.H.Words.drop v.H.aW.toNat].flatten=free v.H:=by simp[free]
  rw[h]
  unfold PW P0
  rw[TV (l:=free v.H) (L:=zW (free v.H)) (λ x=>!decide (x=0)) (by omega) (λ f i x k=>by
   rw[zW,bK (aO.1 k).1,cond_true,bu k,ae];rfl) (λ f=>by rw[zW,bJ];rfl) (by omega),ae]
  cases(free v.H).any (λ x=>!decide (x=0))<;>rfl
def kd(v:bj)(x:Int):Bool:=decide (0<x)&&decide (x<=v.H.au)
def sc(v:bj)(x:Int):Bool:=!decide (x∈v.au++v.aN)||kd v x||(refs v.S.K v.H.Words x.toNat).isEmpty
def hq(v:bj)(i:Nat):Bool:=(decide (0<i)&&decide (wd v.H.aV i<=wd v.H.aV (i-1)))||sc v (wd v.H.aV i)
def pP(v:bj)(x:Int):Bool:=!decide (x∈v.H.aV)&&(refs v.S.K v.H.Words x.toNat).any λ w=>kd v (wd v.H.Words w.toNat)
theorem aDh(f:10000<F){v:bj}(b:oV v)(x:Int)(Y:Option (Way Int Unit)):(cond (!((cJ v.dH x).getD false)) (some (.out 4)) ((Fk v x).bind λ d=>
 cond (d) (some (.out 4)) ((qb F v x).bind λ e=>
 cond (decide ((e.length:Int)=0)) (some (.out 4)) Y)))=gR (if sc v x then some 4 else none) Y:=by
 rw[b.dH]
 unfold sc
 by_cases c:x∈v.au++v.aN
 ·rw[decide_eq_true c,(b.st x c).ZB b (by omega)]
  show cond (kd v x) _ ((some _).bind _)=_
  cases kd v x with
  |true=>rfl
  |false=>
   rw[cond_false,ae]
   cases refs v.S.K v.H.Words x.toNat with
   |nil=>rfl
   |cons a r=>rw[decide_eq_false (by simp;omega)];rfl
 ·rw[decide_eq_false c];rfl
theorem aDg(k:10000<F){v:bj}(a:oV v)(s:v.H.aV.length<=140737488355328)(t:v.H.aV.length<F)(c:(∀i,i<v.H.aV.length->hq v i=false)->v.H.aV.length<=10000) :
 Fm F v=some (if(dM v.H.aV.length).any (hq v)||v.aN.any (pP v)then 4 else 0):=by
 have hc:=a.p4;have B:=a.fz
 unfold Fm
 have l1:tD F v F 0=some (cw ((dM v.H.aV.length).findSome? λ i=>if hq v i then some 4 else none)):=ku _ s (λ f i hi=>by
  have m:=aDh k a (wd v.H.aV i) (tD F v f (ax ((i:Int)+1)));rw[tD,bK hi,cond_true,fP hi,ae];unfold hq;by_cases o:0<i
  ·rw[show decide ((0 :Int)<(i:Int))=true from decide_eq_true (by omega),cond_true,cT (n:=(i:Int)-1) (by omega) (by omega),o' (i:=i-1) (by omega) (by omega),ae,decide_eq_true o,j0]
   cases decide (wd v.H.aV i<=wd v.H.aV (i-1))with
   |true=>rfl
   |false=>exact m
  ·rw[show decide ((0 :Int)<(i:Int))=false from decide_eq_false (by omega),cond_false,decide_eq_false o,Bool.false_and,iu]
   exact m) (λ f=>by rw[tD,bJ];rfl) t
 rw[l1,nS]
 cases af:(dM v.H.aV.length).any (hq v)with
 |true=>rfl
 |false=>
  have q:∀i,i<v.H.aV.length->hq v i=false:=λ i hi=>by
   rw[iO]at af;simpa using af i (by simpa using hi)
  have b:=c q
  have d:BH v.H.aV:=Z3 λ i hi=>by
   have:=q (i+1) hi;unfold hq at this;simp only[h0,mh,decide_eq_false_iff_not,Nat.add_sub_cancel]at this;rcases this.1 with h |h<;>omega
  simp only[hG,if_false,cw,qK,iu]
  have u:vU F v F 0=some (cw (v.aN.findSome? λ x=>if pP v x then some 4 else none)):=each _ (by omega) (λ f i x e=>by
   have y:x∈v.au++v.aN:=js _ (bE e);have g:=a.st x y;obtain⟨p,z,_⟩:=aG1 k b d x;rw[vU,bK (aO.1 e).1,cond_true,bu e,ae,z,ae];unfold pP;by_cases r:x∈v.H.aV
   ·rw[decide_eq_true r];rfl
   ·rw[decide_eq_false r]
    have ak:qb F (⟨(⟨v.H.Words,v.H.au,v.H.aN,v.H.aX,v.H.aW,v.H.aV,v.H.Next⟩:aU),(⟨(⟨v.S.K.a8,v.S.K.aZ,v.S.K.Fields,v.S.K.Names,v.S.K.a1⟩:aR)⟩:b9),v.au,v.aN,v.dH⟩:bj) x=some (refs v.S.K v.H.Words x.toNat):=g.ZB a (by omega)
    have FD:=PF a g
    simp only[hN,cond_true,j0]
    rw[ak,ae]
    unfold PV PZ
    rw[TV (l:=refs v.S.K v.H.Words x.toNat) (L:=zV (refs v.S.K v.H.Words x.toNat) v) (λ w=>kd v (wd v.H.Words w.toNat)) (by omega) (λ A i' w j=>by
     rw[zV,bK (aO.1 j).1,cond_true,bu j,ae];unfold Nr;rw[g.PE (bE j)];rfl) (λ A=>by rw[zV,bJ];rfl) (by omega),ae]
    cases(refs v.S.K v.H.Words x.toNat).any (λ w=>kd v (wd v.H.Words w.toNat))<;>rfl) (λ f=>by rw[vU,bJ];rfl) (by omega)
  rw[u,nS]
  cases v.aN.any (pP v)<;>rfl
end
end I
namespace I
def O3:aR:=⟨[],[],[],[],[]⟩
def rows{β:Type}(f:Int->β)(i:Nat):List β:=(dM i).map λ j:Nat=>f (j:Int)
theorem Gu{β:Type}(f:Int->β)(i:Nat):rows f (i+1)=rows f i++[f (i:Int)]:=by simp[rows,List.range_succ]
def linked(l:List ao):aR:=⟨l,dm l,rows (fs l) l.length,rows (λ i=>(hb l i).1) l.length,rows (λ i=>(hb l i).2) l.length⟩
def EJ(l:List ao)(i:Nat):Option (aR×Int):=if 12<(fs l i).length\/16<(hb l i).1.length then some (O3,2)else none
section
variable{F:Nat}{l:List ao}
theorem ac9(x y:Nat):((decide ((12 :Int)<(x:Int)))||(decide ((16 :Int)<(y:Int))))=decide (12<x\/16<y):=by
 rw[ie];simp;omega
theorem aBX(c:1100<F)(h:hW l)(a b:Int×bs)(e:a.2.bZ=eR 0 l)(f:b.2.du=dm l) :
 oa F l a b F [] [] [] 0=some (Dz ((dM l.length).findSome? (EJ l)) (rows (λ i=>(hb l i).2) l.length,rows (λ i=>(hb l i).1) l.length,rows (fs l) l.length)):=by
 have d:=h.right.len
 refine SC (n:=l.length) (λ k i=>oa F l a b k (rows (λ i=>(hb l i).2) i) (rows (λ i=>(hb l i).1) i) (rows (fs l) i) (i:Int)) _ _ (λ k i hi=>?_) (λ k=>?_) (F:=F) (by omega)
 ·show oa F l a b (k+1) (rows (λ i=>(hb l i).2) i) (rows (λ i=>(hb l i).1) i) (rows (fs l) i) (i:Int)=_
  rw[oa,bK hi,cond_true,e,f,h.aBY c (eR 0 l) (by omega) (by omega),ae,h.Xb c (eR 0 l) (by omega) (by omega),ae,
   iz (by simp only[rows,fW,iq,de,fT];omega),ae,iz (by simp only[rows,fW,iq,de,fT];omega),ae,
   iz (by simp only[rows,fW,iq,de,fT];omega),ae,bu (i:=i) (x:=fs l i) (by simp[rows]),ae,ac9,eA hi (by omega),<-Gu (fs l),<-Gu (λ i=>(hb l i).1),<-Gu (λ i=>(hb l i).2)]
  unfold EJ
  by_cases af:12<(fs l i).length\/16<(hb l i).1.length
  ·rw[decide_eq_true af,if_pos af];rfl
  ·rw[decide_eq_false af,if_neg af];rfl
 ·show oa F l a b (k+1) (rows (λ i=>(hb l i).2) l.length) (rows (λ i=>(hb l i).1) l.length) (rows (fs l) l.length) (l.length:Int)=_
  rw[oa,bJ];rfl
theorem aGi(a:1100<F)(h:hW l) :
 q9 F l F [] [] [] [] 0=some (Dz ((dM l.length).findSome? (EJ l)) (rows (λ i=>(hb l i).2) l.length,rows (λ i=>(hb l i).1) l.length,rows (fs l) l.length,dm l)):=by
 have b:=h.right.len
 refine SC (n:=l.length) (λ k i=>q9 F l k (rows (λ i=>(hb l i).2) i) (rows (λ i=>(hb l i).1) i) (rows (fs l) i) ((dm l).take i) (i:Int)) _ _ (λ k i hi=>?_) (λ k=>?_) (F:=F) (by omega)
 ·obtain⟨x,c⟩:∃x,l[i]? =some x:=⟨l[i],aJ hi⟩
  have aS:(dm l).take i++[cP l x.cX]=(dm l).take (i+1):=by rw[k5,Z5 c];rfl
  show q9 F l (k+1) (rows (λ i=>(hb l i).2) i) (rows (λ i=>(hb l i).1) i) (rows (fs l) i) ((dm l).take i) (i:Int)=_
  rw[q9,bK hi,cond_true,h.Zw a (by omega) (by omega),ae,h.aGj a (by omega) (by omega),ae,ac9,bu c,ae,x2 ⟨by omega,by omega⟩,ae,
   iz (by simp only[gw,GC,de,fT];omega),ae,
   iz (by simp only[rows,fW,iq,de,fT];omega),ae,iz (by simp only[rows,fW,iq,de,fT];omega),ae,
   iz (by simp only[rows,fW,iq,de,fT];omega),ae,eA hi (by omega),<-Gu (fs l),<-Gu (λ i=>(hb l i).1),<-Gu (λ i=>(hb l i).2),aS]
  unfold EJ
  by_cases af:12<(fs l i).length\/16<(hb l i).1.length
  ·rw[decide_eq_true af,if_pos af];rfl
  ·rw[decide_eq_false af,if_neg af];rfl
 ·show q9 F l (k+1) (rows (λ i=>(hb l i).2) l.length) (rows (λ i=>(hb l i).1) l.length) (rows (fs l) l.length) ((dm l).take l.length) (l.length:Int)=_
  rw[q9,bJ,hQ (by rw[GC];omega)];rfl
theorem sd{α:Type}{e:Int}(h:e≠0){x y:α}:cond (!decide (e=0)) x y=x:=by rw[decide_eq_false h];rfl
theorem rq{α:Type}{x y:α}:cond (!decide ((0 :Int)=0)) x y=y:=rfl
theorem aHy{e:Int}(h:l.findSome? uD=some e):e=4:=by
 obtain⟨x,_,a⟩:=ee h;unfold uD at a;split at a
 ·cases a
 ·injection a with a;exact a.symm
theorem aCn{e:Int}(h:l.findSome? (qu l)=some e):e=5:=by
 obtain⟨x,_,a⟩:=ee h;unfold qu at a;split at a
 ·cases a
 ·injection a with a;exact a.symm
theorem atU{e:Int}(h:(dM l.length).findSome? (vp l)=some e):e=4:=by
 obtain⟨x,_,a⟩:=ee h;unfold vp at a;split at a
 ·cases a
 ·injection a with a;exact a.symm
theorem aHM{nm:List UInt8}(h:0<=cP l nm):(cJ (eR 0 l) nm).getD 0=cP l nm:=by
 rw[F2];unfold cP at h⊢;cases a:er (fX nm) l with
 |none=>rw[a]at h;simp at h
 |some i=>simp
theorem ato(g:1100<F)(ad:Fits F l):∃e,HG F l=some e/\
 ((e≠0/\CU F l=some (O3,e))\/
  (e=0/\hW l/\ ∃B p:Int×bs,B.2.bZ=eR 0 l/\p.2.du=dm l/\
   CU F l=ch (α:=(List (List Target))×(List (List (List UInt8)))×(List (List Field))) (oa F l B p F [] [] [] 0) λ((H,I,K):(List (List Target))×(List (List (List UInt8)))×(List (List Field)))=>some ((⟨l,p.2.du,K,I,H⟩:aR),0))):=by
 unfold HG CU
 rw[asy ad,azF ad,ae,ae]
 by_cases k:rn l=0
 case neg=>exact⟨rn l,by rw[sd k],.inl ⟨k,by rw[sd k];rfl⟩⟩
 rw[k,rq,rq]
 have f:=atr k
 have C:=f.len
 rw[aDz (by omega) f,ae]
 rcases aCL (F:=F) (by omega) f with⟨L,q,t⟩|⟨_,⟨m,q⟩,t⟩
 case inr=>
  unfold FO
  simp only
  rw[q,t]
  exact⟨6,rfl,.inl ⟨by decide,rfl⟩⟩
 rw[t,qK,x2 ⟨by omega,by omega⟩,ae,x2 ⟨by omega,by omega⟩,ae]
 have u:FO F ⟨l,[],[]⟩=some (cond (decide (0<=cP l [79,98,106,101,99,116])&&decide (0<=cP l [69,114,114,111,114])) 0 5,⟨l,eR 0 l,[]⟩):=by
  unfold FO;simp only;rw[q,qK,XN,XN];cases decide (0<=cP l [79,98,106,101,99,116])<;>cases decide (0<=cP l [69,114,114,111,114])<;>rfl
 rw[u,ae]
 by_cases v:0<=cP l [79,98,106,101,99,116]
 case neg=>
  rw[decide_eq_true (show cP l [79,98,106,101,99,116]<0 by omega),decide_eq_false v]
  exact⟨5,rfl,.inl ⟨by decide,rfl⟩⟩
 rw[decide_eq_false (show¬cP l [79,98,106,101,99,116]<0 by omega),decide_eq_true v,cond_false]
 by_cases j:0<=cP l [69,114,114,111,114]
 case neg=>
  rw[decide_eq_true (show cP l [69,114,114,111,114]<0 by omega),decide_eq_false j]
  exact⟨5,rfl,.inl ⟨by decide,rfl⟩⟩
 rw[decide_eq_false (show¬cP l [69,114,114,111,114]<0 by omega),decide_eq_true j,cond_false,Bool.and_self,cond_true]
 simp only[ae,decide_true,dC,cond_false]
 unfold On
 simp only
 rw[aHw (by omega) f,aHx (by omega) f,jW,jW]
 cases D:l.findSome? uD with
 |some e=>
  have:=aHy D
  subst this
  exact⟨4,rfl,.inl ⟨by decide,rfl⟩⟩
 |none=>
 simp only[iW,pq]
 obtain⟨o,n,M⟩:=aCl (F:=F) (by omega) f
 rw[aCm (by omega) f,jW,M,<-n]
 cases o with
 |some r=>
  simp only[fm]at n
  have:=aCn n.symm
  refine⟨5,by simp only[fm,pq];rw[this],.inl ⟨by decide,?_⟩⟩
  obtain⟨a,b⟩:=r
  simp only at this
  subst this
  rfl
 |none=>
 simp only[iW,pq,Dz,qK]
 simp only[iW]at n
 rw[atT g f,jW,atS g f,jW]
 cases hc:(dM l.length).findSome? (vp l)with
 |some e=>
  have:=atU hc
  subst this
  exact⟨4,rfl,.inl ⟨by decide,rfl⟩⟩
 |none=>
 simp only[iW,pq,ae,decide_true,dC,cond_false]
 have w:∀c∈l,c.cX=[]\/0<=cP l c.cX:=λ c y=>by
  have:=gf.1 n.symm c y;unfold qu at this;split at this
  ·assumption
  ·cases this
 have z:∀i,i<l.length-> ∃c,dw (dm l) l.length (i:Int)=some c:=λ i hi=>by
  have:=gf.1 hc i (by simpa using hi);unfold vp at this;split at this
  ·rename_i d;exact Option.isSome_iff_exists.1 d
  ·cases this
 have h:hW l:=⟨f,L,w,z,λ c y=>gf.1 D c y,v⟩
 have A:cP l [69,114,114,111,114]<l.length:=SZ
 obtain⟨x,N,_⟩:=xb (l:=l) j A
 unfold Oo
 simp only[aHM j]
 rw[h.Zw g j A,ae,h.Xb g (eR 0 l) j A,ae,N,ae,ae]
 by_cases aj:((!decide (x.cX=[79,98,106,101,99,116]))||(decide (((fs l (cP l [69,114,114,111,114])).length:Int)=0)))=true
 ·rw[aj]
  exact⟨4,rfl,.inl ⟨by decide,rfl⟩⟩
 rw[hz.2 aj,cond_false,cond_false]
 have O:0<(fs l (cP l [69,114,114,111,114])).length:=by
  simp only[hV,decide_eq_true_eq,not_or]at aj;omega
 have P:idx (fs l (cP l [69,114,114,111,114])) 0=some ((fs l (cP l [69,114,114,111,114]))[0]):=by
  have:=bu (l:=fs l (cP l [69,114,114,111,114])) (i:=0) (aJ O);exact this
 rw[P,ae,ae]
 by_cases E:((fs l (cP l [69,114,114,111,114]))[0]).Kind.Kind=1
 case neg=>
  rw[decide_eq_false E]
  exact⟨4,rfl,.inl ⟨by decide,rfl⟩⟩
 rw[decide_eq_true E]
 simp only[dC,cond_false,ae,decide_true]
 rw[aHu g f,jW,aHt g f,ae]
 cases Q:(sv l).findSome? (jY l)with
 |some e=>
  have:e=5:=by
   obtain⟨s,_,d⟩:=ee Q;rcases ak6 (l:=l) (s:=s)with J |J
   ·rw[J]at d;cases d
   ·rw[J]at d;injection d with d;exact d.symm
  subst this
  exact⟨5,rfl,.inl ⟨by decide,rfl⟩⟩
 |none=>
 simp only[pq,jw,decide_true,dC,cond_false]
 rw[aDs g h,jW,aDr g h,ae]
 cases R:(dM l.length).findSome? (zA l)with
 |some e=>
  have:e=6:=by
   obtain⟨s,_,d⟩:=ee R;unfold zA vq at d;split at d
   ·split at d
    ·cases d
    ·simp at d;exact d.symm
   ·simp at d;exact d.symm
  subst this
  exact⟨6,rfl,.inl ⟨by decide,rfl⟩⟩
 |none=>
 simp only[pq,jw,decide_true,dC,cond_false]
 rw[aCk g h,jW,aCj g h,ae]
 cases S:(dM l.length).findSome? (λ i=>(l[i]?).bind λ c=>FV l c i)with
 |some e=>
  have:e=4:=by
   obtain⟨i,_,d⟩:=ee S;cases G:l[i]? with
   |none=>rw[G]at d;cases d
   |some c=>
    rw[G,ae]at d
    unfold FV at d
    rcases tl (adC (l:=l) c) (dy l i).tail with J |J
    ·rw[J]at d;cases d
    ·rw[J]at d;injection d with d;exact d.symm
  subst this
  exact⟨4,rfl,.inl ⟨by decide,rfl⟩⟩
 |none=>
 simp only[pq,jw,decide_true,dC,cond_false]
 exact⟨0,rfl,.inr ⟨rfl,h,(0,⟨l,eR 0 l,[]⟩),(0,⟨l,eR 0 l,dm l⟩),rfl,rfl,rfl⟩⟩
theorem aBW(b:1100<F)(ad:Fits F l):∃r:aR×Int,CU F l=some r/\HI F l=some r/\(r.2=0 ->hW l/\r.1=linked l)/\(r.2≠0 ->r.1=O3):=by
 obtain⟨e,a,J⟩:=ato b ad;unfold HI;rw[a,ae];rcases J with⟨f,J⟩|⟨rfl,c,g,j,k,d,J⟩
 ·exact⟨_,J,by rw[sd f];rfl,λ h=>absurd h f,λ _=>rfl⟩
 ·rw[rq,J,aBX b c g j k d,aGi b c]
  cases af:(dM l.length).findSome? (EJ l)with
  |some r=>
   have:r=(O3,2):=by
    obtain⟨i,_,a⟩:=ee af;unfold EJ at a;split at a
    ·injection a with a;exact a.symm
    ·cases a
   subst this
   exact⟨_,rfl,rfl,λ h=>absurd h (by decide),λ _=>rfl⟩
  |none=>
   refine⟨_,rfl,?_,λ _=>⟨c,?_⟩,λ h=>absurd rfl h⟩
   ·simp only[Dz,qK,d]
   ·simp only[d];rfl
end
end I
namespace I
theorem my{α:Type} [DecidableEq α]{F:Nat}{a b:List α}(j:a.length=b.length){L:Nat->Int->Option (Way Bool Unit)}(d:a.length<=140737488355328)
 (aj:∀k (i:Nat) x y,a[i]? =some x->b[i]? =some y->L (k+1) (i:Int)=cond (!decide (x=y)) (some (.out false)) (L k (ax ((i:Int)+1))))(f:∀k,L (k+1) (a.length:Int)=some (.go ()))(g:a.length<F) :
 L F 0=some (if a=b then .go ()else .out false):=by
 have l1:L F 0=some (cw ((dM a.length).findSome? λ i=>if a[i]? =b[i]? then none else some false)):=ku _ d (λ k i hi=>by
  rw[aj k i a[i] (b[i]'(by omega)) (aJ hi) (aJ (show i<b.length by omega)),aJ hi,aJ (show i<b.length by omega)];simp only[aF];by_cases e:a[i]=b[i]'(by omega)
  ·rw[decide_eq_true e,if_pos e];rfl
  ·rw[decide_eq_false e,if_neg e];rfl) f g
 rw[l1]
 cases ad:(dM a.length).findSome? λ i=>if a[i]? =b[i]? then none else some false with
 |some e=>
  obtain⟨i,hi,c⟩:=ee ad
  split at c
  ·cases c
  ·rename_i h
   injection c with c
   subst c
   rw[if_neg (λ e=>h (by rw[e]))];rfl
 |none=>
  rw[if_pos];rfl
  apply kL
  intro i
  by_cases hi:i<a.length
  ·have:=gf.1 ad i (by simpa using hi)
   split at this
   ·assumption
   ·cases this
  ·rw[gH (by omega),gH (by omega)]
theorem T7{α β:Type}(l:List α):l.findSome? (λ _=>(none:Option β))=none:=by rw[gf];intro _ _;rfl
theorem o1{p:Prop} [Decidable p]{Y:Option Bool}:ch (α:=Unit) (some (if p then(.go ():Way Bool Unit)else .out false)) (λ _=>Y)=if p then Y else some false:=by by_cases h:p<;>simp[h]
theorem adD{p:Prop} [Decidable p]{Y:Option (Way Bool Unit)}:cY (α:=Unit) (some (if p then(.go ():Way Bool Unit)else .out false)) (λ _=>Y)=if p then Y else some (.out false):=by by_cases h:p<;>simp[h]
theorem mP{α:Type}{a b:List α}:decide ((a.length:Int)=(b.length:Int))=decide (a.length=b.length):=by
 rw[ie];simp;omega
theorem rr{α:Type} [DecidableEq α]{a b:List α}(h:a.length≠b.length):decide (a=b)=false:=decide_eq_false (λ e=>h (by rw[e]))
section
variable{F:Nat}
theorem akr{a b:List Field}(d:Small F a.length):Ey F a b=some (decide (a=b)):=by
 unfold Ey;rw[mP];by_cases c:a.length=b.length
 ·rw[decide_eq_true c]
  simp only[dC,cond_false]
  rw[my c d.1 (L:=Bu a b) (λ k i x y e hy=>by rw[Bu,bK (aO.1 e).1,cond_true,bu e,ae,bu hy,ae]) (λ k=>by rw[Bu,bJ];rfl) d.2,o1]
  by_cases h:a=b<;>simp[h]
 ·rw[decide_eq_false c,rr c];rfl
theorem aGU{a b:List Kind}(d:Small F a.length):u' F a b=some (decide (a=b)):=by
 unfold u';rw[mP];by_cases c:a.length=b.length
 ·rw[decide_eq_true c]
  simp only[dC,cond_false]
  rw[my c d.1 (L:=pX a b) (λ k i x y e hy=>by rw[pX,bK (aO.1 e).1,cond_true,bu e,ae,bu hy,ae]) (λ k=>by rw[pX,bJ];rfl) d.2,o1]
  by_cases h:a=b<;>simp[h]
 ·rw[decide_eq_false c,rr c];rfl
theorem aGY{l:List ao}(h:Fits F l):Ex F l l=some true:=by
 unfold Ex;rw[decide_eq_true rfl];simp only[dC,cond_false];have l1:Br F l l F 0=some (cw (l.findSome? λ _=>(none:Option Bool))):=each (λ _=>none) h.1.1 (λ k i c a=>by
  have hc:=h.2 c (bE a);have e:Bs F c c F 0=some (cw (c.bn.findSome? λ _=>(none:Option Bool))):=each (λ _=>none) hc.methods.1 (λ k i m hy=>by
   have b:=hc.method m (bE hy);have f:Bt m m F 0=some (cw (m.cG.findSome? λ _=>(none:Option Bool))):=each (λ _=>none) b.yE.1 (λ k i x d=>by
    rw[Bt,bK (aO.1 d).1,cond_true,bu d,ae,ae,decide_eq_true rfl];rfl) (λ k=>by rw[Bt,bJ];rfl) b.yE.2
   rw[Bs,bK (aO.1 hy).1,cond_true,bu hy,ae,ae,aGU b.args,ae,f,T7];simp;rfl) (λ k=>by rw[Bs,bJ];rfl) hc.methods.2
  rw[Br,bK (aO.1 a).1,cond_true,bu a,ae,ae,akr hc.fields,ae,e,T7];simp;rfl) (λ k=>by rw[Br,bJ];rfl) h.1.2
 rw[l1,T7];rfl
structure LW (F:Nat) (k:aR):Prop where
 du:Small F k.aZ.length
 fields:Small F k.Fields.length
 field:∀x∈k.Fields,Small F x.length
 names:Small F k.Names.length
 name:∀x∈k.Names,Small F x.length
 targets:Small F k.a1.length
 target:∀x∈k.a1,Small F x.length
instance:DecidableEq (List (List Field)):=inferInstance
theorem aGV{a b:aR}(d:LW F a)(hc:Ex F a.a8 b.a8=some true) :
 Ez F a b=some (decide (a.aZ=b.aZ/\a.Fields=b.Fields/\a.Names=b.Names/\a.a1=b.a1)):=by
 unfold Ez
 rw[hc,ae,mP,mP,mP,mP]
 have aL:∀(_: ¬(a.aZ=b.aZ/\a.Fields=b.Fields/\a.Names=b.Names/\a.a1=b.a1)),decide (a.aZ=b.aZ/\a.Fields=b.Fields/\a.Names=b.Names/\a.a1=b.a1)=false:=λ h=>decide_eq_false h
 by_cases g:b.aZ.length=a.aZ.length
 case neg=>rw[aL (λ e=>g (by rw[e.1])),decide_eq_false g];rfl
 by_cases J:a.Fields.length=b.Fields.length
 case neg=>rw[aL (λ e=>J (by rw[e.2.1])),decide_eq_true g,decide_eq_false J];rfl
 by_cases ap:a.Names.length=b.Names.length
 case neg=>rw[aL (λ e=>ap (by rw[e.2.2.1])),decide_eq_true g,decide_eq_true J,decide_eq_false ap];rfl
 by_cases n:a.a1.length=b.a1.length
 case neg=>rw[aL (λ e=>n (by rw[e.2.2.2])),decide_eq_true g,decide_eq_true J,decide_eq_true ap,decide_eq_false n];rfl
 rw[decide_eq_true g,decide_eq_true J,decide_eq_true ap,decide_eq_true n]
 simp only[dC,Bool.or_self,cond_false]
 have l1:=my (F:=F) g.symm d.du.1 (L:=x4 a b) (λ k i x y c hy=>by rw[x4,bK (aO.1 c).1,cond_true,bu c,ae,bu hy,ae]) (λ k=>by rw[x4,bJ];rfl) d.du.2
 have q:=my (F:=F) J d.fields.1 (L:=Bw F a b) (λ k i x y c hy=>by
  rw[Bw,bK (aO.1 c).1,cond_true,bu c,ae,bu hy,ae,akr (d.field x (bE c)),ae]) (λ k=>by rw[Bw,bJ];rfl) d.fields.2
 have r:=my (F:=F) ap d.names.1 (L:=Bx F a b) (λ k i x y c hy=>by
  have l:=d.name x (bE c);rw[Bx,bK (aO.1 c).1,cond_true,bu c,ae,bu hy,ae,mP];by_cases f:x.length=y.length
  ·rw[decide_eq_true f]
   simp only[dC,cond_false]
   rw[my (F:=F) f l.1 (L:=By a b i) (λ k j u v m o=>by
    rw[By,bu c,ae,bK (aO.1 m).1,cond_true,ae,bu m,ae,bu hy,ae,bu o,ae]) (λ k=>by rw[By,bu c,ae,bJ];rfl) l.2,adD]
   by_cases h:x=y
   ·rw[if_pos h,decide_eq_true h];rfl
   ·rw[if_neg h,decide_eq_false h];rfl
  ·rw[decide_eq_false f,rr f];rfl) (λ k=>by rw[Bx,bJ];rfl) d.names.2
 have s:=my (F:=F) n d.targets.1 (L:=Bz F a b) (λ k i x y c hy=>by
  have l:=d.target x (bE c);rw[Bz,bK (aO.1 c).1,cond_true,bu c,ae,bu hy,ae,mP];by_cases f:x.length=y.length
  ·rw[decide_eq_true f]
   simp only[dC,cond_false]
   rw[my (F:=F) f l.1 (L:=BA a b i) (λ k j u v m o=>by
    rw[BA,bu c,ae,bK (aO.1 m).1,cond_true,ae,bu m,ae,bu hy,ae,bu o,ae]) (λ k=>by rw[BA,bu c,ae,bJ];rfl) l.2,adD]
   by_cases h:x=y
   ·rw[if_pos h,decide_eq_true h];rfl
   ·rw[if_neg h,decide_eq_false h];rfl
  ·rw[decide_eq_false f,rr f];rfl) (λ k=>by rw[Bz,bJ];rfl) d.targets.2
 rw[l1,q,r,s,o1,o1,o1,o1]
 by_cases p:a.aZ=b.aZ
 ·by_cases ak:a.Fields=b.Fields
  ·by_cases aS:a.Names=b.Names
   ·by_cases bN:a.a1=b.a1<;>simp[p,ak,aS,bN]
   ·simp[aS]
  ·simp[ak]
 ·simp[p]
end
section
variable{F:Nat}{l:List ao}
theorem aGw{β:Type}{f:Int->β}{n:Nat}:(rows f n).length=n:=by simp[rows]
end
end I
namespace I
section
variable{F:Nat}
theorem avf{a b:List (Int)}(d:Small F a.length):KG F a b=some (decide (a=b)):=by
 unfold KG;rw[mP];by_cases c:a.length=b.length
 ·rw[decide_eq_true c]
  simp only[dC,cond_false]
  rw[my c d.1 (L:=zT a b) (λ k i x y e hy=>by rw[zT,bK (aO.1 e).1,cond_true,bu e,ae,bu hy,ae]) (λ k=>by rw[zT,bJ];rfl) d.2,o1]
  by_cases h:a=b<;>simp[h]
 ·rw[decide_eq_false c,rr c];rfl
theorem avd{a b:List (Field)}(d:Small F a.length):KD F a b=some (decide (a=b)):=by
 unfold KD;rw[mP];by_cases c:a.length=b.length
 ·rw[decide_eq_true c]
  simp only[dC,cond_false]
  rw[my c d.1 (L:=zR a b) (λ k i x y e hy=>by rw[zR,bK (aO.1 e).1,cond_true,bu e,ae,bu hy,ae]) (λ k=>by rw[zR,bJ];rfl) d.2,o1]
  by_cases h:a=b<;>simp[h]
 ·rw[decide_eq_false c,rr c];rfl
theorem avg{a b:List (List UInt8)}(d:Small F a.length):KH F a b=some (decide (a=b)):=by
 unfold KH;rw[mP];by_cases c:a.length=b.length
 ·rw[decide_eq_true c]
  simp only[dC,cond_false]
  rw[my c d.1 (L:=zU a b) (λ k i x y e hy=>by rw[zU,bK (aO.1 e).1,cond_true,bu e,ae,bu hy,ae]) (λ k=>by rw[zU,bJ];rfl) d.2,o1]
  by_cases h:a=b<;>simp[h]
 ·rw[decide_eq_false c,rr c];rfl
theorem avi{a b:List (Target)}(d:Small F a.length):KF F a b=some (decide (a=b)):=by
 unfold KF;rw[mP];by_cases c:a.length=b.length
 ·rw[decide_eq_true c]
  simp only[dC,cond_false]
  rw[my c d.1 (L:=zS a b) (λ k i x y e hy=>by rw[zS,bK (aO.1 e).1,cond_true,bu e,ae,bu hy,ae]) (λ k=>by rw[zS,bJ];rfl) d.2,o1]
  by_cases h:a=b<;>simp[h]
 ·rw[decide_eq_false c,rr c];rfl
theorem ave{a b:List (List Field)}(e:Small F a.length)(f:∀x∈a,Small F x.length):KA F a b=some (decide (a=b)):=by
 unfold KA;rw[mP];by_cases c:a.length=b.length
 ·rw[decide_eq_true c]
  simp only[dC,cond_false]
  rw[my c e.1 (L:=zO F a b) (λ k i x y d J=>by rw[zO,bK (aO.1 d).1,cond_true,bu d,ae,bu J,ae,avd (f x (bE d)),ae]) (λ k=>by rw[zO,bJ];rfl) e.2,o1]
  by_cases h:a=b<;>simp[h]
 ·rw[decide_eq_false c,rr c];rfl
theorem avh{a b:List (List (List UInt8))}(e:Small F a.length)(f:∀x∈a,Small F x.length):KC F a b=some (decide (a=b)):=by
 unfold KC;rw[mP];by_cases c:a.length=b.length
 ·rw[decide_eq_true c]
  simp only[dC,cond_false]
  rw[my c e.1 (L:=zQ F a b) (λ k i x y d J=>by rw[zQ,bK (aO.1 d).1,cond_true,bu d,ae,bu J,ae,avg (f x (bE d)),ae]) (λ k=>by rw[zQ,bJ];rfl) e.2,o1]
  by_cases h:a=b<;>simp[h]
 ·rw[decide_eq_false c,rr c];rfl
theorem avj{a b:List (List Target)}(e:Small F a.length)(f:∀x∈a,Small F x.length):KB F a b=some (decide (a=b)):=by
 unfold KB;rw[mP];by_cases c:a.length=b.length
 ·rw[decide_eq_true c]
  simp only[dC,cond_false]
  rw[my c e.1 (L:=zP F a b) (λ k i x y d J=>by rw[zP,bK (aO.1 d).1,cond_true,bu d,ae,bu J,ae,avi (f x (bE d)),ae]) (λ k=>by rw[zP,bJ];rfl) e.2,o1]
  by_cases h:a=b<;>simp[h]
 ·rw[decide_eq_false c,rr c];rfl
theorem aGX{a b:aR}(c:LW F a):FP F a b=some (decide (a.aZ=b.aZ/\a.Fields=b.Fields/\a.Names=b.Names/\a.a1=b.a1)):=by
 unfold FP;rw[avf c.du,ae];by_cases d:a.aZ=b.aZ;case neg=>rw[decide_eq_false d,decide_eq_false (λ e=>d e.1)];rfl
 rw[decide_eq_true d,cond_true,ave c.fields c.field,ae];by_cases ak:a.Fields=b.Fields;case neg=>rw[decide_eq_false ak,decide_eq_false (λ e=>ak e.2.1)];rfl
 rw[decide_eq_true ak,cond_true,avh c.names c.name,ae];by_cases aS:a.Names=b.Names;case neg=>rw[decide_eq_false aS,decide_eq_false (λ e=>aS e.2.2.1)];rfl
 rw[decide_eq_true aS,cond_true,avj c.targets c.target,ae];congr 1;rw[ie];simp[d,ak,aS]
theorem atp{k:aR}(j:1100<F)(hc:Fits F k.a8)(i:LW F k):∃e,n' F k=some e/\s3 F k=some e/\((e=4)\/(e=0/\hW k.a8/\k=linked k.a8)):=by
 obtain⟨r,l,J,ap,p⟩:=aBW j hc;unfold n' s3;rw[l,J,ae,ae];by_cases g:r.2=0;case neg=>rw[sd g,sd g];exact⟨4,rfl,rfl,.inl rfl⟩
 obtain⟨m,e⟩:=ap g;have n:FP F (⟨k.a8,k.aZ,k.Fields,k.Names,k.a1⟩:aR) (⟨r.1.a8,r.1.aZ,r.1.Fields,r.1.Names,r.1.a1⟩:aR)=some (decide (k.aZ=r.1.aZ/\k.Fields=r.1.Fields/\k.Names=r.1.Names/\k.a1=r.1.a1)):=aGX (a:=k) (b:=r.1) i;have o:Ez F (⟨k.a8,k.aZ,k.Fields,k.Names,k.a1⟩:aR) (⟨r.1.a8,r.1.aZ,r.1.Fields,r.1.Names,r.1.a1⟩:aR)=some (decide (k.aZ=r.1.aZ/\k.Fields=r.1.Fields/\k.Names=r.1.Names/\k.a1=r.1.a1)):=aGV (a:=k) (b:=r.1) i (by rw[e];exact aGY hc);rw[n,o,g];simp only[rq,ae];by_cases aj:k.aZ=r.1.aZ/\k.Fields=r.1.Fields/\k.Names=r.1.Names/\k.a1=r.1.a1
 ·rw[decide_eq_true aj]
  refine⟨0,rfl,rfl,.inr ⟨rfl,m,?_⟩⟩
  obtain⟨h,ak,aS,bN⟩:=aj
  rw[e]at h ak aS bN
  obtain⟨a,b,c,d,f⟩:=k
  simp only at h ak aS bN
  subst h ak aS bN
  rfl
 ·rw[decide_eq_false aj]
  exact⟨4,rfl,rfl,.inl rfl⟩
end
end I
namespace I
def zz(h:aU):Prop:=(3<=h.au/\h.au<=2000)/\(3<=h.aN/\h.aN<=2000)
def okB(h:aU):Prop:=(h.Words.length:Int)=1+h.au+h.aN
def F5(h:aU):Prop:=(1<=h.aX/\h.aX<=h.au+1)/\(h.au+1<=h.aW/\h.aW<=h.au+h.aN+1)/\1<=h.Next
instance (h:aU):Decidable (zz h):=inferInstanceAs (Decidable ((3<=h.au/\h.au<=2000)/\(3<=h.aN/\h.aN<=2000)))
instance (h:aU):Decidable (okB h):=inferInstanceAs (Decidable ((h.Words.length:Int)=1+h.au+h.aN))
instance (h:aU):Decidable (F5 h):=inferInstanceAs (Decidable ((1<=h.aX/\h.aX<=h.au+1)/\(h.au+1<=h.aW/\h.aW<=h.au+h.aN+1)/\1<=h.Next))
def mW(h:aU):Int:=if zz h then(if okB h then(if F5 h then 0 else 3)else 1)else 3
theorem aG'(h:aU):Fp h=some (mW h):=by
 unfold Fp o6 mW;simp only[ae];by_cases d:zz h
 case neg=>
  rw[if_neg d]
  unfold zz at d
  by_cases a:3<=h.au/\h.au<=2000
  ·have b: ¬(3<=h.aN/\h.aN<=2000):=λ b=>d ⟨a,b⟩
   rw[show(decide (3<=h.au)&&decide (h.au<=2000))=true by simpa using a,show(decide (3<=h.aN)&&decide (h.aN<=2000))=false by rw[hz];simpa using b]
   rfl
  ·rw[show(decide (3<=h.au)&&decide (h.au<=2000))=false by rw[hz];simpa using a]
   rfl
 rw[if_pos d];unfold zz at d;obtain⟨⟨f,g⟩,a3,a4⟩:=d
 rw[show(decide (3<=h.au)&&decide (h.au<=2000))=true by simp;omega,show(decide (3<=h.aN)&&decide (h.aN<=2000))=true by simp;omega,
  cT (n:=1+h.au) (by omega) (by omega),cT (n:=1+h.au+h.aN) (by omega) (by omega),cT (n:=h.au+1) (by omega) (by omega),cT (n:=h.au+h.aN) (by omega) (by omega),cT (n:=h.au+h.aN+1) (by omega) (by omega)]
 simp only[dC,cond_false];by_cases bO:okB h
 case neg=>
  rw[if_neg bO,show decide ((h.Words.length:Int)=1+h.au+h.aN)=false from decide_eq_false bO];rfl
 rw[if_pos bO,show decide ((h.Words.length:Int)=1+h.au+h.aN)=true from decide_eq_true bO];simp only[dC,cond_false];by_cases e:F5 h
 ·rw[if_pos e]
  obtain⟨c1,c2,c3⟩:=e
  rw[show(decide (1<=h.aX)&&decide (h.aX<=h.au+1))=true by simpa using c1,show(decide (h.au+1<=h.aW)&&decide (h.aW<=h.au+h.aN+1))=true by simpa using c2,show decide (h.Next<1)=false from decide_eq_false (by omega)]
  rfl
 ·rw[if_neg e]
  by_cases c1:1<=h.aX/\h.aX<=h.au+1
  ·rw[show(decide (1<=h.aX)&&decide (h.aX<=h.au+1))=true by simpa using c1]
   by_cases c2:h.au+1<=h.aW/\h.aW<=h.au+h.aN+1
   ·have c3:h.Next<1:=by
     rcases Int.lt_or_le h.Next 1 with c |c
     ·exact c
     ·exact absurd ⟨c1,c2,c⟩ e
    rw[decide_eq_true c3,Bool.or_true];rfl
   ·rw[show(decide (h.au+1<=h.aW)&&decide (h.aW<=h.au+h.aN+1))=false by rw[hz];simpa using c2]
    rfl
  ·rw[show(decide (1<=h.aX)&&decide (h.aX<=h.au+1))=false by rw[hz];simpa using c1]
   rfl
structure iE (h:aU):Prop where
 A:zz h
 B:okB h
 C:F5 h
theorem ZW{h:aU}:mW h=0↔iE h:=by
 unfold mW;constructor
 ·intro e
  split at e
  ·split at e
   ·split at e
    ·exact⟨‹_›,‹_›,‹_›⟩
    ·cases e
   ·cases e
  ·cases e
 ·rintro⟨a,b,c⟩
  rw[if_pos a,if_pos b,if_pos c]
section
variable{F:Nat}{k:aR}{W:List Int}
theorem eO.mem{to q:Nat}{L:List Int}(h:eO k W to q L):∀a∈L,∃n:Nat,a=(n:Int)/\q<=n/\n+3+(wd W (n+1)).toNat<=to/\gx k (wd W n)=true/\isLen k (wd W n) (wd W (n+1))=true:=by
 induction h with
 |nil=>intro a av;cases av
 |cons b J ap _ c=>
  intro a av
  rcases cR.1 av with rfl |av
  ·exact⟨_,rfl,cC _,ap,b,J⟩
  ·obtain⟨n,e,f,d⟩:=c a av
   exact⟨n,e,by omega,d⟩
theorem eO.uE{to q:Nat}{L L':List Int}(h:eO k W to q L)(h':eO k W to q L'):L=L':=by
 induction h generalizing L' with
 |nil=>
  cases h' with
  |nil=>rfl
  |cons _ _ _ _=>omega
 |cons _ _ ap _ a=>
  cases h' with
  |nil=>omega
  |cons _ _ _ b=>rw[a b]
theorem eO.len{to q:Nat}{L:List Int}(h:eO k W to q L):3*L.length+q<=to:=by
 induction h with
 |nil=>simp
 |cons _ _ ap _ a=>simp only[de];omega
theorem akT{l:List Int}{N:Nat}(h:BH l)(a:∀i,i<l.length->0<=wd l i/\wd l i<N):l.length<=N:=by
 have key:∀i,i<l.length->(i:Int)<=wd l i:=by
  intro i;induction i with
  |zero=>intro hi;exact(a 0 hi).1
  |succ i b=>
   intro hi
   have:=h i (i+1) (by omega) hi
   have:=b (by omega)
   omega
 rcases lj l.length with e |e
 ·omega
 ·have:=key (l.length-1) (by omega)
  have:=(a (l.length-1) (by omega)).2
  omega
theorem OA(x:Int):∀A:List Int,(cJ (A.map λ a=>(a,true)) x).getD false=decide (x∈A)
 |[]=>by simp[cJ]
 |a::r=>by
  rw[eu,cJ];by_cases e:a=x
  ·simp[e]
  ·rw[if_neg e,OA x r]
   have: ¬x=a:=λ h=>e h.symm
   simp[this]
def view(h:aU)(k:aR)(Y O:List Int):bj:=⟨h,⟨k⟩,Y,O,(Y++O).map λ a=>(a,true)⟩
structure hY (h:aU) (k:aR) (Y O:List Int):Prop where
 y:eO k h.Words h.aX.toNat 1 Y
 o:eO k h.Words h.aW.toNat (h.au+1).toNat O
theorem iE.fz{h:aU}(aj:iE h):h.Words.length<=4001:=by
 obtain⟨⟨⟨a,b⟩,c,d⟩,e,_⟩:=aj;unfold okB at e;omega
theorem hY.qO{h:aU}{Y O:List Int}(e:gi k)(aj:iE h)(c:hY h k Y O):oV (view h k Y O):=by
 have g:=aj.fz;obtain⟨⟨⟨i,j⟩,a3,a4⟩,b,⟨c1,c2⟩,⟨c3,c4⟩,c5⟩:=aj;unfold okB at b;refine⟨e,by show h.Words.length<=4900;omega,?_,λ a av=>?_,λ x=>OA x _⟩
 ·have:=c.y.len;have:=c.o.len
  show Y.length+O.length<=5000
  omega
 ·have av:a∈Y++O:=av
  rcases b_.1 av with av |av
  ·obtain⟨n,rfl,f,J,ap,d⟩:=c.y.mem a av
   exact⟨by omega,by show((n:Int).toNat)+3+(wd h.Words ((n:Int).toNat+1)).toNat<=h.Words.length;rw[c6];omega,by rw[c6];exact ap,by rw[c6];exact d⟩
  ·obtain⟨n,rfl,f,J,ap,d⟩:=c.o.mem a av
   exact⟨by omega,by show((n:Int).toNat)+3+(wd h.Words ((n:Int).toNat+1)).toNat<=h.Words.length;rw[c6];omega,by rw[c6];exact ap,by rw[c6];exact d⟩
def a6(v:bj):Int:=if(v.au++v.aN).any (lN v)then 3 else if((v.au++v.aN).map (aj v.H.Words)).Nodup then 0 else 6
def kN(v:bj):Int:=if(v.au++v.aN).any (ou v)then 5 else if(free v.H).any (λ x=>!decide (x=0))then 1 else 0
def zv(v:bj):Int:=if(dM v.H.aV.length).any (hq v)||v.aN.any (pP v)then 4 else 0
def oC(v:bj):Int:=if a6 v=0 then(if kN v=0 then zv v else kN v)else a6 v
inductive Spec (h:aU) (k:aR):Option bj×Int->Prop
 |size: ¬iE h->Spec h k (none,mW h)
 |form:iE h->(∀Y O,¬hY h k Y O)->Spec h k (none,1)
 |rest {Y O:List Int}:iE h->hY h k Y O->Spec h k (if oC (view h k Y O)=0 then some (view h k Y O)else none,oC (view h k Y O))
theorem XX(x:10000<F){h:aU}(o:gi k)(D:Small F h.aV.length):∃r,tE F h k=some r/\Spec h k r:=by
 unfold tE;have M:Fp (⟨h.Words,h.au,h.aN,h.aX,h.aW,h.aV,h.Next⟩:aU)=some (mW h):=aG' h;rw[M,ae];by_cases aj:iE h
 case neg=>
  rw[sd (λ e=>aj (ZW.1 e))]
  exact⟨_,rfl,.size aj⟩
 rw[ZW.2 aj,rq];have Z:=aj.fz;have cc:=aj;obtain⟨⟨⟨cm,a2⟩,a3,a4⟩,b,⟨c1,c2⟩,⟨c3,c4⟩,c5⟩:=aj;unfold okB at b;have E:=ak3 (F:=F) (by omega) (⟨h,⟨k⟩,[],[],[]⟩:bj) o (q:=1) (to:=h.aX.toNat) (by omega) (by show _<=h.Words.length;omega) (by show h.Words.length<=5000;omega) (λ p y=>by cases y);rw[show((h.aX.toNat:Nat):Int)=h.aX by omega]at E;rw[cT (n:=h.au+1) (by omega) (by omega)];rcases E with⟨Y,G,d⟩|⟨A,g,d⟩
 case inr=>
  have d:mE F (⟨(⟨h.Words,h.au,h.aN,h.aX,h.aW,h.aV,h.Next⟩:aU),(⟨(⟨k.a8,k.aZ,k.Fields,k.Names,k.a1⟩:aR)⟩:b9),[],[],[]⟩:bj) 1 h.aX=some ([],false,(⟨h,⟨k⟩,[],[],g⟩:bj)):=d
  rw[d,ae]
  have t:∃r,mE F (⟨(⟨h.Words,h.au,h.aN,h.aX,h.aW,h.aV,h.Next⟩:aU),(⟨(⟨k.a8,k.aZ,k.Fields,k.Names,k.a1⟩:aR)⟩:b9),[],[],g⟩:bj) (h.au+1) h.aW=some r:=by
   unfold mE;have key:∀(f q:Nat)(acc:List Int)(m:List (Int×Bool)),q<=h.aW.toNat->h.aW.toNat-q<f->acc.length+(h.aW.toNat-q)<=5000-> ∃r,o5 h.aW (⟨h,⟨k⟩,[],[],g⟩:bj) f acc m (q:Int)=some r:=by
    intro f;induction f with
    |zero=>intro q acc m _ P;omega
    |succ f Q=>
     intro q acc m P ad vH
     rw[o5]
     by_cases H:(q:Int)<h.aW
     case neg=>rw[decide_eq_false H];exact⟨_,rfl⟩
     rw[decide_eq_true H,cond_true,cT (n:=(q:Int)+3) (by omega) (by omega)]
     by_cases ap:h.aW<(q:Int)+3
     ·rw[decide_eq_true ap];exact⟨_,rfl⟩
     rw[decide_eq_false ap,cond_false]
     show∃r,(idx h.Words (q:Int)).bind _=some r
     rw[fP (by omega),ae]
     show∃r,(idx h.Words (ax ((q:Int)+1))).bind _=some r
     rw[cT (n:=(q:Int)+1) (by omega) (by omega),o' (i:=q+1) (by omega) (by omega),ae]
     have d:vQ (⟨(⟨k.a8,k.aZ,k.Fields,k.Names,k.a1⟩:aR)⟩:b9) (wd h.Words q)=some (gx k (wd h.Words q)):=akI o _
     show∃r,(vQ (⟨(⟨k.a8,k.aZ,k.Fields,k.Names,k.a1⟩:aR)⟩:b9) (wd h.Words q)).bind _=some r
     rw[d,ae]
     cases u:gx k (wd h.Words q)with
     |false=>exact⟨_,rfl⟩
     |true=>
      have ak:vR (⟨(⟨k.a8,k.aZ,k.Fields,k.Names,k.a1⟩:aR)⟩:b9) (wd h.Words q) (wd h.Words (q+1))=some (isLen k (wd h.Words q) (wd h.Words (q+1))):=akJ o u _
      rw[dC,cond_false]
      show∃r,(vR (⟨(⟨k.a8,k.aZ,k.Fields,k.Names,k.a1⟩:aR)⟩:b9) (wd h.Words q) (wd h.Words (q+1))).bind _=some r
      rw[ak,ae]
      cases c:isLen k (wd h.Words q) (wd h.Words (q+1))with
      |false=>exact⟨_,rfl⟩
      |true=>
       obtain⟨⟨l0,l1⟩,_⟩:=mJ.1 c
       rw[dC,iu,cT (n:=(q:Int)+3+wd h.Words (q+1)) (by omega) (by omega)]
       by_cases I:h.aW<(q:Int)+3+wd h.Words (q+1)
       ·rw[decide_eq_true I];exact⟨_,rfl⟩
       rw[decide_eq_false I,cond_false,iz (by simp;omega),ae,cT (n:=3+wd h.Words (q+1)) (by omega) (by omega),cT (n:=(q:Int)+(3+wd h.Words (q+1))) (by omega) (by omega),
        show(q:Int)+(3+wd h.Words (q+1))=((q+3+(wd h.Words (q+1)).toNat:Nat):Int) by omega]
       exact Q _ _ _ (by omega) (by omega) (by simp;omega)
   obtain⟨r,v⟩:=key F (h.au+1).toNat [] g (by omega) (by omega) (by simp;omega);rw[show(((h.au+1).toNat:Nat):Int)=h.au+1 by omega]at v;have v:o5 h.aW (⟨(⟨h.Words,h.au,h.aN,h.aX,h.aW,h.aV,h.Next⟩:aU),(⟨(⟨k.a8,k.aZ,k.Fields,k.Names,k.a1⟩:aR)⟩:b9),[],[],g⟩:bj) F [] g (h.au+1)=some r:=v;rw[v];cases r<;>exact⟨_,rfl⟩
  obtain⟨r,ak⟩:=t
  rw[ak,ae]
  exact⟨_,rfl,.form cc (λ Y O c=>A Y c.y)⟩
 have d:mE F (⟨(⟨h.Words,h.au,h.aN,h.aX,h.aW,h.aV,h.Next⟩:aU),(⟨(⟨k.a8,k.aZ,k.Fields,k.Names,k.a1⟩:aR)⟩:b9),[],[],[]⟩:bj) 1 h.aX=some (Y,true,(⟨h,⟨k⟩,[],[],Y.map λ a=>(a,true)⟩:bj)):=d;rw[d,ae];have t:=ak3 (F:=F) (by omega) (⟨h,⟨k⟩,[],[],Y.map λ a=>(a,true)⟩:bj) o (q:=(h.au+1).toNat) (to:=h.aW.toNat) (by omega) (by show _<=h.Words.length;omega) (by show h.Words.length<=5000;omega) (λ p y=>by
  obtain⟨a,w,rfl⟩:=hB.1 y;have B:eO k h.Words h.aX.toNat 1 Y:=G;obtain⟨n,rfl,K,J,_⟩:=B.mem a w;show(n:Int)<_
  omega)
 rw[show((h.aW.toNat:Nat):Int)=h.aW by omega,show(((h.au+1).toNat:Nat):Int)=h.au+1 by omega]at t;rcases t with⟨O,R,ak⟩|⟨A,g,ak⟩
 case inr=>
  have ak:mE F (⟨(⟨h.Words,h.au,h.aN,h.aX,h.aW,h.aV,h.Next⟩:aU),(⟨(⟨k.a8,k.aZ,k.Fields,k.Names,k.a1⟩:aR)⟩:b9),[],[],Y.map λ a=>(a,true)⟩:bj) (h.au+1) h.aW=_:=ak
  show∃r,(mE F (⟨(⟨h.Words,h.au,h.aN,h.aX,h.aW,h.aV,h.Next⟩:aU),(⟨(⟨k.a8,k.aZ,k.Fields,k.Names,k.a1⟩:aR)⟩:b9),[],[],Y.map λ a=>(a,true)⟩:bj) (h.au+1) h.aW).bind _=some r/\_
  rw[ak,ae]
  exact⟨_,rfl,.form cc (λ HM S c=>A S c.o)⟩
 have ak:mE F (⟨(⟨h.Words,h.au,h.aN,h.aX,h.aW,h.aV,h.Next⟩:aU),(⟨(⟨k.a8,k.aZ,k.Fields,k.Names,k.a1⟩:aR)⟩:b9),[],[],Y.map λ a=>(a,true)⟩:bj) (h.au+1) h.aW=some (O,true,(⟨h,⟨k⟩,[],[],(Y.map λ a=>(a,true))++O.map λ a=>(a,true)⟩:bj)):=ak;show∃r,(mE F (⟨(⟨h.Words,h.au,h.aN,h.aX,h.aW,h.aV,h.Next⟩:aU),(⟨(⟨k.a8,k.aZ,k.Fields,k.Names,k.a1⟩:aR)⟩:b9),[],[],Y.map λ a=>(a,true)⟩:bj) (h.au+1) h.aW).bind _=some r/\_
 rw[ak,ae,<-kc];have c:hY h k Y O:=⟨G,R⟩
 have j:=c.qO o cc
 have T:Fl F (⟨(⟨h.Words,h.au,h.aN,h.aX,h.aW,h.aV,h.Next⟩:aU),(⟨(⟨k.a8,k.aZ,k.Fields,k.Names,k.a1⟩:aR)⟩:b9),Y,O,(Y++O).map λ a=>(a,true)⟩:bj)=some (a6 (view h k Y O)):=
  axg x (view h k Y O) j.p4 (λ a w=>⟨(j.st a w).pos,by have:=(j.st a w).fit;omega⟩) (by have:=j.fz;omega) (by simp[view])
 have U:Fo F (⟨(⟨h.Words,h.au,h.aN,h.aX,h.aW,h.aV,h.Next⟩:aU),(⟨(⟨k.a8,k.aZ,k.Fields,k.Names,k.a1⟩:aR)⟩:b9),Y,O,(Y++O).map λ a=>(a,true)⟩:bj)=some (kN (view h k Y O)):=
  aIk x j (by show 0<=h.au;omega) ⟨by show 0<=h.aX;omega,by show h.aX<=h.au+1;omega,by show h.au+1<=h.Words.length;omega⟩ ⟨by show 0<=h.aW;omega,by show h.aW<=h.Words.length;omega⟩
 have V:Fm F (⟨(⟨h.Words,h.au,h.aN,h.aX,h.aW,h.aV,h.Next⟩:aU),(⟨(⟨k.a8,k.aZ,k.Fields,k.Names,k.a1⟩:aR)⟩:b9),Y,O,(Y++O).map λ a=>(a,true)⟩:bj)=some (zv (view h k Y O)):=
  aDg x j D.1 D.2 (λ L=>by
   refine gJ (akT (N:=5000) (Z3 λ i hi=>?_) (λ i hi=>?_)) (by omega)
   ·have:=L (i+1) hi
    unfold hq at this
    simp only[h0,mh,decide_eq_false_iff_not,Nat.add_sub_cancel]at this
    rcases this.1 with z |z
    ·omega
    ·have z: ¬wd h.aV (i+1)<=wd h.aV i:=z
     show wd h.aV i<wd h.aV (i+1);omega
   ·have:=L i hi
    unfold hq sc at this
    simp only[h0]at this
    have X:wd (view h k Y O).H.aV i∈(view h k Y O).au++(view h k Y O).aN:=by
     have:=this.2.1.1;simp only[Bool.not_eq_false']at this;exact of_decide_eq_true this
    have u:=j.st _ X
    have K:0<=wd h.aV i:=u.pos
    have J:(wd h.aV i).toNat+3+(wd h.Words ((wd h.aV i).toNat+1)).toNat<=h.Words.length:=u.fit
    exact⟨K,by show wd h.aV i<((5000 :Nat):Int);omega⟩)
 simp only[dC,Bool.or_self,cond_false];rw[T,ae];by_cases l:a6 (view h k Y O)=0
 case neg=>
  rw[sd l]
  have bW:oC (view h k Y O)=a6 (view h k Y O):=by unfold oC;rw[if_neg l]
  have:=Spec.rest cc c
  rw[bW,if_neg l]at this
  exact⟨_,rfl,this⟩
 rw[l,rq,U,ae];by_cases s:kN (view h k Y O)=0
 case neg=>
  rw[sd s]
  have bW:oC (view h k Y O)=kN (view h k Y O):=by unfold oC;rw[if_pos l,if_neg s]
  have:=Spec.rest cc c
  rw[bW,if_neg s]at this
  exact⟨_,rfl,this⟩
 rw[s,rq,V,ae];have bW:oC (view h k Y O)=zv (view h k Y O):=by unfold oC;rw[if_pos l,if_pos s]
 have Cr:=Spec.rest cc c;rw[bW]at Cr;by_cases C:zv (view h k Y O)=0
 ·rw[C]at Cr⊢
  rw[rq]
  exact⟨_,rfl,Cr⟩
 ·rw[sd C]
  rw[if_neg C]at Cr
  exact⟨_,rfl,Cr⟩
end
end I
namespace I
theorem aar{W:List Int}{p j:Nat}{x:Int}(a:p<W.length):wd (W.set p x) j=if j=p then x else wd W j:=by
 unfold wd;rw[List.getElem?_set];by_cases e:j=p
 ·subst e;simp[a]
 ·have: ¬p=j:=λ h=>e h.symm
  simp[e,this]
theorem ail{h:aU}{x:Int}(hy:0<=h.au)(aa:x∈free h):∃i:Nat,i<h.Words.length/\(i=0\/(h.aX<=i/\(i:Int)<=h.au)\/h.aW<=i)/\x=wd h.Words i:=by
 unfold free at aa;rw[b_,b_]at aa;rcases aa with aa |aa |aa
 ·obtain⟨i,hi,e⟩:=iK aa
  have a:i<1/\i<h.Words.length:=by rw[gw]at hi;omega
  refine⟨i,a.2,.inl (by omega),?_⟩
  rw[<-e,List.getElem_take];exact(pB (aJ a.2)).symm
 ·obtain⟨i,hi,e⟩:=iK aa
  have a:i<min (h.au+1).toNat h.Words.length-h.aX.toNat:=by simpa using hi
  have J:h.aX.toNat+i<h.Words.length:=by omega
  refine⟨h.aX.toNat+i,J,.inr (.inl ⟨by omega,by omega⟩),?_⟩
  rw[<-e,List.getElem_drop,List.getElem_take];exact(pB (aJ J)).symm
 ·obtain⟨i,hi,e⟩:=iK aa
  have a:i<h.Words.length-h.aW.toNat:=by simpa using hi
  have J:h.aW.toNat+i<h.Words.length:=by omega
  refine⟨h.aW.toNat+i,J,.inr (.inr (by omega)),?_⟩
  rw[<-e,List.getElem_drop];exact(pB (aJ J)).symm
theorem afD{h:aU}(a:0<=h.aX/\0<=h.aW){i:Nat}(hi:i<h.Words.length)(hc:i=0\/(h.aX<=i/\(i:Int)<=h.au)\/h.aW<=i):wd h.Words i∈free h:=by
 have key:wd h.Words i=h.Words[i]:=pB (aJ hi);unfold free;rw[b_,b_,key];rcases hc with rfl |⟨h1,J⟩|h1
 ·left
  rw[mi]
  exact⟨0,by rw[gT,if_pos (by omega)];exact aJ hi⟩
 ·right;left
  rw[mi]
  refine⟨i-h.aX.toNat,?_⟩
  rw[je,gT,if_pos (by omega),show h.aX.toNat+(i-h.aX.toNat)=i by omega]
  exact aJ hi
 ·right;right
  rw[mi]
  refine⟨i-h.aW.toNat,?_⟩
  rw[je,show h.aW.toNat+(i-h.aW.toNat)=i by omega]
  exact aJ hi
structure Ok (h:aU) (k:aR) (Y O:List Int):Prop where
 hash:∀a∈Y++O,1<=aj h.Words a/\aj h.Words a<h.Next
 nodup:((Y++O).map (aj h.Words)).Nodup
 ref:∀a∈Y++O,∀w∈refs k h.Words a.toNat,wd h.Words w.toNat=0\/wd h.Words w.toNat∈Y++O
 fr:∀i:Nat,i<h.Words.length->(i=0\/(h.aX<=i/\(i:Int)<=h.au)\/h.aW<=i)->wd h.Words i=0
 P3:BH h.aV
 nt:∀x∈h.aV,x∈O/\refs k h.Words x.toNat≠[]
 must:∀a∈O,¬a∈h.aV-> ∀w∈refs k h.Words a.toNat,¬(0<wd h.Words w.toNat/\wd h.Words w.toNat<=h.au)
section
variable{F:Nat}{k:aR}{h:aU}{Y O:List Int}
theorem hY.Hn(aj:iE h)(b:hY h k Y O):∀a∈Y,1<=a/\a.toNat+3+(wd h.Words (a.toNat+1)).toNat<=h.aX.toNat:=λ a c=>by
 obtain⟨n,rfl,d,J,_⟩:=b.y.mem a c;exact⟨by omega,by rw[c6];exact J⟩
theorem hY.qA(aj:iE h)(b:hY h k Y O):∀a∈O,h.au+1<=a/\a.toNat+3+(wd h.Words (a.toNat+1)).toNat<=h.aW.toNat:=λ a c=>by
 obtain⟨n,rfl,d,J,_⟩:=b.o.mem a c;have:=aj.A.1.1;exact⟨by omega,by rw[c6];exact J⟩
theorem alu(u:gi k)(cc:iE h)(r:hY h k Y O):oC (view h k Y O)=0↔Ok h k Y O:=by
 have E:=r.qO u cc;obtain⟨⟨⟨G,H⟩,a3,a4⟩,b,⟨c1,c2⟩,⟨c3,c4⟩,c5⟩:=id cc;have hy:=r.Hn cc;have v:=r.qA cc;have y:a6 (view h k Y O)=0↔(∀a∈Y++O,lN (view h k Y O) a=false)/\((Y++O).map (aj h.Words)).Nodup:=by
  unfold a6;show(if(Y++O).any (lN (view h k Y O))then(3 :Int)else if((Y++O).map (aj h.Words)).Nodup then 0 else 6)=0↔_
  cases af:(Y++O).any (lN (view h k Y O))with
  |true=>
   rw[if_pos rfl]
   refine⟨λ e=>(by cases e),λ⟨e,_⟩=>?_⟩
   obtain⟨x,c,ak⟩:=h2.1 af
   rw[e x c]at ak;cases ak
  |false=>
   rw[if_neg (by decide)]
   rw[iO]at af
   have m:∀a∈Y++O,lN (view h k Y O) a=false:=λ a d=>by simpa using af a d
   split
   ·rename_i f;exact⟨λ _=>⟨m,f⟩,λ _=>rfl⟩
   ·rename_i f;exact⟨λ e=>(by cases e),λ e=>absurd e.2 f⟩
 have ak:kN (view h k Y O)=0↔(∀a∈Y++O,ou (view h k Y O) a=false)/\ ∀x∈free h,x=0:=by
  unfold kN;show(if(Y++O).any (ou (view h k Y O))then(5 :Int)else if(free h).any (λ x=>!decide (x=0))then 1 else 0)=0↔_
  cases af:(Y++O).any (ou (view h k Y O))with
  |true=>
   rw[if_pos rfl]
   refine⟨λ e=>(by cases e),λ⟨e,_⟩=>?_⟩
   obtain⟨x,c,ak⟩:=h2.1 af
   rw[e x c]at ak;cases ak
  |false=>
   rw[if_neg (by decide)]
   rw[iO]at af
   have m:∀a∈Y++O,ou (view h k Y O) a=false:=λ a d=>by simpa using af a d
   cases ad:(free h).any (λ x=>!decide (x=0))with
   |true=>
    rw[if_pos rfl]
    refine⟨λ e=>(by cases e),λ⟨_,e⟩=>?_⟩
    obtain⟨x,c,ak⟩:=h2.1 ad
    rw[e x c]at ak;cases ak
   |false=>
    rw[if_neg (by decide)]
    rw[iO]at ad
    exact⟨λ _=>⟨m,λ x c=>by simpa using ad x c⟩,λ _=>rfl⟩
 have aS:zv (view h k Y O)=0↔(∀i,i<h.aV.length->hq (view h k Y O) i=false)/\ ∀a∈O,pP (view h k Y O) a=false:=by
  unfold zv;show(if(dM h.aV.length).any (hq (view h k Y O))||O.any (pP (view h k Y O))then(4 :Int)else 0)=0↔_
  cases af:(dM h.aV.length).any (hq (view h k Y O))with
  |true=>
   rw[Bool.true_or,if_pos rfl]
   refine⟨λ e=>(by cases e),λ⟨e,_⟩=>?_⟩
   obtain⟨x,c,ak⟩:=h2.1 af
   rw[e x (by simpa using c)]at ak;cases ak
  |false=>
   rw[iu]
   rw[iO]at af
   have m:∀i,i<h.aV.length->hq (view h k Y O) i=false:=λ i hi=>by simpa using af i (by simpa using hi)
   cases ad:O.any (pP (view h k Y O))with
   |true=>
    rw[if_pos rfl]
    refine⟨λ e=>(by cases e),λ⟨_,e⟩=>?_⟩
    obtain⟨x,c,ak⟩:=h2.1 ad
    rw[e x c]at ak;cases ak
   |false=>
    rw[if_neg (by decide)]
    rw[iO]at ad
    exact⟨λ _=>⟨m,λ x c=>by simpa using ad x c⟩,λ _=>rfl⟩
 have bN:oC (view h k Y O)=0↔a6 (view h k Y O)=0/\kN (view h k Y O)=0/\zv (view h k Y O)=0:=by
  unfold oC;by_cases n:a6 (view h k Y O)=0
  ·rw[if_pos n]
   by_cases o:kN (view h k Y O)=0
   ·rw[if_pos o];exact⟨λ e=>⟨n,o,e⟩,λ e=>e.2.2⟩
   ·rw[if_neg o];exact⟨λ e=>absurd e o,λ e=>absurd e.2.1 o⟩
  ·rw[if_neg n];exact⟨λ e=>absurd e n,λ e=>absurd e.1 n⟩
 rw[bN,y,ak,aS];have s:∀x,(sc (view h k Y O) x=false)↔x∈O/\refs k h.Words x.toNat≠[]:=λ x=>by
  unfold sc kd;show((!decide (x∈Y++O)||(decide (0<x)&&decide (x<=h.au)))||(refs k h.Words x.toNat).isEmpty)=false↔_
  rw[h0,h0];constructor
  ·rintro⟨⟨j,J⟩,ap⟩
   have j:x∈Y++O:=by simp only[Bool.not_eq_false']at j;exact of_decide_eq_true j
   refine⟨?_,λ e=>by rw[e]at ap;cases ap⟩
   rcases b_.1 j with a' |a'
   ·have:=hy x a'
    rw[decide_eq_true (by omega),decide_eq_true (by omega)]at J
    cases J
   ·exact a'
  ·rintro⟨j,J⟩
   have:=v x j
   refine⟨⟨?_,?_⟩,?_⟩
   ·rw[decide_eq_true (js _ j)];rfl
   ·rw[decide_eq_false (p:=x<=h.au) (by omega),mF]
   ·cases e:refs k h.Words x.toNat with
    |nil=>exact absurd e J
    |cons _ _=>rfl
 constructor
 ·rintro⟨⟨j,J⟩,⟨ap,a'⟩,t,A⟩
  refine⟨λ a d=>?_,J,λ a d w l=>?_,λ i hi hc=>a' _ (afD ⟨by omega,by omega⟩ hi hc),Z3 λ i hi=>?_,λ x c=>?_,λ a d f w l=>?_⟩
  ·have:=j a d
   unfold lN at this
   rw[h0,decide_eq_false_iff_not,decide_eq_false_iff_not]at this
   have I: ¬aj h.Words a<1:=this.1
   have K: ¬h.Next<=aj h.Words a:=this.2
   omega
  ·have:=ap a d
   unfold ou at this
   rw[iO]at this
   have q:=this w l
   unfold uF at q
   by_cases e:wd h.Words w.toNat=0
   ·exact .inl e
   ·refine .inr ?_
    by_cases ak:wd h.Words w.toNat∈Y++O
    ·exact ak
    ·refine absurd ?_ q
     show(!decide (wd h.Words w.toNat=0)&& !decide (wd h.Words w.toNat∈Y++O))=true
     rw[decide_eq_false e,decide_eq_false ak];rfl
  ·have:=t (i+1) hi
   unfold hq at this
   simp only[h0,mh,decide_eq_false_iff_not,Nat.add_sub_cancel]at this
   rcases this.1 with z |z
   ·omega
   ·have z: ¬wd h.aV (i+1)<=wd h.aV i:=z
    omega
  ·obtain⟨i,hi,e⟩:=Xl c
   have:=t i hi
   unfold hq at this
   rw[h0]at this
   have q:sc (view h k Y O) (wd h.aV i)=false:=this.2
   rw[e]at q
   exact(s x).1 q
  ·rintro⟨B,C⟩
   have:=A a d
   unfold pP at this
   have this:(!decide (a∈h.aV)&&(refs k h.Words a.toNat).any λ w=>kd (view h k Y O) (wd h.Words w.toNat))=false:=this
   rw[decide_eq_false f,hN,j0,iO]at this
   refine this w l ?_
   show(decide (0<wd h.Words w.toNat)&&decide (wd h.Words w.toNat<=h.au))=true
   rw[decide_eq_true B,decide_eq_true C];rfl
 ·intro g
  refine⟨⟨λ a d=>?_,g.nodup⟩,⟨λ a d=>?_,λ x c=>?_⟩,λ i hi=>?_,λ a d=>?_⟩
  ·have:=g.hash a d
   show(decide (aj h.Words a<1)||decide (h.Next<=aj h.Words a))=false
   rw[decide_eq_false (by omega),decide_eq_false (by omega)];rfl
  ·show((refs k h.Words a.toNat).any (uF (view h k Y O)))=false
   rw[iO]
   intro w l
   show¬(!decide (wd h.Words w.toNat=0)&& !decide (wd h.Words w.toNat∈Y++O))=true
   rcases g.ref a d w l with e |e
   ·rw[decide_eq_true e];simp
   ·rw[decide_eq_true e];simp
  ·obtain⟨i,hi,hc,e⟩:=ail (by omega) c
   rw[e];exact g.fr i hi hc
  ·show((decide (0<i)&&decide (wd h.aV i<=wd h.aV (i-1)))||sc (view h k Y O) (wd h.aV i))=false
   rw[(s _).2 (g.nt _ (aaq hi)),Bool.or_false]
   by_cases D:0<i
   ·have:=g.P3 (i-1) i (by omega) hi
    rw[decide_eq_false (p:=wd h.aV i<=wd h.aV (i-1)) (by omega),mF]
   ·rw[decide_eq_false D];rfl
  ·show(!decide (a∈h.aV)&&(refs k h.Words a.toNat).any λ w=>kd (view h k Y O) (wd h.Words w.toNat))=false
   by_cases f:a∈h.aV
   ·rw[decide_eq_true f];rfl
   ·rw[decide_eq_false f,hN,j0,iO]
    intro w l e
    have e:(decide (0<wd h.Words w.toNat)&&decide (wd h.Words w.toNat<=h.au))=true:=e
    simp only[bH,decide_eq_true_eq]at e
    exact g.must a d f w l e
theorem eO.apart{W:List Int}{to q:Nat}{L:List Int}(h:eO k W to q L):∀a∈L,∀b∈L,a≠b->a.toNat+3+(wd W (a.toNat+1)).toNat<=b.toNat\/b.toNat+3+(wd W (b.toNat+1)).toNat<=a.toNat:=by
 induction h with
 |nil=>intro a av;cases av
 |cons g J ap d f=>
  intro a av b af e
  rcases cR.1 av with rfl |av
  ·rcases cR.1 af with rfl |af
   ·exact absurd rfl e
   ·obtain⟨n,rfl,c,_⟩:=d.mem b af
    left;simp only[c6];exact c
  ·rcases cR.1 af with rfl |af
   ·obtain⟨n,rfl,c,_⟩:=d.mem a av
    right;simp only[c6];exact c
   ·exact f a av b af e
theorem hY.apart(aj:iE h)(c:hY h k Y O):∀a∈Y++O,∀b∈Y++O,a≠b->a.toNat+3+(wd h.Words (a.toNat+1)).toNat<=b.toNat\/b.toNat+3+(wd h.Words (b.toNat+1)).toNat<=a.toNat:=by
 intro a av b af d;have hc:=aj.C.1.2;rcases b_.1 av with av |av<;>rcases b_.1 af with af |af
 ·exact c.y.apart a av b af d
 ·have:=c.Hn aj a av;have:=c.qA aj b af;left;omega
 ·have:=c.qA aj a av;have:=c.Hn aj b af;right;omega
 ·exact c.o.apart a av b af d
theorem eO.congr{W b:List Int}{to q:Nat}{L:List Int}(h:eO k W to q L)(c:∀a∈L,wd b a.toNat=wd W a.toNat/\wd b (a.toNat+1)=wd W (a.toNat+1)):eO k b to q L:=by
 induction h with
 |nil=>exact .nil
 | @cons q r d J ap i f=>
   obtain⟨e,ak⟩:=c _ iD
   simp only[c6]at e ak
   have:=f (λ a g=>c a (dX _ g))
   rw[<-ak]at this ap J
   rw[<-e]at d J
   exact .cons d J ap this
theorem aGk{W a:List Int}{q:Nat}(b:wd a q=wd W q)(J:wd a (q+1)=wd W (q+1)):refs k a q=refs k W q:=by unfold refs;rw[b,J]
end
end I
namespace I
section
variable{F:Nat}{k:aR}
theorem aFC(h:gi k)(t:Int):Ew k t=some (gx k t):=by
 have hc:=h.cl;unfold Ew gx;rw[cT (by omega) (by omega),aF,ie];simp;omega
theorem aFz(h:gi k){t:Int}(a:gx k t=true)(n:Int):Ev k t n=some (isLen k t n):=by
 unfold Ev fK isLen;simp only[ae];cases af:(decide (0<=n)&&decide (n<=500))with
 |false=>simp
 |true=>
  by_cases ap:t<3
  ·simp[ap]
  ·rw[P7 h a ap];simp[ap]
theorem ajY(h:gi k){t:Int}(c:gx k t=true){n:Int}(d:isLen k t n=true){j:Nat}(aA:(j:Int)<n):s5 k t (j:Int)=some (fQ k t j):=by
 unfold s5 fQ;obtain⟨_,a⟩:=mJ.1 d;by_cases J:t=2
 ·simp[J]
 by_cases ap:t<3
 ·have: ¬3<=t:=by omega
  simp[J,this]
 ·have a:=a.resolve_left ap
  have e:3<=t:=by omega
  have b:j<(io k t).length:=by omega
  rw[P7 h c ap,ae,bu (aJ b),aJ b]
  simp[J,e]
theorem eO.le{W:List Int}{to q:Nat}{L:List Int}(h:eO k W to q L):q<=to:=by
 cases h with
 |nil=>exact cC _
 |cons a J ap b=>omega
theorem awk(h:aU)(aj:gi k){to:Nat}(m:to<=h.Words.length)(o:h.Words.length<=5000):∀(f q:Nat)(acc:List Int),to-q<f->q<=6000 ->acc.length+(to-q)<=6000 ->
 (∃L,eO k h.Words to q L/\x5 h k (to:Int) f acc (q:Int)=some (.go (acc++L,(to:Int))))\/
 ((∀L,¬eO k h.Words to q L)/\(x5 h k (to:Int) f acc (q:Int)=some (.out ([],false))\/ ∃x,x5 h k (to:Int) f acc (q:Int)=some (.go x)/\x.2≠(to:Int))):=by
 intro f
 induction f with
 |zero=>intro q acc h;omega
 |succ f g=>
  intro q acc ad p s
  rw[x5]
  by_cases b:q<to
  case neg=>
   by_cases e:q=to
   ·subst e
    refine .inl ⟨[],.nil,?_⟩
    rw[bJ];simp
   ·rw[show decide ((q:Int)<(to:Int))=false from decide_eq_false (by omega)]
    exact .inr ⟨λ L a=>by have:=a.le;omega,.inr ⟨(acc,(q:Int)),rfl,by show(q:Int)≠(to:Int);omega⟩⟩
  rw[bK b,cond_true,cT (n:=(q:Int)+3) (by omega) (by omega)]
  by_cases ap:(to:Int)<(q:Int)+3
  ·rw[decide_eq_true ap]
   refine .inr ⟨λ L a=>?_,.inl rfl⟩
   obtain⟨_,_,_,_,h,_⟩:=a.inv b
   omega
  rw[decide_eq_false ap,cond_false,fP (by omega),ae]
  have j:Ew (⟨k.a8,k.aZ,k.Fields,k.Names,k.a1⟩:aR) (wd h.Words q)=some (gx k (wd h.Words q)):=aFC aj _
  rw[j,ae]
  cases c:gx k (wd h.Words q)with
  |false=>
   refine .inr ⟨λ L a=>?_,.inl rfl⟩
   obtain⟨_,_,h,_⟩:=a.inv b
   rw[c]at h;cases h
  |true=>
   have ak:Ev (⟨k.a8,k.aZ,k.Fields,k.Names,k.a1⟩:aR) (wd h.Words q) (wd h.Words (q+1))=some (isLen k (wd h.Words q) (wd h.Words (q+1))):=aFz aj c _
   rw[dC,cond_false,ae,cT (n:=(q:Int)+1) (by omega) (by omega),o' (i:=q+1) (by omega) (by omega),ae,ak,ae]
   cases d:isLen k (wd h.Words q) (wd h.Words (q+1))with
   |false=>
    refine .inr ⟨λ L a=>?_,.inl rfl⟩
    obtain⟨_,_,_,h,_⟩:=a.inv b
    rw[d]at h;cases h
   |true=>
    obtain⟨⟨l0,l1⟩,_⟩:=mJ.1 d
    rw[dC,cond_false,iz (by simp;omega),ae,ae,cT (n:=3+wd h.Words (q+1)) (by omega) (by omega),cT (n:=(q:Int)+(3+wd h.Words (q+1))) (by omega) (by omega)]
    rw[show(q:Int)+(3+wd h.Words (q+1))=((q+3+(wd h.Words (q+1)).toNat:Nat):Int) by omega]
    rcases g (q+3+(wd h.Words (q+1)).toNat) (acc++[(q:Int)]) (by omega) (by omega) (by simp;omega)with⟨L,a,e⟩|⟨l,e⟩
    ·refine .inl ⟨(q:Int)::L,.cons c d a.le a,?_⟩
     rw[e];simp
    ·refine .inr ⟨λ L a=>?_,e⟩
     obtain⟨r,_,_,_,_,h⟩:=a.inv b
     exact l r h
theorem ajW(g:6000<F)(h:aU)(aj:gi k){to q:Nat}(i:q<=5000)(b:to<=h.Words.length)(c:h.Words.length<=5000) :
 (∃L,eO k h.Words to q L/\q' F h k (q:Int) (to:Int)=some (L,true))\/((∀L,¬eO k h.Words to q L)/\ ∃l,q' F h k (q:Int) (to:Int)=some (l,false)):=by
 unfold q'
 rcases awk h aj b c F q [] (by omega) (by omega) (by simp;omega)with⟨L,d,e⟩|⟨a,e |⟨x,e,f⟩⟩
 ·exact .inl ⟨L,d,by rw[e,qK];simp⟩
 ·exact .inr ⟨a,[],by rw[e,akz]⟩
 ·exact .inr ⟨a,x.1,by rw[e,qK];show some (x.1,decide (x.2=(to:Int)))=_;rw[decide_eq_false f]⟩
theorem T6{α ρ:Type}{p:α->Bool}{e:ρ}:∀l:List α,l.findSome? (λ x=>if p x then some e else none)=if l.any p then some e else none
 |[]=>rfl
 |x::r=>by
  rw[iJ,List.any_cons];cases p x with
  |true=>rfl
  |false=>simp only[iu];exact T6 r
theorem Gm{l:List Int}(b:Small F l.length)(n:Int):kW F l n=some (decide (n∈l)):=by
 unfold kW;have l1:Bj l n F 0=some (cw (l.findSome? λ x=>if decide (x=n)then some true else none)):=each _ b.1 (λ f i x a=>by
  rw[Bj,bK (aO.1 a).1,cond_true,bu a,ae];cases decide (x=n)<;>rfl) (λ f=>by rw[Bj,bJ];rfl) b.2
 rw[l1,T6];by_cases e:n∈l
 ·rw[show(l.any λ x=>decide (x=n))=true from h2.2 ⟨n,e,by simp⟩,decide_eq_true e];rfl
 ·rw[show(l.any λ x=>decide (x=n))=false from iO.2 λ x a=>by simp;rintro rfl;exact e a,decide_eq_false e];rfl
theorem aFB(p:6000<F)(h:aU)(aj:gi k){q:Nat}(e:q+3+(wd h.Words (q+1)).toNat<=h.Words.length)(r:h.Words.length<=5000)(g:gx k (wd h.Words q)=true)(c:isLen k (wd h.Words q) (wd h.Words (q+1))=true) :
 oU F h k (q:Int)=some (refs k h.Words q):=by
 obtain⟨⟨l0,l1⟩,_⟩:=mJ.1 c
 unfold oU
 generalize m:(wd h.Words (q+1)).toNat=n at e
 have b:wd h.Words (q+1)=(n:Int):=by omega
 have d:=c
 rw[b]at d
 have l1:=vb (l:=dM n) (λ f acc i=>u7 (q:Int) h k f acc (i:Int)) (λ j=>if fQ k (wd h.Words q) j then[((q+3+j:Nat):Int)]else[]) 1 5000 (λ x _=>by split<;>simp) (λ f i x acc a s=>by
  have hi:i<n:=by have:=(aO.1 a).1;simpa using this
  rw[lE hi]at a;simp only[aF]at a;subst a;rw[u7,cT (n:=(q:Int)+1) (by omega) (by omega),o' (i:=q+1) (by omega) (by omega),ae,b,bK hi,cond_true,fP (by omega),ae];have o:s5 (⟨k.a8,k.aZ,k.Fields,k.Names,k.a1⟩:aR) (wd h.Words q) (i:Int)=some (fQ k (wd h.Words q) i):=ajY aj g d (by omega);rw[o,ae];show _=u7 (q:Int) h k f _ _
  cases fQ k (wd h.Words q) i with
  |true=>
   rw[cond_true,cT (n:=(q:Int)+3) (by omega) (by omega),cT (n:=(q:Int)+3+i) (by omega) (by omega),iz (by simp;omega),ae,ae,eA hi (by omega),if_pos rfl]
   congr 2
  |false=>
   rw[cond_false,ae,eA hi (by omega),if_neg (by decide),hp]) (λ f acc=>by
  rw[iq,u7,cT (n:=(q:Int)+1) (by omega) (by omega),o' (i:=q+1) (by omega) (by omega),ae,b,bJ];rfl) (F:=F) (by simp;omega) (acc:=[]) (by simp;omega)
 have l1:u7 (q:Int) h k F [] 0=_:=l1
 rw[l1,ae,ju,refs,m]
theorem ajX(a:6000<F){h:aU}(c:gi k)(aj:iE h):(∃Y O,hY h k Y O/\ra F h k=some (Y,O,true))\/((∀Y O,¬hY h k Y O)/\ ∃Y O,ra F h k=some (Y,O,false)):=by
 have s:=aj.fz;obtain⟨⟨⟨t,u⟩,a3,a4⟩,b,⟨c1,c2⟩,⟨c3,c4⟩,c5⟩:=id aj;unfold okB at b;unfold ra;have d:=ajW (F:=F) a h c (q:=1) (to:=h.aX.toNat) (by omega) (by omega) (by omega);have f:=ajW (F:=F) a h c (q:=(h.au+1).toNat) (to:=h.aW.toNat) (by omega) (by omega) (by omega);rw[show((h.aX.toNat:Nat):Int)=h.aX by omega]at d;rw[show((h.aW.toNat:Nat):Int)=h.aW by omega,show(((h.au+1).toNat:Nat):Int)=h.au+1 by omega]at f;rw[cT (n:=h.au+1) (by omega) (by omega)];have j:∀r,q' F h k 1 h.aX=some r->q' F (⟨h.Words,h.au,h.aN,h.aX,h.aW,h.aV,h.Next⟩:aU) (⟨k.a8,k.aZ,k.Fields,k.Names,k.a1⟩:aR) 1 h.aX=some r:=λ r e=>e;have l:∀r,q' F h k (h.au+1) h.aW=some r->q' F (⟨h.Words,h.au,h.aN,h.aX,h.aW,h.aV,h.Next⟩:aU) (⟨k.a8,k.aZ,k.Fields,k.Names,k.a1⟩:aR) (h.au+1) h.aW=some r:=λ r e=>e;rcases d with⟨Y,m,g⟩|⟨i,Y,g⟩<;>rcases f with⟨O,o,ak⟩|⟨p,O,ak⟩<;>rw[j _ g,ae,l _ ak,ae]
 ·exact .inl ⟨Y,O,⟨m,o⟩,rfl⟩
 ·exact .inr ⟨λ Y O h=>p _ h.o,Y,O,rfl⟩
 ·exact .inr ⟨λ Y O h=>i _ h.y,Y,O,rfl⟩
 ·exact .inr ⟨λ Y O h=>i _ h.y,Y,O,rfl⟩
end
end I
namespace I
section
variable{F:Nat}{k:aR}{h:aU}{Y O:List Int}
theorem WD{b:Bool}{e:Int}{K:Option (Way Int Unit)}:gR (if b=true then some e else none) K=cond b (some (.out e)) K:=by cases b<;>rfl
theorem aFG(g:10000<F)(j:1<=h.Next)(l:h.Next<=9223372036854775807)(b:oV (view h k Y O)):A2 h (Y++O) F 0=some (cw (if(Y++O).any (lN (view h k Y O))then some 3 else none)):=by
 have hc:Y.length+O.length<=5000:=b.p4;have m:h.Words.length<=4900:=b.fz;rw[<-nS];exact each _ (by simp;omega) (λ f i a c=>by
  have e:=bE c;have d:rf (view h k Y O) a:=b.st a e;have o:0<=a:=d.pos;have J:a.toNat+3+(wd h.Words (a.toNat+1)).toNat<=h.Words.length:=d.fit;rw[A2,bK (aO.1 c).1,cond_true,bu c,ae,cT (n:=a+2) (by omega) (by omega),o' (i:=a.toNat+2) (by omega) (by omega),ae];unfold fK;rw[ae,cT (n:=h.Next-1) (by omega) (by omega),WD];congr 1;show _=(decide (wd h.Words (a.toNat+2)<1)||decide (h.Next<=wd h.Words (a.toNat+2)))
  rw[ie];simp;omega) (λ f=>by rw[A2,bJ];rfl) (by simp;omega)
theorem aDe{l:List Int}:(dM l.length).any (λ i=>(dM i).any λ j=>decide (wd l i=wd l j))= !decide l.Nodup:=by
 rw[ie,h2];simp only[kS,h2,decide_eq_true_eq,gI,decide_eq_false_iff_not];rw[List.Nodup,jr];constructor
 ·rintro⟨i,hi,j,aA,e⟩ a
  have:=a j i (by omega) hi aA
  rw[pB (aJ hi),pB (aJ (by omega:j<l.length))]at e
  exact this e.symm
 ·intro a
  apply lW
  intro b
  refine a λ j i aA hi c e=>b ⟨i,hi,j,c,?_⟩
  rw[pB (aJ hi),pB (aJ aA)];exact e.symm
theorem aFH(m:10000<F)(a:oV (view h k Y O)):xW F h (Y++O) F 0=some (cw (if((Y++O).map (aj h.Words)).Nodup then none else some 6)):=by
 have hc:Y.length+O.length<=5000:=a.p4;have n:h.Words.length<=4900:=a.fz;have o:(Y++O).length<=5000:=by simp;omega
 have at_:∀i,i<(Y++O).length->idx (Y++O) (i:Int)=some (wd (Y++O) i)/\idx h.Words (ax (wd (Y++O) i+2))=some (wd ((Y++O).map (aj h.Words)) i):=λ i hi=>by
  have c:wd (Y++O) i=(Y++O)[i]:=pB (aJ hi);have b:rf (view h k Y O) (Y++O)[i]:=a.st _ (hh hi);have p:0<=(Y++O)[i]:=b.pos;have J:(Y++O)[i].toNat+3+(wd h.Words ((Y++O)[i].toNat+1)).toNat<=h.Words.length:=b.fit;refine⟨fP hi,?_⟩;rw[c,cT (by omega) (by omega),o' (i:=(Y++O)[i].toNat+2) (by omega) (by omega)];refine congrArg some (pB ?_).symm;rw[jb,aJ hi];rfl
 have l1:xW F h (Y++O) F 0=some (cw ((dM (Y++O).length).findSome? λ i=>if(dM i).any (λ j=>decide (wd ((Y++O).map (aj h.Words)) i=wd ((Y++O).map (aj h.Words)) j))then some 6 else none)):=ku _ (by omega) (λ f i hi=>by
  rw[xW,bK hi,cond_true];have d:A3 h (Y++O) (i:Int) F 0=some (cw ((dM i).findSome? λ j=>if decide (wd ((Y++O).map (aj h.Words)) i=wd ((Y++O).map (aj h.Words)) j)then some 6 else none)):=ku _ (by omega) (λ g j aA=>by
   rw[A3,bK aA,cond_true,(at_ i hi).1,ae,(at_ i hi).2,ae,(at_ j (by omega)).1,ae,(at_ j (by omega)).2,ae];cases decide (wd ((Y++O).map (aj h.Words)) i=wd ((Y++O).map (aj h.Words)) j)<;>rfl) (λ g=>by rw[A3,bJ];rfl) (by omega)
  rw[d,nS];cases(dM i).any (λ j=>decide (wd ((Y++O).map (aj h.Words)) i=wd ((Y++O).map (aj h.Words)) j))<;>rfl) (λ f=>by rw[xW,bJ];rfl) (by omega)
 rw[l1,nS];have e:=aDe (l:=(Y++O).map (aj h.Words));rw[fW]at e;rw[e];by_cases aL:((Y++O).map (aj h.Words)).Nodup
 ·rw[if_pos aL,decide_eq_true aL];rfl
 ·rw[if_neg aL,decide_eq_false aL];rfl
theorem P9(e:10000<F)(c:oV (view h k Y O)){a:Int}(d:a∈Y++O):oU F (⟨h.Words,h.au,h.aN,h.aX,h.aW,h.aV,h.Next⟩:aU) (⟨k.a8,k.aZ,k.Fields,k.Names,k.a1⟩:aR) a=some (refs k h.Words a.toNat):=by
 have b:rf (view h k Y O) a:=c.st a d;have f:h.Words.length<=4900:=c.fz;have:=aFB (F:=F) (by omega) h c.jk (q:=a.toNat) b.fit (by omega) b.tag b.len;rwa [show((a.toNat:Nat):Int)=a by have:=b.pos;omega]at this
theorem aFI(l:10000<F)(b:oV (view h k Y O)):A4 F h k (Y++O) F 0=some (cw (if(Y++O).any (ou (view h k Y O))then some 5 else none)):=by
 have hc:Y.length+O.length<=5000:=b.p4;have p:h.Words.length<=4900:=b.fz;rw[<-nS];exact each _ (by simp;omega) (λ f i a c=>by
  have e:=bE c;have g:rf (view h k Y O) a:=b.st a e;have FD:(refs k h.Words a.toNat).length<=5000:=PF b g;rw[A4,bK (aO.1 c).1,cond_true,bu c,ae,P9 l b e,ae];have m:xX F h (Y++O) (refs k h.Words a.toNat) F 0=some (cw ((refs k h.Words a.toNat).findSome? λ w=>if uF (view h k Y O) w then some 5 else none)):=each _ (by omega) (λ n i' w d=>by
   have o:=bE d;have j:idx h.Words w=some (wd h.Words w.toNat):=g.PE o;rw[xX,bK (aO.1 d).1,cond_true,bu d,ae,j,ae,ae,j,ae,Gm ⟨by simp;omega,by simp;omega⟩,ae];show _=gR (if(!decide (wd h.Words w.toNat=0)&& !decide (wd h.Words w.toNat∈Y++O))=true then some 5 else none) _
   cases decide (wd h.Words w.toNat=0)<;>cases decide (wd h.Words w.toNat∈Y++O)<;>rfl) (λ n=>by rw[xX,bJ];rfl) (by omega)
  rw[m,nS];show _=gR (if(refs k h.Words a.toNat).any (uF (view h k Y O))then some 5 else none) _
  cases(refs k h.Words a.toNat).any (uF (view h k Y O))<;>rfl) (λ f=>by rw[A4,bJ];rfl) (by simp;omega)
theorem aFJ(c:10000<F)(cc:iE h):u5 h F 0=some (cw (if(free h).any (λ x=>!decide (x=0))then some 1 else none)):=by
 have d:=cc.fz;obtain⟨⟨⟨g,j⟩,a3,a4⟩,b,⟨c1,c2⟩,⟨c3,c4⟩,c5⟩:=id cc;have l1:u5 h F 0=some (cw ((dM h.Words.length).findSome? λ i=>if(!decide (wd h.Words i=0)&&(decide ((i:Int)=0)||((decide (h.aX<=(i:Int))&&decide ((i:Int)<=h.au))||decide (h.aW<=(i:Int)))))then some 1 else none)):=ku _ (by omega) (λ f i hi=>by
  rw[u5,bK hi,cond_true,fP hi,ae];unfold fK;rw[ae];cases decide (wd h.Words i=0)<;>cases decide ((i:Int)=0)<;>cases((decide (h.aX<=(i:Int))&&decide ((i:Int)<=h.au))||decide (h.aW<=(i:Int)))<;>rfl) (λ f=>by rw[u5,bJ];rfl) (by omega)
 rw[l1,nS];refine congrArg (λ b:Bool=>some (cw (if b=true then some 1 else none))) ?_;rw[ie,h2,h2];constructor
 ·rintro⟨i,hi,e⟩
  simp only[bH,hV,gI,decide_eq_false_iff_not,decide_eq_true_eq]at e
  rw[kS]at hi
  exact⟨wd h.Words i,afD ⟨by omega,by omega⟩ hi (by rcases e.2 with e |e |e;exact .inl (by omega);exact .inr (.inl e);exact .inr (.inr e)),by simpa using e.1⟩
 ·rintro⟨x,a,e⟩
  obtain⟨i,hi,hc,rfl⟩:=ail (by omega) a
  refine⟨i,kS.2 hi,?_⟩
  simp only[bH,hV,gI,decide_eq_false_iff_not,decide_eq_true_eq]at e⊢
  exact⟨e,by rcases hc with e |e |e;exact .inl (by omega);exact .inr (.inl e);exact .inr (.inr e)⟩
theorem ai1(cc:iE h)(a:hY h k Y O){x:Int}:x∈O↔x∈Y++O/\kd (view h k Y O) x=false:=by
 obtain⟨⟨⟨c,d⟩,a3,a4⟩,b,⟨c1,c2⟩,⟨c3,c4⟩,c5⟩:=id cc;have e:kd (view h k Y O) x=(decide (0<x)&&decide (x<=h.au)):=rfl;rw[e];constructor
 ·intro aa
  have:=a.qA cc x aa
  exact⟨b_.2 (.inr aa),by simp;omega⟩
 ·rintro⟨aa,e⟩
  rcases b_.1 aa with aa |aa
  ·have:=a.Hn cc x aa
   simp at e;omega
  ·exact aa
theorem aFN(i:10000<F)(cc:iE h)(d:hY h k Y O)(f:oV (view h k Y O))(x:Int)(Z:Option Int)(j:Z=some x)(K:Option (Way Int Unit)):((kW F O x).bind λ l=>
 cond (!l) (some (.out 4)) (Z.bind λ c=>
 (oU F (⟨h.Words,h.au,h.aN,h.aX,h.aW,h.aV,h.Next⟩:aU) (⟨k.a8,k.aZ,k.Fields,k.Names,k.a1⟩:aR) c).bind λ m=>
 cond (decide ((m.length:Int)=0)) (some (.out 4)) K))=gR (if sc (view h k Y O) x then some 4 else none) K:=by
 have hc:Y.length+O.length<=5000:=f.p4
 subst j
 rw[Gm ⟨by omega,by omega⟩,ae,WD]
 have e:sc (view h k Y O) x=(!decide (x∈Y++O)||kd (view h k Y O) x||(refs k h.Words x.toNat).isEmpty):=rfl
 rw[e]
 by_cases b:x∈O
 ·obtain⟨g,J⟩:=(ai1 cc d).1 b
  rw[decide_eq_true b,decide_eq_true g,J,dC,cond_false,ae,P9 i f g,ae]
  cases refs k h.Words x.toNat with
  |nil=>rfl
  |cons a r=>rw[decide_eq_false (by simp;omega)];rfl
 ·rw[decide_eq_false b]
  have:(!decide (x∈Y++O)||kd (view h k Y O) x)=true:=by
   cases aL:decide (x∈Y++O)with
   |false=>rfl
   |true=>
    cases hy:kd (view h k Y O) x with
    |true=>rfl
    |false=>exact absurd ((ai1 cc d).2 ⟨of_decide_eq_true aL,hy⟩) b
  rw[this];rfl
theorem aFK(d:10000<F)(cc:iE h)(g:hY h k Y O)(j:oV (view h k Y O))(a:Small F h.aV.length):pV F h k (Y,O,true) F 0=some (cw (if(dM h.aV.length).any (hq (view h k Y O))then some 4 else none)):=by
 rw[<-nS];exact ku _ a.1 (λ f i hi=>by
  rw[pV,bK hi,cond_true];have e:hq (view h k Y O) i=((decide (0<i)&&decide (wd h.aV i<=wd h.aV (i-1)))||sc (view h k Y O) (wd h.aV i)):=rfl;have b:=aFN d cc g j (wd h.aV i) (idx h.aV (i:Int)) (fP hi) (pV F h k (Y,O,true) f (ax ((i:Int)+1)));rw[e];have l:=a.1;by_cases c:0<i
  ·rw[show decide ((0 :Int)<(i:Int))=true from decide_eq_true (by omega),cond_true]
   rw[show∀K:Int->Option (Way Int Unit),(idx h.aV (i:Int)).bind K=K (wd h.aV i) from λ K=>by rw[fP hi];rfl]
   rw[cT (n:=(i:Int)-1) (by omega) (by omega),o' (i:=i-1) (by omega) (by omega),ae,decide_eq_true c,j0]
   cases decide (wd h.aV i<=wd h.aV (i-1))with
   |true=>rfl
   |false=>
    rw[cond_false,iu,<-b]
    rw[fP hi];rfl
  ·rw[show decide ((0 :Int)<(i:Int))=false from decide_eq_false (by omega),cond_false,decide_eq_false c,Bool.false_and,iu,<-b]
   rw[fP hi];rfl) (λ f=>by rw[pV,bJ];rfl) a.2
theorem aFL(l:10000<F)(b:oV (view h k Y O))(m:Small F h.aV.length):sY F h k (Y,O,true) F 0=some (cw (if O.any (pP (view h k Y O))then some 4 else none)):=by
 have hc:Y.length+O.length<=5000:=b.p4;rw[<-nS];exact each _ (by omega) (λ f i a c=>by
  have g:=b_.2 (Or.inr (a:=a∈Y) (bE c));have j:rf (view h k Y O) a:=b.st a g;have FD:(refs k h.Words a.toNat).length<=5000:=PF b j;rw[sY,bK (aO.1 c).1,cond_true,bu c,ae,P9 l b g,ae];have n:q8 F h (Y,O,true) (i:Int) (refs k h.Words a.toNat) F 0=some (cw ((refs k h.Words a.toNat).findSome? λ w=>if(!decide (a∈h.aV)&&kd (view h k Y O) (wd h.Words w.toNat))then some 4 else none)):=each _ (by omega) (λ o i' w d=>by
   have p:=bE d;have q:idx h.Words w=some (wd h.Words w.toNat):=j.PE p;rw[q8,bK (aO.1 d).1,cond_true,bu d,ae,q,ae];unfold fK;rw[ae,bu c,ae,Gm m,ae,WD];have e:kd (view h k Y O) (wd h.Words w.toNat)=(decide (1<=wd h.Words w.toNat)&&decide (wd h.Words w.toNat<=h.au)):=rfl;rw[e];cases(decide (1<=wd h.Words w.toNat)&&decide (wd h.Words w.toNat<=h.au))<;>cases decide (a∈h.aV)<;>rfl) (λ o=>by rw[q8,bJ];rfl) (by omega)
  rw[n,nS];have e:pP (view h k Y O) a=((refs k h.Words a.toNat).any λ w=>!decide (a∈h.aV)&&kd (view h k Y O) (wd h.Words w.toNat)):=by
   show(!decide (a∈h.aV)&&(refs k h.Words a.toNat).any λ w=>kd (view h k Y O) (wd h.Words w.toNat))=_
   cases decide (a∈h.aV)with
   |true=>simp
   |false=>simp
  rw[e];cases(refs k h.Words a.toNat).any (λ w=>!decide (a∈h.aV)&&kd (view h k Y O) (wd h.Words w.toNat))<;>rfl) (λ f=>by rw[sY,bJ];rfl) (by omega)
theorem aFM(b:10000<F)(j:gi k)(l:Small F h.aV.length)(hi:h.Next<=9223372036854775807):∃r,Eu F h k=some r.2/\Spec h k r:=by
 unfold Eu;by_cases a:zz h
 case neg=>
  refine⟨(none,mW h),?_,.size λ s=>a s.A⟩
  show _=some (mW h)
  unfold mW fK
  rw[if_neg a,ae,ae]
  cases af:(decide (3<=h.au)&&decide (h.au<=2000))with
  |false=>rfl
  |true=>
   cases g:(decide (3<=h.aN)&&decide (h.aN<=2000))with
   |false=>rfl
   |true=>exact absurd ⟨by simpa using af,by simpa using g⟩ a
 obtain⟨⟨o,p⟩,a3,a4⟩:=id a;have q:fK h.au 3 2000=some true:=by unfold fK;rw[decide_eq_true o,decide_eq_true p];rfl
 have t:fK h.aN 3 2000=some true:=by unfold fK;rw[decide_eq_true a3,decide_eq_true a4];rfl
 rw[q,t,ae,ae,dC,cond_false,cond_false,cT (n:=1+h.au) (by omega) (by omega),cT (n:=1+h.au+h.aN) (by omega) (by omega)];by_cases bO:okB h
 case neg=>
  refine⟨(none,mW h),?_,.size λ s=>bO s.B⟩
  show _=some (mW h)
  unfold mW
  rw[if_pos a,if_neg bO]
  unfold okB at bO
  rw[decide_eq_false bO];rfl
 have d:=bO;unfold okB at d;rw[decide_eq_true d,dC,cond_false,cT (n:=h.au+1) (by omega) (by omega),cT (n:=h.au+h.aN) (by omega) (by omega),cT (n:=h.au+h.aN+1) (by omega) (by omega)];by_cases f:F5 h
 case neg=>
  refine⟨(none,mW h),?_,.size λ s=>f s.C⟩
  show _=some (mW h)
  unfold mW fK
  rw[if_pos a,if_pos bO,if_neg f,ae,ae]
  cases af:(decide (1<=h.aX)&&decide (h.aX<=h.au+1))with
  |false=>rfl
  |true=>
   cases g:(decide (h.au+1<=h.aW)&&decide (h.aW<=h.au+h.aN+1))with
   |false=>rfl
   |true=>
    cases u:decide (h.Next<1)with
    |true=>rfl
    |false=>exact absurd ⟨by simpa using af,by simpa using g,by simp at u;omega⟩ f
 have cc:iE h:=⟨a,bO,f⟩
 obtain⟨⟨c1,c2⟩,⟨c3,c4⟩,c5⟩:=id f;have v:fK h.aX 1 (h.au+1)=some true:=by unfold fK;rw[decide_eq_true c1,decide_eq_true c2];rfl
 have w:fK h.aW (h.au+1) (h.au+h.aN+1)=some true:=by unfold fK;rw[decide_eq_true c3,decide_eq_true c4];rfl
 rw[v,w,ae,ae,dC,cond_false,decide_eq_false (show¬h.Next<1 by omega),Bool.or_self,cond_false];have m:∀r,ra F h k=some r->ra F (⟨h.Words,h.au,h.aN,h.aX,h.aW,h.aV,h.Next⟩:aU) (⟨k.a8,k.aZ,k.Fields,k.Names,k.a1⟩:aR)=some r:=λ r e=>e;rcases ajX (F:=F) (by omega) j cc with⟨Y,O,i,e⟩|⟨y,Y,O,e⟩
 case inr=>
  refine⟨(none,1),?_,.form cc y⟩
  rw[m _ e];rfl
 have c:=i.qO j cc;have hc:Y.length+O.length<=5000:=c.p4;refine⟨_,?_,.rest cc i⟩;show _=some (oC (view h k Y O))
 have z:bF 8 ([]:List Int) Y=some Y:=by rw[iz (by simp;omega)];rfl
 have A:bF 8 Y O=some (Y++O):=iz (by omega);have l1:=aFG (k:=k) (Y:=Y) (O:=O) b c5 hi c;have B:=aFH (F:=F) b c;have C:=aFI (F:=F) b c;have D:=aFJ (F:=F) b cc;have E:=aFK b cc i c l;have G:=aFL b c l;rw[m _ e,ae];show(bF 8 ([]:List Int) Y).bind _=_
 rw[z,ae];show(bF 8 Y O).bind _=_
 rw[A,ae,l1,jW];unfold oC a6;show pq (if(Y++O).any (lN (view h k Y O))=true then some 3 else none) _=some (if(if(Y++O).any (lN (view h k Y O))=true then(3 :Int)else if((Y++O).map (aj h.Words)).Nodup then 0 else 6)=0 then _ else(if(Y++O).any (lN (view h k Y O))=true then(3 :Int)else if((Y++O).map (aj h.Words)).Nodup then 0 else 6))
 cases(Y++O).any (lN (view h k Y O))with
 |true=>rfl
 |false=>
  rw[if_neg kv,if_neg kv]
  show ch _ _=_
  rw[B,jW]
  by_cases aL:((Y++O).map (aj h.Words)).Nodup
  case neg=>rw[if_neg aL,if_neg aL];rfl
  rw[if_pos aL,if_pos aL,if_pos rfl]
  show ch _ _=_
  rw[C,jW]
  unfold kN
  show pq (if(Y++O).any (ou (view h k Y O))=true then some 5 else none) _=some (if(if(Y++O).any (ou (view h k Y O))=true then(5 :Int)else if(free h).any (λ x=>!decide (x=0))=true then 1 else 0)=0 then _ else(if(Y++O).any (ou (view h k Y O))=true then(5 :Int)else if(free h).any (λ x=>!decide (x=0))=true then 1 else 0))
  cases(Y++O).any (ou (view h k Y O))with
  |true=>rfl
  |false=>
   rw[if_neg kv,if_neg kv]
   show ch _ _=_
   rw[D,jW]
   cases(free h).any (λ x=>!decide (x=0))with
   |true=>rfl
   |false=>
    rw[if_neg kv,if_neg kv,if_pos rfl]
    show ch _ _=_
    rw[E,jW]
    unfold zv
    show pq (if(dM h.aV.length).any (hq (view h k Y O))=true then some 4 else none) _=some (if((dM h.aV.length).any (hq (view h k Y O))||O.any (pP (view h k Y O)))=true then(4 :Int)else 0)
    cases(dM h.aV.length).any (hq (view h k Y O))with
    |true=>rfl
    |false=>
     rw[if_neg kv,iu]
     show ch _ _=_
     rw[G,jW]
     cases O.any (pP (view h k Y O))<;>rfl
theorem Spec.uE{r e:Option bj×Int}(s:Spec h k r)(s':Spec h k e):r=e:=by
 cases s with
 |size b=>cases s' with
  |size _=>rfl
  |form a _=>exact absurd a b
  |rest a _=>exact absurd a b
 |form a d=>cases s' with
  |size b=>exact absurd a b
  |form _ _=>rfl
  |rest _ c=>exact absurd c (d _ _)
 |rest a c=>cases s' with
  |size b=>exact absurd a b
  |form _ d=>exact absurd c (d _ _)
  |rest _ f=>
   obtain rfl:=c.y.uE f.y
   obtain rfl:=c.o.uE f.o
   rfl
end
end I
namespace I
section
variable{k:aR}{h:aU}{Y O:List Int}
theorem hY.fit(cc:iE h)(c:hY h k Y O):∀a∈Y++O,1<=a/\a.toNat+3+(wd h.Words (a.toNat+1)).toNat<=h.Words.length/\(a.toNat+3+(wd h.Words (a.toNat+1)).toNat<=h.aX.toNat\/(h.au+1<=a/\a.toNat+3+(wd h.Words (a.toNat+1)).toNat<=h.aW.toNat)):=by
 intro a av;have bO:(h.Words.length:Int)=1+h.au+h.aN:=cc.B;obtain⟨⟨c1,c2⟩,⟨c3,c4⟩,_⟩:=cc.C;obtain⟨⟨d,_⟩,a3,_⟩:=cc.A;rcases b_.1 av with av |av
 ·obtain⟨b,J⟩:=c.Hn cc a av;exact⟨b,by omega,.inl J⟩
 ·obtain⟨b,J⟩:=c.qA cc a av;exact⟨by omega,by omega,.inr ⟨b,J⟩⟩
theorem hY.Dp(b:hY h k Y O):∀a∈Y++O,gx k (wd h.Words a.toNat)=true/\isLen k (wd h.Words a.toNat) (wd h.Words (a.toNat+1))=true:=by
 intro a av;rcases b_.1 av with av |av
 ·obtain⟨n,rfl,_,_,ap⟩:=b.y.mem a av;exact ap
 ·obtain⟨n,rfl,_,_,ap⟩:=b.o.mem a av;exact ap
theorem Ok.set(cc:iE h)(l:hY h k Y O)(g:Ok h k Y O){a:Int}(o:a∈Y++O){n:Nat}(y:n<(wd h.Words (a.toNat+1)).toNat){value:Int}
 (z:fQ k (wd h.Words a.toNat) n=true->value=0\/value∈Y++O){nt:List Int}(A:BH nt)(J:∀x∈nt,x∈h.aV\/(x=a/\a∈O/\fQ k (wd h.Words a.toNat) n=true))(ap:∀x∈h.aV,x∈nt)
 (B:fQ k (wd h.Words a.toNat) n=true->a∈O->0<value->value<=h.au->a∈nt) :
 iE (⟨h.Words.set (a.toNat+3+n) value,h.au,h.aN,h.aX,h.aW,nt,h.Next⟩:aU)/\hY (⟨h.Words.set (a.toNat+3+n) value,h.au,h.aN,h.aX,h.aW,nt,h.Next⟩:aU) k Y O/\
 Ok (⟨h.Words.set (a.toNat+3+n) value,h.au,h.aN,h.aX,h.aW,nt,h.Next⟩:aU) k Y O:=by
 obtain⟨K,L,M⟩:=l.fit cc a o
 have C:a.toNat+3+n<h.Words.length:=by omega
 have d:∀j,wd (h.Words.set (a.toNat+3+n) value) j=if j=a.toNat+3+n then value else wd h.Words j:=λ j=>aar C
 have head:∀b∈Y++O,wd (h.Words.set (a.toNat+3+n) value) b.toNat=wd h.Words b.toNat/\wd (h.Words.set (a.toNat+3+n) value) (b.toNat+1)=wd h.Words (b.toNat+1)/\wd (h.Words.set (a.toNat+3+n) value) (b.toNat+2)=wd h.Words (b.toNat+2):=by
  intro b af;rw[d,d,d];by_cases e:b=a
  ·subst e
   rw[if_neg (by omega),if_neg (by omega),if_neg (by omega)];exact⟨rfl,rfl,rfl⟩
  ·have:=l.apart cc b af a o e
   rw[if_neg (by omega),if_neg (by omega),if_neg (by omega)];exact⟨rfl,rfl,rfl⟩
 have bO:(h.Words.length:Int)=1+h.au+h.aN:=cc.B
 obtain⟨⟨c1,c2⟩,⟨c3,c4⟩,c5⟩:=id cc.C
 have p:∀b∈Y++O,refs k (h.Words.set (a.toNat+3+n) value) b.toNat=refs k h.Words b.toNat:=λ b af=>aGk (head b af).1 (head b af).2.1
 have s:∀b∈Y++O,aj (h.Words.set (a.toNat+3+n) value) b=aj h.Words b:=λ b af=>(head b af).2.2
 have D:(Y++O).map (aj (h.Words.set (a.toNat+3+n) value))=(Y++O).map (aj h.Words):=List.map_congr_left s
 have t:∀b∈Y++O,∀w∈refs k h.Words b.toNat,w.toNat=a.toNat+3+n->b=a/\fQ k (wd h.Words a.toNat) n=true:=by
  intro b af w c e;obtain⟨j,aA,E,rfl⟩:=wO.1 c;simp only[c6]at e;have q:b=a:=by
   by_cases q:b=a
   ·exact q
   ·have:=l.apart cc b af a o q;omega
  subst q;have:j=n:=by omega
  subst this;exact⟨rfl,E⟩
 refine⟨⟨cc.A,?_,cc.C⟩,⟨l.y.congr λ b af=>?_,l.o.congr λ b af=>?_⟩,⟨λ b af=>?_,?_,λ b af w c=>?_,λ i hi hc=>?_,A,λ x r=>?_,λ b af u w c=>?_⟩⟩
 ·show((h.Words.set (a.toNat+3+n) value).length:Int)=_;rw[kb];exact bO
 ·obtain⟨f,m,_⟩:=head b (kz _ af);exact⟨f,m⟩
 ·obtain⟨f,m,_⟩:=head b (js _ af);exact⟨f,m⟩
 ·show 1<=aj (h.Words.set (a.toNat+3+n) value) b/\aj (h.Words.set (a.toNat+3+n) value) b<h.Next
  rw[s b af];exact g.hash b af
 ·show((Y++O).map (aj (h.Words.set (a.toNat+3+n) value))).Nodup
  rw[D];exact g.nodup
 ·have c:w∈refs k (h.Words.set (a.toNat+3+n) value) b.toNat:=c
  rw[p b af]at c
  show wd (h.Words.set (a.toNat+3+n) value) w.toNat=0\/wd (h.Words.set (a.toNat+3+n) value) w.toNat∈Y++O
  rw[d]
  by_cases e:w.toNat=a.toNat+3+n
  ·rw[if_pos e];exact z (t b af w c e).2
  ·rw[if_neg e];exact g.ref b af w c
 ·have hi:i<(h.Words.set (a.toNat+3+n) value).length:=hi
  rw[kb]at hi
  have hc:i=0\/(h.aX<=i/\(i:Int)<=h.au)\/h.aW<=i:=hc
  show wd (h.Words.set (a.toNat+3+n) value) i=0
  rw[d,if_neg (by omega)]
  exact g.fr i hi hc
 ·show x∈O/\refs k (h.Words.set (a.toNat+3+n) value) x.toNat≠[]
  rcases J x r with r |⟨rfl,F,aA⟩
  ·obtain⟨f,m⟩:=g.nt x r
   rw[p x (js _ f)];exact⟨f,m⟩
  ·refine⟨F,?_⟩
   rw[p x o]
   intro e
   have:((x.toNat+3+n:Nat):Int)∈refs k h.Words x.toNat:=wO.2 ⟨n,y,aA,rfl⟩
   rw[e]at this;cases this
 ·have v:b∈Y++O:=js _ af
  have c:w∈refs k (h.Words.set (a.toNat+3+n) value) b.toNat:=c
  rw[p b v]at c
  show¬(0<wd (h.Words.set (a.toNat+3+n) value) w.toNat/\wd (h.Words.set (a.toNat+3+n) value) w.toNat<=h.au)
  rw[d]
  by_cases e:w.toNat=a.toNat+3+n
  ·rw[if_pos e]
   obtain⟨rfl,aA⟩:=t b v w c e
   rintro⟨G,H⟩
   exact u (B aA af G H)
  ·rw[if_neg e]
   exact g.must b af (λ I=>u (ap b I)) w c
end
end I
namespace I
structure Good (F:Nat) (h:aU) (k:aR) (Y O:List Int):Prop where
 rn:n' F k=some 0
 jk:gi k
 s:iE h
 l:hY h k Y O
 ok:Ok h k Y O
section
variable{F:Nat}{k:aR}{h:aU}{Y O:List Int}
theorem Good.aiR(g:Good F h k Y O):h.aV.length<=5000:=by
 refine akT (N:=5000) g.ok.P3 (λ i hi=>?_);obtain⟨a,_⟩:=g.ok.nt _ (aaq hi);obtain⟨b,c,_⟩:=g.l.fit g.s _ (js Y a);have:=g.s.fz;omega
theorem Good.open(b:10000<F)(g:Good F h k Y O):j' F h k=some (some (view h k Y O),0):=by
 unfold j';have c:n' F (⟨k.a8,k.aZ,k.Fields,k.Names,k.a1⟩:aR)=some 0:=g.rn;have f:=g.aiR;obtain⟨r,ak,hv⟩:=XX b g.jk (h:=h) ⟨by omega,by omega⟩;have ak:tE F (⟨h.Words,h.au,h.aN,h.aX,h.aW,h.aV,h.Next⟩:aU) (⟨k.a8,k.aZ,k.Fields,k.Names,k.a1⟩:aR)=some r:=ak;rw[c,ae,rq,ak,ae];cases hv with
 |size aj=>exact absurd g.s aj
 |form _ ad=>exact absurd g.l (ad Y O)
 | @rest i j _ a=>
   have d:=a.y.uE g.l.y
   have e:=a.o.uE g.l.o
   subst d e
   rw[(alu g.jk g.s g.l).2 g.ok];rfl
theorem aDw(j:10000<F)(l:∃e,n' F k=some e/\(e≠0\/(e=0/\gi k)))(m:Small F h.aV.length) :
 ∃r,j' F h k=some r/\((r.2≠0/\r.1=none)\/ ∃Y O,Good F h k Y O/\r=(some (view h k Y O),0)):=by
 obtain⟨e,d,a⟩:=l
 unfold j'
 have b:n' F (⟨k.a8,k.aZ,k.Fields,k.Names,k.a1⟩:aR)=some e:=d
 rw[b,ae]
 rcases a with a |⟨rfl,c⟩
 ·rw[sd a];exact⟨_,rfl,.inl ⟨a,rfl⟩⟩
 obtain⟨r,ak,hv⟩:=XX j c m
 have ak:tE F (⟨h.Words,h.au,h.aN,h.aX,h.aW,h.aV,h.Next⟩:aU) (⟨k.a8,k.aZ,k.Fields,k.Names,k.a1⟩:aR)=some r:=ak
 rw[rq,ak,ae]
 refine⟨_,rfl,?_⟩
 cases hv with
 |size aj=>exact .inl ⟨λ e=>aj (ZW.1 e),rfl⟩
 |form _ ad=>exact .inl ⟨by decide,rfl⟩
 | @rest f g aj i=>
   by_cases q:oC (view h k f g)=0
   ·exact .inr ⟨f,g,⟨d,c,aj,i,(alu c aj i).1 q⟩,by rw[q];rfl⟩
   ·exact .inl ⟨q,by rw[if_neg q]⟩
theorem Good.dH(_:Good F h k Y O)(a:Int):Fj (view h k Y O) a=some (decide (a∈Y++O)):=by
 unfold Fj;show some ((cJ ((Y++O).map λ a=>(a,true)) a).getD false)=_
 rw[OA]
end
end I
namespace I
theorem PR{F:Nat}{l:List Int}(h:Small F l.length):nE F l l=some true:=by
 unfold nE;have l1:=Ov (n:=l.length) (λ k i=>u_ l l k (i:Int)) (.go ()) (λ k i hi=>by
  obtain⟨x,a⟩:∃x,l[i]? =some x:=⟨l[i],aJ hi⟩
  rw[u_,bK hi,cond_true,bu a,ae,ae,decide_eq_true rfl];show u_ l l k _=_
  rw[eA hi h.1]) (λ k=>by rw[u_,bJ];rfl) h.2
 have l1:u_ l l F 0=some (.go ()):=l1;rw[l1,decide_eq_true rfl];rfl
theorem aGT{F:Nat}{h:aU}(a:Small F h.Words.length)(J:Small F h.aV.length):Bv F h h=some true:=by
 unfold Bv;rw[PR a,PR J];simp
end I
namespace I
open Go Go.Proofs.YteeliipnilghaaaGreat
theorem w_{n:Nat}(h:n<=reachBytes):Small 140737488356000 n:=by
 have:reachBytes=140737488351232:=rfl;unfold Small;omega
theorem py{n:Nat}(k:Nat)(h:n*(k+1)<=reachBytes):Small 140737488356000 n:=
 w_ (gJ (l2 n (Nat.succ_pos k)) h)
theorem av5{m:Method}(h:LZ reachBytes m):m.Fits 140737488356000:=
 ⟨w_ h.1,py 23 h.2.2.1.1,λ k a=>w_ (h.2.2.1.2 k a).2,w_ h.2.2.2.1.2,py 39 h.2.2.2.2.2.2.2.1,λ x b=>w_ (h.2.2.2.2.2.2.2.2 x b).2.2.2⟩
theorem av4{c:ao}(h:Hz reachBytes c):c.Fits 140737488356000:=
 ⟨w_ h.1,w_ h.2.1,py 39 h.2.2.1.1,λ f ad=>⟨w_ (h.2.2.1.2 f ad).1,w_ (h.2.2.1.2 f ad).2.2⟩,py 127 h.2.2.2.1,λ m a=>av5 (h.2.2.2.2 m a)⟩
theorem av6{l:List ao}(h:l.length*80<=reachBytes/\ ∀x∈l,Hz reachBytes x):Fits 140737488356000 l:=
 ⟨py 79 h.1,λ c hc=>av4 (h.2 c hc)⟩
theorem aBV{k:aR}(h:LY reachBytes k):LW 140737488356000 k:=
 ⟨py 7 h.2.1.1,py 23 h.2.2.1.1,λ x a=>py 39 (h.2.2.1.2 x a).1,py 23 h.2.2.2.1.1,λ x a=>py 15 (h.2.2.2.1.2 x a).1,py 23 h.2.2.2.2.1,λ x a=>py 15 (h.2.2.2.2.2 x a).1⟩
end I
namespace I
theorem aG_{k:aR}(a:hW k.a8)(e:k=linked k.a8):gi k:=by
 have:=a.right.len;exact⟨by omega,by rw[e];exact aGw⟩
theorem atq{k:aR}(a:Go.Proofs.YteeliipnilghaaaGreat.LY Go.reachBytes k):∃e,n' 140737488356000 k=some e/\s3 140737488356000 k=some e/\(e≠0\/(e=0/\gi k)):=by
 obtain⟨e,c1,c2,c3⟩:=atp (F:=140737488356000) (by omega) (av6 a.1) (aBV a);refine⟨e,c1,c2,?_⟩;rcases c3 with rfl |⟨rfl,b,c⟩
 ·exact .inl (by decide)
 ·exact .inr ⟨rfl,aG_ b c⟩
theorem ai3{F:Nat}{h:aU}{k:aR}(b:10000<F)(l:∃e,n' F k=some e/\s3 F k=some e/\(e≠0\/(e=0/\gi k)))(c:Small F h.aV.length)(hi:h.Next<=9223372036854775807) :
 ∃r,j' F h k=some r/\x3 F h k=some r.2/\((r.2≠0/\r.1=none)\/ ∃Y O,Good F h k Y O/\r=(some (view h k Y O),0)):=by
 obtain⟨e,c1,c2,c3⟩:=l
 obtain⟨r,a,m⟩:=aDw b ⟨e,c1,c3⟩ c
 refine⟨r,a,?_,m⟩
 have d:n' F (⟨k.a8,k.aZ,k.Fields,k.Names,k.a1⟩:aR)=some e:=c1
 have f:s3 F (⟨k.a8,k.aZ,k.Fields,k.Names,k.a1⟩:aR)=some e:=c2
 unfold x3
 unfold j' at a
 rw[d,ae]at a
 rw[f,ae]
 rcases c3 with c3 |⟨rfl,j⟩
 ·rw[sd c3]at a
  obtain rfl:=ei a
  rw[decide_eq_false c3];rfl
 ·rw[rq]at a
  obtain⟨n,g,o⟩:=XX b j c
  obtain⟨p,i,q⟩:=aFM b j c hi
  have g:tE F (⟨h.Words,h.au,h.aN,h.aX,h.aW,h.aV,h.Next⟩:aU) (⟨k.a8,k.aZ,k.Fields,k.Names,k.a1⟩:aR)=some n:=g
  have i:Eu F (⟨h.Words,h.au,h.aN,h.aX,h.aW,h.aV,h.Next⟩:aU) (⟨k.a8,k.aZ,k.Fields,k.Names,k.a1⟩:aR)=some p.2:=i
  obtain rfl:=o.uE q
  rw[g,ae]at a
  obtain rfl:=ei a
  rw[show decide ((0 :Int)=0)=true from rfl,cond_true,i];rfl
end I
namespace Go.Proofs.YteeliipnilghaaaGreat
open I
structure Ord (Y o:List Int):Prop where
 il:o.Nodup
 sub:∀a∈o,a∈Y
theorem aiB:∀ {o Y:List Int},o.Nodup->(∀a∈o,a∈Y)->o.length<=Y.length
 |[],Y,_,_=>gK _
 |a::r,Y,c,aj=>by
  have c:=im.1 c;have d:a∈Y:=aj a (by simp);have f:=aiB (o:=r) (Y:=Y.erase a) c.2 λ b af=>(List.mem_erase_of_ne λ e=>by subst e;exact c.1 af).2 (aj b (by simp[af]));rw[lX d]at f;have:0<Y.length:=List.length_pos_of_mem d;simp only[de];omega
theorem Ord.len{Y o:List Int}(h:Ord Y o):o.length<=Y.length:=aiB h.il h.sub
theorem Ord.nil{Y:List Int}:Ord Y []:=⟨lZ,λ _ h=>by simp at h⟩
end Go.Proofs.YteeliipnilghaaaGreat
namespace Go.Proofs.YteeliipnilghaaaGreat
open I
def fy(k:aR)(W:List Int)(a:Int):List Int:=(refs k W a.toNat).map λ w=>wd W w.toNat
section
variable{F:Nat}{h:aU}{k:aR}{Y O:List Int}{ai eH:List Int}{ak aS bN dq j_:Int}
theorem Gv(g:I.Good F h k Y O){a:Int}(b:a∈Y++O):∀v∈fy k h.Words a,v=0\/v∈Y++O:=λ v c=>by
 obtain⟨w,d,rfl⟩:=hB.1 c;exact g.ok.ref a b w d
theorem aGm(g:I.Good F h k Y O){a:Int}(b:a∈Y++O):∀w∈refs k h.Words a.toNat,0<=w/\w.toNat<h.Words.length:=λ w c=>by
 obtain⟨j,aA,_,rfl⟩:=wO.1 c;have:=(g.l.fit g.s a b).2.1;omega
theorem aj'(g:I.Good F h k Y O){a:Int}(b:a∈Y++O):(refs k h.Words a.toNat).length<=5000:=by
 have c:=(g.l.fit g.s a b).2.1;have J:=g.s.fz;have:(refs k h.Words a.toNat).length<=(wd h.Words (a.toNat+1)).toNat:=by
  unfold refs;have key:∀n:Nat,((dM n).flatMap λ j=>if fQ k (wd h.Words a.toNat) j then[((a.toNat+3+j:Nat):Int)]else[]).length<=n:=by
   intro n;induction n with
   |zero=>simp
   |succ n d=>
    rw[List.range_succ,List.flatMap_append,dJ]
    have:([n].flatMap λ j=>if fQ k (wd h.Words a.toNat) j then[((a.toNat+3+j:Nat):Int)]else[]).length<=1:=by
     simp only[iN,List.flatMap_nil,hp];split<;>simp
    omega
  exact key _
 omega
end
end Go.Proofs.YteeliipnilghaaaGreat
namespace Go.Proofs.YteeliipnilghaaaGreat
open I
def mt(o:List Int)(a:Int):List Int:=if a≠0/\a∉o then o++[a]else o
theorem Ord.mt{Y o:List Int}{a:Int}(h:Ord Y o)(f:a=0\/a∈Y):Ord Y (mt o a):=by
 unfold Go.Proofs.YteeliipnilghaaaGreat.mt;split
 ·rename_i d
  refine⟨eQ.2 ⟨h.il,by simp,λ b af c hc e=>?_⟩,λ b af=>?_⟩
  ·cases dR.1 hc
   subst e
   exact d.2 af
  ·rcases b_.1 af with af |af
   ·exact h.sub b af
   ·cases dR.1 af
    exact f.resolve_left d.1
 ·exact h
theorem Ord.C0{Y:List Int}:∀ {l o:List Int},Ord Y o->(∀a∈l,a=0\/a∈Y)->Ord Y (l.foldl Go.Proofs.YteeliipnilghaaaGreat.mt o)
 |[],o,h,_=>h
 |a::r,o,h,c=>Ord.C0 (l:=r) (o:=Go.Proofs.YteeliipnilghaaaGreat.mt o a) (h.mt (c a (by simp))) λ b af=>c b (by simp[af])
theorem aCu{a:Int}{o:List Int}:∃t,mt o a=o++t:=by
 unfold mt;split
 ·exact⟨_,rfl⟩
 ·exact⟨[],by simp⟩
theorem Oz:∀ {l o:List Int},∃t,l.foldl mt o=o++t
 |[],o=>⟨[],by simp⟩
 |a::r,o=>by
  obtain⟨t,h⟩:=aCu (a:=a) (o:=o);obtain⟨u,J⟩:=Oz (l:=r) (o:=mt o a);exact⟨t++u,by rw[lK,J,h,hM]⟩
theorem aCt{a:Int}{o:List Int}{v:Int}:v∈mt o a↔v∈o\/(v=a/\a≠0):=by
 unfold mt;split
 ·rename_i h
  rw[b_,dR]
  exact⟨λ b=>b.imp id λ J=>⟨J,h.1⟩,λ b=>b.imp id λ J=>J.1⟩
 ·rename_i h
  refine⟨.inl,λ b=>b.elim id λ J=>?_⟩
  obtain⟨rfl,c⟩:=J
  exact lW λ d=>h ⟨c,d⟩
theorem FW{v:Int}:∀ {l o:List Int},v∈l.foldl mt o↔v∈o\/(v∈l/\v≠0)
 |[],o=>by simp
 |a::r,o=>by
  rw[lK,FW (l:=r),aCt];constructor
  ·rintro((h |⟨rfl,h⟩)|⟨h,b⟩)
   ·exact .inl h
   ·exact .inr ⟨by simp,h⟩
   ·exact .inr ⟨by simp[h],b⟩
  ·rintro(h |⟨h,b⟩)
   ·exact .inl (.inl h)
   ·rcases cR.1 h with rfl |h
    ·exact .inl (.inr ⟨rfl,b⟩)
    ·exact .inr ⟨h,b⟩
def l9(k:aR)(W:List Int):Nat->Nat->List Int->List Int
 |0,_,o=>o
 |d+1,i,o=>match o[i]? with
  |some a=>l9 k W d (i+1) ((fy k W a).foldl mt o)
  |none=>o
section
variable{F:Nat}{h:aU}{k:aR}{Y O:List Int}
theorem adi{a:Int}{o:List Int}(c:10000<F)(d:o.length<=5000):HJ F a o=some ((),((),()),mt o a,()):=by
 unfold HJ mt;by_cases b:a=0
 ·rw[decide_eq_true b,dC,cond_false,if_neg (λ h=>h.1 b)]
 ·rw[decide_eq_false b,hN,cond_true,show kW F o a=some (decide (a∈o)) from Gm ⟨by omega,by omega⟩ a,ae]
  by_cases J:a∈o
  ·rw[decide_eq_true J,dC,cond_false,if_neg (λ h=>h.2 J)]
  ·rw[decide_eq_false J,hN,cond_true,if_pos ⟨b,J⟩]
   have:bF 8 o [a]=some (o++[a]):=by
    unfold bF;rw[if_pos (by simp only[jX];omega)]
   rw[this,ae]
section
variable{S:List Int}{y ol yt ot nx:Int}{W nt:List Int}{c1:List ao}{c2:List Int}{c3:List (List I.Field)}{c4:List (List (List UInt8))}{c5:List (List I.Target)}
theorem as6(e:10000<F)(p:S.length<=5000){l:List Int}(g:l.length<=140737488355328)(j:∀a∈l,a=0\/a∈S):∀(d i f:Nat)(o:List Int),i+d=l.length->d<f->Ord S o ->
 Bo F f l (i:Int) W y ol yt ot nt nx c1 c2 c3 c4 c5 o=some (((),(),(),((),()),()),(W,y,ol,yt,ot,nt,nx,()),(c1,c2,c3,c4,c5,()),((),()),(l.drop i).foldl mt o,()):=by
 intro d
 induction d with
 |zero=>
  intro i f o h ad b
  obtain⟨f,rfl⟩:∃c,f=c+1:=⟨f-1,by omega⟩
  have:i=l.length:=by omega
  subst this
  rw[Bo,bJ,cond_false,iL]
  rfl
 |succ d m=>
  intro i f o h ad b
  obtain⟨f,rfl⟩:∃c,f=c+1:=⟨f-1,by omega⟩
  have hi:i<l.length:=by omega
  have n:l[i]? =some l[i]:=aJ hi
  rw[Bo,bK hi,cond_true,bu n,ae,adi e (by have:=b.len;omega),ae,eA hi g]
  refine(m (i+1) f (mt o l[i]) (by omega) (by omega) (b.mt (j _ (hh hi)))).trans ?_
  rw[cZ hi,lK]
theorem as8(e:10000<F)(s:S.length<=5000){l:List Int}{j:Int}(g:l.length<=140737488355328)(m:∀w∈l,0<=w/\w.toNat<W.length)(n:∀w∈l,wd W w.toNat=0\/wd W w.toNat∈S):∀(d i f:Nat)(o:List Int),i+d=l.length->d<f->Ord S o ->
 Bq F f j l (i:Int) W y ol yt ot nt nx c1 c2 c3 c4 c5 o=some (((),(),(),((),()),j,()),(W,y,ol,yt,ot,nt,nx,()),(c1,c2,c3,c4,c5,()),((),()),((l.drop i).map λ w=>wd W w.toNat).foldl mt o,()):=by
 intro d
 induction d with
 |zero=>
  intro i f o h ad a
  obtain⟨f,rfl⟩:∃b,f=b+1:=⟨f-1,by omega⟩
  have:i=l.length:=by omega
  subst this
  rw[Bq,bJ,cond_false,iL]
  rfl
 |succ d p=>
  intro i f o h ad a
  obtain⟨f,rfl⟩:∃b,f=b+1:=⟨f-1,by omega⟩
  have hi:i<l.length:=by omega
  have q:l[i]? =some l[i]:=aJ hi
  have c:l[i]∈l:=hh hi
  obtain⟨w0,r⟩:=m _ c
  rw[Bq,bK hi,cond_true,bu q,ae,o' (show l[i]=(l[i].toNat:Int) by omega) r,ae,adi e (by have:=a.len;omega),ae,eA hi g]
  refine(p (i+1) f (mt o (wd W l[i].toNat)) (by omega) (by omega) (a.mt (n _ c))).trans ?_
  rw[cZ hi,eu,lK]
end
theorem H0(g:I.Good F h k Y O):(Y++O).length<=5000:=by
 have:=(g.l.qO g.jk g.s).p4;have:Y.length+O.length<=5000:=this;rw[dJ];omega
theorem as7(e:10000<F)(g:I.Good F h k Y O):∀(d i f:Nat)(o:List Int),(Y++O).length<i+d->d<f->i<=o.length->Ord (Y++O) o ->
 Bp F f (i:Int) h.Words h.au h.aN h.aX h.aW h.aV h.Next k.a8 k.aZ k.Fields k.Names k.a1 o=some (((),()),(h.Words,h.au,h.aN,h.aX,h.aW,h.aV,h.Next,()),(k.a8,k.aZ,k.Fields,k.Names,k.a1,()),((),()),l9 k h.Words d i o,()):=by
 intro d
 have p:=H0 g
 induction d with
 |zero=>
  intro i f o hi ad q a
  have:=a.len
  omega
 |succ d r=>
  intro i f o aL ad q a
  obtain⟨f,rfl⟩:∃s,f=s+1:=⟨f-1,by omega⟩
  rcases gg i o.length with hi |hi
  ·have m:o[i]? =some o[i]:=aJ hi
   have b:o[i]∈Y++O:=a.sub _ (hh hi)
   have c:Ord (Y++O) ((fy k h.Words o[i]).foldl mt o):=a.C0 λ v u=>Gv g b v u
   rw[Bp,bK hi,cond_true,bu m,ae,P9 e (g.l.qO g.jk g.s) b,ae]
   have n:=as8 (S:=Y++O) (y:=h.au) (ol:=h.aN) (yt:=h.aX) (ot:=h.aW) (nx:=h.Next) (W:=h.Words) (nt:=h.aV) (c1:=k.a8) (c2:=k.aZ) (c3:=k.Fields) (c4:=k.Names) (c5:=k.a1) e p (j:=(i:Int)) (by have:=aj' g b;omega) (aGm g b) (λ w x=>g.ok.ref _ b w x) (refs k h.Words o[i].toNat).length 0 F o (by omega) (by have:=aj' g b;omega) a
   rw[gS]at n
   have z:Bq F F (i:Int) (refs k h.Words o[i].toNat) 0 h.Words h.au h.aN h.aX h.aW h.aV h.Next k.a8 k.aZ k.Fields k.Names k.a1 o=_:=n
   rw[z,ae,eA hi (by have:=a.len;omega)]
   obtain⟨t,A⟩:=Oz (l:=fy k h.Words o[i]) (o:=o)
   refine(r (i+1) f ((fy k h.Words o[i]).foldl mt o) (by omega) (by omega) (by rw[A,dJ];omega) c).trans ?_
   rw[l9,m]
  ·have:i=o.length:=by omega
   subst this
   rw[Bp,bJ,cond_false,l9,gH (cC _)]
def h9(k:aR)(h:aU)(Y O roots:List Int):List Int:=l9 k h.Words ((Y++O).length+1) 0 (roots.foldl mt [])
theorem aGh(b:10000<F)(g:I.Good F h k Y O){roots:List Int}(j:roots.length<=5000)(c:∀a∈roots,a=0\/a∈Y++O) :
 L2 F h.Words h.au h.aN h.aX h.aW h.aV h.Next k.a8 k.aZ k.Fields k.Names k.a1 roots=some ((h9 k h Y O roots,()),()):=by
 have e:=H0 g
 unfold L2
 have d:=as6 (S:=Y++O) (y:=h.au) (ol:=h.aN) (yt:=h.aX) (ot:=h.aW) (nx:=h.Next) (W:=h.Words) (nt:=h.aV) (c1:=k.a8) (c2:=k.aZ) (c3:=k.Fields) (c4:=k.Names) (c5:=k.a1) b e (l:=roots) (by omega) c roots.length 0 F [] (by omega) (by omega) Ord.nil
 rw[gS]at d
 have f:Bo F F roots 0 h.Words h.au h.aN h.aX h.aW h.aV h.Next k.a8 k.aZ k.Fields k.Names k.a1 []=_:=d
 rw[f,ae]
 have ak:=as7 b g ((Y++O).length+1) 0 F (roots.foldl mt []) (by omega) (by omega) (gK _) (Ord.nil.C0 c)
 dsimp only
 have i:Bp F F 0 h.Words h.au h.aN h.aX h.aW h.aV h.Next k.a8 k.aZ k.Fields k.Names k.a1 (roots.foldl mt [])=_:=ak
 rw[i,ae]
 rfl
theorem akv(g:I.Good F h k Y O):∀ {d i:Nat}{o:List Int},Ord (Y++O) o->Ord (Y++O) (l9 k h.Words d i o)
 |0,i,o,b=>b
 |d+1,i,o,b=>by
  unfold l9;split
  ·rename_i a c
   exact akv g (b.C0 λ v e=>Gv g (b.sub _ (bE c)) v e)
  ·exact b
theorem zI(g:I.Good F h k Y O){roots:List Int}(b:∀a∈roots,a=0\/a∈Y++O):Ord (Y++O) (h9 k h Y O roots):=akv g (Ord.nil.C0 b)
end
end Go.Proofs.YteeliipnilghaaaGreat
namespace Go.Proofs.YteeliipnilghaaaGreat
open I
section
variable{F:Nat}{h:aU}{k:aR}{Y O:List Int}
theorem akw{W:List Int}:∀ {d i:Nat}{o:List Int},∃t,l9 k W d i o=o++t
 |0,i,o=>⟨[],by simp[l9]⟩
 |d+1,i,o=>by
  unfold l9;split
  ·rename_i a _
   obtain⟨t,b⟩:=Oz (l:=fy k W a) (o:=o)
   obtain⟨u,c⟩:=akw (W:=W) (d:=d) (i:=i+1) (o:=(fy k W a).foldl mt o)
   exact⟨t++u,by rw[c,b,hM]⟩
  ·exact⟨[],by simp⟩
theorem akt(g:I.Good F h k Y O):∀ {d i:Nat}{o:List Int},(Y++O).length<i+d->Ord (Y++O) o->(∀j a,j<i->o[j]? =some a-> ∀v∈fy k h.Words a,v≠0 ->v∈o) ->
 ∀a∈l9 k h.Words d i o,∀v∈fy k h.Words a,v≠0 ->v∈l9 k h.Words d i o
 |0,i,o,aL,n,hc=>λ a f v m p=>by
  unfold l9 at f⊢;obtain⟨j,aA,rfl⟩:=iP.1 f;have:=n.len;exact hc j _ (by omega) (aJ aA) v m p
 |d+1,i,o,aL,n,hc=>λ a f v m p=>by
  unfold l9 at f⊢;split at f
  ·rename_i b af
   obtain⟨t,r⟩:=Oz (l:=fy k h.Words b) (o:=o)
   refine akt g (by omega) (n.C0 λ v m=>Gv g (n.sub _ (bE af)) v m) (λ j c aA q u s w=>?_) a f v m p
   have hi:=(aO.1 af).1
   rcases gg j i with e |e
   ·rw[r,fc (by omega)]at q
    exact FW.2 (.inl (hc j c e q u s w))
   ·have:j=i:=by omega
    subst this
    rw[r,fc hi,af]at q
    cases q
    exact FW.2 (.inr ⟨s,w⟩)
  ·rename_i af
   obtain⟨j,aA,rfl⟩:=iP.1 f
   have:=List.getElem?_eq_none_iff.1 af
   exact hc j _ (by omega) (aJ aA) v m p
theorem aku{W:List Int}{P:Int->Prop}(e:∀a,P a-> ∀v∈fy k W a,v≠0 ->P v):∀ {d i:Nat}{o:List Int},(∀a∈o,P a)-> ∀a∈l9 k W d i o,P a
 |0,i,o,c=>c
 |d+1,i,o,c=>by
  unfold l9;split
  ·rename_i b af
   refine aku e λ a f=>?_
   rcases FW.1 f with h |⟨h,g⟩
   ·exact c a h
   ·exact e b (c b (bE af)) a h g
  ·exact c
structure LR (k:aR) (W roots:List Int) (P:Int->Prop):Prop where
 rt:∀v∈roots,v≠0 ->P v
 gG:∀a,P a-> ∀v∈fy k W a,v≠0 ->P v
theorem PB(g:I.Good F h k Y O){roots:List Int}(b:∀a∈roots,a=0\/a∈Y++O):LR k h.Words roots (·∈h9 k h Y O roots):=by
 refine⟨λ v c e=>?_,akt g (by omega) (Ord.nil.C0 b) λ j a aA=>by omega⟩;obtain⟨t,f⟩:=akw (k:=k) (W:=h.Words) (d:=(Y++O).length+1) (i:=0) (o:=roots.foldl mt []);unfold h9;rw[f];exact kz _ (FW.2 (.inr ⟨c,e⟩))
theorem PC{roots:List Int}{P:Int->Prop}(hc:LR k h.Words roots P):∀a∈h9 k h Y O roots,P a:=
 aku hc.gG λ a b=>(FW.1 b).elim (λ h=>by simp at h) λ h=>hc.rt a h.1 h.2
end
end Go.Proofs.YteeliipnilghaaaGreat
namespace Go.Proofs.YteeliipnilghaaaGreat
open I
def ji(k:aR)(W:List Int)(a n i:Nat):List Int:=((dM n).drop i).flatMap λ j=>if fQ k (wd W a) j then[wd W (a+3+j)]else[]
theorem akc{k:aR}{W:List Int}{a n:Nat}:ji k W a n n=[]:=by unfold ji;rw[List.drop_eq_nil_of_le (by simp)];rfl
theorem akf{k:aR}{W:List Int}{a n i:Nat}(h:i<n):ji k W a n i=(if fQ k (wd W a) i then[wd W (a+3+i)]else[])++ji k W a n (i+1):=by
 unfold ji;have hi:i<(dM n).length:=by simpa using h
 rw[cZ hi,iN,List.getElem_range]
theorem ake{k:aR}{W:List Int}{a:Int}:ji k W a.toNat (wd W (a.toNat+1)).toNat 0=fy k W a:=by
 unfold ji fy refs;rw[gS,List.map_flatMap];congr 1;funext j;split
 ·rw[ll,c6]
 ·rfl
theorem akd{k:aR}{W:List Int}{a n:Nat}:∀ {d i:Nat},i+d=n->(ji k W a n i).length<=d
 |0,i,h=>by
  have:i=n:=by omega
  subst this;rw[akc];simp
 |d+1,i,h=>by
  rw[akf (by omega),dJ];have:=akd (k:=k) (W:=W) (a:=a) (n:=n) (d:=d) (i:=i+1) (by omega);split<;>simp <;>omega
theorem azC{W:List Int}{a:Int}{i:Nat}(b:1<=a)(af:a.toNat+3+i<W.length)(c:W.length<=100000):idx W (ax (ax (a+3)+(i:Int)))=some (wd W (a.toNat+3+i)):=by
 have e:ax (ax (a+3)+(i:Int))=((a.toNat+3+i:Nat):Int):=by
  rw[cT (n:=a+3) (by omega) (by omega),cT (by omega) (by omega)];omega
 rw[e];exact fP af
section
variable{F:Nat}{h:aU}{k:aR}{Y O:List Int}
theorem aCg(w:10000<F)(g:I.Good F h k Y O){a:Int}(l:a∈Y++O){m:List (Int×Bool)}{n:Nat}(x:n=(wd h.Words (a.toNat+1)).toNat):∀(d i f:Nat)(gG:List Int),i+d=n->d<f->gG.length+d<=1000000 ->
 yx F f a (n:Int) (i:Int) k.a8 k.aZ k.Fields k.Names k.a1 h.Words h.au h.aN h.aX h.aW h.aV h.Next m gG=
  some (((),(),()),((),k.a8,k.aZ,k.Fields,k.Names,k.a1,(),()),(h.Words,h.au,h.aN,h.aX,h.aW,h.aV,h.Next,()),m,gG++ji k h.Words a.toNat n i,()):=by
 obtain⟨q,y,z⟩:=g.l.fit g.s a l
 have Ct:=g.s.fz
 have c:=g.l.Dp a l
 have e:a=(a.toNat:Int):=by omega
 obtain⟨r,o⟩:=c
 have s:wd h.Words (a.toNat+1)=(n:Int):=by
  have:=(mJ.1 o).1.1;omega
 intro d
 induction d with
 |zero=>
  intro i f gG hi ad aj
  obtain⟨f,rfl⟩:∃j,f=j+1:=⟨f-1,by omega⟩
  have:i=n:=by omega
  subst this
  rw[yx,bJ,cond_false,akc,hp]
 |succ d p=>
  intro i f gG hi ad aj
  obtain⟨f,rfl⟩:∃j,f=j+1:=⟨f-1,by omega⟩
  have b:i<n:=by omega
  have t:rM (b9.mk (aR.mk k.a8 k.aZ k.Fields k.Names k.a1)) (wd h.Words a.toNat) (i:Int)=some (fQ k (wd h.Words a.toNat) i):=ZU g.jk r o (by omega)
  rw[yx,bK b,cond_true,o' e (by omega),ae,t,ae,akf b]
  cases A:fQ k (wd h.Words a.toNat) i with
  |false=>
   rw[cond_false,eA b (by omega)]
   exact(p (i+1) f gG (by omega) (by omega) (by omega)).trans (by simp)
  |true=>
   have u:idx h.Words (ax (ax (a+3)+(i:Int)))=some (wd h.Words (a.toNat+3+i)):=azC q (by omega) (by omega)
   have v:bF 8 gG [wd h.Words (a.toNat+3+i)]=some (gG++[wd h.Words (a.toNat+3+i)]):=by
    unfold bF;rw[if_pos (by simp only[jX];omega)]
   rw[cond_true,u,ae,v,ae,eA b (by omega)]
   exact(p (i+1) f _ (by omega) (by omega) (by simp;omega)).trans (by simp)
end
end Go.Proofs.YteeliipnilghaaaGreat
namespace Go.Proofs.YteeliipnilghaaaGreat
open I
def sz(W:List Int)(a:Int):Nat:=3+(wd W (a.toNat+1)).toNat
def news(W:List Int):Nat->List Int->List Int
 |_,[]=>[]
 |t,a::r=>(t:Int)::news W (t+sz W a) r
def cf(W:List Int):Nat->List Int->Nat
 |t,[]=>t
 |t,a::r=>cf W (t+sz W a) r
theorem C_{W:List Int}:∀ {o:List Int}{t:Nat},(news W t o).length=o.length
 |[],_=>rfl
 |a::r,t=>by simp[news,C_ (o:=r)]
theorem ak7{W:List Int}{b:Int}:∀ {o:List Int}{t:Nat},cf W t (o++[b])=cf W t o+sz W b
 |[],t=>rfl
 |a::r,t=>by simp[cf,ak7 (o:=r)]
theorem GH{W:List Int}:∀ {o:List Int}{t:Nat},t<=cf W t o
 |[],t=>cC _
 |a::r,t=>gJ (Nat.le_add_right _ _) (GH (o:=r))
theorem ak8{W:List Int}{p:List Int}:∀ {o:List Int}{t:Nat},cf W t (o++p)=cf W (cf W t o) p
 |[],t=>rfl
 |a::r,t=>by simp[cf,ak8 (o:=r)]
def pos:List Int->Int->Option Nat
 |[],_=>none
 |b::r,a=>if b=a then some 0 else(pos r a).map (·+1)
theorem Ya:∀ {o:List Int}{a:Int}{j:Nat},pos o a=some j->o[j]? =some a
 |[],a,j,h=>by simp[pos]at h
 |b::r,a,j,h=>by
  unfold pos at h;split at h
  ·rename_i e
   cases h
   simp[e]
  ·obtain⟨i,c,rfl⟩:=cu.1 h
   simpa using Ya c
theorem X':∀ {o:List Int}{a:Int},pos o a=none↔a∉o
 |[],a=>by simp[pos]
 |b::r,a=>by
  unfold pos;split
  ·rename_i e;simp[e]
  ·rename_i e
   rw[Option.map_eq_none_iff,X']
   simp only[cR,not_or]
   exact⟨λ h=>⟨λ e'=>e e'.symm,h⟩,λ h=>h.2⟩
def gP(o ns:List Int)(a:Int):Int:=if a=0 then a else match pos o a with
 |some j=>(ns[j]?).getD 0
 |none=>a
section
variable{F:Nat}
theorem aDH{o:List Int}{a:Int}(c:o.length<=140737488355328):∀(d i f:Nat),i+d=o.length->d<f->Bn F f o a (i:Int)=some (match pos (o.drop i) a with
 |some j=>.inl ((((i+j:Nat):Int),()),())
 |none=>.inr ((),())):=by
 intro d
 induction d with
 |zero=>
  intro i f h ad
  obtain⟨f,rfl⟩:∃b,f=b+1:=⟨f-1,by omega⟩
  have:i=o.length:=by omega
  subst this
  rw[Bn,bJ,cond_false,iL]
  rfl
 |succ d g=>
  intro i f h ad
  obtain⟨f,rfl⟩:∃b,f=b+1:=⟨f-1,by omega⟩
  have hi:i<o.length:=by omega
  have k:o[i]? =some o[i]:=aJ hi
  rw[Bn,bK hi,cond_true,bu k,ae,cZ hi]
  by_cases e:o[i]=a
  ·rw[decide_eq_true e,cond_true,pos,if_pos e]
   rfl
  ·rw[decide_eq_false e,cond_false,eA hi c,g (i+1) f (by omega) (by omega),pos,if_neg e]
   cases pos (o.drop (i+1)) a with
   |none=>rfl
   |some j=>simp only[fm,aF,Sum.inl.injEq,ca,and_true];omega
theorem aDI{o:List Int}{a:Int}(b:o.length<=5000)(c:10000<F):Bm F o a=some ((match pos o a with
 |some j=>(j:Int)
 |none=>-1,()),()):=by
 unfold Bm
 have e:Bn F F o a 0=_:=aDH (o:=o) (a:=a) (by omega) o.length 0 F (by omega) (by omega)
 rw[e,gS]
 cases pos o a with
 |none=>rfl
 |some j=>simp[di]
end
end Go.Proofs.YteeliipnilghaaaGreat
namespace Go.Proofs.YteeliipnilghaaaGreat
open I
def iC(A:List Int):List (Int×Bool):=A.map λ a=>(a,true)
theorem ahu{x:Int}:∀ {A:List Int},x∉A->gA (iC A) x true=iC (A++[x])
 |[],_=>rfl
 |a::r,h=>by
  have b:a≠x:=λ e=>h (by simp[e]);have J:x∉r:=λ e=>h (by simp[e]);show gA ((a,true)::iC r) x true=(a,true)::iC (r++[x])
  rw[gA,if_neg b,ahu J]
theorem aAo{x:Int}{A:List Int}:(cJ (iC A) x).getD false=decide (x∈A):=OA x A
def fS(W:List Int)(A:List Int):List Int->Nat
 |[]=>0
 |a::r=>(if a∈A then 0 else sz W a)+fS W A r
theorem aiu{W A:List Int}{x:Int}:∀ {S:List Int},fS W (A++[x]) S<=fS W A S
 |[]=>cC _
 |a::r=>by
  have:=aiu (W:=W) (A:=A) (x:=x) (S:=r);unfold fS;by_cases h:a∈A
  ·rw[if_pos h,if_pos (by simp[h])];omega
  ·rw[if_neg h];split<;>omega
theorem aiv{W A:List Int}{x:Int}(c:x∉A):∀ {S:List Int},x∈S->fS W (A++[x]) S+sz W x<=fS W A S
 |[],h=>by simp at h
 |a::r,h=>by
  unfold fS;by_cases e:a=x
  ·subst e
   have:=aiu (W:=W) (A:=A) (x:=a) (S:=r)
   rw[if_pos (by simp),if_neg c]
   omega
  ·have J:x∈r:=(cR.1 h).resolve_left λ h=>e h.symm
   have:=aiv (W:=W) c J
   by_cases b:a∈A
   ·rw[if_pos b,if_pos (by simp[b])];omega
   ·rw[if_neg b,if_neg (by simp[b,e])];omega
theorem JN{W:List Int}:∀ {S:List Int}{t:Nat},cf W t S=t+fS W [] S
 |[],t=>rfl
 |a::r,t=>by
  unfold cf fS;rw[JN (S:=r),if_neg (by simp)];omega
structure asw (k:aR) (W S A gG cj:List Int):Prop where
 il:cj.Nodup
 sub:∀a∈cj,a∈S
 cl:(∀a∈A,∀v∈fy k W a,v≠0 ->v∈A\/v∈gG)->(∀a∈cj,∀v∈fy k W a,v≠0 ->v∈cj)
 rt:(∀a∈A,a∈cj)/\ ∀v∈gG,v≠0 ->v∈cj
 gz:∀P:Int->Prop,(∀a,P a-> ∀v∈fy k W a,v≠0 ->P v)->(∀a∈A,P a)->(∀v∈gG,v≠0 ->P v)-> ∀a∈cj,P a
section
variable{F:Nat}{h:aU}{k:aR}{Y O:List Int}
theorem aGR{W:List Int}{a:Int}:(fy k W a).length+3<=sz W a:=by
 have:=akd (k:=k) (W:=W) (a:=a.toNat) (n:=(wd W (a.toNat+1)).toNat) (d:=(wd W (a.toNat+1)).toNat) (i:=0) (by omega);rw[ake]at this;unfold sz;omega
set_option maxHeartbeats 1000000
theorem aCf(M:10000<F)(g:I.Good F h k Y O):∀(N f:Nat)(A gG:List Int),gG.length+fS h.Words A (Y++O)<=N->N<f->N<=100000 ->A.Nodup->(∀a∈A,a∈Y++O)->(∀v∈gG,v=0\/v∈Y++O) ->
 ∃cj,vz F f k.a8 k.aZ k.Fields k.Names k.a1 h.Words h.au h.aN h.aX h.aW h.aV h.Next (iC A) gG=
  some ((),((),k.a8,k.aZ,k.Fields,k.Names,k.a1,(),()),(h.Words,h.au,h.aN,h.aX,h.aW,h.aV,h.Next,()),iC cj,[],())/\asw k h.Words (Y++O) A gG cj:=by
 intro N
 induction N with
 |zero=>
  intro f A gG y ad _ p aj s
  obtain⟨f,rfl⟩:∃z,f=z+1:=⟨f-1,by omega⟩
  obtain rfl:gG=[]:=hf (by omega)
  exact⟨A,by rw[vz];rfl,p,aj,λ hc a av v c i=>(hc a av v c i).elim id λ h=>by simp at h,⟨λ a h=>h,λ v c=>by simp at c⟩,λ P _ J _=>J⟩
 |succ N K=>
  intro f A gG y ad Q p aj s
  obtain⟨f,rfl⟩:∃z,f=z+1:=⟨f-1,by omega⟩
  rcases List.eq_nil_or_concat gG with rfl |⟨d,x,rfl⟩
  ·exact⟨A,by rw[vz];rfl,p,aj,λ hc a av v c i=>(hc a av v c i).elim id λ h=>by simp at h,⟨λ a h=>h,λ v c=>by simp at c⟩,λ P _ J _=>J⟩
  ·have l:(d++[x]).length=d.length+1:=by simp
   rw[List.concat_eq_append]at y s⊢
   rw[l]at y
   have R:decide (0<(((d++[x]).length:Nat):Int))=true:=decide_eq_true (by rw[l];omega)
   have ak:ax ((((d++[x]).length:Nat):Int)-1)=((d.length:Nat):Int):=by rw[l,cT (by omega) (by omega)];omega
   have S:(d++[x])[d.length]? =some x:=by simp
   have aS:(if(0 :Int)<=0/\0<=((d.length:Nat):Int)/\((d.length:Nat):Int)<=(((d++[x]).length:Nat):Int)then some ()else none)=some ():=if_pos ⟨by omega,by omega,by rw[l];omega⟩
   have bN:mf (((d.length:Nat):Int)).toNat (d++[x])=d:=by rw[c6];simp
   have T:x=0\/x∈Y++O:=s x (by simp)
   have q:∀v∈d,v=0\/v∈Y++O:=λ v c=>s v (by simp[c])
   rw[vz,R,cond_true,ak,bu S,ae,aS,ae,bN,aAo]
   clear ak
   by_cases hc:x=0\/x∈A
   ·have:(decide (x=0)||decide (x∈A))=true:=by
     rcases hc with h |h
     ·rw[decide_eq_true h];rfl
     ·rw[decide_eq_true h,Bool.or_true]
    rw[this,cond_true];obtain⟨cj,B,j⟩:=K f A d (by omega) (by omega) (by omega) p aj q;refine⟨cj,B,j.il,j.sub,λ C=>j.cl λ a av v c i=>?_,⟨j.rt.1,λ v c i=>?_⟩,λ P t D u=>j.gz P t D λ v c=>u v (by simp[c])⟩
    ·rcases C a av v c i with h |h
     ·exact .inl h
     ·rcases b_.1 h with h |h
      ·exact .inr h
      ·cases dR.1 h
       exact .inl (hc.resolve_left i)
    ·rcases b_.1 c with h |h
     ·exact j.rt.2 v h i
     ·cases dR.1 h
      exact j.rt.1 _ (hc.resolve_left i)
   ·have E:x≠0:=λ e=>hc (.inl e)
    have w:x∉A:=λ e=>hc (.inr e)
    have o:=T.resolve_left E
    rw[decide_eq_false E,decide_eq_false w,Bool.or_self,cond_false,ahu w]
    obtain⟨Z,f2,_⟩:=g.l.fit g.s x o
    have Ct:=g.s.fz
    obtain⟨n,L⟩:∃n,n=(wd h.Words (x.toNat+1)).toNat:=⟨_,rfl⟩
    have G:wd h.Words (x.toNat+1)=(n:Int):=by
     have:=(mJ.1 (g.l.Dp x o).2).1.1;omega
    have H:idx h.Words (ax (x+1))=some (n:Int):=by
     have e:ax (x+1)=((x.toNat+1 :Nat):Int):=by rw[cT (by omega) (by omega)];omega
     rw[e,fP (by omega),G]
    rw[H,ae]
    have U:=aCg M g o (m:=iC (A++[x])) L n 0 F d (by omega) (by omega) (by omega)
    have V:yx F F x (n:Int) 0 k.a8 k.aZ k.Fields k.Names k.a1 h.Words h.au h.aN h.aX h.aW h.aV h.Next (iC (A++[x])) d=_:=U
    rw[V,ae,L,ake]
    have X:=aiv (W:=h.Words) w o
    have FD:=aGR (k:=k) (W:=h.Words) (a:=x)
    obtain⟨cj,B,j⟩:=K f (A++[x]) (d++fy k h.Words x) (by rw[dJ];omega) (by omega) (by omega) (eQ.2 ⟨p,by simp,λ a av b af e=>by cases dR.1 af;exact w (e▸av)⟩)
     (λ a av=>(b_.1 av).elim (aj a) λ h=>by cases dR.1 h;exact o)
     (λ v c=>(b_.1 c).elim (q v) λ h=>Gv g o v h)
    refine⟨cj,B,j.il,j.sub,λ C=>j.cl λ a av v c i=>?_,⟨λ a av=>j.rt.1 a (by simp[av]),λ v c i=>?_⟩,λ P t D u=>?_⟩
    ·rcases b_.1 av with av |av
     ·rcases C a av v c i with h |h
      ·exact .inl (by simp[h])
      ·rcases b_.1 h with h |h
       ·exact .inr (by simp[h])
       ·exact .inl (by simp[dR.1 h])
     ·cases dR.1 av
      exact .inr (by simp[c])
    ·rcases b_.1 c with h |h
     ·exact j.rt.2 v (by simp[h]) i
     ·exact j.rt.1 v (by simp[dR.1 h])
    ·have r:P x:=u x (by simp) E
     refine j.gz P t (λ a av=>?_) λ v c i=>?_
     ·rcases b_.1 av with h |h
      ·exact D a h
      ·cases dR.1 h;exact r
     ·rcases b_.1 c with h |h
      ·exact u v (by simp[h]) i
      ·exact t x r v h i
end
end Go.Proofs.YteeliipnilghaaaGreat
namespace Go.Proofs.YteeliipnilghaaaGreat
open I bc
theorem ait{W A:List Int}:∀ {l m:List Int},fS W A (l++m)=fS W A l+fS W A m
 |[],m=>by simp[fS]
 |a::r,m=>by
  show(if a∈A then 0 else sz W a)+fS W A (r++m)=(if a∈A then 0 else sz W a)+fS W A r+fS W A m
  rw[ait (l:=r)];omega
theorem alB{k:aR}{W:List Int}{to q:Nat}{L:List Int}(h:I.eO k W to q L):cf W q L=to:=by
 induction h with
 |nil=>rfl
 | @cons q r _ _ _ _ a=>
   show cf W (q+sz W (q:Int)) r=to
   rw[show q+sz W (q:Int)=q+3+(wd W (q+1)).toNat by unfold sz;rw[c6];omega]
   exact a
theorem akW{W:List Int}:∀ {l:List Int}{n:Int},(∀a∈l,∃v,idx W (ax (a+1))=some v)-> ∃m,iI W l n=some m
 |[],n,_=>⟨n,rfl⟩
 |a::r,n,h=>by
  obtain⟨v,c⟩:=h a (by simp);obtain⟨m,d⟩:=akW (l:=r) (n:=ax (n+ax (3+v))) λ b af=>h b (by simp[af]);exact⟨m,by rw[iI,c,ae,d]⟩
section
variable{F:Nat}{h:aU}{k:aR}{Y O:List Int}
theorem aCv(g:I.Good F h k Y O):fS h.Words [] (Y++O)<=4001:=by
 have a:=alB g.l.y;have J:=alB g.l.o;rw[JN]at a J;rw[ait];have bO:(h.Words.length:Int)=1+h.au+h.aN:=g.s.B;obtain⟨⟨c1,c2⟩,⟨c3,c4⟩,_⟩:=g.s.C;obtain⟨⟨b,_⟩,a3,_⟩:=g.s.A;have:=g.s.fz;omega
theorem aCh(f:10000<F)(g:I.Good F h k Y O){roots:List Int}(o:roots.length<=5000)(d:∀a∈roots,a=0\/a∈Y++O) :
 ∃A,A.Perm (h9 k h Y O roots)/\A.Nodup/\(∀a∈A,a∈Y++O)/\B1 F roots k.a8 k.aZ k.Fields k.Names k.a1 h.Words h.au h.aN h.aX h.aW h.aV h.Next []=
  some ((),((),k.a8,k.aZ,k.Fields,k.Names,k.a1,(),()),(h.Words,h.au,h.aN,h.aX,h.aW,h.aV,h.Next,()),iC A,()):=by
 have i:=aCv g
 obtain⟨A,j,c⟩:=aCf f g (roots.length+4001) F [] roots (by omega) (by omega) (by omega) lZ (λ a b=>by simp at b) d
 have e:=PB g d
 have l:=zI g d
 refine⟨A,(k4 c.il l.il).2 λ a=>⟨λ b=>?_,λ b=>?_⟩,c.il,c.sub,?_⟩
 ·exact c.gz _ e.gG (λ a b=>by simp at b) e.rt a b
 ·exact PC (P:=λ a=>a∈A) ⟨c.rt.2,c.cl λ a b=>by simp at b⟩ a b
 ·unfold B1
  have m:bF 8 [] roots=some roots:=by
   unfold bF;rw[if_pos (by simp;omega)];rfl
  have n:vz F F k.a8 k.aZ k.Fields k.Names k.a1 h.Words h.au h.aN h.aX h.aW h.aV h.Next [] roots=_:=j
  rw[m,ae,n,ae]
theorem azB(g:I.Good F h k Y O){a:Int}(b:a∈Y++O):∃v,idx h.Words (ax (a+1))=some v:=by
 obtain⟨c,d,_⟩:=g.l.fit g.s a b;have Ct:=g.s.fz;have e:ax (a+1)=((a.toNat+1 :Nat):Int):=by rw[cT (by omega) (by omega)];omega
 rw[e];exact⟨_,fP (by omega)⟩
theorem aB0{l:List Int}(c:l.length<=140737488355328):∀(d i f:Nat)(n:Int),i+d=l.length->d<f ->
 Bl F f l n (i:Int) h.Words h.au h.aN h.aX h.aW h.aV h.Next=(iI h.Words (l.drop i) n).map λ m=>((m,()),(h.Words,h.au,h.aN,h.aX,h.aW,h.aV,h.Next,()),()):=by
 intro d
 induction d with
 |zero=>
  intro i f n hi ad
  obtain⟨f,rfl⟩:∃b,f=b+1:=⟨f-1,by omega⟩
  have:i=l.length:=by omega
  subst this
  rw[Bl,bJ,cond_false,iL]
  rfl
 |succ d e=>
  intro i f n hi ad
  obtain⟨f,rfl⟩:∃b,f=b+1:=⟨f-1,by omega⟩
  have a:i<l.length:=by omega
  have g:l[i]? =some l[i]:=aJ a
  rw[Bl,bK a,cond_true,bu g,ae,cZ a,iI]
  cases j:idx h.Words (ax (l[i]+1))with
  |none=>rfl
  |some v=>
   rw[ae,ae,eA a c]
   exact e (i+1) f _ (by omega) (by omega)
theorem aB1(d:10000<F)(g:I.Good F h k Y O){roots:List Int}(f:roots.length<=5000)(b:∀a∈roots,a=0\/a∈Y++O) :
 ∃m A,A.Perm (h9 k h Y O roots)/\A.Nodup/\(∀a∈A,a∈Y++O)/\iI h.Words A 0=some m/\
  B1 F roots k.a8 k.aZ k.Fields k.Names k.a1 h.Words h.au h.aN h.aX h.aW h.aV h.Next []=
   some ((),((),k.a8,k.aZ,k.Fields,k.Names,k.a1,(),()),(h.Words,h.au,h.aN,h.aX,h.aW,h.aV,h.Next,()),iC A,())/\
  E8 h.Words (iC A)=some m/\L1 F h.Words h.au h.aN h.aX h.aW h.aV h.Next k.a8 k.aZ k.Fields k.Names k.a1 roots=some ((m,()),()):=by
 obtain⟨A,i,p,j,q⟩:=aCh d g f b
 obtain⟨m,c⟩:=akW (W:=h.Words) (l:=A) (n:=0) λ a r=>azB g (j a r)
 have s:iI h.Words (h9 k h Y O roots) 0=some m:=by rw[<-Z4 i];exact c
 refine⟨m,A,i,p,j,c,q,?_,?_⟩
 ·unfold E8 iC
  rw[List.map_map]
  have:(kQ∘λ a:Int=>(a,true))=id:=rfl
  rw[this,List.map_id]
  exact c
 ·unfold L1
  rw[aGh d g f b,ae]
  have o:=(zI g b).len
  have t:=H0 g
  have e:=aB0 (F:=F) (h:=h) (l:=h9 k h Y O roots) (by omega) (h9 k h Y O roots).length 0 F 0 (by omega) (by omega)
  rw[gS,s]at e
  have e':Bl F F (h9 k h Y O roots) 0 0 h.Words h.au h.aN h.aX h.aW h.aV h.Next=_:=e
  dsimp only
  rw[e']
  rfl
end
end Go.Proofs.YteeliipnilghaaaGreat
namespace I
section
variable{F:Nat}{k:aR}{h:aU}{Y O:List Int}
theorem aHo(c:10000<F)(g:Good F h k Y O):ra F h k=some (Y,O,true):=by
 rcases ajX (F:=F) (by omega) g.jk g.s with⟨d,f,a,e⟩|⟨b,_⟩
 ·obtain rfl:=a.y.uE g.l.y
  obtain rfl:=a.o.uE g.l.o
  exact e
 ·exact absurd g.l (b _ _)
def s8(Y O:List Int)(a:Int):Bool:=!decide (a=0)&& !decide (a∈Y++O)
def iG(Y O roots:List Int):Int:=if 1000<(roots.length:Int)then 2 else if roots.any (s8 Y O)then 5 else 0
theorem aGs(d:10000<F)(g:Good F h k Y O)(roots:List Int):Ec F (view h k Y O) roots=some (iG Y O roots):=by
 unfold Ec iG;by_cases a:1000<(roots.length:Int)
 ·rw[decide_eq_true a,if_pos a];rfl
 ·rw[decide_eq_false a,if_neg a,cond_false]
  unfold PX P1
  have ad:=TV (l:=roots) (L:=zX roots (view h k Y O)) (s8 Y O) (by omega) (λ f i x b=>by
   rw[zX,bK (aO.1 b).1,cond_true,bu b,ae];unfold RJ s8;by_cases c:x=0
   ·rw[decide_eq_true c];rfl
   ·rw[decide_eq_false c,hN,cond_true,j0]
    show d_ (d_ (Fj (view h k Y O) x) _) _=_
    rw[g.dH x]
    rfl) (λ f=>by rw[zX,bJ];rfl) (F:=F) (by omega)
  refine Eq.trans (congrArg (λ o=>d_ o λ(r:Bool)=>cond r (some (5 :Int)) (some 0)) (ad:_)) ?_
  rw[ae]
  cases roots.any (s8 Y O)<;>rfl
theorem aGr(e:10000<F)(g:Good F h k Y O)(roots:List Int):x1 F h k roots=some (iG Y O roots):=by
 have hc:Y.length+O.length<=5000:=(g.l.qO g.jk g.s).p4;unfold x1 iG;by_cases b:1000<(roots.length:Int)
 ·rw[decide_eq_true b,if_pos b];rfl
 ·rw[decide_eq_false b,if_neg b,cond_false]
  have j:ra F (⟨h.Words,h.au,h.aN,h.aX,h.aW,h.aV,h.Next⟩:aU) (⟨k.a8,k.aZ,k.Fields,k.Names,k.a1⟩:aR)=_:=aHo e g
  rw[j,ae]
  have m:pW F roots (Y,O,true) F 0=some (cw (roots.findSome? λ a=>if s8 Y O a then some 5 else none)):=each _ (by omega) (λ f i x c=>by
   rw[pW,bK (aO.1 c).1,cond_true,bu c,ae,ae];rw[show kW F (Y,O,true).1 x=some (decide (x∈Y)) from Gm (l:=Y) ⟨by omega,by omega⟩ x,ae,ae];rw[show kW F (Y,O,true).2.1 x=some (decide (x∈O)) from Gm (l:=O) ⟨by omega,by omega⟩ x,ae];unfold s8;by_cases d:x=0
   ·rw[decide_eq_true d];rfl
   ·by_cases hy:x∈Y<;>by_cases n:x∈O<;>simp[d,hy,n,gR]) (λ f=>by rw[pW,bJ];rfl) (by omega)
  rw[m,T6]
  cases roots.any (s8 Y O)<;>rfl
theorem ZH{roots:List Int}(h:iG Y O roots=0):roots.length<=1000/\ ∀a∈roots,a=0\/a∈Y++O:=by
 unfold iG at h;split at h
 ·cases h
 ·rename_i e
  split at h
  ·cases h
  ·rename_i J
   refine⟨by omega,λ a d=>?_⟩
   have:=iO.1 (hz.2 J) a d
   unfold s8 at this
   by_cases b:a=0
   ·exact .inl b
   ·by_cases c:a∈Y++O
    ·exact .inr c
    ·simp only[bH,gI,decide_eq_false_iff_not]at this
     exact absurd ⟨b,c⟩ this
end
end I
namespace Go.Proofs.YteeliipnilghaaaGreat
open I
section
variable{F:Nat}{h:aU}{k:aR}{Y O:List Int}
theorem SI{out:List Int}{x:Int}(a:out.length<=1000000):bF 8 out [x]=some (out++[x]):=by
 unfold bF;rw[if_pos (by simp only[jX];omega)]
theorem aDL{l:List Int}(j:l.length<=5000):∀(d i f:Nat)(out:List Int),i+d=l.length->d<f->out.length=i ->
 Eb F f l (l.length:Int) (i:Int) out=some (((),()),out++l.drop i,()):=by
 intro d
 induction d with
 |zero=>
  intro i f out hi ad c
  obtain⟨f,rfl⟩:∃b,f=b+1:=⟨f-1,by omega⟩
  have:i=l.length:=by omega
  subst this
  rw[Eb,bJ,cond_false,iL,hp]
 |succ d e=>
  intro i f out hi ad c
  obtain⟨f,rfl⟩:∃b,f=b+1:=⟨f-1,by omega⟩
  have a:i<l.length:=by omega
  have g:l[i]? =some l[i]:=aJ a
  rw[Eb,bK a,cond_true,bu g,ae,SI (by omega),ae,eA a (by omega)]
  refine(e (i+1) f _ (by omega) (by omega) (by simp[c])).trans ?_
  rw[cZ a,hM,lr]
theorem aDK(b:10000<F){l:List Int}(a:l.length<=5000):RI F l=some ((l,()),()):=by
 unfold RI;have e:=aDL (F:=F) a l.length 0 F [] (by omega) (by omega) rfl;rw[gS,ju]at e;have e':Eb F F l (l.length:Int) 0 []=_:=e;rw[e',ae]
theorem aHS{l:List Int}(j:l.length<=5000):∀(d i f:Nat)(out:List Int),i+d=l.length->d<f->out.length=i ->
 B4 F f l (l.length:Int) (i:Int) out=some (((),()),out++l.drop i,()):=by
 intro d
 induction d with
 |zero=>
  intro i f out hi ad c
  obtain⟨f,rfl⟩:∃b,f=b+1:=⟨f-1,by omega⟩
  have:i=l.length:=by omega
  subst this
  rw[B4,bJ,cond_false,iL,hp]
 |succ d e=>
  intro i f out hi ad c
  obtain⟨f,rfl⟩:∃b,f=b+1:=⟨f-1,by omega⟩
  have a:i<l.length:=by omega
  have g:l[i]? =some l[i]:=aJ a
  rw[B4,bK a,cond_true,bu g,ae,SI (by omega),ae,eA a (by omega)]
  refine(e (i+1) f _ (by omega) (by omega) (by simp[c])).trans ?_
  rw[cZ a,hM,lr]
theorem aHT(b:10000<F){l:List Int}(a:l.length<=5000):M4 F l=some ((l,()),()):=by
 unfold M4;have e:=aHS (F:=F) a l.length 0 F [] (by omega) (by omega) rfl;rw[gS,ju]at e;have e':B4 F F l (l.length:Int) 0 []=_:=e;rw[e',ae]
theorem MT(b:10000<F)(g:I.Good F h k Y O)(roots:List Int) :
 B2 F h.Words h.au h.aN h.aX h.aW h.aV h.Next k.a8 k.aZ k.Fields k.Names k.a1 roots=
  some (.inl (((),iG Y O roots,()),(h.Words,h.au,h.aN,h.aX,h.aW,h.aV,h.Next,k.a8,k.aZ,k.Fields,k.Names,k.a1,Y,O,(),()),(Y++O).map (λ a=>(a,true)),())):=by
 have c:j' F (⟨h.Words,h.au,h.aN,h.aX,h.aW,h.aV,h.Next⟩:aU) (⟨k.a8,k.aZ,k.Fields,k.Names,k.a1⟩:aR)=_:=g.open b
 have d:Ec F (⟨⟨h.Words,h.au,h.aN,h.aX,h.aW,h.aV,h.Next⟩,⟨⟨k.a8,k.aZ,k.Fields,k.Names,k.a1⟩⟩,Y,O,(Y++O).map λ a=>(a,true)⟩:bj) roots=_:=aGs b g roots
 unfold B2
 rw[c]
 dsimp only[jT,di,view]
 rw[decide_eq_true (rfl:(0 :Int)=0),cond_true,d,ae]
theorem afA{roots:List Int}{r:Option bj×Int}(e:j' F h k=some r)(a:r.1=none)(J:r.2≠0) :
 B2 F h.Words h.au h.aN h.aX h.aW h.aV h.Next k.a8 k.aZ k.Fields k.Names k.a1 roots=some (.inr (((),r.2,()),())):=by
 have b:j' F (⟨h.Words,h.au,h.aN,h.aX,h.aW,h.aV,h.Next⟩:aU) (⟨k.a8,k.aZ,k.Fields,k.Names,k.a1⟩:aR)=_:=e
 obtain⟨c,d⟩:=r
 obtain rfl:c=none:=a
 have J:d≠0:=J
 unfold B2
 rw[b]
 dsimp only[jT,di]
 rw[decide_eq_false J,cond_false]
theorem av8{roots:List Int}{r:Option bj×Int}(e:j' F h k=some r)(a:r.1=none)(J:r.2≠0) :
 yw F h.Words h.au h.aN h.aX h.aW h.aV h.Next k.a8 k.aZ k.Fields k.Names k.a1 roots=some ((0,r.2,()),()):=by
 unfold yw
 rw[afA e a J]
 dsimp only[di]
 rw[decide_eq_false J,hN,cond_true]
theorem av_(a:10000<F)(g:I.Good F h k Y O){roots:List Int}(b:iG Y O roots≠0) :
 yw F h.Words h.au h.aN h.aX h.aW h.aV h.Next k.a8 k.aZ k.Fields k.Names k.a1 roots=some ((0,iG Y O roots,()),()):=by
 unfold yw
 rw[MT a g]
 dsimp only[di]
 rw[decide_eq_false b,hN,cond_true]
end
end Go.Proofs.YteeliipnilghaaaGreat
namespace Go.Proofs.YteeliipnilghaaaGreat
open I
def val(k:aR)(W o ns:List Int)(q i:Nat):Int:=if 3<=i/\fQ k (wd W q) (i-3)=true then gP o ns (wd W (q+i))else wd W (q+i)
theorem Dv{a b:Nat}(h:a+b<=100000):I.ax ((a:Int)+(b:Int))=((a+b:Nat):Int):=by rw[cT (by omega) (by omega)];omega
theorem kM{a:Nat}(h:a<=100000):I.ax ((a:Int)+1)=((a+1 :Nat):Int):=by rw[cT (by omega) (by omega)];omega
theorem aaj{x:Int}{n:Nat}(a:0<=x)(h:n=3+x.toNat)(b:n<=100000):I.ax (3+x)=(n:Int):=by rw[cT (by omega) (by omega)];omega
theorem aHZ{a:Nat}(h:a<=100000)(ap:3<=a):I.ax ((a:Int)-3)=((a-3 :Nat):Int):=by rw[cT (by omega) (by omega)];omega
end Go.Proofs.YteeliipnilghaaaGreat
namespace Go.Proofs.YteeliipnilghaaaGreat
open I
def laid(k:aR)(W o ns Z:List Int):Nat->List Int->Prop
 |_,[]=>True
 |t,a::r=>(∀m,m<sz W a->wd Z (t+m)=val k W o ns a.toNat m)/\laid k W o ns Z (t+sz W a) r
end Go.Proofs.YteeliipnilghaaaGreat
namespace Go.Proofs.YteeliipnilghaaaGreat
open I
theorem aio:∀ {o ns:List Int}{v:Int},ns.length=o.length->cJ (o.zip ns) v=(match pos o v with|some j=>ns[j]? |none=>none)
 |[],ns,v,_=>rfl
 |b::r,[],v,h=>by simp at h
 |b::r,n::ns,v,h=>by
  rw[List.zip_cons_cons,cJ,pos];by_cases e:b=v
  ·rw[if_pos e,if_pos e]
   rfl
  ·rw[if_neg e,if_neg e,aio (by simpa using h)]
   cases pos r v<;>rfl
def base(W:List Int):Nat->List Int->Nat->Int
 |_,[],_=>0
 |t,a::r,p=>if t<=p/\p<t+sz W a then wd W (a.toNat+(p-t))else base W (t+sz W a) r p
end Go.Proofs.YteeliipnilghaaaGreat
namespace Go.Proofs.YteeliipnilghaaaGreat
open I
def h_(n:Nat):List Int:=(dM n).map λ(x:Nat)=>(x:Int)
theorem aaf{n:Nat}:(h_ n).length=n:=by simp[h_]
theorem alm{n i:Nat}(h:i<n):(h_ n)[i]? =some (i:Int):=by
 unfold h_;rw[jb,lE h];rfl
theorem aDN{n:Nat}(g:n<=5000):∀(d i f:Nat),i+d=n->d<f->I.sO (n:Int) f (h_ i) (i:Int)=some (h_ n):=by
 intro d;induction d with
 |zero=>
  intro i f h ad
  obtain⟨f,rfl⟩:∃a,f=a+1:=⟨f-1,by omega⟩
  have:i=n:=by omega
  subst this
  rw[I.sO,bJ,cond_false]
 |succ d b=>
  intro i f h ad
  obtain⟨f,rfl⟩:∃a,f=a+1:=⟨f-1,by omega⟩
  have hi:i<n:=by omega
  have c:i<=100000:=by omega
  have e:bF 8 (h_ i) [(i:Int)]=some (h_ (i+1)):=by
   unfold bF;rw[if_pos (by rw[aaf];simp only[jX];omega)];unfold h_;rw[List.range_succ,kc];rfl
  rw[I.sO,bK hi,cond_true,e,ae,kM c]
  exact b (i+1) f (by omega) (by omega)
theorem aDM{F n:Nat}(a:n<=5000)(b:10000<F):I.sN F (n:Int)=some (h_ n):=aDN a n 0 F (by omega) (by omega)
end Go.Proofs.YteeliipnilghaaaGreat
namespace Go.Proofs.YteeliipnilghaaaGreat
open I
theorem ak_{W:List Int}{t i:Nat}{o:List Int}(hi:i<o.length):cf W t (o.take (i+1))=cf W t (o.take i)+sz W o[i]:=by
 rw[List.take_succ_eq_append_getElem hi,ak7]
theorem ak'{W:List Int}{t i:Nat}{o:List Int}:cf W t (o.take i)<=cf W t o:=by
 conv=>rhs;rw[<-ja i o,ak8]
 exact GH
end Go.Proofs.YteeliipnilghaaaGreat
namespace Go.Proofs.YteeliipnilghaaaGreat
open I
theorem aIg{l m:List Int}(b:l.length=m.length)(h:∀p,p<l.length->wd l p=wd m p):l=m:=by
 refine List.ext_getElem b λ i a J=>?_;have:=h i a;rwa [pB (aJ a),pB (aJ J)]at this
theorem ak9{W:List Int}:∀ {o:List Int}{t p:Nat},t<=p->p<cf W t o-> ∃j,∃aA:j<o.length,∃i,i<sz W o[j]/\p=cf W t (o.take j)+i
 |[],t,p,b,J=>by rw[cf]at J;omega
 |a::r,t,p,b,J=>by
  by_cases hc:p<t+sz W a
  ·exact⟨0,by simp,p-t,by simpa using(by omega:p-t<sz W a),by simp[cf];omega⟩
  ·obtain⟨j,aA,i,ap,c⟩:=ak9 (o:=r) (t:=t+sz W a) (p:=p) (by omega) J
   exact⟨j+1,by simpa using aA,i,by simpa using ap,by simpa[cf]using c⟩
theorem aHz{W:List Int}{o:List Int}{t i i' j gy:Nat}(aA:j<o.length)(d:gy<o.length)(hi:i<sz W o[j])(f:i'<sz W o[gy])(e:cf W t (o.take j)+i=cf W t (o.take gy)+i'):j=gy:=by
 have key:∀ {a b:Nat}(c:a<o.length),a<b->cf W t (o.take a)+sz W o[a]<=cf W t (o.take b):=λ{a b} c g=>by
  rw[<-ak_ c];have:o.take (a+1)=(o.take b).take (a+1):=by rw[List.take_take,lJ (by omega)]
  rw[this];exact ak'
 rcases Nat.lt_trichotomy j gy with h |h |h
 ·have:=key aA h;omega
 ·exact h
 ·have:=key d h;omega
theorem ah0{k:aR}{W o ns Z:List Int}:∀ {l:List Int}{t j m:Nat}(aA:j<l.length),laid k W o ns Z t l->m<sz W l[j]->wd Z (cf W t (l.take j)+m)=val k W o ns l[j].toNat m
 |[],t,j,m,aA,_,_=>by simp at aA
 |a::r,t,0,m,aA,b,c=>b.1 m c
 |a::r,t,j+1,m,aA,b,c=>by
  have d:j<r.length:=by simpa using aA
  exact ah0 (l:=r) d b.2 c
end Go.Proofs.YteeliipnilghaaaGreat
namespace Go.Proofs.YteeliipnilghaaaGreat
open I
structure fA (h:aU) (k:aR) (L:List Int) (x:aU):Prop where
 il:L.Nodup
 cl:∀a∈L,∀v∈fy k h.Words a,v=0\/v∈L
 len:x.Words.length=h.Words.length
 y:x.au=h.au
 o:x.aN=h.aN
 yt:x.aX=1
 ot:x.aW=((cf h.Words (h.au+1).toNat L:Nat):Int)
 nt:x.aV=[]
 nx:x.Next=h.Next
 room:cf h.Words (h.au+1).toNat L<=h.Words.length
 Qn:∀j (aA:j<L.length),∀i,i<sz h.Words L[j]->wd x.Words (cf h.Words (h.au+1).toNat (L.take j)+i)=val k h.Words L (news h.Words (h.au+1).toNat L) L[j].toNat i
 fr:∀p,p<h.Words.length->(p<(h.au+1).toNat\/cf h.Words (h.au+1).toNat L<=p)->wd x.Words p=0
theorem F1{W:List Int}:∀ {L:List Int}{t j:Nat},j<L.length->(news W t L)[j]? =some ((cf W t (L.take j):Nat):Int)
 |[],t,j,h=>by simp at h
 |a::r,t,0,_=>rfl
 |a::r,t,j+1,h=>by
  have b:j<r.length:=by simpa using h
  show(news W (t+sz W a) r)[j]? =some ((cf W (t+sz W a) (r.take j):Nat):Int)
  exact F1 b
theorem pos_at:∀ {L:List Int}{j:Nat}(aA:j<L.length),L.Nodup->pos L L[j]=some j
 |[],j,aA,_=>by simp at aA
 |a::r,0,_,_=>by show pos (a::r) a=some 0;rw[pos,if_pos rfl]
 |a::r,j+1,aA,d=>by
  have b:j<r.length:=by simpa using aA
  have c:=im.1 d;show pos (a::r) r[j]=some (j+1)
  rw[pos,if_neg (λ e=>c.1 (by rw[e];exact hh b)),pos_at b c.2];rfl
section
variable{F:Nat}{h x:aU}{k:aR}{Y O L:List Int}
abbrev tn(h:aU)(L:List Int)(v:Int):Int:=gP L (news h.Words (h.au+1).toNat L) v
theorem GF:tn h L 0=0:=by unfold tn gP;rw[if_pos rfl]
theorem KP(a:L.Nodup){j:Nat}(aA:j<L.length)(b:L[j]≠0):tn h L L[j]=((cf h.Words (h.au+1).toNat (L.take j):Nat):Int):=by
 unfold tn gP;rw[if_neg b,pos_at aA a];dsimp only;rw[F1 aA];rfl
theorem P_(a:L.Nodup){v:Int}(b:v≠0)(c:v∈L):tn h L v∈news h.Words (h.au+1).toNat L/\((h.au+1).toNat:Int)<=tn h L v:=by
 obtain⟨j,aA,rfl⟩:=iK c;rw[KP a aA b];refine⟨bE (F1 aA),?_⟩;have:=GH (W:=h.Words) (o:=L.take j) (t:=(h.au+1).toNat);omega
theorem aHp(b:L.Nodup){v w:Int}(c:v≠0)(a:w≠0)(d:v∈L)(f:w∈L)(e:tn h L v=tn h L w):v=w:=by
 obtain⟨j,aA,rfl⟩:=iK d;obtain⟨i,hi,rfl⟩:=iK f;rw[KP b aA c,KP b hi a]at e;have:=aHz (W:=h.Words) (t:=(h.au+1).toNat) aA hi (i:=0) (i':=0) (by unfold sz;omega) (by unfold sz;omega) (by omega);subst this;rfl
theorem XM{a:Int}(b:a∈news h.Words (h.au+1).toNat L):∃j,∃_:j<L.length,a=((cf h.Words (h.au+1).toNat (L.take j):Nat):Int):=by
 obtain⟨j,aA,rfl⟩:=iK b;rw[C_]at aA;refine⟨j,aA,?_⟩;have:=F1 (W:=h.Words) (t:=(h.au+1).toNat) aA;rw[aJ (by rw[C_];exact aA)]at this;exact ei this
theorem aHR{W o ns:List Int}{q i:Nat}(hi:i<3):val k W o ns q i=wd W (q+i):=by
 unfold val;rw[if_neg (by omega)]
theorem fA.lo(c:fA h k L x){j:Nat}(aA:j<L.length){i:Nat}(hi:i<3):wd x.Words (cf h.Words (h.au+1).toNat (L.take j)+i)=wd h.Words (L[j].toNat+i):=by
 rw[c.Qn j aA i (by unfold sz;omega),aHR hi]
theorem fA.hi(c:fA h k L x){j:Nat}(aA:j<L.length){i:Nat}(hi:i<(wd h.Words (L[j].toNat+1)).toNat):wd x.Words (cf h.Words (h.au+1).toNat (L.take j)+3+i)=if fQ k (wd h.Words L[j].toNat) i=true then tn h L (wd h.Words (L[j].toNat+3+i))else wd h.Words (L[j].toNat+3+i):=by
 rw[show cf h.Words (h.au+1).toNat (L.take j)+3+i=cf h.Words (h.au+1).toNat (L.take j)+(3+i) by omega,c.Qn j aA (3+i) (by unfold sz;omega)];unfold val;rw[show 3+i-3=i by omega,show L[j].toNat+(3+i)=L[j].toNat+3+i by omega];by_cases a:fQ k (wd h.Words L[j].toNat) i=true
 ·rw[if_pos ⟨by omega,a⟩,if_pos a]
 ·rw[if_neg (λ e=>a e.2),if_neg a]
theorem fA.walk(g:I.Good F h k Y O)(c:fA h k L x)(aj:∀a∈L,a∈Y++O):∀(d j:Nat),j+d=L.length->I.eO k x.Words (cf h.Words (h.au+1).toNat L) (cf h.Words (h.au+1).toNat (L.take j)) (news h.Words (cf h.Words (h.au+1).toNat (L.take j)) (L.drop j)):=by
 intro d;induction d with
 |zero=>
  intro j aA
  have:j=L.length:=by omega
  subst this
  rw[jZ,iL]
  exact I.eO.nil
 |succ d n=>
  intro j aA
  have b:j<L.length:=by omega
  have p:=aj _ (hh b)
  obtain⟨q,r⟩:=g.l.Dp _ p
  have e:=c.lo b (i:=0) (by omega)
  have l:=c.lo b (i:=1) (by omega)
  rw[ky,ky]at e
  have f:=ak_ (W:=h.Words) (t:=(h.au+1).toNat) b
  have s:=ak' (W:=h.Words) (t:=(h.au+1).toNat) (i:=j+1) (o:=L)
  have m:sz h.Words L[j]=3+(wd x.Words (cf h.Words (h.au+1).toNat (L.take j)+1)).toNat:=by rw[l];rfl
  rw[cZ b,news]
  refine I.eO.cons (by rw[e];exact q) (by rw[e,l];exact r) (by omega) ?_
  have:=n (j+1) (by omega)
  rw[f,m,show cf h.Words (h.au+1).toNat (L.take j)+(3+(wd x.Words (cf h.Words (h.au+1).toNat (L.take j)+1)).toNat)=cf h.Words (h.au+1).toNat (L.take j)+3+(wd x.Words (cf h.Words (h.au+1).toNat (L.take j)+1)).toNat by omega]at this
  rw[m,show cf h.Words (h.au+1).toNat (L.take j)+(3+(wd x.Words (cf h.Words (h.au+1).toNat (L.take j)+1)).toNat)=cf h.Words (h.au+1).toNat (L.take j)+3+(wd x.Words (cf h.Words (h.au+1).toNat (L.take j)+1)).toNat by omega]
  exact this
theorem aiP{α β:Type}{f:α->β}:∀ {M L:List α},(M.map f).Nodup->L.Nodup->(∀a∈L,a∈M)->(L.map f).Nodup
 |M,[],_,_,_=>lZ
 |M,a::r,d,m,aj=>by
  have g:=im.1 m;rw[eu];refine im.2 ⟨λ n=>?_,aiP d g.2 λ b af=>aj b (dX _ af)⟩;obtain⟨b,af,e⟩:=hB.1 n;have o:b=a:=by
   obtain⟨i,hi,c⟩:=iK (aj a iD);obtain⟨j,aA,ak⟩:=iK (aj b (dX _ af));have l:=jr.1 (lx.1 d);rcases Nat.lt_trichotomy i j with al |al |al
   ·exact absurd (by rw[kr,kr,c,ak,e]) (l i j (by simpa using hi) (by simpa using aA) al)
   ·subst al;rw[<-c,<-ak]
   ·exact absurd (by rw[kr,kr,c,ak,e]) (l j i (by simpa using aA) (by simpa using hi) al)
  exact g.1 (o▸af)
theorem fA.U6(g:I.Good F h k Y O)(c:fA h k L x)(aj:∀a∈L,a∈Y++O):I.Good F x k [] (news h.Words (h.au+1).toNat L):=by
 obtain⟨⟨⟨r,s⟩,u,v⟩,m,⟨D,E⟩,⟨oX,G⟩,y⟩:=id g.s;unfold okB at m;have H:=c.room;have K:=GH (W:=h.Words) (o:=L) (t:=(h.au+1).toNat);have z:∀a∈L,a≠0:=λ a d=>by have:=(g.l.fit g.s a (aj a d)).1;omega
 have n:(news h.Words (h.au+1).toNat L).map (I.aj x.Words)=L.map (I.aj h.Words):=by
  refine List.ext_getElem (by rw[fW,fW,C_]) λ j l J=>?_;have aA:j<L.length:=by simpa using J
  rw[kr,kr];have:(news h.Words (h.au+1).toNat L)[j]'(by rw[C_];exact aA)=((cf h.Words (h.au+1).toNat (L.take j):Nat):Int):=by
   have:=F1 (W:=h.Words) (t:=(h.au+1).toNat) aA;rw[aJ (by rw[C_];exact aA)]at this;exact ei this
  rw[this];unfold I.aj;rw[c6];exact c.lo aA (by omega)
 have p:∀a∈news h.Words (h.au+1).toNat L,∀w∈refs k x.Words a.toNat,wd x.Words w.toNat=0\/wd x.Words w.toNat∈news h.Words (h.au+1).toNat L:=λ a d w f=>by
  obtain⟨j,aA,rfl⟩:=XM d;rw[c6]at f;obtain⟨i,l,J,rfl⟩:=wO.1 f;have q:=c.lo aA (i:=0) (by omega);have A:=c.lo aA (i:=1) (by omega);rw[ky,ky]at q;rw[A]at l;rw[q]at J;rw[c6,c.hi aA l,if_pos J];have B:wd h.Words (L[j].toNat+3+i)∈fy k h.Words L[j]:=hB.2 ⟨((L[j].toNat+3+i:Nat):Int),wO.2 ⟨i,l,J,rfl⟩,by rw[c6]⟩;rcases c.cl _ (hh aA) _ B with e |e
  ·rw[e,GF];exact .inl rfl
  ·exact .inr (P_ c.il (z _ e) e).1
 refine⟨g.rn,g.jk,⟨?_,?_,?_⟩,⟨?_,?_⟩,?_,?_,?_,?_,?_,?_,?_⟩
 ·unfold zz;rw[c.y,c.o];exact⟨⟨r,s⟩,u,v⟩
 ·unfold okB;rw[c.y,c.o,c.len];exact m
 ·unfold I.F5;rw[c.y,c.o,c.yt,c.ot,c.nx];exact⟨⟨by omega,by omega⟩,⟨by omega,by omega⟩,y⟩
 ·rw[c.yt];exact I.eO.nil
 ·rw[c.ot,c.y,c6]
  have:=c.walk g aj L.length 0 (by omega)
  rw[List.take_zero,gS]at this
  exact this
 ·intro a d
  rw[ju]at d
  have C:I.aj x.Words a∈L.map (I.aj h.Words):=by rw[<-n];exact jM d
  obtain⟨b,af,e⟩:=hB.1 C
  rw[<-e,c.nx]
  exact g.ok.hash b (aj b af)
 ·rw[ju,n]
  exact aiP g.ok.nodup c.il aj
 ·intro a d w f
  rw[ju]at d⊢
  exact p a d w f
 ·intro i hi hc
  rw[c.len]at hi
  rw[c.yt,c.ot,c.y]at hc
  exact c.fr i hi (by omega)
 ·rw[c.nt];intro a b _ af;simp at af
 ·rw[c.nt];intro a d;simp at d
 ·intro a d _ w f hc
  rw[c.y]at hc
  rcases p a d w f with e |e
  ·omega
  ·obtain⟨j,aA,ak⟩:=XM e
   have:=GH (W:=h.Words) (o:=L.take j) (t:=(h.au+1).toNat)
   omega
end
end Go.Proofs.YteeliipnilghaaaGreat
namespace Go.Proofs.YteeliipnilghaaaGreat
open I
section
variable{F:Nat}{k:aR}{y ol yt ot nx tp:Int}{W nt o ns pl rv:List Int}{M:List (Int×Int)}{c1:List ao}{c2:List Int}{c3:List (List I.Field)}{c4:List (List (List UInt8))}{c5:List (List I.Target)}
theorem FY{x v:Int}:∀ {M:List (Int×Int)},x∉M.map kQ->gA M x v=M++[(x,v)]
 |[],_=>rfl
 |p::r,h=>by
  simp only[eu,cR,not_or]at h;rw[gA,if_neg (λ e=>h.1 e.symm),FY h.2];rfl
theorem awl(H:o.length<=5000)(J:W.length<=5000)
 (s:∀a∈o,1<=a/\a.toNat+3+(wd W (a.toNat+1)).toNat<=W.length/\0<=wd W (a.toNat+1))(u:o.Nodup):∀(d i f t:Nat)(M:List (Int×Int)),i+d=o.length->d<f->t+5000*d<=100000000 ->(∀a∈o.drop i,a∉M.map kQ) ->
 BX F f pl o (t:Int) o (o.length:Int) (i:Int) rv W y ol yt ot nt nx c1 c2 c3 c4 c5 M=some ((pl,(),(),o,(),((cf W t (o.drop i):Nat):Int),()),rv,((),()),(W,y,ol,yt,ot,nt,nx,()),(c1,c2,c3,c4,c5,()),M++(o.drop i).zip (news W t (o.drop i)),()):=by
 intro d
 induction d with
 |zero=>
  intro i f t M h ad v g
  obtain⟨f,rfl⟩:∃j,f=j+1:=⟨f-1,by omega⟩
  have:i=o.length:=by omega
  subst this
  rw[BX,bJ,cond_false,iL]
  simp[cf,news]
 |succ d w=>
  intro i f t M h ad v g
  obtain⟨f,rfl⟩:∃j,f=j+1:=⟨f-1,by omega⟩
  have hi:i<o.length:=by omega
  have x:o[i]? =some o[i]:=aJ hi
  obtain⟨K,z,a3⟩:=s _ (hh hi)
  have c:=cZ hi
  have e:(o.drop i).Nodup:=u.sublist (List.drop_sublist i o)
  rw[c]at g e
  obtain⟨q,b⟩:∃q:Nat,o[i]=(q:Int):=⟨o[i].toNat,by omega⟩
  rw[b,c6]at z a3
  have A:q<=100000:=by omega
  have B:q+1<W.length:=by omega
  obtain⟨n,l⟩:∃n,n=3+(wd W (q+1)).toNat:=⟨_,rfl⟩
  have C:n<=100000:=by omega
  have D:i<=100000:=by omega
  have E:sz W o[i]=n:=by rw[b];unfold sz;rw[c6,l]
  have G:t+n+5000*d<=100000000:=by omega
  have m:I.ax ((t:Int)+(n:Int))=((t+n:Nat):Int):=by rw[cT (by omega) (by omega)];omega
  have p:gA M o[i] (t:Int)=M++[(o[i],(t:Int))]:=FY (g _ iD)
  rw[b]at p
  rw[BX,bK hi,cond_true,bu x,ae,b,kM A,fP B,ae,aaj a3 l C,m,kM D,p]
  clear m
  refine(w (i+1) f (t+n) (M++[((q:Int),(t:Int))]) (by omega) (by omega) G (λ a r=>?_)).trans ?_
  ·rw[kc,b_,not_or]
   refine⟨g a (dX _ r),λ hc=>?_⟩
   have hc:a=(q:Int):=by simpa using hc
   exact(im.1 e).1 (by rw[b,<-hc];exact r)
  ·rw[c,news,cf,E,b,List.zip_cons_cons,hM,lr]
theorem awn(A:gi k){q t n:Nat}(B:∀v∈fy k W (q:Int),(cJ M v).getD 0=gP o ns v)(e:(cJ M (q:Int)).getD 0=(t:Int))(J:n=3+(wd W (q+1)).toNat)(K:q+n<=W.length)(L:W.length<=5000)(C:gx k (wd W q)=true)(u:isLen k (wd W q) (wd W (q+1))=true){od:List Int}{ln oi:Int} :
 ∀(d i f:Nat)(Z:List Int),i+d=n->d<f->Z.length<=5000 ->t+n<=Z.length ->
 ∃a,tm F f pl tp (q:Int) od ln oi (n:Int) (i:Int) rv W y ol yt ot nt nx k.a8 k.aZ k.Fields k.Names k.a1 M Z=some ((pl,(),(),(),tp,(),od,ln,oi,()),rv,((),()),(W,y,ol,yt,ot,nt,nx,()),(k.a8,k.aZ,k.Fields,k.Names,k.a1,()),M,a,())/\
  a.length=Z.length/\ ∀p,wd a p=if t+i<=p/\p<t+n then val k W o ns q (p-t)else wd Z p:=by
 intro d
 have N:=(mJ.1 u).1
 have O:n<=100000:=by omega
 have P:q<=100000:=by omega
 induction d with
 |zero=>
  intro i f Z h ad w x
  obtain⟨f,rfl⟩:∃g,f=g+1:=⟨f-1,by omega⟩
  have:i=n:=by omega
  subst this
  rw[tm,bJ,cond_false]
  refine⟨Z,rfl,rfl,λ p=>?_⟩
  rw[if_neg (by omega)]
 |succ d D=>
  intro i f Z h ad w x
  obtain⟨f,rfl⟩:∃g,f=g+1:=⟨f-1,by omega⟩
  have hi:i<n:=by omega
  have j:q+i<W.length:=by omega
  have l:q+i<=100000:=by omega
  have m:t+i<=100000:=by omega
  have c:i<=100000:=by omega
  have E:idx W (I.ax ((q:Int)+i))=some (wd W (q+i)):=by rw[Dv l];exact fP j
  have r:idx Z ((t+i:Nat):Int)=some (wd Z (t+i)):=fP (by omega)
  have step:∀v:Int,v=val k W o ns q i-> ∃a,tm F f pl tp (q:Int) od ln oi (n:Int) ((i+1 :Nat):Int) rv W y ol yt ot nt nx k.a8 k.aZ k.Fields k.Names k.a1 M (Z.set (t+i) v)=some ((pl,(),(),(),tp,(),od,ln,oi,()),rv,((),()),(W,y,ol,yt,ot,nt,nx,()),(k.a8,k.aZ,k.Fields,k.Names,k.a1,()),M,a,())/\
   a.length=Z.length/\ ∀p,wd a p=if t+i<=p/\p<t+n then val k W o ns q (p-t)else wd Z p:=λ v s=>by
   obtain⟨a,G,ak,aS⟩:=D (i+1) f (Z.set (t+i) v) (by omega) (by omega) (by rw[kb];exact w) (by rw[kb];exact x)
   refine⟨a,G,by rw[ak,kb],λ p=>?_⟩
   rw[aS p]
   by_cases z:p=t+i
   ·subst z
    rw[if_neg (by omega),if_pos (by omega),aar (by omega),if_pos rfl,s,show t+i-t=i by omega]
   ·by_cases b:t+(i+1)<=p/\p<t+n
    ·rw[if_pos b,if_pos (by omega)]
    ·rw[if_neg b,if_neg (by omega),aar (by omega),if_neg z]
  rw[tm,bK hi,cond_true,E,ae]
  by_cases ap:3<=i
  ·rw[decide_eq_true (show(3 :Int)<=(i:Int) by omega),cond_true,fP (show q<W.length by omega),ae]
   have H:rM (b9.mk (aR.mk k.a8 k.aZ k.Fields k.Names k.a1)) (wd W q) (I.ax ((i:Int)-3))=some (fQ k (wd W q) (i-3)):=by
    rw[aHZ c ap];exact ZU A C u (by omega)
   rw[H,ae]
   cases b:fQ k (wd W q) (i-3)with
   |true=>
    have s:wd W (q+i)∈fy k W (q:Int):=hB.2 ⟨((q+i:Nat):Int),by
     rw[c6];exact wO.2 ⟨i-3,by omega,b,by omega⟩,by rw[c6]⟩
    rw[cond_true,e,Dv m,r,ae,kM c,c6]
    exact step _ (by rw[B _ s];unfold val;rw[if_pos ⟨ap,b⟩])
   |false=>
    rw[cond_false,e,Dv m,r,ae,kM c,c6]
    exact step _ (by unfold val;rw[if_neg (λ h=>by rw[b]at h;cases h.2)])
  ·rw[decide_eq_false (show¬(3 :Int)<=(i:Int) by omega),cond_false,e,Dv m,r,ae,kM c,c6]
   exact step _ (by unfold val;rw[if_neg (λ h=>ap h.1)])
theorem awm(aB:10000<F)(J:gi k)(aq:o.length<=5000)(yM:ns.length=o.length)(K:W.length<=5000)(L:∀a∈o,∀v∈fy k W a,(cJ M v).getD 0=gP o ns v)(N:∀(j:Nat)(a:Int),o[j]? =some a->some ((cJ M a).getD 0)=ns[j]?)
 (O:∀a∈o,1<=a/\a.toNat+3+(wd W (a.toNat+1)).toNat<=W.length/\gx k (wd W a.toNat)=true/\isLen k (wd W a.toNat) (wd W (a.toNat+1))=true):∀(d i f t:Nat)(Z:List Int),i+d=o.length->d<f->ns.drop i=news W t (o.drop i)->cf W t (o.drop i)<=W.length->Z.length=W.length ->
 ∃b,BZ F f pl tp o (o.length:Int) (i:Int) rv W y ol yt ot nt nx k.a8 k.aZ k.Fields k.Names k.a1 M Z=some ((pl,(),(),tp,(),()),rv,((),()),(W,y,ol,yt,ot,nt,nx,()),(k.a8,k.aZ,k.Fields,k.Names,k.a1,()),M,b,())/\
  b.length=W.length/\laid k W o ns b t (o.drop i)/\ ∀p,p<t\/cf W t (o.drop i)<=p->wd b p=wd Z p:=by
 intro d
 induction d with
 |zero=>
  intro i f t Z h ad l r s
  obtain⟨f,rfl⟩:∃u,f=u+1:=⟨f-1,by omega⟩
  have:i=o.length:=by omega
  subst this
  refine⟨Z,?_,s,by rw[iL];trivial,λ p _=>rfl⟩
  rw[BZ,bJ,cond_false]
 |succ d P=>
  intro i f t Z h ad l r s
  obtain⟨f,rfl⟩:∃u,f=u+1:=⟨f-1,by omega⟩
  have hi:i<o.length:=by omega
  have B:o[i]? =some o[i]:=aJ hi
  have C:i<ns.length:=by omega
  have Q:ns[i]? =some ns[i]:=aJ C
  rw[cZ hi,cZ C,news]at l
  rw[cZ hi,cf]at r
  have R:ns[i]=(t:Int):=(eE l).1
  have D:=(eE l).2
  have E:=hh hi
  obtain⟨cm,S,a3,a4⟩:=O _ E
  have c:=L _ E
  have e:=N i _ B
  rw[Q,R]at e
  have e:=ei e
  obtain⟨q,g⟩:∃q:Nat,o[i]=(q:Int):=⟨o[i].toNat,by omega⟩
  rw[g,c6]at S a3 a4
  rw[g]at c e
  obtain⟨n,w⟩:∃n,n=3+(wd W (q+1)).toNat:=⟨_,rfl⟩
  have x:sz W o[i]=n:=by rw[g];unfold sz;rw[c6,w]
  rw[x]at D r
  have T:=GH (W:=W) (o:=o.drop (i+1)) (t:=t+n)
  have U:i<=100000:=by omega
  have V:q<=100000:=by omega
  have X:q+1<W.length:=by omega
  have Y:n<=100000:=by omega
  have lQ:=(mJ.1 a4).1.1
  obtain⟨z,cW,eF,G⟩:=awn (F:=F) (pl:=pl) (tp:=tp) (rv:=rv) (y:=y) (ol:=ol) (yt:=yt) (ot:=ot) (nx:=nx) (nt:=nt) (od:=o) (ln:=(o.length:Int)) (oi:=(i:Int)) J c e w (by omega) K a3 a4 n 0 F Z (by omega) (by omega) (by omega) (by omega)
  have A:tm F F pl tp (q:Int) o (o.length:Int) (i:Int) (n:Int) 0 rv W y ol yt ot nt nx k.a8 k.aZ k.Fields k.Names k.a1 M Z=_:=cW
  obtain⟨b,i1,i2,i3,H⟩:=P (i+1) f (t+n) z (by omega) (by omega) D r (by rw[eF,s])
  refine⟨b,?_,i2,?_,λ p aI=>?_⟩
  ·rw[BZ,bK hi,cond_true,bu B,ae,g,kM V,fP X,ae,aaj lQ w Y,A,ae]
   dsimp only
   rw[kM U]
   exact i1
  ·rw[cZ hi,laid,x]
   refine⟨λ m hm=>?_,i3⟩
   rw[H _ (by omega),G,if_pos (by omega),g,c6,show t+m-t=m by omega]
  ·rw[cZ hi,cf,x]at aI
   rw[H p (by omega),G,if_neg (by omega)]
theorem awo{Z:List Int}{roots:List Int}(n:roots.length<=5000)(g:∀v∈roots,(cJ M v).getD 0=gP o ns v):∀(d i f:Nat)(rs:List Int),i+d=roots.length->d<f->rs=(roots.take i).map (gP o ns)++roots.drop i ->
 B0 F f tp Z (h_ roots.length) (roots.length:Int) (i:Int) W y ol yt ot nt nx M rs=some (((),tp,Z,()),((),()),(W,y,ol,yt,ot,nt,nx,()),M,roots.map (gP o ns),()):=by
 intro d
 induction d with
 |zero=>
  intro i f rs h ad b
  obtain⟨f,rfl⟩:∃c,f=c+1:=⟨f-1,by omega⟩
  have:i=roots.length:=by omega
  subst this
  rw[B0,bJ,cond_false,b,iL,jZ,hp]
 |succ d j=>
  intro i f rs h ad b
  obtain⟨f,rfl⟩:∃c,f=c+1:=⟨f-1,by omega⟩
  have a:i<roots.length:=by omega
  have l:i<=100000:=by omega
  have e:((roots.take i).map (gP o ns)).length=i:=by simp;omega
  have m:rs[i]? =some roots[i]:=by
   rw[b,fI (by omega),e,Nat.sub_self,cZ a];rfl
  rw[B0,bK a,cond_true,bu (alm a),ae,bu m,ae,kM l,c6,g _ (hh a)]
  refine j (i+1) f _ (by omega) (by omega) ?_
  rw[b,List.set_append_right _ _ (by omega),e,Nat.sub_self,cZ a,List.set_cons_zero,List.take_succ_eq_append_getElem a,kc,hM]
  rfl
end
end Go.Proofs.YteeliipnilghaaaGreat
namespace Go.Proofs.YteeliipnilghaaaGreat
open I bc
theorem Qm{k:aR}{W:List Int}{to q:Nat}{L:List Int}(h:I.eO k W to q L):(∀a∈L,(q:Int)<=a)/\L.Pairwise (·< ·):=by
 induction h with
 |nil=>exact⟨λ a av=>by simp at av,List.Pairwise.nil⟩
 | @cons q r c J ap d b=>
   refine⟨λ a av=>?_,List.Pairwise.cons (λ a av=>?_) b.2⟩
   ·rcases cR.1 av with rfl |av
    ·exact k2 _
    ·have:=b.1 a av;omega
   ·have:=b.1 a av;omega
def tO(Y O A:List Int):List Int:=O.filter (λ a=>decide (a∈A))++Y.filter (λ a=>decide (a∈A))
section
variable{F:Nat}{h:aU}{k:aR}{Y O A roots:List Int}
theorem FI(b:∀a∈A,a∈Y++O){a:Int}:a∈tO Y O A↔a∈A:=by
 unfold tO;rw[b_,i_,i_,decide_eq_true_eq];constructor
 ·rintro(h |h)<;>exact h.2
 ·intro h
  rcases b_.1 (b a h)with e |e
  ·exact .inr ⟨e,h⟩
  ·exact .inl ⟨e,h⟩
theorem ach(g:I.Good F h k Y O):(∀a∈Y,a<=h.au)/\ ∀a∈O,h.au+1<=a/\a<=h.au+h.aN:=by
 obtain⟨⟨⟨d,e⟩,f,i⟩,j,⟨l,m⟩,⟨oX,n⟩,o⟩:=id g.s;refine⟨λ a b=>?_,λ a b=>?_⟩
 ·have c:=g.l.Hn g.s a b
  omega
 ·have c:=g.l.qA g.s a b
  omega
theorem ag9(g:I.Good F h k Y O)(d:∀a∈A,a∈Y++O):Ord (Y++O) (tO Y O A):=by
 obtain⟨f,J⟩:=ach g;refine⟨?_,λ a c=>d a ((FI d).1 c)⟩;refine eQ.2 ⟨((Qm g.l.o).2.imp λ h=>by omega).filter _,((Qm g.l.y).2.imp λ h=>by omega).filter _,λ a c b af e=>?_⟩;have i:=J a (i_.1 c).1;have j:=f b (i_.1 af).1;omega
theorem aHe(g:I.Good F h k Y O)(p:A.Nodup)(j:∀a∈A,a∈Y++O):kK h.au h.aN A=tO Y O A:=by
 obtain⟨⟨⟨t,u⟩,v,w⟩,x,⟨y,z⟩,⟨oX,B⟩,C⟩:=id g.s;obtain⟨m,J⟩:=ach g;have ap:∀a∈Y,1<=a:=λ a d=>(g.l.fit g.s a (kz O d)).1;have q:∀a b c:Int,kH h.au h.aN a b=true->kH h.au h.aN b c=true->kH h.au h.aN a c=true:=λ a b c m J=>by
  simp only[kH,decide_eq_true_eq]at *;omega
 have r:∀a b:Int,(kH h.au h.aN a b||kH h.au h.aN b a)=true:=λ a b=>by
  simp only[kH,hV,decide_eq_true_eq];omega
 have n:∀a∈Y,eX h.au h.aN a=a+h.au+h.aN:=λ a d=>by
  unfold eX;rw[if_neg (by have:=m a d;omega)]
 have fF:∀a∈O,eX h.au h.aN a=a:=λ a d=>by
  unfold eX;rw[if_pos (by have:=J a d;omega)]
 have o:∀a∈Y++O,1<=a/\a<=h.au+h.aN:=λ a d=>by
  rcases b_.1 d with e |e
  ·have:=m a e;have:=ap a e;omega
  ·have:=J a e;omega
 unfold kK;refine List.Perm.eq_of_pairwise (le:=λ a b=>kH h.au h.aN a b=true) (λ a b d af f i=>?_) (l6 q r A) ?_ ((kO A _).trans ((k4 p (ag9 g j).il).2 λ a=>(FI j).symm))
 ·have d:=o a (j a ((kO A _).mem_iff.1 d))
  have af:=o b (j b ((FI j).1 af))
  have f:eX h.au h.aN a<=eX h.au h.aN b:=of_decide_eq_true f
  have i:eX h.au h.aN b<=eX h.au h.aN a:=of_decide_eq_true i
  unfold eX at f i
  by_cases ap:h.au<a<;>by_cases l:h.au<b
  ·rw[if_pos ap,if_pos l]at f i;omega
  ·rw[if_pos ap,if_neg l]at f;omega
  ·rw[if_neg ap,if_pos l]at f i;omega
  ·rw[if_neg ap,if_neg l]at f i;omega
 ·unfold tO
  refine List.pairwise_append.2 ⟨lY (λ{a b} d af s=>?_) ((Qm g.l.o).2.filter _),lY (λ{a b} d af s=>?_) ((Qm g.l.y).2.filter _),λ a d b af=>?_⟩
  ·have d:=(i_.1 d).1
   have af:=(i_.1 af).1
   exact decide_eq_true (by rw[fF a d,fF b af];omega)
  ·have d:=(i_.1 d).1
   have af:=(i_.1 af).1
   exact decide_eq_true (by rw[n a d,n b af];omega)
  ·have d:=(i_.1 d).1
   have af:=(i_.1 af).1
   have:=J a d
   have:=ap b af
   exact decide_eq_true (by rw[fF a d,n b af];omega)
theorem fA.uE{x d:aU}{L:List Int}(c:fA h k L x)(a:fA h k L d):x.Words=d.Words:=by
 refine aIg (by rw[c.len,a.len]) λ p b=>?_;rw[c.len]at b;by_cases e:p<(h.au+1).toNat\/cf h.Words (h.au+1).toNat L<=p
 ·rw[c.fr p b e,a.fr p b e]
 ·obtain⟨j,aA,i,J,rfl⟩:=ak9 (W:=h.Words) (o:=L) (t:=(h.au+1).toNat) (p:=p) (by omega) (by omega)
  rw[c.Qn j aA i J,a.Qn j aA i J]
theorem aty{o Z:List Int}(b:Ord (Y++O) o)(c:∀a∈o,∀v∈fy k h.Words a,v=0\/v∈o)(d:cf h.Words (h.au+1).toNat o<=h.Words.length)(e:Z.length=h.Words.length)
 (J:laid k h.Words o (news h.Words (h.au+1).toNat o) Z (h.au+1).toNat o)(ap:∀p,(p<(h.au+1).toNat\/cf h.Words (h.au+1).toNat o<=p)->wd Z p=0) :
 fA h k o ⟨Z,h.au,h.aN,1,((cf h.Words (h.au+1).toNat o:Nat):Int),[],h.Next⟩:=
 ⟨b.il,c,e,rfl,rfl,rfl,rfl,rfl,rfl,d,λ _ aA _ hi=>ah0 aA J hi,λ p _ f=>ap p f⟩
theorem aIh{n p:Nat}:wd (fN n 0) p=0:=by
 unfold wd;rcases gg p n with Cp |Cp
 ·simp[Cp]
 ·rw[gH (by simpa using Cp)];rfl
theorem akX{W:List Int}:∀ {l:List Int}{n:Nat},(∀a∈l,1<=a/\a.toNat+3+(wd W (a.toNat+1)).toNat<=W.length/\0<=wd W (a.toNat+1))->W.length<=5000 ->n+10000*l.length<=1000000000 ->iI W l (n:Int)=some ((n+fS W [] l:Nat):Int)
 |[],n,_,_,_=>rfl
 |a::r,n,h,e,f=>by
  obtain⟨o,g,a3⟩:=h a (by simp);obtain⟨q,rfl⟩:∃q:Nat,a=(q:Int):=⟨a.toNat,by omega⟩
  rw[c6]at g a3;rw[de]at f;obtain⟨m,d⟩:∃m,m=3+(wd W (q+1)).toNat:=⟨_,rfl⟩
  have i:q<=100000:=by omega
  have c:m<=100000:=by omega
  have j:I.ax ((n:Int)+(m:Int))=((n+m:Nat):Int):=by rw[cT (by omega) (by omega)];omega
  rw[iI,kM i,fP (by omega),ae,aaj a3 d c,j,akX (l:=r) (λ b af=>h b (by simp[af])) e (by omega)];rw[fS,if_neg (by simp),sz,c6,<-d,kg]
end
end Go.Proofs.YteeliipnilghaaaGreat
namespace Go.Proofs.YteeliipnilghaaaGreat
open I
section
variable{F:Nat}{k:aR}{h:aU}{Y O:List Int}
theorem aDA(g:I.Good F h k Y O):nZ h=some h:=by
 have a:=g.aiR;have J:=g.s.fz;unfold nZ PU;rw[iz (by simp;omega),ae,iz (by simp;omega)];rfl
end
end Go.Proofs.YteeliipnilghaaaGreat
namespace Go.Proofs.YteeliipnilghaaaGreat
open I bc
section
variable{F:Nat}{h:aU}{k:aR}{Y O:List Int}
theorem aHU{l:List Int}(j:l.length<=5000):∀(d i f:Nat)(out:List Int),i+d=l.length->d<f->out.length=i ->
 B3 F f (h_ l.length) (l.length:Int) (i:Int) out l=some (((),()),out++l.drop i,l,()):=by
 intro d
 induction d with
 |zero=>
  intro i f out hi ad c
  obtain⟨f,rfl⟩:∃b,f=b+1:=⟨f-1,by omega⟩
  have:i=l.length:=by omega
  subst this
  rw[B3,bJ,cond_false,iL,hp]
 |succ d e=>
  intro i f out hi ad c
  obtain⟨f,rfl⟩:∃b,f=b+1:=⟨f-1,by omega⟩
  have a:i<l.length:=by omega
  have g:l[i]? =some l[i]:=aJ a
  rw[B3,bK a,cond_true,bu (alm a),ae,bu g,ae,SI (by omega),ae,eA a (by omega)]
  refine(e (i+1) f _ (by omega) (by omega) (by simp[c])).trans ?_
  rw[cZ a,hM,lr]
theorem values_eq(b:10000<F){l:List Int}(a:l.length<=5000):M3 F (h_ l.length) l=some ((l,()),l,()):=by
 unfold M3;have e:=aHU (F:=F) a l.length 0 F [] (by omega) (by omega) rfl;rw[gS,ju]at e;have e':B3 F F (h_ l.length) (l.length:Int) 0 [] l=_:=e;rw[aaf,e',ae]
theorem Z'{S ns:List Int}(b:ns.length=S.length){v:Int}(c:v=0\/v∈S):(cJ ((0,0)::S.zip ns) v).getD 0=gP S ns v:=by
 unfold gP;by_cases a:v=0
 ·rw[cJ,if_pos (by rw[a]),if_pos a,a]
  rfl
 ·rw[cJ,if_neg (λ e=>a e.symm),if_neg a,aio b]
  cases d:pos S v with
  |none=>exact absurd (c.resolve_left a) (X'.1 d)
  |some j=>rfl
abbrev kept(k:aR)(h:aU)(Y O roots:List Int):List Int:=tO Y O (h9 k h Y O roots)
theorem Ob(g:I.Good F h k Y O){roots:List Int}(b:∀a∈roots,a=0\/a∈Y++O):Ord (Y++O) (kept k h Y O roots):=ag9 g (zI g b).sub
theorem WR(g:I.Good F h k Y O){roots:List Int}(e:∀a∈roots,a=0\/a∈Y++O):(∀a∈kept k h Y O roots,∀v∈fy k h.Words a,v=0\/v∈kept k h Y O roots)/\ ∀v∈roots,v=0\/v∈kept k h Y O roots:=by
 have c:=λ a=>FI (a:=a) (zI g e).sub;have hc:=PB g e;refine⟨λ a f v d=>?_,λ v d=>?_⟩
 ·by_cases b:v=0
  ·exact .inl b
  ·exact .inr ((c v).2 (hc.gG a ((c a).1 f) v d b))
 ·by_cases b:v=0
  ·exact .inl b
  ·exact .inr ((c v).2 (hc.rt v d b))
theorem ah_(q:10000<F)(g:I.Good F h k Y O){roots:List Int}(r:roots.length<=5000)(b:∀a∈roots,a=0\/a∈Y++O) :
 ∃A,A.Perm (h9 k h Y O roots)/\A.Nodup/\(∀a∈A,a∈Y++O)/\
  B1 F roots k.a8 k.aZ k.Fields k.Names k.a1 h.Words h.au h.aN h.aX h.aW h.aV h.Next []=
   some ((),((),k.a8,k.aZ,k.Fields,k.Names,k.a1,(),()),(h.Words,h.au,h.aN,h.aX,h.aW,h.aV,h.Next,()),iC A,())/\
  E8 h.Words (iC A)=some ((fS h.Words [] (kept k h Y O roots):Nat):Int)/\L1 F h.Words h.au h.aN h.aX h.aW h.aV h.Next k.a8 k.aZ k.Fields k.Names k.a1 roots=some ((((fS h.Words [] (kept k h Y O roots):Nat):Int),()),()):=by
 obtain⟨m,A,e,s,t,f,u,i,j⟩:=aB1 q g r b
 have c:=Ob g b
 have x:=H0 g
 have y:=c.len
 have Ct:=g.s.fz
 have v:A.Perm (kept k h Y O roots):=e.trans ((k4 (zI g b).il c.il).2 λ a=>(FI (zI g b).sub).symm)
 have d:=akX (W:=h.Words) (l:=kept k h Y O roots) (n:=0) (λ a o=>by
  have p:=g.l.fit g.s a (c.sub a o);have J:=g.l.Dp a (c.sub a o);exact⟨p.1,p.2.1,(mJ.1 J.2).1.1⟩) (by omega) (by omega)
 rw[Z4 v]at f
 have w:m=((fS h.Words [] (kept k h Y O roots):Nat):Int):=by
  have:iI h.Words (kept k h Y O roots) 0=_:=d;rw[f]at this;have:=ei this;omega
 rw[w]at i j
 exact⟨A,e,s,t,u,i,j⟩
set_option maxHeartbeats 1000000
theorem awp(w:10000<F)(g:I.Good F h k Y O){roots:List Int}(al:roots.length<=1000)(q:∀a∈roots,a=0\/a∈Y++O) :
 (h.aN<((fS h.Words [] (kept k h Y O roots):Nat):Int)->Ih F k.a8 k.aZ k.Fields k.Names k.a1 (h_ roots.length) h.Words h.au h.aN h.aX h.aW h.aV h.Next roots=some ((false,()),(h.Words,h.au,h.aN,h.aX,h.aW,h.aV,h.Next,()),roots,()))/\
 (¬h.aN<((fS h.Words [] (kept k h Y O roots):Nat):Int)->cf h.Words (h.au+1).toNat (kept k h Y O roots)<=h.Words.length/\ ∃Z,Ih F k.a8 k.aZ k.Fields k.Names k.a1 (h_ roots.length) h.Words h.au h.aN h.aX h.aW h.aV h.Next roots=some ((true,()),(Z,h.au,h.aN,1,((cf h.Words (h.au+1).toNat (kept k h Y O roots):Nat):Int),[],h.Next,()),roots.map (tn h (kept k h Y O roots)),())/\
  fA h k (kept k h Y O roots) ⟨Z,h.au,h.aN,1,((cf h.Words (h.au+1).toNat (kept k h Y O roots):Nat):Int),[],h.Next⟩):=by
 obtain⟨A,T,eF,z,U,V,F8⟩:=ah_ w g (roots:=roots) (by omega) q
 have d:=Ob g q
 have r:=WR g q
 have dF:=H0 g
 have Fw:=d.len
 have Ct:=g.s.fz
 have af1:A.length<=5000:=by rw[T.length_eq];have:=(zI g q).len;omega
 obtain⟨⟨⟨bQ,dS⟩,fB,fL⟩,lF,⟨EF,EG⟩,⟨oX,EH⟩,BN⟩:=id g.s
 unfold okB at lF
 have l:M2 F k.a8 k.aZ k.Fields k.Names k.a1 (h_ roots.length) h.Words h.au h.aN h.aX h.aW h.aV h.Next roots=
  some (((),()),(h.Words,h.au,h.aN,h.aX,h.aW,h.aV,h.Next,()),roots,((),k.a8,k.aZ,k.Fields,k.Names,k.a1,(),()),iC A,()):=by
  unfold M2
  rw[values_eq w (by omega),ae]
  dsimp only
  rw[U,ae]
 unfold Ih
 rw[l,ae]
 dsimp only
 rw[V,ae,ae]
 clear U V F8 l
 obtain⟨S,m⟩:∃S,S=kept k h Y O roots:=⟨_,rfl⟩
 rw[<-m]at d r Fw⊢
 refine⟨λ hc=>?_,λ hc=>?_⟩
 ·rw[decide_eq_true hc,cond_true]
 ·rw[decide_eq_false hc,cond_false]
  have B:kK h.au h.aN A=S:=by
   rw[aHe g eF z,m];show tO Y O A=tO Y O (h9 k h Y O roots)
   unfold tO;have:∀a,decide (a∈A)=decide (a∈h9 k h Y O roots):=λ a=>decide_eq_decide.2 T.mem_iff;simp only[this]
  have C:CG h.au h.aN (List.map kQ (iC A)) []=some S:=by
   have D:List.map kQ (iC A)=A:=by
    unfold iC;rw[List.map_map];exact List.map_id _
   rw[D];unfold CG;have af:(decide (0<=h.au)&&decide (h.au<=100000)&&decide (0<=h.aN)&&decide (h.aN<=100000)&&decide (A.length<=200000)&&([]:List Int).isEmpty&&A.all (λ x=>decide (1<=x)&&decide (x<=h.au+h.aN)))=true:=by
    simp only[bH,decide_eq_true_eq,kh,List.isEmpty_nil,and_true];refine⟨⟨⟨⟨⟨by omega,by omega⟩,by omega⟩,by omega⟩,by omega⟩,λ x X=>?_⟩;have s:=g.l.fit g.s x (z x X);have J:=ach g;rcases b_.1 (z x X)with e |e
    ·have:=J.1 x e;omega
    ·have:=J.2 x e;omega
   rw[af,B]
  have E:∀G H K L c,Js ((h_ roots.length,(),(),(),(),()),((),()),(k.a8,k.aZ,k.Fields,k.Names,k.a1,()),((),G,H,K,L,c,(),()),(h.Words,h.au,h.aN,h.aX,h.aW,h.aV,h.Next,()),iC A,roots,[],())=
   some ((h_ roots.length,(),(),(),()),(((),()),(k.a8,k.aZ,k.Fields,k.Names,k.a1,()),((),G,H,K,L,c,(),()),(h.Words,h.au,h.aN,h.aX,h.aW,h.aV,h.Next,()),iC A,roots,S,())):=λ G H K L c=>by
   show(CG h.au h.aN (List.map kQ (iC A)) []).map _=_
   rw[C]
   rfl
  erw[E,ae]
  dsimp only
  obtain⟨t,f⟩:∃t:Nat,(h.au+1).toNat=t:=⟨_,rfl⟩
  have N:I.ax (h.au+1)=(t:Int):=by rw[cT (by omega) (by omega)];omega
  have P:cf h.Words t S<=h.Words.length:=by rw[JN];omega
  have n:(news h.Words t S).length=S.length:=C_
  have ka:=d.il
  have i:∀a∈S,1<=a/\a.toNat+3+(wd h.Words (a.toNat+1)).toNat<=h.Words.length/\gx k (wd h.Words a.toNat)=true/\isLen k (wd h.Words a.toNat) (wd h.Words (a.toNat+1))=true:=λ a b=>by
   have s:=g.l.fit g.s a (d.sub a b);have J:=g.l.Dp a (d.sub a b);exact⟨s.1,s.2.1,J.1,J.2⟩
  have ak:=awl (F:=F) (pl:=h_ roots.length) (rv:=roots) (y:=h.au) (ol:=h.aN) (yt:=h.aX) (ot:=h.aW) (nx:=h.Next) (W:=h.Words) (nt:=h.aV) (c1:=k.a8) (c2:=k.aZ) (c3:=k.Fields) (c4:=k.Names) (c5:=k.a1) (o:=S) (by omega) (by omega) (λ a b=>⟨(i a b).1,(i a b).2.1,(mJ.1 (i a b).2.2.2).1.1⟩) ka S.length 0 F t [(0,0)] (by omega) (by omega) (by omega) (λ a b=>by
   have:=(i a (mA b)).1;simp;omega)
  rw[gS]at ak
  have H5:BX F F (h_ roots.length) S (t:Int) S (S.length:Int) 0 roots h.Words h.au h.aN h.aX h.aW h.aV h.Next k.a8 k.aZ k.Fields k.Names k.a1 [(0,0)]=_:=ak
  rw[N]
  erw[H5,ae]
  dsimp only
  have ah:za (0 :Int) 8 ((iv h.Words:Nat):Int)=some (fN h.Words.length 0):=by
   unfold za;rw[if_pos (by omega),c6]
  rw[ah,ae]
  have dB:∀a∈S,∀v∈fy k h.Words a,(cJ ([(0,0)]++S.zip (news h.Words t S)) v).getD 0=gP S (news h.Words t S) v:=λ a b v Q=>Z' n (r.1 a b v Q)
  have B_:∀(j:Nat)(a:Int),S[j]? =some a->some ((cJ ([(0,0)]++S.zip (news h.Words t S)) a).getD 0)=(news h.Words t S)[j]? :=λ j a aA=>by
   obtain⟨u,rfl⟩:=aO.1 aA;have s:=(i _ (hh u)).1;have:=Z' n (v:=S[j]) (.inr (hh u));refine Eq.trans (congrArg some this) ?_;unfold gP;rw[if_neg (by omega),pos_at u ka];dsimp only;rw[aJ (by rw[n];exact u)];rfl
  obtain⟨Z,br,bA,bU,gd⟩:=awm (pl:=h_ roots.length) (tp:=((cf h.Words t S:Nat):Int)) (rv:=roots) (y:=h.au) (ol:=h.aN) (yt:=h.aX) (ot:=h.aW) (nx:=h.Next) (nt:=h.aV) w g.jk (by omega) n (by omega) dB B_ i S.length 0 F t (fN h.Words.length 0) (by omega) (by omega) (by rw[gS,gS]) (by rw[gS];exact P) (by simp)
  rw[gS]at bU gd
  have J8:BZ F F (h_ roots.length) ((cf h.Words t S:Nat):Int) S (S.length:Int) 0 roots h.Words h.au h.aN h.aX h.aW h.aV h.Next k.a8 k.aZ k.Fields k.Names k.a1 ([(0,0)]++S.zip (news h.Words t S)) (fN h.Words.length 0)=_:=br
  rw[J8,ae]
  dsimp only
  have EX:=awo (F:=F) (tp:=((cf h.Words t S:Nat):Int)) (W:=h.Words) (y:=h.au) (ol:=h.aN) (yt:=h.aX) (ot:=h.aW) (nx:=h.Next) (nt:=h.aV) (o:=S) (ns:=news h.Words t S) (M:=[(0,0)]++S.zip (news h.Words t S)) (Z:=Z) (roots:=roots) (by omega) (λ v Q=>Z' n (r.2 v Q)) roots.length 0 F roots (by omega) (by omega) (by simp)
  have Tf:B0 F F ((cf h.Words t S:Nat):Int) Z (h_ roots.length) (roots.length:Int) 0 h.Words h.au h.aN h.aX h.aW h.aV h.Next ([(0,0)]++S.zip (news h.Words t S)) roots=_:=EX
  rw[aaf,Tf,ae]
  have R:tn h S=gP S (news h.Words t S):=by unfold tn;rw[f]
  rw[f,R]
  refine⟨P,Z,rfl,?_⟩
  have:=aty (Z:=Z) d r.1 (by rw[f];exact P) bA (by rw[f];exact bU) (by rw[f];exact λ p aI=>(gd p aI).trans aIh)
  rw[f]at this
  exact this
theorem afo(a:10000<F)(g:I.Good F h k Y O){roots:List Int}(f:iG Y O roots=0) :
 (h.aN<((fS h.Words [] (kept k h Y O roots):Nat):Int)->rA F h.Words h.au h.aN h.aX h.aW h.aV h.Next k.a8 k.aZ k.Fields k.Names k.a1 roots=some ((([],0,0,0,0,[],0,()),[],8,()),()))/\
 (¬h.aN<((fS h.Words [] (kept k h Y O roots):Nat):Int)-> ∃Z,rA F h.Words h.au h.aN h.aX h.aW h.aV h.Next k.a8 k.aZ k.Fields k.Names k.a1 roots=some (((Z,h.au,h.aN,1,((cf h.Words (h.au+1).toNat (kept k h Y O roots):Nat):Int),[],h.Next,()),roots.map (tn h (kept k h Y O roots)),0,()),())/\
  fA h k (kept k h Y O roots) ⟨Z,h.au,h.aN,1,((cf h.Words (h.au+1).toNat (kept k h Y O roots):Nat):Int),[],h.Next⟩):=by
 obtain⟨i,j⟩:=ZH f
 obtain⟨l,m⟩:=awp a g i j
 have b:nZ (⟨h.Words,h.au,h.aN,h.aX,h.aW,h.aV,h.Next⟩:aU)=_:=aDA g
 have n:bF 8 [] roots=some roots:=iz (by simp;omega)
 have d:I.sN F (roots.length:Int)=_:=aDM (by omega) a
 unfold rA
 rw[MT a g]
 dsimp only[di]
 rw[f,decide_eq_true (rfl:(0 :Int)=0),dC,cond_false,b,ae,n,ae,d,ae]
 refine⟨λ hc=>?_,λ hc=>?_⟩
 ·rw[l hc,ae]
  rfl
 ·obtain⟨_,Z,e,c⟩:=m hc
  rw[e,ae]
  exact⟨Z,rfl,c⟩
theorem av1{roots:List Int}{r:Option bj×Int}(e:j' F h k=some r)(a:r.1=none)(J:r.2≠0) :
 rA F h.Words h.au h.aN h.aX h.aW h.aV h.Next k.a8 k.aZ k.Fields k.Names k.a1 roots=some ((([],0,0,0,0,[],0,()),[],r.2,()),()):=by
 unfold rA
 rw[afA e a J]
 dsimp only[di]
 rw[decide_eq_false J,hN,cond_true]
theorem av2(a:10000<F)(g:I.Good F h k Y O){roots:List Int}(b:iG Y O roots≠0) :
 rA F h.Words h.au h.aN h.aX h.aW h.aV h.Next k.a8 k.aZ k.Fields k.Names k.a1 roots=some ((([],0,0,0,0,[],0,()),[],iG Y O roots,()),()):=by
 unfold rA
 rw[MT a g]
 dsimp only[di]
 rw[decide_eq_false b,hN,cond_true]
end
end Go.Proofs.YteeliipnilghaaaGreat
namespace Go.Proofs.YteeliipnilghaaaGreat
open I
def kj(met:List Int)(a:Int):Int×List Int:=if a=0 then(0,met)else match pos met a with
 |some i=>((i:Int)+1,met)
 |none=>((met.length:Int)+1,met++[a])
def jV:List Int->List Int->List Int->List Int×List Int
 |[],met,out=>(met,out)
 |a::r,met,out=>jV r (kj met a).2 (out++[(kj met a).1])
def hT:List (Bool×Int)->List Int->List Int->List Int×List Int
 |[],met,out=>(met,out)
 |(true,v)::r,met,out=>hT r (kj met v).2 (out++[(kj met v).1])
 |(false,v)::r,met,out=>hT r met (out++[v])
def cells(k:aR)(W:List Int)(q:Nat):List (Bool×Int):=(dM (wd W (q+1)).toNat).map λ j=>(fQ k (wd W q) j,wd W (q+3+j))
def sp(k:aR)(W:List Int):Nat->Nat->List Int->List Int->List Int
 |0,_,_,out=>out
 |d+1,i,met,out=>match met[i]? with
  |some a=>sp k W d (i+1) (hT (cells k W a.toNat) met (out++[wd W a.toNat,wd W (a.toNat+1),wd W (a.toNat+2)])).1 (hT (cells k W a.toNat) met (out++[wd W a.toNat,wd W (a.toNat+1),wd W (a.toNat+2)])).2
  |none=>out
def jk(k:aR)(W roots:List Int):List Int:=sp k W 5001 0 (jV roots [] []).1 (jV roots [] []).2
theorem GA{S met:List Int}{a:Int}(h:Ord S met)(av:a=0\/a∈S):Ord S (kj met a).2:=by
 unfold kj;by_cases d:a=0
 ·rw[if_pos d];exact h
 ·rw[if_neg d]
  cases f:pos met a with
  |some i=>exact h
  |none=>
   have g:=X'.1 f
   refine⟨eQ.2 ⟨h.il,by simp,λ b af c hc e=>?_⟩,λ b af=>?_⟩
   ·cases dR.1 hc
    subst e
    exact g af
   ·rcases b_.1 af with af |af
    ·exact h.sub b af
    ·cases dR.1 af
     rcases av with av |av
     ·exact absurd av d
     ·exact av
theorem aG8{met:List Int}{a:Int}:met.length<=(kj met a).2.length:=by
 unfold kj;split
 ·exact cC _
 ·split
  ·exact cC _
  ·simp
theorem Kw{S:List Int}:∀ {l:List (Bool×Int)}{met out:List Int},Ord S met->(∀v,(true,v)∈l->v=0\/v∈S)->Ord S (hT l met out).1/\(hT l met out).2.length=out.length+l.length/\met.length<=(hT l met out).1.length
 |[],met,out,h,_=>⟨h,rfl,cC _⟩
 |(true,v)::r,met,out,h,b=>by
  have:=Kw (l:=r) (met:=(kj met v).2) (out:=out++[(kj met v).1]) (GA h (b v (by simp))) λ w c=>b w (dX _ c);have J:=aG8 (met:=met) (a:=v);refine⟨this.1,by rw[hT,this.2.1];simp;omega,by rw[hT];omega⟩
 |(false,v)::r,met,out,h,b=>by
  have:=Kw (l:=r) (met:=met) (out:=out++[v]) h λ w c=>b w (dX _ c);exact⟨this.1,by rw[hT,this.2.1];simp;omega,this.2.2⟩
theorem ZS{S:List Int}:∀ {l met out:List Int},Ord S met->(∀v∈l,v=0\/v∈S)->Ord S (jV l met out).1/\(jV l met out).2.length=out.length+l.length
 |[],met,out,h,_=>⟨h,rfl⟩
 |v::r,met,out,h,a=>by
  have:=ZS (l:=r) (met:=(kj met v).2) (out:=out++[(kj met v).1]) (GA h (a v (by simp))) λ w b=>a w (dX _ b);exact⟨this.1,by rw[jV,this.2];simp;omega⟩
theorem akC{k:aR}{W S:List Int}(hc:∀a∈S,∀v,(true,v)∈cells k W a.toNat->v=0\/v∈S)(b:∀a∈S,(wd W (a.toNat+1)).toNat<=500):∀ {d i:Nat}{met out:List Int},Ord S met->(sp k W d i met out).length<=out.length+503*d
 |0,i,met,out,_=>cC _
 |d+1,i,met,out,h=>by
  rw[sp];cases f:met[i]? with
  |none=>dsimp only;omega
  |some a=>
   dsimp only
   have c:=h.sub a (bE f)
   have e:=Kw (out:=out++[wd W a.toNat,wd W (a.toNat+1),wd W (a.toNat+2)]) h (hc a c)
   have J:=akC hc b (d:=d) (i:=i+1) (out:=(hT (cells k W a.toNat) met (out++[wd W a.toNat,wd W (a.toNat+1),wd W (a.toNat+2)])).2) e.1
   have ap:(cells k W a.toNat).length<=500:=by unfold cells;rw[fW,iq];exact b a c
   have g:=e.2.1
   simp only[dJ,de,fT]at g
   omega
section
variable{T:Int->Int}{S:List Int}
structure Ek (T:Int->Int) (S:List Int):Prop where
 zero:T 0=0
 f':∀v∈S,v≠0 ->T v≠0
 inj:∀v∈S,∀w∈S,v≠0 ->w≠0 ->T v=T w->v=w
 KJ:∀v∈S,v≠0
theorem ajp(c:Ek T S):∀ {met:List Int}{v:Int},(∀a∈met,a∈S)->v∈S->pos (met.map T) (T v)=pos met v
 |[],v,_,_=>rfl
 |b::r,v,f,d=>by
  have af:=f b iD;rw[eu,pos,pos,ajp c (λ a g=>f a (dX _ g)) d];by_cases e:b=v
  ·rw[if_pos e,if_pos (by rw[e])]
  ·rw[if_neg e,if_neg (λ h=>e (c.inj b af v d (c.KJ b af) (c.KJ v d) h))]
theorem akG(c:Ek T S){met:List Int}{v:Int}(e:∀a∈met,a∈S)(f:v=0\/v∈S):kj (met.map T) (T v)=((kj met v).1,(kj met v).2.map T):=by
 unfold kj;by_cases b:v=0
 ·subst b
  rw[c.zero,if_pos rfl,if_pos rfl]
 ·have d:v∈S:=f.resolve_left b
  rw[if_neg (c.f' v d b),if_neg b,ajp c e d]
  cases pos met v with
  |some i=>rfl
  |none=>simp
theorem akE(a:Ek T S):∀ {l met out:List Int},Ord S met->(∀v∈l,v=0\/v∈S)->jV (l.map T) (met.map T) out=((jV l met out).1.map T,(jV l met out).2)
 |[],met,out,_,_=>rfl
 |v::r,met,out,h,b=>by
  have c:=b v iD;rw[eu,jV,jV,akG a h.sub c];exact akE a (GA h c) λ w d=>b w (dX _ d)
theorem ZT(b:Ek T S):∀ {l:List (Bool×Int)}{met out:List Int},Ord S met->(∀v,(true,v)∈l->v=0\/v∈S)->hT (l.map λ p=>(p.1,if p.1=true then T p.2 else p.2)) (met.map T) out=((hT l met out).1.map T,(hT l met out).2)
 |[],met,out,_,_=>rfl
 |(true,v)::r,met,out,h,a=>by
  have d:=a v iD;rw[eu];show hT ((true,T v)::_) _ _=_
  rw[hT,hT,akG b h.sub d];exact ZT b (GA h d) λ w c=>a w (dX _ c)
 |(false,v)::r,met,out,h,a=>by
  rw[eu];show hT ((false,v)::_) _ _=_
  rw[hT,hT];exact ZT b h λ w c=>a w (dX _ c)
theorem akD{k:aR}{W b:List Int}(e:Ek T S)(hc:∀a∈S,∀v,(true,v)∈cells k W a.toNat->v=0\/v∈S)
 (ap:∀a∈S,wd b (T a).toNat=wd W a.toNat/\wd b ((T a).toNat+1)=wd W (a.toNat+1)/\wd b ((T a).toNat+2)=wd W (a.toNat+2)/\cells k b (T a).toNat=(cells k W a.toNat).map λ p=>(p.1,if p.1=true then T p.2 else p.2)) :
 ∀ {d i:Nat}{met out:List Int},Ord S met->sp k b d i (met.map T) out=sp k W d i met out
 |0,i,met,out,_=>rfl
 |d+1,i,met,out,h=>by
  rw[sp,sp,jb];cases f:met[i]? with
  |none=>rfl
  |some a=>
   have c:=h.sub a (bE f)
   obtain⟨g,j,ak,aS⟩:=ap a c
   dsimp only[fm]
   rw[g,j,ak,aS,ZT e h (hc a c)]
   exact akD e hc ap (Kw h (hc a c)).1
end
end Go.Proofs.YteeliipnilghaaaGreat
namespace Go.Proofs.YteeliipnilghaaaGreat
open I
section
variable{F:Nat}{h x:aU}{k:aR}{Y O L:List Int}
theorem aCi{W:List Int}{q:Nat}{v:Int}(a:(true,v)∈cells k W q):∃i,i<(wd W (q+1)).toNat/\fQ k (wd W q) i=true/\v=wd W (q+3+i):=by
 unfold cells at a;obtain⟨i,hi,e⟩:=hB.1 a;exact⟨i,kS.1 hi,(Prod.mk.inj e).1,(Prod.mk.inj e).2.symm⟩
theorem SY{W:List Int}{a v:Int}(b:(true,v)∈cells k W a.toNat):v∈fy k W a:=by
 obtain⟨i,c,J,rfl⟩:=aCi b;exact hB.2 ⟨((a.toNat+3+i:Nat):Int),wO.2 ⟨i,c,J,rfl⟩,by rw[c6]⟩
theorem fA.inj(g:I.Good F h k Y O)(c:fA h k L x)(aj:∀a∈L,a∈Y++O):Ek (tn h L) L:=by
 have d:∀a∈L,a≠0:=λ a f=>by have:=(g.l.fit g.s a (aj a f)).1;omega
 obtain⟨⟨⟨m,n⟩,o,p⟩,q,⟨r,s⟩,⟨oX,t⟩,u⟩:=id g.s;exact⟨GF,λ v b i e=>by have:=(P_ (h:=h) c.il i b).2;omega,λ v b w j l J e=>aHp c.il l J b j e,d⟩
theorem fA.cells(g:I.Good F h k Y O)(c:fA h k L x)(aj:∀a∈L,a∈Y++O):∀a∈L,wd x.Words (tn h L a).toNat=wd h.Words a.toNat/\wd x.Words ((tn h L a).toNat+1)=wd h.Words (a.toNat+1)/\wd x.Words ((tn h L a).toNat+2)=wd h.Words (a.toNat+2)/\Go.Proofs.YteeliipnilghaaaGreat.cells k x.Words (tn h L a).toNat=(Go.Proofs.YteeliipnilghaaaGreat.cells k h.Words a.toNat).map λ p=>(p.1,if p.1=true then tn h L p.2 else p.2):=λ a d=>by
 obtain⟨j,aA,rfl⟩:=iK d;have f:L[j]≠0:=by have:=(g.l.fit g.s _ (aj _ d)).1;omega
 have b:=c.lo aA (i:=0) (by omega);have e:=c.lo aA (i:=1) (by omega);have ak:=c.lo aA (i:=2) (by omega);rw[ky,ky]at b;rw[KP c.il aA f,c6];refine⟨b,e,ak,?_⟩;unfold Go.Proofs.YteeliipnilghaaaGreat.cells;rw[b,e,List.map_map];refine List.map_congr_left λ i hi=>?_;have hi:=kS.1 hi;rw[c.hi aA hi];rfl
theorem fA.shape(g:I.Good F h k Y O)(c:fA h k L x)(aj:∀a∈L,a∈Y++O){roots:List Int}(b:∀v∈roots,v=0\/v∈L):jk k x.Words (roots.map (tn h L))=jk k h.Words roots:=by
 have d:=c.inj g aj;have e:=akE d (l:=roots) (met:=[]) (out:=[]) Ord.nil b;rw[hS]at e;unfold jk;rw[e];exact akD d (λ a f v i=>c.cl a f v (SY i)) (c.cells g aj) (ZS Ord.nil b).1
end
end Go.Proofs.YteeliipnilghaaaGreat
namespace Go.Proofs.YteeliipnilghaaaGreat
open I
theorem aCP{k:aR}{W:List Int}{to q:Nat}{L:List Int}(h:I.eO k W to q L):news W q L=L/\cf W q L=to:=by
 induction h with
 |nil=>exact⟨rfl,rfl⟩
 | @cons q r b J ap c a=>
   have aj:sz W (q:Int)=3+(wd W (q+1)).toNat:=by unfold sz;rw[c6]
   rw[news,cf,aj,show q+(3+(wd W (q+1)).toNat)=q+3+(wd W (q+1)).toNat by omega,a.1,a.2]
   exact⟨rfl,rfl⟩
section
variable{F:Nat}{h:aU}{k:aR}{Y O:List Int}
theorem aIb{W:List Int}{to q:Nat}{L:List Int}(h:I.eO k W to q L):(∀a∈L,(q:Int)<=a)/\L.Nodup:=by
 induction h with
 |nil=>exact⟨λ a av=>by simp at av,lZ⟩
 | @cons q r d J ap e b=>
   refine⟨λ a av=>?_,im.2 ⟨λ c=>?_,b.2⟩⟩
   ·rcases cR.1 av with rfl |av
    ·exact k2 _
    ·have:=b.1 a av;omega
   ·have:=b.1 _ c;omega
end
end Go.Proofs.YteeliipnilghaaaGreat
namespace Go.Proofs.YteeliipnilghaaaGreat
open I
section
variable{F:Nat}{h x:aU}{k:aR}{Y O L roots:List Int}
theorem ZL{W:List Int}{a v:Int}:v∈fy k W a↔(true,v)∈cells k W a.toNat:=by
 refine⟨λ h=>?_,SY⟩;obtain⟨w,b,rfl⟩:=hB.1 h;obtain⟨i,c,J,rfl⟩:=wO.1 b;unfold cells;exact hB.2 ⟨i,kS.2 c,by rw[J,c6]⟩
theorem fA.fy(g:I.Good F h k Y O)(c:fA h k L x)(aj:∀a∈L,a∈Y++O){a:Int}(f:a∈L){v:Int}:v∈Go.Proofs.YteeliipnilghaaaGreat.fy k x.Words (tn h L a)↔ ∃u∈Go.Proofs.YteeliipnilghaaaGreat.fy k h.Words a,v=tn h L u:=by
 rw[ZL,(c.cells g aj a f).2.2.2,hB];constructor
 ·rintro⟨⟨b,u⟩,d,e⟩
  simp only[ca]at e
  obtain⟨rfl,e⟩:=e
  rw[if_pos rfl]at e
  exact⟨u,ZL.2 d,e.symm⟩
 ·rintro⟨u,d,rfl⟩
  exact⟨(true,u),ZL.1 d,by rw[if_pos rfl]⟩
theorem fA.sz(g:I.Good F h k Y O)(c:fA h k L x)(aj:∀a∈L,a∈Y++O){a:Int}(b:a∈L):Go.Proofs.YteeliipnilghaaaGreat.sz x.Words (tn h L a)=Go.Proofs.YteeliipnilghaaaGreat.sz h.Words a:=by
 unfold Go.Proofs.YteeliipnilghaaaGreat.sz;rw[(c.cells g aj a b).2.1]
theorem aGg(c:fA h k L x)(e:∀v∈roots,v=0\/v∈L):∀a∈h9 k h Y O roots,a∈L:=
 PC ⟨λ v b d=>(e v b).resolve_left d,λ a f v b d=>(c.cl a f v b).resolve_left d⟩
theorem fA.akl(g:I.Good F h k Y O)(c:fA h k L x)(aj:∀a∈L,a∈Y++O)(b:∀v∈roots,v=0\/v∈L):∀v∈roots.map (tn h L),v=0\/v∈[]++news h.Words (h.au+1).toNat L:=λ v d=>by
 obtain⟨w,f,rfl⟩:=hB.1 d;rcases b w f with e |e
 ·rw[e,GF];exact .inl rfl
 ·exact .inr (P_ c.il ((c.inj g aj).KJ w e) e).1
theorem aGf(g:I.Good F h k Y O)(c:fA h k L x)(aj:∀a∈L,a∈Y++O)(l:∀v∈roots,v=0\/v∈L){b:Int} :
 b∈h9 k x [] (news h.Words (h.au+1).toNat L) (roots.map (tn h L))↔ ∃a∈h9 k h Y O roots,b=tn h L a:=by
 have o:=c.U6 g aj
 have hi:=c.inj g aj
 have p:∀a∈h9 k h Y O roots,a∈L:=aGg c l
 have m:LR k h.Words roots (·∈h9 k h Y O roots):=PB g λ v d=>(l v d).imp id (aj v)
 have n:LR k x.Words (roots.map (tn h L)) (·∈h9 k x [] (news h.Words (h.au+1).toNat L) (roots.map (tn h L))):=PB o (c.akl g aj l)
 constructor
 ·refine PC (P:=λ b=>∃a∈h9 k h Y O roots,b=tn h L a) ⟨λ v d f=>?_,λ b af v d f=>?_⟩ b
  ·obtain⟨w,q,rfl⟩:=hB.1 d
   exact⟨w,m.rt w q λ e=>f (by rw[e,GF]),rfl⟩
  ·obtain⟨a,i,rfl⟩:=af
   obtain⟨u,r,rfl⟩:=(c.fy g aj (p a i)).1 d
   exact⟨u,m.gG a i u r λ e=>f (by rw[e,GF]),rfl⟩
 ·rintro⟨a,i,rfl⟩
  refine(PC (P:=λ a=>a∈L/\tn h L a∈h9 k x [] (news h.Words (h.au+1).toNat L) (roots.map (tn h L))) ⟨λ v d f=>?_,λ a i v d f=>?_⟩ a i).2
  ·have j:=(l v d).resolve_left f
   exact⟨j,n.rt _ (jM d) (hi.f' v j f)⟩
  ·have j:=(c.cl a i.1 v d).resolve_left f
   exact⟨j,n.gG _ i.2 _ ((c.fy g aj i.1).2 ⟨v,d,rfl⟩) (hi.f' v j f)⟩
theorem aAp(g:I.Good F h k Y O)(d:∀a∈roots,a=0\/a∈Y++O)(c:fA h k (kept k h Y O roots) x) :
 kept k x [] (news h.Words (h.au+1).toNat (kept k h Y O roots)) (roots.map (tn h (kept k h Y O roots)))=news h.Words (h.au+1).toNat (kept k h Y O roots):=by
 have aj:=(Ob g d).sub
 have hi:=c.inj g aj
 have i:=WR g d
 have key:∀b∈news h.Words (h.au+1).toNat (kept k h Y O roots),b∈h9 k x [] (news h.Words (h.au+1).toNat (kept k h Y O roots)) (roots.map (tn h (kept k h Y O roots))):=λ b af=>by
  obtain⟨j,aA,e⟩:=XM af;have f:=hh aA;refine(aGf g c aj i.2).2 ⟨_,(FI (zI g d).sub).1 f,?_⟩;rw[KP c.il aA (hi.KJ _ f),e]
 unfold kept tO
 rw[List.filter_nil,hp]
 exact List.filter_eq_self.2 λ b af=>decide_eq_true (key b af)
theorem aHF{N:List Int}{v:Int}:gP N N v=v:=by
 unfold gP;by_cases a:v=0
 ·rw[if_pos a]
 ·rw[if_neg a]
  cases b:pos N v with
  |none=>rfl
  |some j=>dsimp only;rw[Ya b];rfl
theorem aG3{N:List Int}(b:I.Good F x k [] N)(c:x.aX=1)(d:x.aV=[]):fA x k N x/\ ∀v,tn x N v=v:=by
 obtain⟨⟨⟨q,r⟩,s,u⟩,l,⟨w,y⟩,⟨oX,z⟩,A⟩:=id b.s;unfold okB at l;obtain⟨f,e⟩:=aCP b.l.o;have g:∀v,tn x N v=v:=λ v=>by unfold tn;rw[f];exact aHF
 refine⟨⟨(aIb b.l.o).2,λ a m v n=>?_,rfl,rfl,rfl,c,by rw[e];omega,d,rfl,by rw[e];omega,λ j aA i hi=>?_,λ p o hc=>?_⟩,g⟩
 ·have:=Gv b (a:=a) (by simpa using m) v n
  simpa using this
 ·have ak:cf x.Words (x.au+1).toNat (N.take j)=N[j].toNat:=by
   have:=F1 (W:=x.Words) (t:=(x.au+1).toNat) aA;rw[f,aJ aA]at this;have:=ei this;omega
  have aS:∀v,gP N (news x.Words (x.au+1).toNat N) v=v:=g;rw[ak];unfold val;rw[aS,ite_self]
 ·rw[e]at hc
  exact b.ok.fr p o (by omega)
theorem fA.iG(g:I.Good F h k Y O)(c:fA h k L x)(aj:∀a∈L,a∈Y++O)(i:roots.length<=1000)(b:∀v∈roots,v=0\/v∈L):I.iG [] (news h.Words (h.au+1).toNat L) (roots.map (tn h L))=0:=by
 unfold I.iG;rw[if_neg (by rw[fW];omega),if_neg];intro d;obtain⟨v,f,af⟩:=h2.1 d;unfold s8 at af;rcases c.akl g aj b v f with e |e
 ·rw[decide_eq_true e]at af;cases af
 ·rw[decide_eq_true e,dC,mF]at af;cases af
theorem av9(a:10000<F)(g:I.Good F h k Y O)(b:I.iG Y O roots=0) :
 yw F h.Words h.au h.aN h.aX h.aW h.aV h.Next k.a8 k.aZ k.Fields k.Names k.a1 roots=some ((((fS h.Words [] (kept k h Y O roots):Nat):Int),0,()),()):=by
 obtain⟨f,c⟩:=ZH b
 obtain⟨A,_,_,_,d,e,_⟩:=ah_ a g (roots:=roots) (by omega) c
 unfold yw
 rw[MT a g]
 dsimp only[di]
 rw[b,decide_eq_true (rfl:(0 :Int)=0),dC,cond_false,aDK a (by omega),ae]
 unfold T9
 dsimp only
 rw[aHT a (by omega),ae]
 dsimp only
 rw[d,ae,ae]
 dsimp only
 rw[e,ae,ae]
end
end Go.Proofs.YteeliipnilghaaaGreat
namespace Go.Proofs.YteeliipnilghaaaGreat
open I
section
variable{F:Nat}{h:aU}{k:aR}{Y O:List Int}{W nt:List Int}{y ol yt ot nx:Int}
theorem HP{α:Type}{l m:List α}(a:l.length<=10000000)(b:m.length<=3):bF 8 l m=some (l++m):=by unfold bF;rw[if_pos (by omega)]
theorem akF(c:10000<F){met:List Int}{a:Int}(d:met.length<=5000):xP F a met=some (((kj met a).1,()),((),()),(kj met a).2,()):=by
 unfold xP kj;by_cases b:a=0
 ·rw[decide_eq_true b,cond_true,if_pos b]
 ·rw[decide_eq_false b,cond_false,if_neg b,aDI d c,ae]
  cases e:pos met a with
  |some i=>
   have hi:=(aO.1 (Ya e)).1
   have f:i<=100000:=by omega
   dsimp only
   rw[decide_eq_false (by omega),cond_false,kM f]
   rfl
  |none=>
   dsimp only
   have g:(((met++[a]).length:Nat):Int)-1=((met.length:Nat):Int):=by rw[dJ,jX];omega
   have j:met.length<=100000:=by omega
   have l:I.ax ((met.length:Nat):Int)=((met.length:Nat):Int):=cT (by omega) (by omega)
   rw[decide_eq_true (by omega),cond_true,HP (by omega) (by simp),ae,g,l,kM j]
   rfl
theorem aG7{S l:List Int}(e:10000<F)(n:S.length<=5000)(o:l.length<=5000)(g:∀v∈l,v=0\/v∈S):∀(d i f:Nat)(met out:List Int),i+d=l.length->d<f->Ord S met->out.length=i ->
 AY F f l (i:Int) W y ol yt ot nt nx k.a8 k.aZ k.Fields k.Names k.a1 met out=some (((),(),(),(),((),()),()),(W,y,ol,yt,ot,nt,nx,()),(k.a8,k.aZ,k.Fields,k.Names,k.a1,()),((),()),(jV (l.drop i) met out).1,(jV (l.drop i) met out).2,()):=by
 intro d
 induction d with
 |zero=>
  intro i f met out h ad a c
  obtain⟨f,rfl⟩:∃b,f=b+1:=⟨f-1,by omega⟩
  have:i=l.length:=by omega
  subst this
  rw[AY,bJ,cond_false,iL]
  rfl
 |succ d j=>
  intro i f met out h ad a c
  obtain⟨f,rfl⟩:∃b,f=b+1:=⟨f-1,by omega⟩
  have hi:i<l.length:=by omega
  have m:i<=100000:=by omega
  have p:=a.len
  rw[AY,bK hi,cond_true,bu (aJ hi),ae,akF e (by omega),ae,HP (by omega) (by simp),ae,kM m]
  dsimp only
  rw[j (i+1) f _ _ (by omega) (by omega) (GA a (g _ (hh hi))) (by rw[dJ,c];rfl),cZ hi,jV]
theorem aG9(r:10000<F)(s:gi k){S:List Int}(C:S.length<=5000){q len:Nat}{m:Int}(D:q+3+len<=W.length)(E:W.length<=5000)(a:wd W (q+1)=(len:Int))(t:gx k (wd W q)=true)(l:isLen k (wd W q) (wd W (q+1))=true)
 (hc:∀v,(true,v)∈cells k W q->v=0\/v∈S):∀(d i f:Nat)(met out:List Int),i+d=len->d<f->Ord S met->out.length+d<=5000000 ->
 xQ F f m (q:Int) (i:Int) W y ol yt ot nt nx k.a8 k.aZ k.Fields k.Names k.a1 met out=some (((),(),(),(),((),()),m,()),(W,y,ol,yt,ot,nt,nx,()),(k.a8,k.aZ,k.Fields,k.Names,k.a1,()),((),()),(hT ((cells k W q).drop i) met out).1,(hT ((cells k W q).drop i) met out).2,()):=by
 intro d
 have n:q<=100000:=by omega
 have o:q+1<W.length:=by omega
 have G:(cells k W q).length=len:=by unfold cells;rw[fW,iq,a,c6]
 induction d with
 |zero=>
  intro i f met out h ad c u
  obtain⟨f,rfl⟩:∃e,f=e+1:=⟨f-1,by omega⟩
  have:i=len:=by omega
  subst this
  rw[xQ,kM n,fP o,ae,a,bJ,cond_false,List.drop_eq_nil_of_le (by omega)]
  rfl
 |succ d p=>
  intro i f met out h ad c u
  obtain⟨f,rfl⟩:∃e,f=e+1:=⟨f-1,by omega⟩
  have hi:i<len:=by omega
  have w:i<=100000:=by omega
  have g:q+3<=100000:=by omega
  have j:q+3+i<=100000:=by omega
  have x:q+3+i<W.length:=by omega
  have z:q<W.length:=by omega
  have H:=c.len
  have aL:(cells k W q).drop i=(fQ k (wd W q) i,wd W (q+3+i))::(cells k W q).drop (i+1):=by
   unfold cells;rw[a,c6,cZ (by simpa using hi),kr,List.getElem_range]
  have A:s5 (aR.mk k.a8 k.aZ k.Fields k.Names k.a1) (wd W q) (i:Int)=some (fQ k (wd W q) i):=ajY s t (by rw[a]at l;exact l) (by omega)
  rw[xQ,kM n,fP o,ae,a,bK hi,cond_true,show I.ax ((q:Int)+3)=((q+3 :Nat):Int) from Dv (b:=3) g,Dv j,fP x,ae,fP z,ae,A,ae,kM w,aL]
  cases B:fQ k (wd W q) i with
  |true=>
   rw[cond_true,akF r (by omega),ae,HP (by omega) (by simp),ae]
   dsimp only
   rw[p (i+1) f _ _ (by omega) (by omega) (GA c (hc _ (by rw[<-B];exact mA (i:=i) (by rw[aL];exact iD)))) (by rw[dJ,jX];omega),hT]
  |false=>
   rw[cond_false,HP (by omega) (by simp),ae]
   rw[p (i+1) f _ _ (by omega) (by omega) c (by rw[dJ,jX];omega),hT]
theorem aG6(t:10000<F)(u:gi k){S:List Int}(w:S.length<=5000)(x:W.length<=5000)
 (z:∀a∈S,1<=a/\a.toNat+3+(wd W (a.toNat+1)).toNat<=W.length/\gx k (wd W a.toNat)=true/\isLen k (wd W a.toNat) (wd W (a.toNat+1))=true/\ ∀v,(true,v)∈cells k W a.toNat->v=0\/v∈S) :
 ∀(d i f:Nat)(met out:List Int),S.length<i+d->d<f->i<=met.length->Ord S met->out.length<=1000+503*i ->
 ∃g,sS F f (i:Int) W y ol yt ot nt nx k.a8 k.aZ k.Fields k.Names k.a1 met out=some (((),()),(W,y,ol,yt,ot,nt,nx,()),(k.a8,k.aZ,k.Fields,k.Names,k.a1,()),((),()),g,sp k W d i met out,()):=by
 intro d
 induction d with
 |zero=>
  intro i f met out h ad hi e
  have:=e.len
  omega
 |succ d A=>
  intro i f met out h ad hi e P
  obtain⟨f,rfl⟩:∃B,f=B+1:=⟨f-1,by omega⟩
  have Q:=e.len
  rcases gg i met.length with cq |cq
  ·have C:i<=100000:=by omega
   have s:met[i]? =some met[i]:=aJ cq
   obtain⟨R,J,ap,j,n⟩:=z _ (e.sub _ (hh cq))
   obtain⟨q,o⟩:∃q:Nat,met[i]=(q:Int):=⟨met[i].toNat,by omega⟩
   rw[o,c6]at J ap j n
   have T:=(mJ.1 j).1
   obtain⟨len,c⟩:∃len:Nat,wd W (q+1)=(len:Int):=⟨(wd W (q+1)).toNat,by omega⟩
   have D:q<=100000:=by omega
   have E:q+2<=100000:=by omega
   have G:q<W.length:=by omega
   have H:q+1<W.length:=by omega
   have K:q+2<W.length:=by omega
   have L:q+3+len<=W.length:=by omega
   have M:len<=500:=by omega
   have N:(cells k W q).length=len:=by unfold cells;rw[fW,iq,c,c6]
   have bN:=aG9 (F:=F) (y:=y) (ol:=ol) (yt:=yt) (ot:=ot) (nt:=nt) (nx:=nx) (m:=(i:Int)) t u w L x c ap j n len 0 F met (out++[wd W q,wd W (q+1),wd W (q+2)]) (by omega) (by omega) e (by rw[dJ];simp only[de,fT];omega)
   rw[gS]at bN
   have p:xQ F F (i:Int) (q:Int) 0 W y ol yt ot nt nx k.a8 k.aZ k.Fields k.Names k.a1 met (out++[wd W q,wd W (q+1),wd W (q+2)])=_:=bN
   have r:=Kw (l:=cells k W q) (out:=out++[wd W q,wd W (q+1),wd W (q+2)]) e n
   obtain⟨g,dq⟩:=A (i+1) f _ (hT (cells k W q) met (out++[wd W q,wd W (q+1),wd W (q+2)])).2 (by omega) (by omega) (by have:=r.2.2;omega) r.1 (by
    rw[r.2.1,N,dJ];simp only[de,fT];omega)
   refine⟨g,?_⟩
   rw[sS,bK cq,cond_true,bu s,ae,o,fP G,ae,kM D,fP H,ae,show I.ax ((q:Int)+2)=((q+2 :Nat):Int) from Dv (b:=2) E,fP K,ae,HP (by omega) (by simp),ae,p,ae]
   dsimp only
   rw[kM C,dq,sp,s]
   dsimp only
   rw[o,c6]
  ·have:i=met.length:=by omega
   subst this
   refine⟨met,?_⟩
   rw[sS,bJ,cond_false,sp,gH (cC _)]
theorem akH(e:10000<F)(g:I.Good F h k Y O){roots:List Int}(o:roots.length<=1000)(f:∀v∈roots,v=0\/v∈Y++O) :
 xO F h.Words h.au h.aN h.aX h.aW h.aV h.Next k.a8 k.aZ k.Fields k.Names k.a1 roots=some ((jk k h.Words roots,()),())/\(jk k h.Words roots).length<=3000000:=by
 have p:=g.s.fz
 have j:(Y++O).length<=5000:=by
  have:Y.length+O.length<=5000:=(g.l.qO g.jk g.s).p4;rw[dJ];exact this
 have m:∀a∈Y++O,∀v,(true,v)∈cells k h.Words a.toNat->v=0\/v∈Y++O:=λ a b v q=>Gv g b v (SY q)
 have n:=aG7 (F:=F) (W:=h.Words) (y:=h.au) (ol:=h.aN) (yt:=h.aX) (ot:=h.aW) (nt:=h.aV) (nx:=h.Next) (k:=k) e j (by omega) f roots.length 0 F [] [] (by omega) (by omega) Ord.nil rfl
 rw[gS]at n
 have r:AY F F roots 0 h.Words h.au h.aN h.aX h.aW h.aV h.Next k.a8 k.aZ k.Fields k.Names k.a1 [] []=_:=n
 have c:=ZS (S:=Y++O) (l:=roots) (met:=[]) (out:=[]) Ord.nil f
 have z:(jV roots [] []).2.length<=1000:=by rw[c.2];simpa using o
 obtain⟨A,ak⟩:=aG6 (F:=F) (W:=h.Words) (y:=h.au) (ol:=h.aN) (yt:=h.aX) (ot:=h.aW) (nt:=h.aV) (nx:=h.Next) (k:=k) e g.jk j (by omega) (λ a b=>by
  obtain⟨s,t,_⟩:=g.l.fit g.s a b;obtain⟨u,w⟩:=g.l.Dp a b;exact⟨s,t,u,w,m a b⟩) 5001 0 F (jV roots [] []).1 (jV roots [] []).2 (by omega) (by omega) (gK _) c.1 (by omega)
 have x:sS F F 0 h.Words h.au h.aN h.aX h.aW h.aV h.Next k.a8 k.aZ k.Fields k.Names k.a1 (jV roots [] []).1 (jV roots [] []).2=_:=ak
 refine⟨?_,?_⟩
 ·unfold xO
  rw[r,ae]
  dsimp only
  rw[x,ae]
  rfl
 ·have:=akC (k:=k) (W:=h.Words) (S:=Y++O) m (λ a b=>by
   have:=(mJ.1 (g.l.Dp a b).2).1;omega) (d:=5001) (i:=0) (out:=(jV roots [] []).2) c.1
  unfold jk;omega
end
end Go.Proofs.YteeliipnilghaaaGreat
