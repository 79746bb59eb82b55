/- Part 7 of the proof that is ended in the last text: small logic, what the functions compute, walks, plain laws. -/
import Derived.Test.YteeliipnilghaaaGreatGb6
import Derived.KernelRfl
open Bool renaming and_eq_false_iff->ni,and_eq_true->cb,and_self->mG,eq_false_iff->gQ,eq_iff_iff->iT,false_eq_true->hX,false_ne_true->lc,false_or->iQ,not_eq_true'->ha,not_false->ja,not_true->eb,or_eq_false_iff->iF,or_eq_true->ia,true_and->kz
open Classical renaming byContradiction->lL
open Int renaming toNat_natCast->bV
open List renaming any_eq_false->je,any_eq_true->iY,append_assoc->g_,append_nil->hR,cons_append->iE,drop_eq_getElem_cons->de,drop_length->iL,drop_zero->hB,eq_nil_of_length_eq_zero->hL,exists_of_findSome?_eq_some->eN,ext_getElem?->lu,findSome?_cons->jc,findSome?_eq_none_iff->gS,flatMap_cons->ig,flatten_cons->mF,foldl_cons->jr,getElem?_append_left->eA,getElem?_append_right->fq,getElem?_drop->i_,getElem?_eq_getElem->aK,getElem?_eq_none->gE,getElem?_eq_some_iff->aP,getElem?_map->jw,getElem?_range->me,getElem?_take->hG,getElem_map->la,getElem_mem->hg,getElem_of_mem->iz,length_append->dR,length_cons->dL,length_drop->ks,length_erase_of_mem->mq,length_map->gC,length_nil->gR,length_range->iZ,length_replicate->kf,length_set->kc,length_singleton->kg,length_take->fZ,map_append->jH,map_congr_left->ly,map_cons->eB,map_map->nr,map_singleton->lT,mem_append->cj,mem_append_left->gi,mem_append_right->gI,mem_cons->cI,mem_cons_of_mem->dZ,mem_cons_self->il,mem_erase_of_ne->nq,mem_flatMap->hM,mem_iff_getElem->jf,mem_iff_getElem?->nk,mem_map->hY,mem_map_of_mem->j5,mem_of_getElem?->bG,mem_of_mem_drop->l7,mem_range->lB,mem_singleton->dT,nil_append->kK,nodup_append->fA,nodup_cons->ie,nodup_iff_pairwise_ne->lJ,nodup_nil->mA,pairwise_iff_getElem->jl,perm_ext_iff_of_nodup->k7,range->ed,replicate->fV,sum_cons->mH,take->mV,take_add_one->lK,take_append_drop->jv,take_append_of_le_length->kh,take_length->jI,take_of_length_le->h0,take_succ_eq_append_getElem->lb,take_zero->mv
open Nat renaming add_zero->lf,beq->cy,eq_of_beq_eq_true->bd,eq_zero_or_pos->lS,le_mul_of_pos_right->mC,le_refl->cT,le_trans->hv,lt_or_ge->gL,min_eq_left->mj,sub_self->mm,zero_add->jM,zero_le->gT
open Option renaming bind->ew,bind_some->ae,getD_none->jL,isSome_none->mo,map_eq_some_iff->cz,map_none->jq,map_some->fU,some.inj->eJ,some.injEq->aH
open Prod renaming fst->lz,mk.injEq->cF
namespace I
def wd(W:List Int)(i:Nat):Int:=(W[i]?).getD 0
def iC(k:aO)(t:Int):List Field:=(k.Fields[(t-3).toNat]?).getD []
def gJ(k:aO)(t:Int):Bool:=decide (1<=t)&&decide (t<=2+k.a6.length)
def isLen(k:aO)(t n:Int):Bool:=decide (0<=n)&&decide (n<=500)&&(decide (t<3)||decide (n=(iC k t).length))
def ej(k:aO)(t:Int)(j:Nat):Bool:=decide (t=2)||(decide (3<=t)&&((iC k t)[j]?.map λ f=>!decide (f.Kind.Kind=1)).getD false)
structure gk (k:aO):Prop where
 cl:k.a6.length<=1000
 oc:k.Fields.length=k.a6.length
theorem e7{W:List Int}{i:Nat}(h:i<W.length):idx W (i:Int)=some (wd W i):=by
 rw[bw (aK h)];unfold wd;rw[aK h];rfl
theorem pG{W:List Int}{a:Int}{i:Nat}(e:a=(i:Int))(h:i<W.length):idx W a=some (wd W i):=by rw[e];exact e7 h
theorem aBH{k:aO}{t:Int}:gJ k t=true↔1<=t/\t<=2+k.a6.length:=by simp[gJ]
theorem kY{k:aO}{t n:Int}:isLen k t n=true↔(0<=n/\n<=500)/\(t<3\/n=(iC k t).length):=by simp[isLen]
section
variable{k:aO}
theorem ama(h:gk k)(t:Int):wE ⟨k⟩ t=some (gJ k t):=by
 have hc:=h.cl;unfold wE py gJ;have e:ax (ax (3+(k.a6.length:Int))-1)=2+k.a6.length:=by rw[cQ (n:=3+(k.a6.length:Int)) (by omega) (by omega),cQ (by omega) (by omega)];omega
 simp only[e,ae];by_cases a:t=1
 ·subst a;simp;omega
 by_cases J:t=2
 ·subst J;simp;omega
 rw[show((decide (t=1))||(decide (t=2)))=false by simp[a,J],cond_false,aH,iT];simp;omega
theorem QT(h:gk k){t:Int}(a:gJ k t=true)(b: ¬t<3):idx k.Fields (ax (t-3))=some (iC k t):=by
 obtain⟨c,J⟩:=aBH.1 a;have hc:=h.cl;have ad:=h.oc;rw[cQ (by omega) (by omega)];unfold idx iC;rw[if_pos (by omega)];have:(t-3).toNat<k.Fields.length:=by omega
 rw[aK this];rfl
theorem amb(h:gk k){t:Int}(b:gJ k t=true)(n:Int):wF ⟨k⟩ t n=some (isLen k t n):=by
 unfold wF py isLen;simp only[ae];cases ag:(decide (0<=n)&&decide (n<=500))with
 |false=>simp
 |true=>
  by_cases a:t<3
  ·simp[a]
  ·rw[QT h b a];simp[a]
theorem QG(h:gk k){t:Int}(d:gJ k t=true){n:Int}(e:isLen k t n=true){j:Nat}(aA:(j:Int)<n):qL ⟨k⟩ t (j:Int)=some (ej k t j):=by
 unfold qL ej;obtain⟨_,a⟩:=kY.1 e;by_cases J:t=2
 ·simp[J]
 by_cases b:t<3
 ·have: ¬3<=t:=by omega
  simp[J,this]
 ·have a:=a.resolve_left b
  have f:3<=t:=by omega
  have c:j<(iC k t).length:=by omega
  rw[QT h d b,ae,bw (aK c),aK c]
  simp[J,f]
inductive eQ (k:aO) (W:List Int) (to:Nat):Nat->List Int->Prop
 |nil:eQ k W to to []
 |cons {q:Nat} {r:List Int}:gJ k (wd W q)=true->isLen k (wd W q) (wd W (q+1))=true->q+3+(wd W (q+1)).toNat<=to->eQ k W to (q+3+(wd W (q+1)).toNat) r->eQ k W to q ((q:Int)::r)
theorem eQ.inv{W:List Int}{to q:Nat}{L:List Int}(h:eQ k W to q L)(d:q<to):∃r,L=(q:Int)::r/\gJ k (wd W q)=true/\isLen k (wd W q) (wd W (q+1))=true/\q+3+(wd W (q+1)).toNat<=to/\eQ k W to (q+3+(wd W (q+1)).toNat) r:=by
 cases h with
 |nil=>omega
 |cons a J b c=>exact⟨_,rfl,a,J,b,c⟩
theorem aJj(v:bj)(aj:gk v.S.K){to:Nat}(z:to<=v.H.Words.length)(A:v.H.Words.length<=5000):∀(f q:Nat)(acc:List Int)(m:List (Int×Bool)),q<=to->to-q<f->acc.length+(to-q)<=5000 ->(∀p∈m,p.1<(q:Int)) ->
 (∃L,eQ v.S.K v.H.Words to q L/\px (to:Int) v f acc m (q:Int)=some (.go (acc++L,m++L.map λ a=>(a,true))))\/
 ((∀L,¬eQ v.S.K v.H.Words to q L)/\ ∃e9,px (to:Int) v f acc m (q:Int)=some (.out ([],false,{ v with dP:=e9 }))):=by
 intro f
 induction f with
 |zero=>intro q acc m _ h;omega
 |succ f d=>
  intro q acc m B ad C g
  rw[px]
  by_cases c:q<to
  case neg=>
   have:q=to:=by omega
   subst this
   refine .inl ⟨[],.nil,?_⟩
   rw[bL];simp
  rw[bM c,cond_true,cQ (n:=(q:Int)+3) (by omega) (by omega)]
  by_cases o:(to:Int)<(q:Int)+3
  ·rw[decide_eq_true o]
   refine .inr ⟨λ L b=>?_,m,rfl⟩
   obtain⟨_,_,_,_,h,_⟩:=b.inv c
   omega
  rw[decide_eq_false o,cond_false,e7 (by omega),ae,cQ (n:=(q:Int)+1) (by omega) (by omega),pG (i:=q+1) (by omega) (by omega),ae]
  have s:wE (⟨(⟨v.S.K.a6,v.S.K.aY,v.S.K.Fields,v.S.K.Names,v.S.K.aZ⟩:aO)⟩:b') (wd v.H.Words q)=some (gJ v.S.K (wd v.H.Words q)):=ama aj _
  rw[s,ae]
  cases j:gJ v.S.K (wd v.H.Words q)with
  |false=>
   refine .inr ⟨λ L b=>?_,m,rfl⟩
   obtain⟨_,_,h,_⟩:=b.inv c
   rw[j]at h;cases h
  |true=>
   have ao:wF (⟨(⟨v.S.K.a6,v.S.K.aY,v.S.K.Fields,v.S.K.Names,v.S.K.aZ⟩:aO)⟩:b') (wd v.H.Words q) (wd v.H.Words (q+1))=some (isLen v.S.K (wd v.H.Words q) (wd v.H.Words (q+1))):=amb aj j _
   rw[ao,ae,eb,cond_false]
   cases l:isLen v.S.K (wd v.H.Words q) (wd v.H.Words (q+1))with
   |false=>
    refine .inr ⟨λ L b=>?_,m,rfl⟩
    obtain⟨_,_,_,h,_⟩:=b.inv c
    rw[l]at h;cases h
   |true=>
    obtain⟨⟨l0,l1⟩,_⟩:=kY.1 l
    rw[eb,iQ,cQ (n:=(q:Int)+3+wd v.H.Words (q+1)) (by omega) (by omega)]
    by_cases t:(to:Int)<(q:Int)+3+wd v.H.Words (q+1)
    ·rw[decide_eq_true t]
     refine .inr ⟨λ L b=>?_,m,rfl⟩
     obtain⟨_,_,_,_,h,_⟩:=b.inv c
     omega
    rw[decide_eq_false t,cond_false,io (by simp;omega),ae,cQ (n:=3+wd v.H.Words (q+1)) (by omega) (by omega),cQ (n:=(q:Int)+(3+wd v.H.Words (q+1))) (by omega) (by omega)]
    have u:cH m (q:Int)=none:=by
     clear d s ao;induction m with
     |nil=>rfl
     |cons p r d=>
      have aC:=g p il
      rw[cH,if_neg (by omega)]
      exact d (λ x w=>g x (dZ _ w))
    rw[GC u,show(q:Int)+(3+wd v.H.Words (q+1))=((q+3+(wd v.H.Words (q+1)).toNat:Nat):Int) by omega]
    rcases d (q+3+(wd v.H.Words (q+1)).toNat) (acc++[(q:Int)]) (m++[((q:Int),true)]) (by omega) (by omega) (by simp;omega) (λ p aC=>by
     rcases cj.1 aC with aC |aC
     ·have:=g p aC;omega
     ·simp at aC;subst aC;simp;omega)with⟨L,b,e⟩|⟨y,e9,e⟩
    ·refine .inl ⟨(q:Int)::L,.cons j l (by omega) b,?_⟩
     rw[e];simp
    ·refine .inr ⟨λ L b=>?_,e9,e⟩
     obtain⟨r,_,_,_,_,h⟩:=b.inv c
     exact y r h
theorem amv{F:Nat}(i:6000<F)(v:bj)(aj:gk v.S.K){q to:Nat}(b:q<=to)(c:to<=v.H.Words.length)(d:v.H.Words.length<=5000)(f:∀p∈v.dP,p.1<(q:Int)) :
 (∃L,eQ v.S.K v.H.Words to q L/\na F v (q:Int) (to:Int)=some (L,true,{ v with dP:=v.dP++L.map λ a=>(a,true) }))\/
 ((∀L,¬eQ v.S.K v.H.Words to q L)/\ ∃e9,na F v (q:Int) (to:Int)=some ([],false,{ v with dP:=e9 })):=by
 unfold na
 rcases aJj v aj c d F q [] v.dP b (by omega) (by simp;omega) f with⟨L,g,e⟩|⟨h,e9,e⟩
 ·exact .inl ⟨L,g,by rw[e,rk];simp⟩
 ·exact .inr ⟨h,e9,by rw[e,al3]⟩
end
end I
namespace I
def refs(k:aO)(W:List Int)(q:Nat):List Int:=(ed (wd W (q+1)).toNat).flatMap λ j=>if ej k (wd W q) j then[((q+3+j:Nat):Int)]else[]
theorem sK{k:aO}{W:List Int}{q:Nat}{x:Int}:x∈refs k W q↔ ∃j,j<(wd W (q+1)).toNat/\ej k (wd W q) j=true/\x=((q+3+j:Nat):Int):=by
 unfold refs;rw[hM];constructor
 ·rintro⟨j,aA,a⟩
  split at a
  ·rename_i h;exact⟨j,by simpa using aA,h,by simpa using a⟩
  ·cases a
 ·rintro⟨j,aA,h,e⟩
  exact⟨j,by simpa using aA,by rw[if_pos h,e];simp⟩
section
variable{F:Nat}{k:aO}
theorem aIb(o:6000<F)(v:bj)(aj:gk v.S.K){q:Nat}(d:q+3+(wd v.H.Words (q+1)).toNat<=v.H.Words.length)(p:v.H.Words.length<=5000)(e:gJ v.S.K (wd v.H.Words q)=true)(b:isLen v.S.K (wd v.H.Words q) (wd v.H.Words (q+1))=true) :
 qM F v (q:Int)=some (refs v.S.K v.H.Words q):=by
 obtain⟨⟨l0,l1⟩,_⟩:=kY.1 b
 unfold qM
 rw[cQ (n:=(q:Int)+1) (by omega) (by omega),pG (i:=q+1) (by omega) (by omega),ae]
 generalize g:(wd v.H.Words (q+1)).toNat=n at d
 have h:wd v.H.Words (q+1)=(n:Int):=by omega
 have c:=b
 rw[h]at c⊢
 have l1:=vO (l:=ed n) (λ k acc i=>wG (q:Int) v (n:Int) k acc (i:Int)) (λ j=>if ej v.S.K (wd v.H.Words q) j then[((q+3+j:Nat):Int)]else[]) 1 5000 (λ x _=>by split<;>simp) (λ f i x acc a r=>by
  have hi:i<n:=by have:=(aP.1 a).1;simpa using this
  rw[me hi]at a;simp only[aH]at a;subst a;rw[wG,bM hi,cond_true,e7 (by omega),ae];have m:qL (⟨(⟨v.S.K.a6,v.S.K.aY,v.S.K.Fields,v.S.K.Names,v.S.K.aZ⟩:aO)⟩:b') (wd v.H.Words q) (i:Int)=some (ej v.S.K (wd v.H.Words q) i):=QG aj e c (by omega);rw[m,ae];show _=wG (q:Int) v (n:Int) f _ _
  cases ej v.S.K (wd v.H.Words q) i with
  |true=>
   rw[cond_true,cQ (n:=(q:Int)+3) (by omega) (by omega),cQ (n:=(q:Int)+3+i) (by omega) (by omega),io (by simp;omega),ae,ae,eW hi (by omega),if_pos rfl]
   congr 2
  |false=>
   rw[cond_false,ae,eW hi (by omega),if_neg (by decide),hR]) (λ f acc=>by
  rw[iZ,wG,bL];rfl) (F:=F) (by simp;omega) (acc:=[]) (by simp;omega)
 have l1:wG (q:Int) v (n:Int) F [] 0=_:=l1
 rw[l1,ae,kK,refs,g]
theorem aeE(o:10000<F){ls:List (List Int)}(p:ls.length<=10)(J:ls.flatten.length<=10000):Hl F ls=some ls.flatten:=by
 unfold Hl;have c:∀(d i f:Nat)(n:Int),i+d=ls.length->d<f->0<=n->n+(ls.drop i).flatten.length<=10000 ->xN ls f n (i:Int)=some (n+(ls.drop i).flatten.length):=by
  intro d;induction d with
  |zero=>
   intro i f n h ad m _
   obtain⟨f,rfl⟩:∃a,f=a+1:=⟨f-1,by omega⟩
   have:i=ls.length:=by omega
   subst this
   rw[xN,bL];simp
  |succ d e=>
   intro i f n h ad m ag
   obtain⟨f,rfl⟩:∃a,f=a+1:=⟨f-1,by omega⟩
   have hi:i<ls.length:=by omega
   rw[de hi]at ag
   simp only[mF,dR]at ag
   rw[xN,bM hi,cond_true,bw (aK hi),ae,cQ (n:=n+((ls[i]).length:Int)) (by omega) (by omega),show decide (n+((ls[i]).length:Int)<0)=false from decide_eq_false (by omega),cond_false,ae,eW hi (by omega),e (i+1) f _ (by omega) (by omega) (by omega) (by omega),de hi]
   simp only[mF,dR]
   congr 1;omega
 have g:=c ls.length 0 F 0 (by omega) (by omega) (by omega) (by simp at J⊢;omega);have g:xN ls F 0 0=some (0+((ls.drop 0).flatten.length:Int)):=g;rw[g,ae,hB,Int.zero_add];have b:QL (ls.flatten.length:Int)=some []:=by
  unfold QL;rw[show decide ((ls.flatten.length:Int)<0)=false from decide_eq_false (by omega),cond_false,ae,cQ (n:=(ls.flatten.length:Int)-0) (by omega) (by omega),Int.sub_zero];by_cases j:(0 :Int)<(ls.flatten.length:Int)
  ·rw[decide_eq_true j,cond_true]
   unfold Ix
   rw[if_pos ⟨j,by omega⟩];rfl
  ·rw[decide_eq_false j];rfl
 rw[b,ae];have l:∀(d i f:Nat)(acc:List Int),i+d=ls.length->d<f->acc.length+(ls.drop i).flatten.length<=10000 ->xO ls f acc (i:Int)=some (acc++(ls.drop i).flatten):=by
  intro d;induction d with
  |zero=>
   intro i f n h ad m
   obtain⟨f,rfl⟩:∃a,f=a+1:=⟨f-1,by omega⟩
   have:i=ls.length:=by omega
   subst this
   rw[xO,bL];simp
  |succ d e=>
   intro i f acc h ad ag
   obtain⟨f,rfl⟩:∃a,f=a+1:=⟨f-1,by omega⟩
   have hi:i<ls.length:=by omega
   rw[de hi]at ag
   simp only[mF,dR]at ag
   rw[xO,bM hi,cond_true,bw (aK hi),ae,io (by omega),ae,eW hi (by omega),e (i+1) f _ (by omega) (by omega) (by simp only[dR];omega),de hi,mF,g_]
 have b:=l ls.length 0 F [] (by omega) (by omega) (by simp at J⊢;omega);have b:xO ls F [] 0=some ([]++(ls.drop 0).flatten):=b;rw[b];simp
theorem all_eq(a:10000<F)(v:bj)(h:v.ak.length+v.aM.length<=10000):zo F v=some (v.ak++v.aM):=by
 unfold zo;rw[aeE a (by simp) (by simp;omega)];simp
def aj(W:List Int)(a:Int):Int:=wd W (a.toNat+2)
def As(l:List Int)(m:List (Int×Bool)):List (Int×Bool):=l.foldl (λ m x=>gf m x true) m
theorem akW:∀(l:List Int)(m:List (Int×Bool)),(As l m).length<=m.length+l.length/\((As l m).length=m.length+l.length↔l.Nodup/\ ∀x∈l,(cH m x).isSome=false)
 |[],m=>by simp[As]
 |x::r,m=>by
  have d:=akW r (gf m x true);have e:As (x::r) m=As r (gf m x true):=rfl;rw[e];have b:=Ps (k:=x) (v:=true) m;rw[dL];cases c:(cH m x).isSome with
  |true=>
   rw[c,if_pos rfl]at b
   rw[b]at d
   refine⟨by omega,⟨λ h=>by omega,λ h=>?_⟩⟩
   have:=h.2 x il
   rw[c]at this;cases this
  |false=>
   rw[c,if_neg (by decide)]at b
   rw[b]at d
   refine⟨by omega,?_⟩
   rw[show m.length+(r.length+1)=m.length+1+r.length by omega,d.2,ie]
   constructor
   ·rintro⟨f,J⟩
    refine⟨⟨λ i=>?_,f⟩,λ y hy=>?_⟩
    ·have:=J x i
     have a:=(Kz (k:=x) (s:=x) (v:=true) m).2 (.inl rfl)
     rw[this]at a;cases a
    ·rcases cI.1 hy with rfl |hy
     ·exact c
     ·cases g:(cH m y).isSome with
      |false=>rfl
      |true=>
       have a:=(Kz (k:=x) (s:=y) (v:=true) m).2 (.inr g)
       rw[J y hy]at a;cases a
   ·rintro⟨⟨f,J⟩,a⟩
    refine⟨J,λ y hy=>?_⟩
    cases g:(cH (gf m x true) y).isSome with
    |false=>rfl
    |true=>
     rcases(Kz (k:=x) (s:=y) (v:=true) m).1 g with e |e
     ·subst e;exact absurd hy f
     ·rw[a y (dZ _ hy)]at e;cases e
def l_(v:bj)(a:Int):Bool:=decide (aj v.H.Words a<1)||decide (v.H.Next<=aj v.H.Words a)
theorem ayV(v:bj)(r:List Int)(e:r.length<=10000)(ag:∀a∈r,0<=a/\a.toNat+3<=v.H.Words.length)(g:v.H.Words.length<=5000):∀(d i f:Nat)(m:List (Int×Bool)),i+d=r.length->d<f ->
 wH v r f m (i:Int)=if(r.drop i).any (l_ v)then some (.out 3)else some (.go (As ((r.drop i).map (aj v.H.Words)) m)):=by
 intro d
 induction d with
 |zero=>
  intro i f m h ad
  obtain⟨f,rfl⟩:∃b,f=b+1:=⟨f-1,by omega⟩
  have:i=r.length:=by omega
  subst this
  rw[wH,bL];simp[As]
 |succ d c=>
  intro i f m h ad
  obtain⟨f,rfl⟩:∃b,f=b+1:=⟨f-1,by omega⟩
  have hi:i<r.length:=by omega
  obtain⟨j,l⟩:=ag r[i] (hg hi)
  rw[wH,bM hi,cond_true,bw (aK hi),ae,cQ (n:=r[i]+2) (by omega) (by omega),pG (i:=(r[i]).toNat+2) (by omega) (by omega),ae,de hi,List.any_cons]
  show cond (l_ v r[i]) _ _=_
  cases l_ v r[i]with
  |true=>rfl
  |false=>
   rw[cond_false,eW hi (by omega),c (i+1) f _ (by omega) (by omega),iQ]
   rfl
theorem ayU(f:10000<F)(v:bj)(h:v.ak.length+v.aM.length<=5000)(ag:∀a∈v.ak++v.aM,0<=a/\a.toNat+3<=v.H.Words.length)(g:v.H.Words.length<=5000)(b:v.dP.length=(v.ak++v.aM).length) :
 F2 F v=some (if(v.ak++v.aM).any (l_ v)then 3 else if((v.ak++v.aM).map (aj v.H.Words)).Nodup then 0 else 6):=by
 unfold F2
 have e:zo F (⟨(⟨v.H.Words,v.H.ak,v.H.aM,v.H.aX,v.H.aW,v.H.aS,v.H.Next⟩:aV),(⟨(⟨v.S.K.a6,v.S.K.aY,v.S.K.Fields,v.S.K.Names,v.S.K.aZ⟩:aO)⟩:b'),v.ak,v.aM,v.dP⟩:bj)=some (v.ak++v.aM):=all_eq f v (by omega)
 rw[e,ae]
 have l1:=ayV v (v.ak++v.aM) (by simp;omega) ag g (v.ak++v.aM).length 0 F [] (by omega) (by simp;omega)
 have l1:wH v (v.ak++v.aM) F [] 0=_:=l1
 rw[l1,hB]
 cases(v.ak++v.aM).any (l_ v)with
 |true=>rfl
 |false=>
  rw[if_neg (by decide),if_neg (by decide),rk]
  obtain⟨i,d⟩:=akW ((v.ak++v.aM).map (aj v.H.Words)) []
  rw[gC,gR,jM]at i d
  by_cases c:((v.ak++v.aM).map (aj v.H.Words)).Nodup
  ·rw[if_pos c]
   have:=d.2 ⟨c,λ _ _=>rfl⟩
   rw[decide_eq_false (by rw[this,b];omega)];rfl
  ·rw[if_neg c]
   have:(As ((v.ak++v.aM).map (aj v.H.Words)) []).length≠(v.ak++v.aM).length:=λ e=>c (d.1 e).1
   rw[decide_eq_true (by rw[b];omega)];rfl
end
end I
namespace I
def yS(l:List Int):Prop:=∀a b,a<b->b<l.length->wd l a<wd l b
theorem aa0{l:List Int}(h:∀i,i+1<l.length->wd l i<wd l (i+1)):yS l:=by
 intro a b d;induction b with
 |zero=>omega
 |succ b c=>
  intro ag
  by_cases e:a=b
  ·subst e;exact h a ag
  ·exact Int.lt_trans (c (by omega) (by omega)) (h b ag)
theorem abt{l:List Int}{i:Nat}(h:i<l.length):wd l i∈l:=by unfold wd;rw[aK h];exact hg h
theorem nA{l:List Int}{i:Nat}{x:Int}(h:l[i]? =some x):wd l i=x:=by unfold wd;rw[h];rfl
theorem Yh{l:List Int}{x:Int}(h:x∈l):∃i,i<l.length/\wd l i=x:=by
 obtain⟨i,hi,e⟩:=iz h;exact⟨i,hi,nA (by rw[aK hi,e])⟩
theorem akI{α:Type}{p:α->Bool}:∀ {l:List α},(eE p l).isSome=l.any p
 |[]=>rfl
 |x::r=>by
  rw[eE,List.any_cons];cases h:p x with
  |true=>rfl
  |false=>simp only[hX,if_false,iQ];rw[<-akI (l:=r)];cases eE p r<;>rfl
theorem UL{α:Type}{l:List α}{L:Nat->Int->Option (Way Int Unit)}(p:α->Bool)(a:l.length<=140737488355328)
 (aj:∀k (i:Nat) x,l[i]? =some x->L (k+1) (i:Int)=cond (p x) (some (.out (i:Int))) (L k (ax ((i:Int)+1))))
 (b:∀k,L (k+1) (l.length:Int)=some (.go ())){F:Nat}(c:l.length<F):((cm (α:=Unit) (L F 0) λ(_:Unit)=>some (-1)).bind λ r=>some (decide ((0 :Int)<=r)))=some (l.any p):=by
 rw[UM p (λ n:Nat=>(n:Int)) a aj b c,<-akI]
 cases eE p l with
 |none=>rfl
 |some i=>
  show some (decide ((0 :Int)<=(i:Int)))=_
  rw[decide_eq_true (by omega)];rfl
section
variable{F:Nat}
theorem aIX{l:List Int}(k:l.length<=10000)(t:Int):∀(f i j:Nat),i<=j->j<=l.length->j-i<f->(∀a,a<i->wd l a<t)->(∀a,j<=a->a<l.length->t<=wd l a)->yS l ->
 ∃p:Nat,u7 t l f (i:Int) (j:Int)=some (p:Int)/\p<=l.length/\(∀a,a<p->wd l a<t)/\(∀a,p<=a->a<l.length->t<=wd l a):=by
 intro f
 induction f with
 |zero=>intro i j _ _ h;omega
 |succ f b=>
  intro i j m aA ad c J aj
  rw[u7]
  by_cases h:i<j
  case neg=>
   have:i=j:=by omega
   subst this
   rw[bL]
   exact⟨i,rfl,aA,c,J⟩
  have d:ax (xM (Hv (ax ((i:Int)+(j:Int)))) 1)=(((i+j) / 2 :Nat):Int):=by
   rw[cQ (n:=(i:Int)+j) (by omega) (by omega)];unfold Hv xM;rw[cQ (by omega) (by omega)];omega
  have o:(i+j) / 2<j:=by omega
  have q:i<=(i+j) / 2:=by omega
  rw[bM h,cond_true,d,e7 (by omega),ae]
  unfold cmp_Less_int cmp_isNaN_int
  rw[ae,show(!decide (wd l ((i+j) / 2)=wd l ((i+j) / 2)))=false by simp,cond_false,ae]
  by_cases hc:wd l ((i+j) / 2)<t
  ·rw[decide_eq_true hc,cond_true,ae]
   show∃p:Nat,u7 t l f (ax ((((i+j) / 2 :Nat):Int)+1)) (j:Int)=_/\_
   rw[cQ (n:=(((i+j) / 2 :Nat):Int)+1) (by omega) (by omega),show(((i+j) / 2 :Nat):Int)+1=(((i+j) / 2+1 :Nat):Int) by omega]
   refine b ((i+j) / 2+1) j (by omega) aA (by omega) (λ a g=>?_) J aj
   by_cases e:a=(i+j) / 2
   ·subst e;exact hc
   ·exact Int.lt_trans (aj a ((i+j) / 2) (by omega) (by omega)) hc
  ·rw[decide_eq_false hc,cond_false,ae]
   show∃p:Nat,u7 t l f (i:Int) (((i+j) / 2 :Nat):Int)=_/\_
   refine b i ((i+j) / 2) (by omega) (by omega) (by omega) c (λ a g ag=>?_) aj
   by_cases e:a=(i+j) / 2
   ·subst e;omega
   ·have:=aj ((i+j) / 2) a (by omega) ag
    omega
theorem aIW(n:10000<F){l:List Int}(j:l.length<=10000)(aj:yS l)(t:Int) :
 ∃p:Nat,Lm F l t=some ((p:Int),decide (t∈l))/\p<=l.length/\(∀a,a<p->wd l a<t)/\(∀a,p<=a->a<l.length->t<=wd l a):=by
 obtain⟨p,e,k,f,J⟩:=aIX j t F 0 l.length (by omega) (cT _) (by omega) (λ a b=>by omega) (λ a b ag=>by omega) aj
 refine⟨p,?_,k,f,J⟩
 unfold Lm
 have e:u7 t l F 0 (l.length:Int)=some (p:Int):=e
 rw[e,ae]
 by_cases c:p<l.length
 ·rw[bM c,cond_true,e7 c,ae]
  by_cases d:wd l p=t
  ·rw[decide_eq_true d,cond_true,decide_eq_true (d▸abt c)]
  ·have g: ¬t∈l:=λ h=>by
    obtain⟨a,b,i⟩:=Yh h;by_cases m:a<p
    ·have:=f a m;omega
    ·have o:=J p (cT _) c
     by_cases e:a=p
     ·subst e;exact d i
     ·have:=aj p a (by omega) b;omega
   rw[decide_eq_false d,cond_false,ae,decide_eq_false g];unfold QP;rw[ae,show(!decide (wd l p=wd l p))=false by simp,cond_false]
 ·have:p=l.length:=by omega
  subst this
  have g: ¬t∈l:=λ h=>by
   obtain⟨a,b,i⟩:=Yh h;have:=f a b;omega
  rw[bL,cond_false,decide_eq_false g]
structure rW (v:bj) (a:Int):Prop where
 pos:0<=a
 fit:a.toNat+3+(wd v.H.Words (a.toNat+1)).toNat<=v.H.Words.length
 tag:gJ v.S.K (wd v.H.Words a.toNat)=true
 len:isLen v.S.K (wd v.H.Words a.toNat) (wd v.H.Words (a.toNat+1))=true
structure pc (v:bj):Prop where
 hF:gk v.S.K
 e3:v.H.Words.length<=4900
 pq:v.ak.length+v.aM.length<=5000
 s9:∀a∈v.ak++v.aM,rW v a
 dP:∀x,(cH v.dP x).getD false=decide (x∈v.ak++v.aM)
theorem rW.aaz{v:bj}{a:Int}(b:pc v)(h:rW v a)(c:6000<F):qM F v a=some (refs v.S.K v.H.Words a.toNat):=by
 have:=aIb c v b.hF h.fit (by have:=b.e3;omega) h.tag h.len;rwa [show((a.toNat:Nat):Int)=a by have:=h.pos;omega]at this
theorem rW.Qq{v:bj}{a w:Int}(h:rW v a)(b:w∈refs v.S.K v.H.Words a.toNat):idx v.H.Words w=some (wd v.H.Words w.toNat):=by
 obtain⟨j,aA,_,e⟩:=sK.1 b;have:=h.fit;subst e;exact e7 (by omega)
theorem Qr{v:bj}{a:Int}(b:pc v)(h:rW v a):(refs v.S.K v.H.Words a.toNat).length<=5000:=by
 have:(refs v.S.K v.H.Words a.toNat).length<=1*(ed (wd v.H.Words (a.toNat+1)).toNat).length:=zc λ x _=>by split<;>simp
 have c:=h.fit;have J:=b.e3;rw[iZ]at this;omega
def vb(v:bj)(w:Int):Bool:=!decide (wd v.H.Words w.toNat=0)&& !decide (wd v.H.Words w.toNat∈v.ak++v.aM)
def oN(v:bj)(a:Int):Bool:=(refs v.S.K v.H.Words a.toNat).any (vb v)
def free(h:aV):List Int:=h.Words.take 1++((h.Words.take (h.ak+1).toNat).drop h.aX.toNat++h.Words.drop h.aW.toNat)
theorem oj{α:Type}{p:α->Bool}{e:Int}:∀l:List α,l.findSome? (λ x=>if p x then some e else none)=if l.any p then some e else none
 |[]=>rfl
 |x::r=>by
  rw[jc,List.any_cons];cases p x with
  |true=>rfl
  |false=>simp only[hX,if_false,iQ];exact oj r
theorem aKe(j:10000<F){v:bj}(b:pc v)(r:0<=v.H.ak)(s:0<=v.H.aX/\v.H.aX<=v.H.ak+1/\v.H.ak+1<=v.H.Words.length)(J:0<=v.H.aW/\v.H.aW<=v.H.Words.length) :
 F4 F v=some (if(v.ak++v.aM).any (oN v)then 5 else if(free v.H).any (λ x=>!decide (x=0))then 1 else 0):=by
 have hc:=b.pq;have t:=b.e3
 unfold F4
 have e:zo F (⟨(⟨v.H.Words,v.H.ak,v.H.aM,v.H.aX,v.H.aW,v.H.aS,v.H.Next⟩:aV),(⟨(⟨v.S.K.a6,v.S.K.aY,v.S.K.Fields,v.S.K.Names,v.S.K.aZ⟩:aO)⟩:b'),v.ak,v.aM,v.dP⟩:bj)=some (v.ak++v.aM):=all_eq j v (by omega)
 rw[e,ae]
 have l1:zp F v (v.ak++v.aM) F 0=some (cA ((v.ak++v.aM).findSome? λ a=>if oN v a then some 5 else none)):=each _ (by simp;omega) (λ f i a c=>by
  have m:=bG c;have d:=b.s9 a m;rw[zp,bM (aP.1 c).1,cond_true,bw c,ae];have ao:qM F (⟨(⟨v.H.Words,v.H.ak,v.H.aM,v.H.aX,v.H.aW,v.H.aS,v.H.Next⟩:aV),(⟨(⟨v.S.K.a6,v.S.K.aY,v.S.K.Fields,v.S.K.Names,v.S.K.aZ⟩:aO)⟩:b'),v.ak,v.aM,v.dP⟩:bj) a=some (refs v.S.K v.H.Words a.toNat):=d.aaz b (by omega);have u:=Qr b d;rw[ao,ae];have n:wJ v (refs v.S.K v.H.Words a.toNat) F 0=some (cA ((refs v.S.K v.H.Words a.toNat).findSome? λ w=>if vb v w then some 5 else none)):=each _ (by omega) (λ o i' w g=>by
   have p:=bG g;rw[wJ,bM (aP.1 g).1,cond_true,bw g,ae,d.Qq p,ae,b.dP];unfold vb;cases decide (wd v.H.Words w.toNat=0)<;>cases decide (wd v.H.Words w.toNat∈v.ak++v.aM)<;>rfl) (λ o=>by rw[wJ,bL];rfl) (by omega)
  rw[n,oj];show _=gZ (if(refs v.S.K v.H.Words a.toNat).any (vb v)then some 5 else none) _
  cases(refs v.S.K v.H.Words a.toNat).any (vb v)<;>rfl) (λ f=>by rw[zp,bL];rfl) (by simp;omega)
 rw[l1,oj]
 cases(v.ak++v.aM).any (oN v)with
 |true=>rfl
 |false=>
  simp only[hX,if_false,cA,rk]
  have c1:cut v.H.Words 0 1=some (v.H.Words.take 1):=by
   unfold cut;rw[if_pos ⟨by omega,by omega,by omega⟩];rfl
  have c2:cut v.H.Words v.H.aX (ax (v.H.ak+1))=some ((v.H.Words.take (v.H.ak+1).toNat).drop v.H.aX.toNat):=by
   rw[cQ (by omega) (by omega)];unfold cut;rw[if_pos ⟨by omega,by omega,by omega⟩]
  have c3:cut v.H.Words v.H.aW (v.H.Words.length:Int)=some (v.H.Words.drop v.H.aW.toNat):=by
   unfold cut;rw[if_pos ⟨by omega,by omega,by omega⟩,bV,jI]
  have q:(free v.H).length<=10000:=by unfold free;simp;omega
  rw[c1,c2,c3,ae,ae,ae,aeE j (by simp) (by simp;omega),ae]
  have h:[v.H.Words.take 1,(v.H.Words.take (v.H.ak+1).toNat).drop v.H.aX.toNat,v.H.Words.drop v.H.aW.toNat].flatten=free v.H:=by simp[free]
  rw[h]
  unfold QJ QN
  rw[UL (l:=free v.H) (L:=AJ (free v.H)) (λ x=>!decide (x=0)) (by omega) (λ f i x k=>by
   rw[AJ,bM (aP.1 k).1,cond_true,bw k,ae];rfl) (λ f=>by rw[AJ,bL];rfl) (by omega),ae]
  cases(free v.H).any (λ x=>!decide (x=0))<;>rfl
def kB(v:bj)(x:Int):Bool:=decide (0<x)&&decide (x<=v.H.ak)
def sR(v:bj)(x:Int):Bool:=!decide (x∈v.ak++v.aM)||kB v x||(refs v.S.K v.H.Words x.toNat).isEmpty
def hC(v:bj)(i:Nat):Bool:=(decide (0<i)&&decide (wd v.H.aS i<=wd v.H.aS (i-1)))||sR v (wd v.H.aS i)
def qj(v:bj)(x:Int):Bool:=!decide (x∈v.H.aS)&&(refs v.S.K v.H.Words x.toNat).any λ w=>kB v (wd v.H.Words w.toNat)
theorem aE_(f:10000<F){v:bj}(b:pc v)(x:Int)(Y:Option (Way Int Unit)):(cond (!((cH v.dP x).getD false)) (some (.out 4)) ((F1 v x).bind λ d=>
 cond (d) (some (.out 4)) ((qM F v x).bind λ e=>
 cond (decide ((e.length:Int)=0)) (some (.out 4)) Y)))=gZ (if sR v x then some 4 else none) Y:=by
 rw[b.dP]
 unfold sR
 by_cases c:x∈v.ak++v.aM
 ·rw[decide_eq_true c,(b.s9 x c).aaz b (by omega)]
  show cond (kB v x) _ ((some _).bind _)=_
  cases kB v x with
  |true=>rfl
  |false=>
   rw[cond_false,ae]
   cases refs v.S.K v.H.Words x.toNat with
   |nil=>rfl
   |cons a r=>rw[decide_eq_false (by simp;omega)];rfl
 ·rw[decide_eq_false c];rfl
theorem aE9(k:10000<F){v:bj}(a:pc v)(s:v.H.aS.length<=140737488355328)(t:v.H.aS.length<F)(c:(∀i,i<v.H.aS.length->hC v i=false)->v.H.aS.length<=10000) :
 F3 F v=some (if(ed v.H.aS.length).any (hC v)||v.aM.any (qj v)then 4 else 0):=by
 have hc:=a.pq;have B:=a.e3
 unfold F3
 have l1:uo F v F 0=some (cA ((ed v.H.aS.length).findSome? λ i=>if hC v i then some 4 else none)):=kQ _ s (λ f i hi=>by
  have m:=aE_ k a (wd v.H.aS i) (uo F v f (ax ((i:Int)+1)));rw[uo,bM hi,cond_true,e7 hi,ae];unfold hC;by_cases o:0<i
  ·rw[show decide ((0 :Int)<(i:Int))=true from decide_eq_true (by omega),cond_true,cQ (n:=(i:Int)-1) (by omega) (by omega),pG (i:=i-1) (by omega) (by omega),ae,decide_eq_true o,kz]
   cases decide (wd v.H.aS i<=wd v.H.aS (i-1))with
   |true=>rfl
   |false=>exact m
  ·rw[show decide ((0 :Int)<(i:Int))=false from decide_eq_false (by omega),cond_false,decide_eq_false o,Bool.false_and,iQ]
   exact m) (λ f=>by rw[uo,bL];rfl) t
 rw[l1,oj]
 cases ag:(ed v.H.aS.length).any (hC v)with
 |true=>rfl
 |false=>
  have q:∀i,i<v.H.aS.length->hC v i=false:=λ i hi=>by
   rw[je]at ag;simpa using ag i (by simpa using hi)
  have b:=c q
  have d:yS v.H.aS:=aa0 λ i hi=>by
   have:=q (i+1) hi;unfold hC at this;simp only[iF,ni,decide_eq_false_iff_not,Nat.add_sub_cancel]at this;rcases this.1 with h |h<;>omega
  simp only[hX,if_false,cA,rk,iQ]
  have u:wI F v F 0=some (cA (v.aM.findSome? λ x=>if qj v x then some 4 else none)):=each _ (by omega) (λ f i x e=>by
   have y:x∈v.ak++v.aM:=gI _ (bG e);have g:=a.s9 x y;obtain⟨p,z,_⟩:=aIW k b d x;rw[wI,bM (aP.1 e).1,cond_true,bw e,ae,z,ae];unfold qj;by_cases r:x∈v.H.aS
   ·rw[decide_eq_true r];rfl
   ·rw[decide_eq_false r]
    have ao:qM F (⟨(⟨v.H.Words,v.H.ak,v.H.aM,v.H.aX,v.H.aW,v.H.aS,v.H.Next⟩:aV),(⟨(⟨v.S.K.a6,v.S.K.aY,v.S.K.Fields,v.S.K.Names,v.S.K.aZ⟩:aO)⟩:b'),v.ak,v.aM,v.dP⟩:bj) x=some (refs v.S.K v.H.Words x.toNat):=g.aaz a (by omega)
    have C:=Qr a g
    simp only[ja,cond_true,kz]
    rw[ao,ae]
    unfold QI QM
    rw[UL (l:=refs v.S.K v.H.Words x.toNat) (L:=AI (refs v.S.K v.H.Words x.toNat) v) (λ w=>kB v (wd v.H.Words w.toNat)) (by omega) (λ A i' w j=>by
     rw[AI,bM (aP.1 j).1,cond_true,bw j,ae];unfold Oi;rw[g.Qq (bG j)];rfl) (λ A=>by rw[AI,bL];rfl) (by omega),ae]
    cases(refs v.S.K v.H.Words x.toNat).any (λ w=>kB v (wd v.H.Words w.toNat))<;>rfl) (λ f=>by rw[wI,bL];rfl) (by omega)
  rw[u,oj]
  cases v.aM.any (qj v)<;>rfl
end
end I
namespace I
def PQ:aO:=⟨[],[],[],[],[]⟩
def rows{β:Type}(f:Int->β)(i:Nat):List β:=(ed i).map λ j:Nat=>f (j:Int)
theorem Hc{β:Type}(f:Int->β)(i:Nat):rows f (i+1)=rows f i++[f (i:Int)]:=by simp[rows,List.range_succ]
def linked(l:List ap):aO:=⟨l,du l,rows (fF l) l.length,rows (λ i=>(hp l i).1) l.length,rows (λ i=>(hp l i).2) l.length⟩
def Fq(l:List ap)(i:Nat):Option (aO×Int):=if 12<(fF l i).length\/16<(hp l i).1.length then some (PQ,2)else none
section
variable{F:Nat}{l:List ap}
theorem ad_(x y:Nat):((decide ((12 :Int)<(x:Int)))||(decide ((16 :Int)<(y:Int))))=decide (12<x\/16<y):=by
 rw[iT];simp;omega
theorem aDJ(c:1100<F)(h:h7 l)(a b:Int×bt)(e:a.2.b3=e1 0 l)(f:b.2.dB=du l) :
 oF F l a b F [] [] [] 0=some (Eg ((ed l.length).findSome? (Fq l)) (rows (λ i=>(hp l i).2) l.length,rows (λ i=>(hp l i).1) l.length,rows (fF l) l.length)):=by
 have d:=h.right.len
 refine Tu (n:=l.length) (λ k i=>oF F l a b k (rows (λ i=>(hp l i).2) i) (rows (λ i=>(hp l i).1) i) (rows (fF l) i) (i:Int)) _ _ (λ k i hi=>?_) (λ k=>?_) (F:=F) (by omega)
 ·show oF F l a b (k+1) (rows (λ i=>(hp l i).2) i) (rows (λ i=>(hp l i).1) i) (rows (fF l) i) (i:Int)=_
  rw[oF,bM hi,cond_true,e,f,h.aDK c (e1 0 l) (by omega) (by omega),ae,h.X9 c (e1 0 l) (by omega) (by omega),ae,
   io (by simp only[rows,gC,iZ,dL,gR];omega),ae,io (by simp only[rows,gC,iZ,dL,gR];omega),ae,
   io (by simp only[rows,gC,iZ,dL,gR];omega),ae,bw (i:=i) (x:=fF l i) (by simp[rows]),ae,ad_,eW hi (by omega),<-Hc (fF l),<-Hc (λ i=>(hp l i).1),<-Hc (λ i=>(hp l i).2)]
  unfold Fq
  by_cases ag:12<(fF l i).length\/16<(hp l i).1.length
  ·rw[decide_eq_true ag,if_pos ag];rfl
  ·rw[decide_eq_false ag,if_neg ag];rfl
 ·show oF F l a b (k+1) (rows (λ i=>(hp l i).2) l.length) (rows (λ i=>(hp l i).1) l.length) (rows (fF l) l.length) (l.length:Int)=_
  rw[oF,bL];rfl
theorem aH_(a:1100<F)(h:h7 l) :
 rQ F l F [] [] [] [] 0=some (Eg ((ed l.length).findSome? (Fq l)) (rows (λ i=>(hp l i).2) l.length,rows (λ i=>(hp l i).1) l.length,rows (fF l) l.length,du l)):=by
 have b:=h.right.len
 refine Tu (n:=l.length) (λ k i=>rQ F l k (rows (λ i=>(hp l i).2) i) (rows (λ i=>(hp l i).1) i) (rows (fF l) i) ((du l).take i) (i:Int)) _ _ (λ k i hi=>?_) (λ k=>?_) (F:=F) (by omega)
 ·obtain⟨x,c⟩:∃x,l[i]? =some x:=⟨l[i],aK hi⟩
  have aT:(du l).take i++[cX l x.c9]=(du l).take (i+1):=by rw[lK,aa3 c];rfl
  show rQ F l (k+1) (rows (λ i=>(hp l i).2) i) (rows (λ i=>(hp l i).1) i) (rows (fF l) i) ((du l).take i) (i:Int)=_
  rw[rQ,bM hi,cond_true,h.aau a (by omega) (by omega),ae,h.aH' a (by omega) (by omega),ae,ad_,bw c,ae,yL ⟨by omega,by omega⟩,ae,
   io (by simp only[fZ,Hm,dL,gR];omega),ae,
   io (by simp only[rows,gC,iZ,dL,gR];omega),ae,io (by simp only[rows,gC,iZ,dL,gR];omega),ae,
   io (by simp only[rows,gC,iZ,dL,gR];omega),ae,eW hi (by omega),<-Hc (fF l),<-Hc (λ i=>(hp l i).1),<-Hc (λ i=>(hp l i).2),aT]
  unfold Fq
  by_cases ag:12<(fF l i).length\/16<(hp l i).1.length
  ·rw[decide_eq_true ag,if_pos ag];rfl
  ·rw[decide_eq_false ag,if_neg ag];rfl
 ·show rQ F l (k+1) (rows (λ i=>(hp l i).2) l.length) (rows (λ i=>(hp l i).1) l.length) (rows (fF l) l.length) ((du l).take l.length) (l.length:Int)=_
  rw[rQ,bL,h0 (by rw[Hm];omega)];rfl
theorem sS{α:Type}{e:Int}(h:e≠0){x y:α}:cond (!decide (e=0)) x y=x:=by rw[decide_eq_false h];rfl
theorem r5{α:Type}{x y:α}:cond (!decide ((0 :Int)=0)) x y=y:=rfl
theorem aJu{e:Int}(h:l.findSome? va=some e):e=4:=by
 obtain⟨x,_,a⟩:=eN h;unfold va at a;split at a
 ·cases a
 ·injection a with a;exact a.symm
theorem aEb{e:Int}(h:l.findSome? (q2 l)=some e):e=5:=by
 obtain⟨x,_,a⟩:=eN h;unfold q2 at a;split at a
 ·cases a
 ·injection a with a;exact a.symm
theorem avz{e:Int}(h:(ed l.length).findSome? (v8 l)=some e):e=4:=by
 obtain⟨x,_,a⟩:=eN h;unfold v8 at a;split at a
 ·cases a
 ·injection a with a;exact a.symm
theorem aJI{nm:List UInt8}(h:0<=cX l nm):(cH (e1 0 l) nm).getD 0=cX l nm:=by
 rw[GI];unfold cX at h⊢;cases a:eE (gl nm) l with
 |none=>rw[a]at h;simp at h
 |some i=>simp
theorem au1(g:1100<F)(ad:Fits F l):∃e,Il F l=some e/\
 ((e≠0/\DF F l=some (PQ,e))\/
  (e=0/\h7 l/\ ∃B p:Int×bt,B.2.b3=e1 0 l/\p.2.dB=du l/\
   DF F l=cm (α:=(List (List Target))×(List (List (List UInt8)))×(List (List Field))) (oF F l B p F [] [] [] 0) λ((H,I,K):(List (List Target))×(List (List (List UInt8)))×(List (List Field)))=>some ((⟨l,p.2.dB,K,I,H⟩:aO),0))):=by
 unfold Il DF
 rw[at7 ad,aBq ad,ae,ae]
 by_cases k:r3 l=0
 case neg=>exact⟨r3 l,by rw[sS k],.inl ⟨k,by rw[sS k];rfl⟩⟩
 rw[k,r5,r5]
 have f:=au4 k
 have C:=f.len
 rw[aFr (by omega) f,ae]
 rcases aEC (F:=F) (by omega) f with⟨L,q,t⟩|⟨_,⟨m,q⟩,t⟩
 case inr=>
  unfold Gt
  simp only
  rw[q,t]
  exact⟨6,rfl,.inl ⟨by decide,rfl⟩⟩
 rw[t,rk,yL ⟨by omega,by omega⟩,ae,yL ⟨by omega,by omega⟩,ae]
 have u:Gt F ⟨l,[],[]⟩=some (cond (decide (0<=cX l [79,98,106,101,99,116])&&decide (0<=cX l [69,114,114,111,114])) 0 5,⟨l,e1 0 l,[]⟩):=by
  unfold Gt;simp only;rw[q,rk,YJ,YJ];cases decide (0<=cX l [79,98,106,101,99,116])<;>cases decide (0<=cX l [69,114,114,111,114])<;>rfl
 rw[u,ae]
 by_cases v:0<=cX l [79,98,106,101,99,116]
 case neg=>
  rw[decide_eq_true (show cX l [79,98,106,101,99,116]<0 by omega),decide_eq_false v]
  exact⟨5,rfl,.inl ⟨by decide,rfl⟩⟩
 rw[decide_eq_false (show¬cX l [79,98,106,101,99,116]<0 by omega),decide_eq_true v,cond_false]
 by_cases j:0<=cX l [69,114,114,111,114]
 case neg=>
  rw[decide_eq_true (show cX l [69,114,114,111,114]<0 by omega),decide_eq_false j]
  exact⟨5,rfl,.inl ⟨by decide,rfl⟩⟩
 rw[decide_eq_false (show¬cX l [69,114,114,111,114]<0 by omega),decide_eq_true j,cond_false,mG,cond_true]
 simp only[ae,decide_true,eb,cond_false]
 unfold Pc
 simp only
 rw[aJs (by omega) f,aJt (by omega) f,kb,kb]
 cases D:l.findSome? va with
 |some e=>
  have:=aJu D
  subst this
  exact⟨4,rfl,.inl ⟨by decide,rfl⟩⟩
 |none=>
 simp only[jq,pS]
 obtain⟨o,n,M⟩:=aD' (F:=F) (by omega) f
 rw[aEa (by omega) f,kb,M,<-n]
 cases o with
 |some r=>
  simp only[fU]at n
  have:=aEb n.symm
  refine⟨5,by simp only[fU,pS];rw[this],.inl ⟨by decide,?_⟩⟩
  obtain⟨a,b⟩:=r
  simp only at this
  subst this
  rfl
 |none=>
 simp only[jq,pS,Eg,rk]
 simp only[jq]at n
 rw[avy g f,kb,avx g f,kb]
 cases hc:(ed l.length).findSome? (v8 l)with
 |some e=>
  have:=avz hc
  subst this
  exact⟨4,rfl,.inl ⟨by decide,rfl⟩⟩
 |none=>
 simp only[jq,pS,ae,decide_true,eb,cond_false]
 have w:∀c∈l,c.c9=[]\/0<=cX l c.c9:=λ c y=>by
  have:=gS.1 n.symm c y;unfold q2 at this;split at this
  ·assumption
  ·cases this
 have z:∀i,i<l.length-> ∃c,dE (du l) l.length (i:Int)=some c:=λ i hi=>by
  have:=gS.1 hc i (by simpa using hi);unfold v8 at this;split at this
  ·rename_i d;exact Option.isSome_iff_exists.1 d
  ·cases this
 have h:h7 l:=⟨f,L,w,z,λ c y=>gS.1 D c y,v⟩
 have A:cX l [69,114,114,111,114]<l.length:=TP
 obtain⟨x,N,_⟩:=xR (l:=l) j A
 unfold Pd
 simp only[aJI j]
 rw[h.aau g j A,ae,h.X9 g (e1 0 l) j A,ae,N,ae,ae]
 by_cases aj:((!decide (x.c9=[79,98,106,101,99,116]))||(decide (((fF l (cX l [69,114,114,111,114])).length:Int)=0)))=true
 ·rw[aj]
  exact⟨4,rfl,.inl ⟨by decide,rfl⟩⟩
 rw[gQ.2 aj,cond_false,cond_false]
 have O:0<(fF l (cX l [69,114,114,111,114])).length:=by
  simp only[ia,decide_eq_true_eq,not_or]at aj;omega
 have P:idx (fF l (cX l [69,114,114,111,114])) 0=some ((fF l (cX l [69,114,114,111,114]))[0]):=by
  have:=bw (l:=fF l (cX l [69,114,114,111,114])) (i:=0) (aK O);exact this
 rw[P,ae,ae]
 by_cases E:((fF l (cX l [69,114,114,111,114]))[0]).Kind.Kind=1
 case neg=>
  rw[decide_eq_false E]
  exact⟨4,rfl,.inl ⟨by decide,rfl⟩⟩
 rw[decide_eq_true E]
 simp only[eb,cond_false,ae,decide_true]
 rw[aJq g f,kb,aJp g f,ae]
 cases Q:(tc l).findSome? (kd l)with
 |some e=>
  have:e=5:=by
   obtain⟨s,_,d⟩:=eN Q;rcases amy (l:=l) (s:=s)with J |J
   ·rw[J]at d;cases d
   ·rw[J]at d;injection d with d;exact d.symm
  subst this
  exact⟨5,rfl,.inl ⟨by decide,rfl⟩⟩
 |none=>
 simp only[pS,jL,decide_true,eb,cond_false]
 rw[aFk g h,kb,aFj g h,ae]
 cases R:(ed l.length).findSome? (Ao l)with
 |some e=>
  have:e=6:=by
   obtain⟨s,_,d⟩:=eN R;unfold Ao v_ at d;split at d
   ·split at d
    ·cases d
    ·simp at d;exact d.symm
   ·simp at d;exact d.symm
  subst this
  exact⟨6,rfl,.inl ⟨by decide,rfl⟩⟩
 |none=>
 simp only[pS,jL,decide_true,eb,cond_false]
 rw[aD_ g h,kb,aD9 g h,ae]
 cases S:(ed l.length).findSome? (λ i=>(l[i]?).bind λ c=>Gz l c i)with
 |some e=>
  have:e=4:=by
   obtain⟨i,_,d⟩:=eN S;cases G:l[i]? with
   |none=>rw[G]at d;cases d
   |some c=>
    rw[G,ae]at d
    unfold Gz at d
    rcases t_ (aeB (l:=l) c) (dH l i).tail with J |J
    ·rw[J]at d;cases d
    ·rw[J]at d;injection d with d;exact d.symm
  subst this
  exact⟨4,rfl,.inl ⟨by decide,rfl⟩⟩
 |none=>
 simp only[pS,jL,decide_true,eb,cond_false]
 exact⟨0,rfl,.inr ⟨rfl,h,(0,⟨l,e1 0 l,[]⟩),(0,⟨l,e1 0 l,du l⟩),rfl,rfl,rfl⟩⟩
theorem aDI(b:1100<F)(ad:Fits F l):∃r:aO×Int,DF F l=some r/\Io F l=some r/\(r.2=0 ->h7 l/\r.1=linked l)/\(r.2≠0 ->r.1=PQ):=by
 obtain⟨e,a,J⟩:=au1 b ad;unfold Io;rw[a,ae];rcases J with⟨f,J⟩|⟨rfl,c,g,j,k,d,J⟩
 ·exact⟨_,J,by rw[sS f];rfl,λ h=>absurd h f,λ _=>rfl⟩
 ·rw[r5,J,aDJ b c g j k d,aH_ b c]
  cases ag:(ed l.length).findSome? (Fq l)with
  |some r=>
   have:r=(PQ,2):=by
    obtain⟨i,_,a⟩:=eN ag;unfold Fq at a;split at a
    ·injection a with a;exact a.symm
    ·cases a
   subst this
   exact⟨_,rfl,rfl,λ h=>absurd h (by decide),λ _=>rfl⟩
  |none=>
   refine⟨_,rfl,?_,λ _=>⟨c,?_⟩,λ h=>absurd rfl h⟩
   ·simp only[Eg,rk,d]
   ·simp only[d];rfl
end
end I
namespace I
theorem mT{α:Type} [DecidableEq α]{F:Nat}{a b:List α}(j:a.length=b.length){L:Nat->Int->Option (Way Bool Unit)}(d:a.length<=140737488355328)
 (aj:∀k (i:Nat) x y,a[i]? =some x->b[i]? =some y->L (k+1) (i:Int)=cond (!decide (x=y)) (some (.out false)) (L k (ax ((i:Int)+1))))(f:∀k,L (k+1) (a.length:Int)=some (.go ()))(g:a.length<F) :
 L F 0=some (if a=b then .go ()else .out false):=by
 have l1:L F 0=some (cA ((ed a.length).findSome? λ i=>if a[i]? =b[i]? then none else some false)):=kQ _ d (λ k i hi=>by
  rw[aj k i a[i] (b[i]'(by omega)) (aK hi) (aK (show i<b.length by omega)),aK hi,aK (show i<b.length by omega)];simp only[aH];by_cases e:a[i]=b[i]'(by omega)
  ·rw[decide_eq_true e,if_pos e];rfl
  ·rw[decide_eq_false e,if_neg e];rfl) f g
 rw[l1]
 cases ad:(ed a.length).findSome? λ i=>if a[i]? =b[i]? then none else some false with
 |some e=>
  obtain⟨i,hi,c⟩:=eN ad
  split at c
  ·cases c
  ·rename_i h
   injection c with c
   subst c
   rw[if_neg (λ e=>h (by rw[e]))];rfl
 |none=>
  rw[if_pos];rfl
  apply lu
  intro i
  by_cases hi:i<a.length
  ·have:=gS.1 ad i (by simpa using hi)
   split at this
   ·assumption
   ·cases this
  ·rw[gE (by omega),gE (by omega)]
theorem UY{α β:Type}(l:List α):l.findSome? (λ _=>(none:Option β))=none:=by rw[gS];intro _ _;rfl
theorem po{p:Prop} [Decidable p]{Y:Option Bool}:cm (α:=Unit) (some (if p then(.go ():Way Bool Unit)else .out false)) (λ _=>Y)=if p then Y else some false:=by by_cases h:p<;>simp[h]
theorem aeC{p:Prop} [Decidable p]{Y:Option (Way Bool Unit)}:dd (α:=Unit) (some (if p then(.go ():Way Bool Unit)else .out false)) (λ _=>Y)=if p then Y else some (.out false):=by by_cases h:p<;>simp[h]
theorem nl{α:Type}{a b:List α}:decide ((a.length:Int)=(b.length:Int))=decide (a.length=b.length):=by
 rw[iT];simp;omega
theorem r6{α:Type} [DecidableEq α]{a b:List α}(h:a.length≠b.length):decide (a=b)=false:=decide_eq_false (λ e=>h (by rw[e]))
section
variable{F:Nat}
theorem alS{a b:List Field}(d:Small F a.length):Fh F a b=some (decide (a=b)):=by
 unfold Fh;rw[nl];by_cases c:a.length=b.length
 ·rw[decide_eq_true c]
  simp only[eb,cond_false]
  rw[mT c d.1 (L:=Cd a b) (λ k i x y e hy=>by rw[Cd,bM (aP.1 e).1,cond_true,bw e,ae,bw hy,ae]) (λ k=>by rw[Cd,bL];rfl) d.2,po]
  by_cases h:a=b<;>simp[h]
 ·rw[decide_eq_false c,r6 c];rfl
theorem aIP{a b:List Kind}(d:Small F a.length):vN F a b=some (decide (a=b)):=by
 unfold vN;rw[nl];by_cases c:a.length=b.length
 ·rw[decide_eq_true c]
  simp only[eb,cond_false]
  rw[mT c d.1 (L:=qu a b) (λ k i x y e hy=>by rw[qu,bM (aP.1 e).1,cond_true,bw e,ae,bw hy,ae]) (λ k=>by rw[qu,bL];rfl) d.2,po]
  by_cases h:a=b<;>simp[h]
 ·rw[decide_eq_false c,r6 c];rfl
theorem aIT{l:List ap}(h:Fits F l):Fg F l l=some true:=by
 unfold Fg;rw[decide_eq_true rfl];simp only[eb,cond_false];have l1:Ca F l l F 0=some (cA (l.findSome? λ _=>(none:Option Bool))):=each (λ _=>none) h.1.1 (λ k i c a=>by
  have hc:=h.2 c (bG a);have e:Cb F c c F 0=some (cA (c.bp.findSome? λ _=>(none:Option Bool))):=each (λ _=>none) hc.methods.1 (λ k i m hy=>by
   have b:=hc.method m (bG hy);have f:Cc m m F 0=some (cA (m.cL.findSome? λ _=>(none:Option Bool))):=each (λ _=>none) b.zl.1 (λ k i x d=>by
    rw[Cc,bM (aP.1 d).1,cond_true,bw d,ae,ae,decide_eq_true rfl];rfl) (λ k=>by rw[Cc,bL];rfl) b.zl.2
   rw[Cb,bM (aP.1 hy).1,cond_true,bw hy,ae,ae,aIP b.args,ae,f,UY];simp;rfl) (λ k=>by rw[Cb,bL];rfl) hc.methods.2
  rw[Ca,bM (aP.1 a).1,cond_true,bw a,ae,ae,alS hc.fields,ae,e,UY];simp;rfl) (λ k=>by rw[Ca,bL];rfl) h.1.2
 rw[l1,UY];rfl
structure ML (F:Nat) (k:aO):Prop where
 dB:Small F k.aY.length
 fields:Small F k.Fields.length
 field:∀x∈k.Fields,Small F x.length
 names:Small F k.Names.length
 name:∀x∈k.Names,Small F x.length
 targets:Small F k.aZ.length
 target:∀x∈k.aZ,Small F x.length
instance:DecidableEq (List (List Field)):=inferInstance
theorem aIQ{a b:aO}(d:ML F a)(hc:Fg F a.a6 b.a6=some true) :
 Fi F a b=some (decide (a.aY=b.aY/\a.Fields=b.Fields/\a.Names=b.Names/\a.aZ=b.aZ)):=by
 unfold Fi
 rw[hc,ae,nl,nl,nl,nl]
 have aL:∀(_: ¬(a.aY=b.aY/\a.Fields=b.Fields/\a.Names=b.Names/\a.aZ=b.aZ)),decide (a.aY=b.aY/\a.Fields=b.Fields/\a.Names=b.Names/\a.aZ=b.aZ)=false:=λ h=>decide_eq_false h
 by_cases g:b.aY.length=a.aY.length
 case neg=>rw[aL (λ e=>g (by rw[e.1])),decide_eq_false g];rfl
 by_cases J:a.Fields.length=b.Fields.length
 case neg=>rw[aL (λ e=>J (by rw[e.2.1])),decide_eq_true g,decide_eq_false J];rfl
 by_cases l:a.Names.length=b.Names.length
 case neg=>rw[aL (λ e=>l (by rw[e.2.2.1])),decide_eq_true g,decide_eq_true J,decide_eq_false l];rfl
 by_cases o:a.aZ.length=b.aZ.length
 case neg=>rw[aL (λ e=>o (by rw[e.2.2.2])),decide_eq_true g,decide_eq_true J,decide_eq_true l,decide_eq_false o];rfl
 rw[decide_eq_true g,decide_eq_true J,decide_eq_true l,decide_eq_true o]
 simp only[eb,Bool.or_self,cond_false]
 have l1:=mT (F:=F) g.symm d.dB.1 (L:=yN a b) (λ k i x y c hy=>by rw[yN,bM (aP.1 c).1,cond_true,bw c,ae,bw hy,ae]) (λ k=>by rw[yN,bL];rfl) d.dB.2
 have r:=mT (F:=F) J d.fields.1 (L:=Cf F a b) (λ k i x y c hy=>by
  rw[Cf,bM (aP.1 c).1,cond_true,bw c,ae,bw hy,ae,alS (d.field x (bG c)),ae]) (λ k=>by rw[Cf,bL];rfl) d.fields.2
 have s:=mT (F:=F) l d.names.1 (L:=Cg F a b) (λ k i x y c hy=>by
  have m:=d.name x (bG c);rw[Cg,bM (aP.1 c).1,cond_true,bw c,ae,bw hy,ae,nl];by_cases f:x.length=y.length
  ·rw[decide_eq_true f]
   simp only[eb,cond_false]
   rw[mT (F:=F) f m.1 (L:=Ch a b i) (λ k j u v n p=>by
    rw[Ch,bw c,ae,bM (aP.1 n).1,cond_true,ae,bw n,ae,bw hy,ae,bw p,ae]) (λ k=>by rw[Ch,bw c,ae,bL];rfl) m.2,aeC]
   by_cases h:x=y
   ·rw[if_pos h,decide_eq_true h];rfl
   ·rw[if_neg h,decide_eq_false h];rfl
  ·rw[decide_eq_false f,r6 f];rfl) (λ k=>by rw[Cg,bL];rfl) d.names.2
 have t:=mT (F:=F) o d.targets.1 (L:=Ci F a b) (λ k i x y c hy=>by
  have m:=d.target x (bG c);rw[Ci,bM (aP.1 c).1,cond_true,bw c,ae,bw hy,ae,nl];by_cases f:x.length=y.length
  ·rw[decide_eq_true f]
   simp only[eb,cond_false]
   rw[mT (F:=F) f m.1 (L:=Cj a b i) (λ k j u v n p=>by
    rw[Cj,bw c,ae,bM (aP.1 n).1,cond_true,ae,bw n,ae,bw hy,ae,bw p,ae]) (λ k=>by rw[Cj,bw c,ae,bL];rfl) m.2,aeC]
   by_cases h:x=y
   ·rw[if_pos h,decide_eq_true h];rfl
   ·rw[if_neg h,decide_eq_false h];rfl
  ·rw[decide_eq_false f,r6 f];rfl) (λ k=>by rw[Ci,bL];rfl) d.targets.2
 rw[l1,r,s,t,po,po,po,po]
 by_cases q:a.aY=b.aY
 ·by_cases ao:a.Fields=b.Fields
  ·by_cases aT:a.Names=b.Names
   ·by_cases bQ:a.aZ=b.aZ<;>simp[q,ao,aT,bQ]
   ·simp[aT]
  ·simp[ao]
 ·simp[q]
end
section
variable{F:Nat}{l:List ap}
theorem aIn{β:Type}{f:Int->β}{n:Nat}:(rows f n).length=n:=by simp[rows]
end
end I
namespace I
section
variable{F:Nat}
theorem awS{a b:List (Int)}(d:Small F a.length):Lu F a b=some (decide (a=b)):=by
 unfold Lu;rw[nl];by_cases c:a.length=b.length
 ·rw[decide_eq_true c]
  simp only[eb,cond_false]
  rw[mT c d.1 (L:=AG a b) (λ k i x y e hy=>by rw[AG,bM (aP.1 e).1,cond_true,bw e,ae,bw hy,ae]) (λ k=>by rw[AG,bL];rfl) d.2,po]
  by_cases h:a=b<;>simp[h]
 ·rw[decide_eq_false c,r6 c];rfl
theorem awQ{a b:List (Field)}(d:Small F a.length):Lr F a b=some (decide (a=b)):=by
 unfold Lr;rw[nl];by_cases c:a.length=b.length
 ·rw[decide_eq_true c]
  simp only[eb,cond_false]
  rw[mT c d.1 (L:=AE a b) (λ k i x y e hy=>by rw[AE,bM (aP.1 e).1,cond_true,bw e,ae,bw hy,ae]) (λ k=>by rw[AE,bL];rfl) d.2,po]
  by_cases h:a=b<;>simp[h]
 ·rw[decide_eq_false c,r6 c];rfl
theorem awT{a b:List (List UInt8)}(d:Small F a.length):Lv F a b=some (decide (a=b)):=by
 unfold Lv;rw[nl];by_cases c:a.length=b.length
 ·rw[decide_eq_true c]
  simp only[eb,cond_false]
  rw[mT c d.1 (L:=AH a b) (λ k i x y e hy=>by rw[AH,bM (aP.1 e).1,cond_true,bw e,ae,bw hy,ae]) (λ k=>by rw[AH,bL];rfl) d.2,po]
  by_cases h:a=b<;>simp[h]
 ·rw[decide_eq_false c,r6 c];rfl
theorem awV{a b:List (Target)}(d:Small F a.length):Lt F a b=some (decide (a=b)):=by
 unfold Lt;rw[nl];by_cases c:a.length=b.length
 ·rw[decide_eq_true c]
  simp only[eb,cond_false]
  rw[mT c d.1 (L:=AF a b) (λ k i x y e hy=>by rw[AF,bM (aP.1 e).1,cond_true,bw e,ae,bw hy,ae]) (λ k=>by rw[AF,bL];rfl) d.2,po]
  by_cases h:a=b<;>simp[h]
 ·rw[decide_eq_false c,r6 c];rfl
theorem awR{a b:List (List Field)}(e:Small F a.length)(f:∀x∈a,Small F x.length):Ln F a b=some (decide (a=b)):=by
 unfold Ln;rw[nl];by_cases c:a.length=b.length
 ·rw[decide_eq_true c]
  simp only[eb,cond_false]
  rw[mT c e.1 (L:=AB F a b) (λ k i x y d J=>by rw[AB,bM (aP.1 d).1,cond_true,bw d,ae,bw J,ae,awQ (f x (bG d)),ae]) (λ k=>by rw[AB,bL];rfl) e.2,po]
  by_cases h:a=b<;>simp[h]
 ·rw[decide_eq_false c,r6 c];rfl
theorem awU{a b:List (List (List UInt8))}(e:Small F a.length)(f:∀x∈a,Small F x.length):Lq F a b=some (decide (a=b)):=by
 unfold Lq;rw[nl];by_cases c:a.length=b.length
 ·rw[decide_eq_true c]
  simp only[eb,cond_false]
  rw[mT c e.1 (L:=AD F a b) (λ k i x y d J=>by rw[AD,bM (aP.1 d).1,cond_true,bw d,ae,bw J,ae,awT (f x (bG d)),ae]) (λ k=>by rw[AD,bL];rfl) e.2,po]
  by_cases h:a=b<;>simp[h]
 ·rw[decide_eq_false c,r6 c];rfl
theorem awW{a b:List (List Target)}(e:Small F a.length)(f:∀x∈a,Small F x.length):Lp F a b=some (decide (a=b)):=by
 unfold Lp;rw[nl];by_cases c:a.length=b.length
 ·rw[decide_eq_true c]
  simp only[eb,cond_false]
  rw[mT c e.1 (L:=AC F a b) (λ k i x y d J=>by rw[AC,bM (aP.1 d).1,cond_true,bw d,ae,bw J,ae,awV (f x (bG d)),ae]) (λ k=>by rw[AC,bL];rfl) e.2,po]
  by_cases h:a=b<;>simp[h]
 ·rw[decide_eq_false c,r6 c];rfl
theorem aIS{a b:aO}(c:ML F a):Gu F a b=some (decide (a.aY=b.aY/\a.Fields=b.Fields/\a.Names=b.Names/\a.aZ=b.aZ)):=by
 unfold Gu;rw[awS c.dB,ae];by_cases d:a.aY=b.aY;case neg=>rw[decide_eq_false d,decide_eq_false (λ e=>d e.1)];rfl
 rw[decide_eq_true d,cond_true,awR c.fields c.field,ae];by_cases ao:a.Fields=b.Fields;case neg=>rw[decide_eq_false ao,decide_eq_false (λ e=>ao e.2.1)];rfl
 rw[decide_eq_true ao,cond_true,awU c.names c.name,ae];by_cases aT:a.Names=b.Names;case neg=>rw[decide_eq_false aT,decide_eq_false (λ e=>aT e.2.2.1)];rfl
 rw[decide_eq_true aT,cond_true,awW c.targets c.target,ae];congr 1;rw[iT];simp[d,ao,aT]
theorem au2{k:aO}(j:1100<F)(hc:Fits F k.a6)(i:ML F k):∃e,oE F k=some e/\tM F k=some e/\((e=4)\/(e=0/\h7 k.a6/\k=linked k.a6)):=by
 obtain⟨r,l,J,m,q⟩:=aDI j hc;unfold oE tM;rw[l,J,ae,ae];by_cases g:r.2=0;case neg=>rw[sS g,sS g];exact⟨4,rfl,rfl,.inl rfl⟩
 obtain⟨n,e⟩:=m g;have o:Gu F (⟨k.a6,k.aY,k.Fields,k.Names,k.aZ⟩:aO) (⟨r.1.a6,r.1.aY,r.1.Fields,r.1.Names,r.1.aZ⟩:aO)=some (decide (k.aY=r.1.aY/\k.Fields=r.1.Fields/\k.Names=r.1.Names/\k.aZ=r.1.aZ)):=aIS (a:=k) (b:=r.1) i;have p:Fi F (⟨k.a6,k.aY,k.Fields,k.Names,k.aZ⟩:aO) (⟨r.1.a6,r.1.aY,r.1.Fields,r.1.Names,r.1.aZ⟩:aO)=some (decide (k.aY=r.1.aY/\k.Fields=r.1.Fields/\k.Names=r.1.Names/\k.aZ=r.1.aZ)):=aIQ (a:=k) (b:=r.1) i (by rw[e];exact aIT hc);rw[o,p,g];simp only[r5,ae];by_cases aj:k.aY=r.1.aY/\k.Fields=r.1.Fields/\k.Names=r.1.Names/\k.aZ=r.1.aZ
 ·rw[decide_eq_true aj]
  refine⟨0,rfl,rfl,.inr ⟨rfl,n,?_⟩⟩
  obtain⟨h,ao,aT,bQ⟩:=aj
  rw[e]at h ao aT bQ
  obtain⟨a,b,c,d,f⟩:=k
  simp only at h ao aT bQ
  subst h ao aT bQ
  rfl
 ·rw[decide_eq_false aj]
  exact⟨4,rfl,rfl,.inl rfl⟩
end
end I
namespace I
def An(h:aV):Prop:=(3<=h.ak/\h.ak<=2000)/\(3<=h.aM/\h.aM<=2000)
def okB(h:aV):Prop:=(h.Words.length:Int)=1+h.ak+h.aM
def GL(h:aV):Prop:=(1<=h.aX/\h.aX<=h.ak+1)/\(h.ak+1<=h.aW/\h.aW<=h.ak+h.aM+1)/\1<=h.Next
instance (h:aV):Decidable (An h):=inferInstanceAs (Decidable ((3<=h.ak/\h.ak<=2000)/\(3<=h.aM/\h.aM<=2000)))
instance (h:aV):Decidable (okB h):=inferInstanceAs (Decidable ((h.Words.length:Int)=1+h.ak+h.aM))
instance (h:aV):Decidable (GL h):=inferInstanceAs (Decidable ((1<=h.aX/\h.aX<=h.ak+1)/\(h.ak+1<=h.aW/\h.aW<=h.ak+h.aM+1)/\1<=h.Next))
def nw(h:aV):Int:=if An h then(if okB h then(if GL h then 0 else 3)else 1)else 3
theorem aI6(h:aV):F5 h=some (nw h):=by
 unfold F5 py nw;simp only[ae];by_cases d:An h
 case neg=>
  rw[if_neg d]
  unfold An at d
  by_cases a:3<=h.ak/\h.ak<=2000
  ·have b: ¬(3<=h.aM/\h.aM<=2000):=λ b=>d ⟨a,b⟩
   rw[show(decide (3<=h.ak)&&decide (h.ak<=2000))=true by simpa using a,show(decide (3<=h.aM)&&decide (h.aM<=2000))=false by rw[gQ];simpa using b]
   rfl
  ·rw[show(decide (3<=h.ak)&&decide (h.ak<=2000))=false by rw[gQ];simpa using a]
   rfl
 rw[if_pos d];unfold An at d;obtain⟨⟨g,i⟩,a3,a4⟩:=d
 rw[show(decide (3<=h.ak)&&decide (h.ak<=2000))=true by simp;omega,show(decide (3<=h.aM)&&decide (h.aM<=2000))=true by simp;omega,
  cQ (n:=1+h.ak) (by omega) (by omega),cQ (n:=1+h.ak+h.aM) (by omega) (by omega),cQ (n:=h.ak+1) (by omega) (by omega),cQ (n:=h.ak+h.aM) (by omega) (by omega),cQ (n:=h.ak+h.aM+1) (by omega) (by omega)]
 simp only[eb,cond_false];by_cases e:okB h
 case neg=>
  rw[if_neg e,show decide ((h.Words.length:Int)=1+h.ak+h.aM)=false from decide_eq_false e];rfl
 rw[if_pos e,show decide ((h.Words.length:Int)=1+h.ak+h.aM)=true from decide_eq_true e];simp only[eb,cond_false];by_cases f:GL h
 ·rw[if_pos f]
  obtain⟨c1,c2,c3⟩:=f
  rw[show(decide (1<=h.aX)&&decide (h.aX<=h.ak+1))=true by simpa using c1,show(decide (h.ak+1<=h.aW)&&decide (h.aW<=h.ak+h.aM+1))=true by simpa using c2,show decide (h.Next<1)=false from decide_eq_false (by omega)]
  rfl
 ·rw[if_neg f]
  by_cases c1:1<=h.aX/\h.aX<=h.ak+1
  ·rw[show(decide (1<=h.aX)&&decide (h.aX<=h.ak+1))=true by simpa using c1]
   by_cases c2:h.ak+1<=h.aW/\h.aW<=h.ak+h.aM+1
   ·have c3:h.Next<1:=by
     rcases Int.lt_or_le h.Next 1 with c |c
     ·exact c
     ·exact absurd ⟨c1,c2,c⟩ f
    rw[decide_eq_true c3,Bool.or_true];rfl
   ·rw[show(decide (h.ak+1<=h.aW)&&decide (h.aW<=h.ak+h.aM+1))=false by rw[gQ];simpa using c2]
    rfl
  ·rw[show(decide (1<=h.aX)&&decide (h.aX<=h.ak+1))=false by rw[gQ];simpa using c1]
   rfl
structure iU (h:aV):Prop where
 A:An h
 B:okB h
 C:GL h
theorem aaT{h:aV}:nw h=0↔iU h:=by
 unfold nw;constructor
 ·intro e
  split at e
  ·split at e
   ·split at e
    ·exact⟨‹_›,‹_›,‹_›⟩
    ·cases e
   ·cases e
  ·cases e
 ·rintro⟨a,b,c⟩
  rw[if_pos a,if_pos b,if_pos c]
section
variable{F:Nat}{k:aO}{W:List Int}
theorem eQ.mem{to q:Nat}{L:List Int}(h:eQ k W to q L):∀a∈L,∃n:Nat,a=(n:Int)/\q<=n/\n+3+(wd W (n+1)).toNat<=to/\gJ k (wd W n)=true/\isLen k (wd W n) (wd W (n+1))=true:=by
 induction h with
 |nil=>intro a ar;cases ar
 |cons b J c _ d=>
  intro a ar
  rcases cI.1 ar with rfl |ar
  ·exact⟨_,rfl,cT _,c,b,J⟩
  ·obtain⟨n,e,g,f⟩:=d a ar
   exact⟨n,e,by omega,f⟩
theorem eQ.xT{to q:Nat}{L L':List Int}(h:eQ k W to q L)(h':eQ k W to q L'):L=L':=by
 induction h generalizing L' with
 |nil=>
  cases h' with
  |nil=>rfl
  |cons _ _ _ _=>omega
 |cons _ _ c _ a=>
  cases h' with
  |nil=>omega
  |cons _ _ _ b=>rw[a b]
theorem eQ.len{to q:Nat}{L:List Int}(h:eQ k W to q L):3*L.length+q<=to:=by
 induction h with
 |nil=>simp
 |cons _ _ a _ b=>simp only[dL];omega
theorem aml{l:List Int}{N:Nat}(h:yS l)(a:∀i,i<l.length->0<=wd l i/\wd l i<N):l.length<=N:=by
 have key:∀i,i<l.length->(i:Int)<=wd l i:=by
  intro i;induction i with
  |zero=>intro hi;exact(a 0 hi).1
  |succ i b=>
   intro hi
   have:=h i (i+1) (by omega) hi
   have:=b (by omega)
   omega
 rcases lS l.length with e |e
 ·omega
 ·have:=key (l.length-1) (by omega)
  have:=(a (l.length-1) (by omega)).2
  omega
theorem Po(x:Int):∀A:List Int,(cH (A.map λ a=>(a,true)) x).getD false=decide (x∈A)
 |[]=>by simp[cH]
 |a::r=>by
  rw[eB,cH];by_cases e:a=x
  ·simp[e]
  ·rw[if_neg e,Po x r]
   have: ¬x=a:=λ h=>e h.symm
   simp[this]
def view(h:aV)(k:aO)(Y O:List Int):bj:=⟨h,⟨k⟩,Y,O,(Y++O).map λ a=>(a,true)⟩
structure h9 (h:aV) (k:aO) (Y O:List Int):Prop where
 y:eQ k h.Words h.aX.toNat 1 Y
 o:eQ k h.Words h.aW.toNat (h.ak+1).toNat O
theorem iU.e3{h:aV}(aj:iU h):h.Words.length<=4001:=by
 obtain⟨⟨⟨a,b⟩,c,d⟩,e,_⟩:=aj;unfold okB at e;omega
theorem h9.p3{h:aV}{Y O:List Int}(f:gk k)(aj:iU h)(c:h9 h k Y O):pc (view h k Y O):=by
 have i:=aj.e3;obtain⟨⟨⟨j,l⟩,a3,a4⟩,b,⟨c1,c2⟩,⟨c3,c4⟩,c5⟩:=aj;unfold okB at b;refine⟨f,by show h.Words.length<=4900;omega,?_,λ a ar=>?_,λ x=>Po x _⟩
 ·have:=c.y.len;have:=c.o.len
  show Y.length+O.length<=5000
  omega
 ·have ar:a∈Y++O:=ar
  rcases cj.1 ar with ar |ar
  ·obtain⟨n,rfl,g,J,d,e⟩:=c.y.mem a ar
   exact⟨by omega,by show((n:Int).toNat)+3+(wd h.Words ((n:Int).toNat+1)).toNat<=h.Words.length;rw[bV];omega,by rw[bV];exact d,by rw[bV];exact e⟩
  ·obtain⟨n,rfl,g,J,d,e⟩:=c.o.mem a ar
   exact⟨by omega,by show((n:Int).toNat)+3+(wd h.Words ((n:Int).toNat+1)).toNat<=h.Words.length;rw[bV];omega,by rw[bV];exact d,by rw[bV];exact e⟩
def a7(v:bj):Int:=if(v.ak++v.aM).any (l_ v)then 3 else if((v.ak++v.aM).map (aj v.H.Words)).Nodup then 0 else 6
def k9(v:bj):Int:=if(v.ak++v.aM).any (oN v)then 5 else if(free v.H).any (λ x=>!decide (x=0))then 1 else 0
def Aj(v:bj):Int:=if(ed v.H.aS.length).any (hC v)||v.aM.any (qj v)then 4 else 0
def oV(v:bj):Int:=if a7 v=0 then(if k9 v=0 then Aj v else k9 v)else a7 v
inductive Spec (h:aV) (k:aO):Option bj×Int->Prop
 |size: ¬iU h->Spec h k (none,nw h)
 |form:iU h->(∀Y O,¬h9 h k Y O)->Spec h k (none,1)
 |rest {Y O:List Int}:iU h->h9 h k Y O->Spec h k (if oV (view h k Y O)=0 then some (view h k Y O)else none,oV (view h k Y O))
theorem YU(x:10000<F){h:aV}(o:gk k)(D:Small F h.aS.length):∃r,uq F h k=some r/\Spec h k r:=by
 unfold uq;have P:F5 (⟨h.Words,h.ak,h.aM,h.aX,h.aW,h.aS,h.Next⟩:aV)=some (nw h):=aI6 h;rw[P,ae];by_cases aj:iU h
 case neg=>
  rw[sS (λ e=>aj (aaT.1 e))]
  exact⟨_,rfl,.size aj⟩
 rw[aaT.2 aj,r5];have hw:=aj.e3;have j:=aj;obtain⟨⟨⟨cq,a2⟩,a3,a4⟩,b,⟨c1,c2⟩,⟨c3,c4⟩,c5⟩:=aj;unfold okB at b;have E:=amv (F:=F) (by omega) (⟨h,⟨k⟩,[],[],[]⟩:bj) o (q:=1) (to:=h.aX.toNat) (by omega) (by show _<=h.Words.length;omega) (by show h.Words.length<=5000;omega) (λ p y=>by cases y);rw[show((h.aX.toNat:Nat):Int)=h.aX by omega]at E;rw[cQ (n:=h.ak+1) (by omega) (by omega)];rcases E with⟨Y,G,d⟩|⟨A,e9,d⟩
 case inr=>
  have d:na F (⟨(⟨h.Words,h.ak,h.aM,h.aX,h.aW,h.aS,h.Next⟩:aV),(⟨(⟨k.a6,k.aY,k.Fields,k.Names,k.aZ⟩:aO)⟩:b'),[],[],[]⟩:bj) 1 h.aX=some ([],false,(⟨h,⟨k⟩,[],[],e9⟩:bj)):=d
  rw[d,ae]
  have t:∃r,na F (⟨(⟨h.Words,h.ak,h.aM,h.aX,h.aW,h.aS,h.Next⟩:aV),(⟨(⟨k.a6,k.aY,k.Fields,k.Names,k.aZ⟩:aO)⟩:b'),[],[],e9⟩:bj) (h.ak+1) h.aW=some r:=by
   unfold na;have key:∀(f q:Nat)(acc:List Int)(m:List (Int×Bool)),q<=h.aW.toNat->h.aW.toNat-q<f->acc.length+(h.aW.toNat-q)<=5000-> ∃r,px h.aW (⟨h,⟨k⟩,[],[],e9⟩:bj) f acc m (q:Int)=some r:=by
    intro f;induction f with
    |zero=>intro q acc m _ Q;omega
    |succ f R=>
     intro q acc m Q ad wv
     rw[px]
     by_cases H:(q:Int)<h.aW
     case neg=>rw[decide_eq_false H];exact⟨_,rfl⟩
     rw[decide_eq_true H,cond_true,cQ (n:=(q:Int)+3) (by omega) (by omega)]
     by_cases I:h.aW<(q:Int)+3
     ·rw[decide_eq_true I];exact⟨_,rfl⟩
     rw[decide_eq_false I,cond_false]
     show∃r,(idx h.Words (q:Int)).bind _=some r
     rw[e7 (by omega),ae]
     show∃r,(idx h.Words (ax ((q:Int)+1))).bind _=some r
     rw[cQ (n:=(q:Int)+1) (by omega) (by omega),pG (i:=q+1) (by omega) (by omega),ae]
     have d:wE (⟨(⟨k.a6,k.aY,k.Fields,k.Names,k.aZ⟩:aO)⟩:b') (wd h.Words q)=some (gJ k (wd h.Words q)):=ama o _
     show∃r,(wE (⟨(⟨k.a6,k.aY,k.Fields,k.Names,k.aZ⟩:aO)⟩:b') (wd h.Words q)).bind _=some r
     rw[d,ae]
     cases u:gJ k (wd h.Words q)with
     |false=>exact⟨_,rfl⟩
     |true=>
      have ao:wF (⟨(⟨k.a6,k.aY,k.Fields,k.Names,k.aZ⟩:aO)⟩:b') (wd h.Words q) (wd h.Words (q+1))=some (isLen k (wd h.Words q) (wd h.Words (q+1))):=amb o u _
      rw[eb,cond_false]
      show∃r,(wF (⟨(⟨k.a6,k.aY,k.Fields,k.Names,k.aZ⟩:aO)⟩:b') (wd h.Words q) (wd h.Words (q+1))).bind _=some r
      rw[ao,ae]
      cases c:isLen k (wd h.Words q) (wd h.Words (q+1))with
      |false=>exact⟨_,rfl⟩
      |true=>
       obtain⟨⟨l0,l1⟩,_⟩:=kY.1 c
       rw[eb,iQ,cQ (n:=(q:Int)+3+wd h.Words (q+1)) (by omega) (by omega)]
       by_cases K:h.aW<(q:Int)+3+wd h.Words (q+1)
       ·rw[decide_eq_true K];exact⟨_,rfl⟩
       rw[decide_eq_false K,cond_false,io (by simp;omega),ae,cQ (n:=3+wd h.Words (q+1)) (by omega) (by omega),cQ (n:=(q:Int)+(3+wd h.Words (q+1))) (by omega) (by omega),
        show(q:Int)+(3+wd h.Words (q+1))=((q+3+(wd h.Words (q+1)).toNat:Nat):Int) by omega]
       exact R _ _ _ (by omega) (by omega) (by simp;omega)
   obtain⟨r,v⟩:=key F (h.ak+1).toNat [] e9 (by omega) (by omega) (by simp;omega);rw[show(((h.ak+1).toNat:Nat):Int)=h.ak+1 by omega]at v;have v:px h.aW (⟨(⟨h.Words,h.ak,h.aM,h.aX,h.aW,h.aS,h.Next⟩:aV),(⟨(⟨k.a6,k.aY,k.Fields,k.Names,k.aZ⟩:aO)⟩:b'),[],[],e9⟩:bj) F [] e9 (h.ak+1)=some r:=v;rw[v];cases r<;>exact⟨_,rfl⟩
  obtain⟨r,ao⟩:=t
  rw[ao,ae]
  exact⟨_,rfl,.form j (λ Y O c=>A Y c.y)⟩
 have d:na F (⟨(⟨h.Words,h.ak,h.aM,h.aX,h.aW,h.aS,h.Next⟩:aV),(⟨(⟨k.a6,k.aY,k.Fields,k.Names,k.aZ⟩:aO)⟩:b'),[],[],[]⟩:bj) 1 h.aX=some (Y,true,(⟨h,⟨k⟩,[],[],Y.map λ a=>(a,true)⟩:bj)):=d;rw[d,ae];have t:=amv (F:=F) (by omega) (⟨h,⟨k⟩,[],[],Y.map λ a=>(a,true)⟩:bj) o (q:=(h.ak+1).toNat) (to:=h.aW.toNat) (by omega) (by show _<=h.Words.length;omega) (by show h.Words.length<=5000;omega) (λ p y=>by
  obtain⟨a,w,rfl⟩:=hY.1 y;have B:eQ k h.Words h.aX.toNat 1 Y:=G;obtain⟨n,rfl,L,J,_⟩:=B.mem a w;show(n:Int)<_
  omega)
 rw[show((h.aW.toNat:Nat):Int)=h.aW by omega,show(((h.ak+1).toNat:Nat):Int)=h.ak+1 by omega]at t;rcases t with⟨O,S,ao⟩|⟨A,e9,ao⟩
 case inr=>
  have ao:na F (⟨(⟨h.Words,h.ak,h.aM,h.aX,h.aW,h.aS,h.Next⟩:aV),(⟨(⟨k.a6,k.aY,k.Fields,k.Names,k.aZ⟩:aO)⟩:b'),[],[],Y.map λ a=>(a,true)⟩:bj) (h.ak+1) h.aW=_:=ao
  show∃r,(na F (⟨(⟨h.Words,h.ak,h.aM,h.aX,h.aW,h.aS,h.Next⟩:aV),(⟨(⟨k.a6,k.aY,k.Fields,k.Names,k.aZ⟩:aO)⟩:b'),[],[],Y.map λ a=>(a,true)⟩:bj) (h.ak+1) h.aW).bind _=some r/\_
  rw[ao,ae]
  exact⟨_,rfl,.form j (λ Is T c=>A T c.o)⟩
 have ao:na F (⟨(⟨h.Words,h.ak,h.aM,h.aX,h.aW,h.aS,h.Next⟩:aV),(⟨(⟨k.a6,k.aY,k.Fields,k.Names,k.aZ⟩:aO)⟩:b'),[],[],Y.map λ a=>(a,true)⟩:bj) (h.ak+1) h.aW=some (O,true,(⟨h,⟨k⟩,[],[],(Y.map λ a=>(a,true))++O.map λ a=>(a,true)⟩:bj)):=ao;show∃r,(na F (⟨(⟨h.Words,h.ak,h.aM,h.aX,h.aW,h.aS,h.Next⟩:aV),(⟨(⟨k.a6,k.aY,k.Fields,k.Names,k.aZ⟩:aO)⟩:b'),[],[],Y.map λ a=>(a,true)⟩:bj) (h.ak+1) h.aW).bind _=some r/\_
 rw[ao,ae,<-jH];have c:h9 h k Y O:=⟨G,S⟩
 have g:=c.p3 o j
 have U:F2 F (⟨(⟨h.Words,h.ak,h.aM,h.aX,h.aW,h.aS,h.Next⟩:aV),(⟨(⟨k.a6,k.aY,k.Fields,k.Names,k.aZ⟩:aO)⟩:b'),Y,O,(Y++O).map λ a=>(a,true)⟩:bj)=some (a7 (view h k Y O)):=
  ayU x (view h k Y O) g.pq (λ a w=>⟨(g.s9 a w).pos,by have:=(g.s9 a w).fit;omega⟩) (by have:=g.e3;omega) (by simp[view])
 have V:F4 F (⟨(⟨h.Words,h.ak,h.aM,h.aX,h.aW,h.aS,h.Next⟩:aV),(⟨(⟨k.a6,k.aY,k.Fields,k.Names,k.aZ⟩:aO)⟩:b'),Y,O,(Y++O).map λ a=>(a,true)⟩:bj)=some (k9 (view h k Y O)):=
  aKe x g (by show 0<=h.ak;omega) ⟨by show 0<=h.aX;omega,by show h.aX<=h.ak+1;omega,by show h.ak+1<=h.Words.length;omega⟩ ⟨by show 0<=h.aW;omega,by show h.aW<=h.Words.length;omega⟩
 have X:F3 F (⟨(⟨h.Words,h.ak,h.aM,h.aX,h.aW,h.aS,h.Next⟩:aV),(⟨(⟨k.a6,k.aY,k.Fields,k.Names,k.aZ⟩:aO)⟩:b'),Y,O,(Y++O).map λ a=>(a,true)⟩:bj)=some (Aj (view h k Y O)):=
  aE9 x g D.1 D.2 (λ M=>by
   refine hv (aml (N:=5000) (aa0 λ i hi=>?_) (λ i hi=>?_)) (by omega)
   ·have:=M (i+1) hi
    unfold hC at this
    simp only[iF,ni,decide_eq_false_iff_not,Nat.add_sub_cancel]at this
    rcases this.1 with z |z
    ·omega
    ·have z: ¬wd h.aS (i+1)<=wd h.aS i:=z
     show wd h.aS i<wd h.aS (i+1);omega
   ·have:=M i hi
    unfold hC sR at this
    simp only[iF]at this
    have Z:wd (view h k Y O).H.aS i∈(view h k Y O).ak++(view h k Y O).aM:=by
     have:=this.2.1.1;simp only[Bool.not_eq_false']at this;exact of_decide_eq_true this
    have u:=g.s9 _ Z
    have L:0<=wd h.aS i:=u.pos
    have J:(wd h.aS i).toNat+3+(wd h.Words ((wd h.aS i).toNat+1)).toNat<=h.Words.length:=u.fit
    exact⟨L,by show wd h.aS i<((5000 :Nat):Int);omega⟩)
 simp only[eb,Bool.or_self,cond_false];rw[U,ae];by_cases l:a7 (view h k Y O)=0
 case neg=>
  rw[sS l]
  have bY:oV (view h k Y O)=a7 (view h k Y O):=by unfold oV;rw[if_neg l]
  have:=Spec.rest j c
  rw[bY,if_neg l]at this
  exact⟨_,rfl,this⟩
 rw[l,r5,V,ae];by_cases s:k9 (view h k Y O)=0
 case neg=>
  rw[sS s]
  have bY:oV (view h k Y O)=k9 (view h k Y O):=by unfold oV;rw[if_pos l,if_neg s]
  have:=Spec.rest j c
  rw[bY,if_neg s]at this
  exact⟨_,rfl,this⟩
 rw[s,r5,X,ae];have bY:oV (view h k Y O)=Aj (view h k Y O):=by unfold oV;rw[if_pos l,if_pos s]
 have C8:=Spec.rest j c;rw[bY]at C8;by_cases C:Aj (view h k Y O)=0
 ·rw[C]at C8⊢
  rw[r5]
  exact⟨_,rfl,C8⟩
 ·rw[sS C]
  rw[if_neg C]at C8
  exact⟨_,rfl,C8⟩
end
end I
namespace I
theorem Rc{W:List Int}{p j:Nat}{x:Int}(a:p<W.length):wd (W.set p x) j=if j=p then x else wd W j:=by
 unfold wd;rw[List.getElem?_set];by_cases e:j=p
 ·subst e;simp[a]
 ·have: ¬p=j:=λ h=>e h.symm
  simp[e,this]
theorem ajA{h:aV}{x:Int}(hy:0<=h.ak)(aa:x∈free h):∃i:Nat,i<h.Words.length/\(i=0\/(h.aX<=i/\(i:Int)<=h.ak)\/h.aW<=i)/\x=wd h.Words i:=by
 unfold free at aa;rw[cj,cj]at aa;rcases aa with aa |aa |aa
 ·obtain⟨i,hi,e⟩:=iz aa
  have a:i<1/\i<h.Words.length:=by rw[fZ]at hi;omega
  refine⟨i,a.2,.inl (by omega),?_⟩
  rw[<-e,List.getElem_take];exact(nA (aK a.2)).symm
 ·obtain⟨i,hi,e⟩:=iz aa
  have a:i<min (h.ak+1).toNat h.Words.length-h.aX.toNat:=by simpa using hi
  have J:h.aX.toNat+i<h.Words.length:=by omega
  refine⟨h.aX.toNat+i,J,.inr (.inl ⟨by omega,by omega⟩),?_⟩
  rw[<-e,List.getElem_drop,List.getElem_take];exact(nA (aK J)).symm
 ·obtain⟨i,hi,e⟩:=iz aa
  have a:i<h.Words.length-h.aW.toNat:=by simpa using hi
  have J:h.aW.toNat+i<h.Words.length:=by omega
  refine⟨h.aW.toNat+i,J,.inr (.inr (by omega)),?_⟩
  rw[<-e,List.getElem_drop];exact(nA (aK J)).symm
theorem agJ{h:aV}(a:0<=h.aX/\0<=h.aW){i:Nat}(hi:i<h.Words.length)(hc:i=0\/(h.aX<=i/\(i:Int)<=h.ak)\/h.aW<=i):wd h.Words i∈free h:=by
 have key:wd h.Words i=h.Words[i]:=nA (aK hi);unfold free;rw[cj,cj,key];rcases hc with rfl |⟨h1,J⟩|h1
 ·left
  rw[nk]
  exact⟨0,by rw[hG,if_pos (by omega)];exact aK hi⟩
 ·right;left
  rw[nk]
  refine⟨i-h.aX.toNat,?_⟩
  rw[i_,hG,if_pos (by omega),show h.aX.toNat+(i-h.aX.toNat)=i by omega]
  exact aK hi
 ·right;right
  rw[nk]
  refine⟨i-h.aW.toNat,?_⟩
  rw[i_,show h.aW.toNat+(i-h.aW.toNat)=i by omega]
  exact aK hi
structure Ok (h:aV) (k:aO) (Y O:List Int):Prop where
 hash:∀a∈Y++O,1<=aj h.Words a/\aj h.Words a<h.Next
 nodup:((Y++O).map (aj h.Words)).Nodup
 ref:∀a∈Y++O,∀w∈refs k h.Words a.toNat,wd h.Words w.toNat=0\/wd h.Words w.toNat∈Y++O
 fr:∀i:Nat,i<h.Words.length->(i=0\/(h.aX<=i/\(i:Int)<=h.ak)\/h.aW<=i)->wd h.Words i=0
 LA:yS h.aS
 nt:∀x∈h.aS,x∈O/\refs k h.Words x.toNat≠[]
 must:∀a∈O,¬a∈h.aS-> ∀w∈refs k h.Words a.toNat,¬(0<wd h.Words w.toNat/\wd h.Words w.toNat<=h.ak)
section
variable{F:Nat}{k:aO}{h:aV}{Y O:List Int}
theorem h9.EU(aj:iU h)(b:h9 h k Y O):∀a∈Y,1<=a/\a.toNat+3+(wd h.Words (a.toNat+1)).toNat<=h.aX.toNat:=λ a c=>by
 obtain⟨n,rfl,d,J,_⟩:=b.y.mem a c;exact⟨by omega,by rw[bV];exact J⟩
theorem h9.j8(aj:iU h)(b:h9 h k Y O):∀a∈O,h.ak+1<=a/\a.toNat+3+(wd h.Words (a.toNat+1)).toNat<=h.aW.toNat:=λ a c=>by
 obtain⟨n,rfl,d,J,_⟩:=b.o.mem a c;have:=aj.A.1.1;exact⟨by omega,by rw[bV];exact J⟩
theorem amV(y:gk k)(r:iU h)(t:h9 h k Y O):oV (view h k Y O)=0↔Ok h k Y O:=by
 have H:=t.p3 y r;obtain⟨⟨⟨I,K⟩,a3,a4⟩,b,⟨c1,c2⟩,⟨c3,c4⟩,c5⟩:=id r;have hy:=t.EU r;have A:=t.j8 r;have B:a7 (view h k Y O)=0↔(∀a∈Y++O,l_ (view h k Y O) a=false)/\((Y++O).map (aj h.Words)).Nodup:=by
  unfold a7;show(if(Y++O).any (l_ (view h k Y O))then(3 :Int)else if((Y++O).map (aj h.Words)).Nodup then 0 else 6)=0↔_
  cases ag:(Y++O).any (l_ (view h k Y O))with
  |true=>
   rw[if_pos rfl]
   refine⟨λ e=>(by cases e),λ⟨e,_⟩=>?_⟩
   obtain⟨x,c,ao⟩:=iY.1 ag
   rw[e x c]at ao;cases ao
  |false=>
   rw[if_neg (by decide)]
   rw[je]at ag
   have m:∀a∈Y++O,l_ (view h k Y O) a=false:=λ a d=>by simpa using ag a d
   split
   ·rename_i f;exact⟨λ _=>⟨m,f⟩,λ _=>rfl⟩
   ·rename_i f;exact⟨λ e=>(by cases e),λ e=>absurd e.2 f⟩
 have ao:k9 (view h k Y O)=0↔(∀a∈Y++O,oN (view h k Y O) a=false)/\ ∀x∈free h,x=0:=by
  unfold k9;show(if(Y++O).any (oN (view h k Y O))then(5 :Int)else if(free h).any (λ x=>!decide (x=0))then 1 else 0)=0↔_
  cases ag:(Y++O).any (oN (view h k Y O))with
  |true=>
   rw[if_pos rfl]
   refine⟨λ e=>(by cases e),λ⟨e,_⟩=>?_⟩
   obtain⟨x,c,ao⟩:=iY.1 ag
   rw[e x c]at ao;cases ao
  |false=>
   rw[if_neg (by decide)]
   rw[je]at ag
   have m:∀a∈Y++O,oN (view h k Y O) a=false:=λ a d=>by simpa using ag a d
   cases ad:(free h).any (λ x=>!decide (x=0))with
   |true=>
    rw[if_pos rfl]
    refine⟨λ e=>(by cases e),λ⟨_,e⟩=>?_⟩
    obtain⟨x,c,ao⟩:=iY.1 ad
    rw[e x c]at ao;cases ao
   |false=>
    rw[if_neg (by decide)]
    rw[je]at ad
    exact⟨λ _=>⟨m,λ x c=>by simpa using ad x c⟩,λ _=>rfl⟩
 have aT:Aj (view h k Y O)=0↔(∀i,i<h.aS.length->hC (view h k Y O) i=false)/\ ∀a∈O,qj (view h k Y O) a=false:=by
  unfold Aj;show(if(ed h.aS.length).any (hC (view h k Y O))||O.any (qj (view h k Y O))then(4 :Int)else 0)=0↔_
  cases ag:(ed h.aS.length).any (hC (view h k Y O))with
  |true=>
   rw[Bool.true_or,if_pos rfl]
   refine⟨λ e=>(by cases e),λ⟨e,_⟩=>?_⟩
   obtain⟨x,c,ao⟩:=iY.1 ag
   rw[e x (by simpa using c)]at ao;cases ao
  |false=>
   rw[iQ]
   rw[je]at ag
   have m:∀i,i<h.aS.length->hC (view h k Y O) i=false:=λ i hi=>by simpa using ag i (by simpa using hi)
   cases ad:O.any (qj (view h k Y O))with
   |true=>
    rw[if_pos rfl]
    refine⟨λ e=>(by cases e),λ⟨_,e⟩=>?_⟩
    obtain⟨x,c,ao⟩:=iY.1 ad
    rw[e x c]at ao;cases ao
   |false=>
    rw[if_neg (by decide)]
    rw[je]at ad
    exact⟨λ _=>⟨m,λ x c=>by simpa using ad x c⟩,λ _=>rfl⟩
 have bQ:oV (view h k Y O)=0↔a7 (view h k Y O)=0/\k9 (view h k Y O)=0/\Aj (view h k Y O)=0:=by
  unfold oV;by_cases n:a7 (view h k Y O)=0
  ·rw[if_pos n]
   by_cases o:k9 (view h k Y O)=0
   ·rw[if_pos o];exact⟨λ e=>⟨n,o,e⟩,λ e=>e.2.2⟩
   ·rw[if_neg o];exact⟨λ e=>absurd e o,λ e=>absurd e.2.1 o⟩
  ·rw[if_neg n];exact⟨λ e=>absurd e n,λ e=>absurd e.1 n⟩
 rw[bQ,B,ao,aT];have u:∀x,(sR (view h k Y O) x=false)↔x∈O/\refs k h.Words x.toNat≠[]:=λ x=>by
  unfold sR kB;show((!decide (x∈Y++O)||(decide (0<x)&&decide (x<=h.ak)))||(refs k h.Words x.toNat).isEmpty)=false↔_
  rw[iF,iF];constructor
  ·rintro⟨⟨j,J⟩,s⟩
   have j:x∈Y++O:=by simp only[Bool.not_eq_false']at j;exact of_decide_eq_true j
   refine⟨?_,λ e=>by rw[e]at s;cases s⟩
   rcases cj.1 j with a_ |a_
   ·have:=hy x a_
    rw[decide_eq_true (by omega),decide_eq_true (by omega)]at J
    cases J
   ·exact a_
  ·rintro⟨j,J⟩
   have:=A x j
   refine⟨⟨?_,?_⟩,?_⟩
   ·rw[decide_eq_true (gI _ j)];rfl
   ·rw[decide_eq_false (p:=x<=h.ak) (by omega),Bool.and_false]
   ·cases e:refs k h.Words x.toNat with
    |nil=>exact absurd e J
    |cons _ _=>rfl
 constructor
 ·rintro⟨⟨j,J⟩,⟨s,a_⟩,v,C⟩
  refine⟨λ a d=>?_,J,λ a d w l=>?_,λ i hi hc=>a_ _ (agJ ⟨by omega,by omega⟩ hi hc),aa0 λ i hi=>?_,λ x c=>?_,λ a d f w l=>?_⟩
  ·have:=j a d
   unfold l_ at this
   rw[iF,decide_eq_false_iff_not,decide_eq_false_iff_not]at this
   have L: ¬aj h.Words a<1:=this.1
   have M: ¬h.Next<=aj h.Words a:=this.2
   omega
  ·have:=s a d
   unfold oN at this
   rw[je]at this
   have q:=this w l
   unfold vb at q
   by_cases e:wd h.Words w.toNat=0
   ·exact .inl e
   ·refine .inr ?_
    by_cases ao:wd h.Words w.toNat∈Y++O
    ·exact ao
    ·refine absurd ?_ q
     show(!decide (wd h.Words w.toNat=0)&& !decide (wd h.Words w.toNat∈Y++O))=true
     rw[decide_eq_false e,decide_eq_false ao];rfl
  ·have:=v (i+1) hi
   unfold hC at this
   simp only[iF,ni,decide_eq_false_iff_not,Nat.add_sub_cancel]at this
   rcases this.1 with z |z
   ·omega
   ·have z: ¬wd h.aS (i+1)<=wd h.aS i:=z
    omega
  ·obtain⟨i,hi,e⟩:=Yh c
   have:=v i hi
   unfold hC at this
   rw[iF]at this
   have q:sR (view h k Y O) (wd h.aS i)=false:=this.2
   rw[e]at q
   exact(u x).1 q
  ·rintro⟨D,E⟩
   have:=C a d
   unfold qj at this
   have this:(!decide (a∈h.aS)&&(refs k h.Words a.toNat).any λ w=>kB (view h k Y O) (wd h.Words w.toNat))=false:=this
   rw[decide_eq_false f,ja,kz,je]at this
   refine this w l ?_
   show(decide (0<wd h.Words w.toNat)&&decide (wd h.Words w.toNat<=h.ak))=true
   rw[decide_eq_true D,decide_eq_true E];rfl
 ·intro g
  refine⟨⟨λ a d=>?_,g.nodup⟩,⟨λ a d=>?_,λ x c=>?_⟩,λ i hi=>?_,λ a d=>?_⟩
  ·have:=g.hash a d
   show(decide (aj h.Words a<1)||decide (h.Next<=aj h.Words a))=false
   rw[decide_eq_false (by omega),decide_eq_false (by omega)];rfl
  ·show((refs k h.Words a.toNat).any (vb (view h k Y O)))=false
   rw[je]
   intro w l
   show¬(!decide (wd h.Words w.toNat=0)&& !decide (wd h.Words w.toNat∈Y++O))=true
   rcases g.ref a d w l with e |e
   ·rw[decide_eq_true e];simp
   ·rw[decide_eq_true e];simp
  ·obtain⟨i,hi,hc,e⟩:=ajA (by omega) c
   rw[e];exact g.fr i hi hc
  ·show((decide (0<i)&&decide (wd h.aS i<=wd h.aS (i-1)))||sR (view h k Y O) (wd h.aS i))=false
   rw[(u _).2 (g.nt _ (abt hi)),Bool.or_false]
   by_cases G:0<i
   ·have:=g.LA (i-1) i (by omega) hi
    rw[decide_eq_false (p:=wd h.aS i<=wd h.aS (i-1)) (by omega),Bool.and_false]
   ·rw[decide_eq_false G];rfl
  ·show(!decide (a∈h.aS)&&(refs k h.Words a.toNat).any λ w=>kB (view h k Y O) (wd h.Words w.toNat))=false
   by_cases f:a∈h.aS
   ·rw[decide_eq_true f];rfl
   ·rw[decide_eq_false f,ja,kz,je]
    intro w l e
    have e:(decide (0<wd h.Words w.toNat)&&decide (wd h.Words w.toNat<=h.ak))=true:=e
    simp only[cb,decide_eq_true_eq]at e
    exact g.must a d f w l e
theorem eQ.apart{W:List Int}{to q:Nat}{L:List Int}(h:eQ k W to q L):∀a∈L,∀b∈L,a≠b->a.toNat+3+(wd W (a.toNat+1)).toNat<=b.toNat\/b.toNat+3+(wd W (b.toNat+1)).toNat<=a.toNat:=by
 induction h with
 |nil=>intro a ar;cases ar
 |cons g J i d f=>
  intro a ar b ag e
  rcases cI.1 ar with rfl |ar
  ·rcases cI.1 ag with rfl |ag
   ·exact absurd rfl e
   ·obtain⟨n,rfl,c,_⟩:=d.mem b ag
    left;simp only[bV];exact c
  ·rcases cI.1 ag with rfl |ag
   ·obtain⟨n,rfl,c,_⟩:=d.mem a ar
    right;simp only[bV];exact c
   ·exact f a ar b ag e
theorem h9.apart(aj:iU h)(c:h9 h k Y O):∀a∈Y++O,∀b∈Y++O,a≠b->a.toNat+3+(wd h.Words (a.toNat+1)).toNat<=b.toNat\/b.toNat+3+(wd h.Words (b.toNat+1)).toNat<=a.toNat:=by
 intro a ar b ag d;have hc:=aj.C.1.2;rcases cj.1 ar with ar |ar<;>rcases cj.1 ag with ag |ag
 ·exact c.y.apart a ar b ag d
 ·have:=c.EU aj a ar;have:=c.j8 aj b ag;left;omega
 ·have:=c.j8 aj a ar;have:=c.EU aj b ag;right;omega
 ·exact c.o.apart a ar b ag d
theorem eQ.congr{W cu:List Int}{to q:Nat}{L:List Int}(h:eQ k W to q L)(b:∀a∈L,wd cu a.toNat=wd W a.toNat/\wd cu (a.toNat+1)=wd W (a.toNat+1)):eQ k cu to q L:=by
 induction h with
 |nil=>exact .nil
 | @cons q r c J d i f=>
   obtain⟨e,ao⟩:=b _ il
   simp only[bV]at e ao
   have:=f (λ a g=>b a (dZ _ g))
   rw[<-ao]at this d J
   rw[<-e]at c J
   exact .cons c J d this
theorem aIa{W cu:List Int}{q:Nat}(a:wd cu q=wd W q)(J:wd cu (q+1)=wd W (q+1)):refs k cu q=refs k W q:=by unfold refs;rw[a,J]
end
end I
namespace I
section
variable{F:Nat}{k:aO}
theorem aHt(h:gk k)(t:Int):Ff k t=some (gJ k t):=by
 have hc:=h.cl;unfold Ff gJ;rw[cQ (by omega) (by omega),aH,iT];simp;omega
theorem aHq(h:gk k){t:Int}(b:gJ k t=true)(n:Int):Fc k t n=some (isLen k t n):=by
 unfold Fc fX isLen;simp only[ae];cases ag:(decide (0<=n)&&decide (n<=500))with
 |false=>simp
 |true=>
  by_cases a:t<3
  ·simp[a]
  ·rw[QT h b a];simp[a]
theorem alj(h:gk k){t:Int}(d:gJ k t=true){n:Int}(e:isLen k t n=true){j:Nat}(aA:(j:Int)<n):tO k t (j:Int)=some (ej k t j):=by
 unfold tO ej;obtain⟨_,a⟩:=kY.1 e;by_cases J:t=2
 ·simp[J]
 by_cases b:t<3
 ·have: ¬3<=t:=by omega
  simp[J,this]
 ·have a:=a.resolve_left b
  have f:3<=t:=by omega
  have c:j<(iC k t).length:=by omega
  rw[QT h d b,ae,bw (aK c),aK c]
  simp[J,f]
theorem eQ.le{W:List Int}{to q:Nat}{L:List Int}(h:eQ k W to q L):q<=to:=by
 cases h with
 |nil=>exact cT _
 |cons a J b c=>omega
theorem axV(h:aV)(aj:gk k){to:Nat}(o:to<=h.Words.length)(p:h.Words.length<=5000):∀(f q:Nat)(acc:List Int),to-q<f->q<=6000 ->acc.length+(to-q)<=6000 ->
 (∃L,eQ k h.Words to q L/\yO h k (to:Int) f acc (q:Int)=some (.go (acc++L,(to:Int))))\/
 ((∀L,¬eQ k h.Words to q L)/\(yO h k (to:Int) f acc (q:Int)=some (.out ([],false))\/ ∃x,yO h k (to:Int) f acc (q:Int)=some (.go x)/\x.2≠(to:Int))):=by
 intro f
 induction f with
 |zero=>intro q acc h;omega
 |succ f j=>
  intro q acc ad s t
  rw[yO]
  by_cases b:q<to
  case neg=>
   by_cases e:q=to
   ·subst e
    refine .inl ⟨[],.nil,?_⟩
    rw[bL];simp
   ·rw[show decide ((q:Int)<(to:Int))=false from decide_eq_false (by omega)]
    exact .inr ⟨λ L a=>by have:=a.le;omega,.inr ⟨(acc,(q:Int)),rfl,by show(q:Int)≠(to:Int);omega⟩⟩
  rw[bM b,cond_true,cQ (n:=(q:Int)+3) (by omega) (by omega)]
  by_cases g:(to:Int)<(q:Int)+3
  ·rw[decide_eq_true g]
   refine .inr ⟨λ L a=>?_,.inl rfl⟩
   obtain⟨_,_,_,_,h,_⟩:=a.inv b
   omega
  rw[decide_eq_false g,cond_false,e7 (by omega),ae]
  have l:Ff (⟨k.a6,k.aY,k.Fields,k.Names,k.aZ⟩:aO) (wd h.Words q)=some (gJ k (wd h.Words q)):=aHt aj _
  rw[l,ae]
  cases c:gJ k (wd h.Words q)with
  |false=>
   refine .inr ⟨λ L a=>?_,.inl rfl⟩
   obtain⟨_,_,h,_⟩:=a.inv b
   rw[c]at h;cases h
  |true=>
   have ao:Fc (⟨k.a6,k.aY,k.Fields,k.Names,k.aZ⟩:aO) (wd h.Words q) (wd h.Words (q+1))=some (isLen k (wd h.Words q) (wd h.Words (q+1))):=aHq aj c _
   rw[eb,cond_false,ae,cQ (n:=(q:Int)+1) (by omega) (by omega),pG (i:=q+1) (by omega) (by omega),ae,ao,ae]
   cases d:isLen k (wd h.Words q) (wd h.Words (q+1))with
   |false=>
    refine .inr ⟨λ L a=>?_,.inl rfl⟩
    obtain⟨_,_,_,h,_⟩:=a.inv b
    rw[d]at h;cases h
   |true=>
    obtain⟨⟨l0,l1⟩,_⟩:=kY.1 d
    rw[eb,cond_false,io (by simp;omega),ae,ae,cQ (n:=3+wd h.Words (q+1)) (by omega) (by omega),cQ (n:=(q:Int)+(3+wd h.Words (q+1))) (by omega) (by omega)]
    rw[show(q:Int)+(3+wd h.Words (q+1))=((q+3+(wd h.Words (q+1)).toNat:Nat):Int) by omega]
    rcases j (q+3+(wd h.Words (q+1)).toNat) (acc++[(q:Int)]) (by omega) (by omega) (by simp;omega)with⟨L,a,e⟩|⟨m,e⟩
    ·refine .inl ⟨(q:Int)::L,.cons c d a.le a,?_⟩
     rw[e];simp
    ·refine .inr ⟨λ L a=>?_,e⟩
     obtain⟨r,_,_,_,_,h⟩:=a.inv b
     exact m r h
theorem alh(g:6000<F)(h:aV)(aj:gk k){to q:Nat}(i:q<=5000)(b:to<=h.Words.length)(c:h.Words.length<=5000) :
 (∃L,eQ k h.Words to q L/\rS F h k (q:Int) (to:Int)=some (L,true))\/((∀L,¬eQ k h.Words to q L)/\ ∃l,rS F h k (q:Int) (to:Int)=some (l,false)):=by
 unfold rS
 rcases axV h aj b c F q [] (by omega) (by omega) (by simp;omega)with⟨L,d,e⟩|⟨a,e |⟨x,e,f⟩⟩
 ·exact .inl ⟨L,d,by rw[e,rk];simp⟩
 ·exact .inr ⟨a,[],by rw[e,al3]⟩
 ·exact .inr ⟨a,x.1,by rw[e,rk];show some (x.1,decide (x.2=(to:Int)))=_;rw[decide_eq_false f]⟩
theorem UX{α ρ:Type}{p:α->Bool}{e:ρ}:∀l:List α,l.findSome? (λ x=>if p x then some e else none)=if l.any p then some e else none
 |[]=>rfl
 |x::r=>by
  rw[jc,List.any_cons];cases p x with
  |true=>rfl
  |false=>simp only[iQ];exact UX r
theorem G7{l:List Int}(b:Small F l.length)(n:Int):lk F l n=some (decide (n∈l)):=by
 unfold lk;have l1:B3 l n F 0=some (cA (l.findSome? λ x=>if decide (x=n)then some true else none)):=each _ b.1 (λ f i x a=>by
  rw[B3,bM (aP.1 a).1,cond_true,bw a,ae];cases decide (x=n)<;>rfl) (λ f=>by rw[B3,bL];rfl) b.2
 rw[l1,UX];by_cases e:n∈l
 ·rw[show(l.any λ x=>decide (x=n))=true from iY.2 ⟨n,e,by simp⟩,decide_eq_true e];rfl
 ·rw[show(l.any λ x=>decide (x=n))=false from je.2 λ x a=>by simp;rintro rfl;exact e a,decide_eq_false e];rfl
theorem aHs(p:6000<F)(h:aV)(aj:gk k){q:Nat}(e:q+3+(wd h.Words (q+1)).toNat<=h.Words.length)(r:h.Words.length<=5000)(g:gJ k (wd h.Words q)=true)(c:isLen k (wd h.Words q) (wd h.Words (q+1))=true) :
 pa F h k (q:Int)=some (refs k h.Words q):=by
 obtain⟨⟨l0,l1⟩,_⟩:=kY.1 c
 unfold pa
 generalize m:(wd h.Words (q+1)).toNat=n at e
 have b:wd h.Words (q+1)=(n:Int):=by omega
 have d:=c
 rw[b]at d
 have l1:=vO (l:=ed n) (λ f acc i=>vK (q:Int) h k f acc (i:Int)) (λ j=>if ej k (wd h.Words q) j then[((q+3+j:Nat):Int)]else[]) 1 5000 (λ x _=>by split<;>simp) (λ f i x acc a s=>by
  have hi:i<n:=by have:=(aP.1 a).1;simpa using this
  rw[me hi]at a;simp only[aH]at a;subst a;rw[vK,cQ (n:=(q:Int)+1) (by omega) (by omega),pG (i:=q+1) (by omega) (by omega),ae,b,bM hi,cond_true,e7 (by omega),ae];have o:tO (⟨k.a6,k.aY,k.Fields,k.Names,k.aZ⟩:aO) (wd h.Words q) (i:Int)=some (ej k (wd h.Words q) i):=alj aj g d (by omega);rw[o,ae];show _=vK (q:Int) h k f _ _
  cases ej k (wd h.Words q) i with
  |true=>
   rw[cond_true,cQ (n:=(q:Int)+3) (by omega) (by omega),cQ (n:=(q:Int)+3+i) (by omega) (by omega),io (by simp;omega),ae,ae,eW hi (by omega),if_pos rfl]
   congr 2
  |false=>
   rw[cond_false,ae,eW hi (by omega),if_neg (by decide),hR]) (λ f acc=>by
  rw[iZ,vK,cQ (n:=(q:Int)+1) (by omega) (by omega),pG (i:=q+1) (by omega) (by omega),ae,b,bL];rfl) (F:=F) (by simp;omega) (acc:=[]) (by simp;omega)
 have l1:vK (q:Int) h k F [] 0=_:=l1
 rw[l1,ae,kK,refs,m]
theorem ali(a:6000<F){h:aV}(c:gk k)(aj:iU h):(∃Y O,h9 h k Y O/\rT F h k=some (Y,O,true))\/((∀Y O,¬h9 h k Y O)/\ ∃Y O,rT F h k=some (Y,O,false)):=by
 have s:=aj.e3;obtain⟨⟨⟨t,u⟩,a3,a4⟩,b,⟨c1,c2⟩,⟨c3,c4⟩,c5⟩:=id aj;unfold okB at b;unfold rT;have d:=alh (F:=F) a h c (q:=1) (to:=h.aX.toNat) (by omega) (by omega) (by omega);have f:=alh (F:=F) a h c (q:=(h.ak+1).toNat) (to:=h.aW.toNat) (by omega) (by omega) (by omega);rw[show((h.aX.toNat:Nat):Int)=h.aX by omega]at d;rw[show((h.aW.toNat:Nat):Int)=h.aW by omega,show(((h.ak+1).toNat:Nat):Int)=h.ak+1 by omega]at f;rw[cQ (n:=h.ak+1) (by omega) (by omega)];have j:∀r,rS F h k 1 h.aX=some r->rS F (⟨h.Words,h.ak,h.aM,h.aX,h.aW,h.aS,h.Next⟩:aV) (⟨k.a6,k.aY,k.Fields,k.Names,k.aZ⟩:aO) 1 h.aX=some r:=λ r e=>e;have l:∀r,rS F h k (h.ak+1) h.aW=some r->rS F (⟨h.Words,h.ak,h.aM,h.aX,h.aW,h.aS,h.Next⟩:aV) (⟨k.a6,k.aY,k.Fields,k.Names,k.aZ⟩:aO) (h.ak+1) h.aW=some r:=λ r e=>e;rcases d with⟨Y,m,g⟩|⟨i,Y,g⟩<;>rcases f with⟨O,o,ao⟩|⟨p,O,ao⟩<;>rw[j _ g,ae,l _ ao,ae]
 ·exact .inl ⟨Y,O,⟨m,o⟩,rfl⟩
 ·exact .inr ⟨λ Y O h=>p _ h.o,Y,O,rfl⟩
 ·exact .inr ⟨λ Y O h=>i _ h.y,Y,O,rfl⟩
 ·exact .inr ⟨λ Y O h=>i _ h.y,Y,O,rfl⟩
end
end I
namespace I
section
variable{F:Nat}{k:aO}{h:aV}{Y O:List Int}
theorem XB{b:Bool}{e:Int}{K:Option (Way Int Unit)}:gZ (if b=true then some e else none) K=cond b (some (.out e)) K:=by cases b<;>rfl
theorem aHx(g:10000<F)(j:1<=h.Next)(l:h.Next<=9223372036854775807)(b:pc (view h k Y O)):BK h (Y++O) F 0=some (cA (if(Y++O).any (l_ (view h k Y O))then some 3 else none)):=by
 have hc:Y.length+O.length<=5000:=b.pq;have m:h.Words.length<=4900:=b.e3;rw[<-oj];exact each _ (by simp;omega) (λ f i a c=>by
  have e:=bG c;have d:rW (view h k Y O) a:=b.s9 a e;have o:0<=a:=d.pos;have J:a.toNat+3+(wd h.Words (a.toNat+1)).toNat<=h.Words.length:=d.fit;rw[BK,bM (aP.1 c).1,cond_true,bw c,ae,cQ (n:=a+2) (by omega) (by omega),pG (i:=a.toNat+2) (by omega) (by omega),ae];unfold fX;rw[ae,cQ (n:=h.Next-1) (by omega) (by omega),XB];congr 1;show _=(decide (wd h.Words (a.toNat+2)<1)||decide (h.Next<=wd h.Words (a.toNat+2)))
  rw[iT];simp;omega) (λ f=>by rw[BK,bL];rfl) (by simp;omega)
theorem aE7{l:List Int}:(ed l.length).any (λ i=>(ed i).any λ j=>decide (wd l i=wd l j))= !decide l.Nodup:=by
 rw[iT,iY];simp only[lB,iY,decide_eq_true_eq,ha,decide_eq_false_iff_not];rw[List.Nodup,jl];constructor
 ·rintro⟨i,hi,j,aA,e⟩ a
  have:=a j i (by omega) hi aA
  rw[nA (aK hi),nA (aK (by omega:j<l.length))]at e
  exact this e.symm
 ·intro a
  apply lL
  intro b
  refine a λ j i aA hi c e=>b ⟨i,hi,j,c,?_⟩
  rw[nA (aK hi),nA (aK aA)];exact e.symm
theorem aHy(m:10000<F)(a:pc (view h k Y O)):yF F h (Y++O) F 0=some (cA (if((Y++O).map (aj h.Words)).Nodup then none else some 6)):=by
 have hc:Y.length+O.length<=5000:=a.pq;have n:h.Words.length<=4900:=a.e3;have o:(Y++O).length<=5000:=by simp;omega
 have at_:∀i,i<(Y++O).length->idx (Y++O) (i:Int)=some (wd (Y++O) i)/\idx h.Words (ax (wd (Y++O) i+2))=some (wd ((Y++O).map (aj h.Words)) i):=λ i hi=>by
  have c:wd (Y++O) i=(Y++O)[i]:=nA (aK hi);have b:rW (view h k Y O) (Y++O)[i]:=a.s9 _ (hg hi);have p:0<=(Y++O)[i]:=b.pos;have J:(Y++O)[i].toNat+3+(wd h.Words ((Y++O)[i].toNat+1)).toNat<=h.Words.length:=b.fit;refine⟨e7 hi,?_⟩;rw[c,cQ (by omega) (by omega),pG (i:=(Y++O)[i].toNat+2) (by omega) (by omega)];refine congrArg some (nA ?_).symm;rw[jw,aK hi];rfl
 have l1:yF F h (Y++O) F 0=some (cA ((ed (Y++O).length).findSome? λ i=>if(ed i).any (λ j=>decide (wd ((Y++O).map (aj h.Words)) i=wd ((Y++O).map (aj h.Words)) j))then some 6 else none)):=kQ _ (by omega) (λ f i hi=>by
  rw[yF,bM hi,cond_true];have d:BL h (Y++O) (i:Int) F 0=some (cA ((ed i).findSome? λ j=>if decide (wd ((Y++O).map (aj h.Words)) i=wd ((Y++O).map (aj h.Words)) j)then some 6 else none)):=kQ _ (by omega) (λ g j aA=>by
   rw[BL,bM aA,cond_true,(at_ i hi).1,ae,(at_ i hi).2,ae,(at_ j (by omega)).1,ae,(at_ j (by omega)).2,ae];cases decide (wd ((Y++O).map (aj h.Words)) i=wd ((Y++O).map (aj h.Words)) j)<;>rfl) (λ g=>by rw[BL,bL];rfl) (by omega)
  rw[d,oj];cases(ed i).any (λ j=>decide (wd ((Y++O).map (aj h.Words)) i=wd ((Y++O).map (aj h.Words)) j))<;>rfl) (λ f=>by rw[yF,bL];rfl) (by omega)
 rw[l1,oj];have e:=aE7 (l:=(Y++O).map (aj h.Words));rw[gC]at e;rw[e];by_cases aL:((Y++O).map (aj h.Words)).Nodup
 ·rw[if_pos aL,decide_eq_true aL];rfl
 ·rw[if_neg aL,decide_eq_false aL];rfl
theorem QV(e:10000<F)(c:pc (view h k Y O)){a:Int}(d:a∈Y++O):pa F (⟨h.Words,h.ak,h.aM,h.aX,h.aW,h.aS,h.Next⟩:aV) (⟨k.a6,k.aY,k.Fields,k.Names,k.aZ⟩:aO) a=some (refs k h.Words a.toNat):=by
 have b:rW (view h k Y O) a:=c.s9 a d;have f:h.Words.length<=4900:=c.e3;have:=aHs (F:=F) (by omega) h c.hF (q:=a.toNat) b.fit (by omega) b.tag b.len;rwa [show((a.toNat:Nat):Int)=a by have:=b.pos;omega]at this
theorem aHz(l:10000<F)(b:pc (view h k Y O)):BM F h k (Y++O) F 0=some (cA (if(Y++O).any (oN (view h k Y O))then some 5 else none)):=by
 have hc:Y.length+O.length<=5000:=b.pq;have p:h.Words.length<=4900:=b.e3;rw[<-oj];exact each _ (by simp;omega) (λ f i a c=>by
  have e:=bG c;have g:rW (view h k Y O) a:=b.s9 a e;have q:(refs k h.Words a.toNat).length<=5000:=Qr b g;rw[BM,bM (aP.1 c).1,cond_true,bw c,ae,QV l b e,ae];have m:yG F h (Y++O) (refs k h.Words a.toNat) F 0=some (cA ((refs k h.Words a.toNat).findSome? λ w=>if vb (view h k Y O) w then some 5 else none)):=each _ (by omega) (λ n i' w d=>by
   have o:=bG d;have j:idx h.Words w=some (wd h.Words w.toNat):=g.Qq o;rw[yG,bM (aP.1 d).1,cond_true,bw d,ae,j,ae,ae,j,ae,G7 ⟨by simp;omega,by simp;omega⟩,ae];show _=gZ (if(!decide (wd h.Words w.toNat=0)&& !decide (wd h.Words w.toNat∈Y++O))=true then some 5 else none) _
   cases decide (wd h.Words w.toNat=0)<;>cases decide (wd h.Words w.toNat∈Y++O)<;>rfl) (λ n=>by rw[yG,bL];rfl) (by omega)
  rw[m,oj];show _=gZ (if(refs k h.Words a.toNat).any (vb (view h k Y O))then some 5 else none) _
  cases(refs k h.Words a.toNat).any (vb (view h k Y O))<;>rfl) (λ f=>by rw[BM,bL];rfl) (by simp;omega)
theorem aHA(d:10000<F)(a:iU h):vI h F 0=some (cA (if(free h).any (λ x=>!decide (x=0))then some 1 else none)):=by
 have g:=a.e3;obtain⟨⟨⟨j,l⟩,a3,a4⟩,b,⟨c1,c2⟩,⟨c3,c4⟩,c5⟩:=id a;have l1:vI h F 0=some (cA ((ed h.Words.length).findSome? λ i=>if(!decide (wd h.Words i=0)&&(decide ((i:Int)=0)||((decide (h.aX<=(i:Int))&&decide ((i:Int)<=h.ak))||decide (h.aW<=(i:Int)))))then some 1 else none)):=kQ _ (by omega) (λ f i hi=>by
  rw[vI,bM hi,cond_true,e7 hi,ae];unfold fX;rw[ae];cases decide (wd h.Words i=0)<;>cases decide ((i:Int)=0)<;>cases((decide (h.aX<=(i:Int))&&decide ((i:Int)<=h.ak))||decide (h.aW<=(i:Int)))<;>rfl) (λ f=>by rw[vI,bL];rfl) (by omega)
 rw[l1,oj];refine congrArg (λ b:Bool=>some (cA (if b=true then some 1 else none))) ?_;rw[iT,iY,iY];constructor
 ·rintro⟨i,hi,e⟩
  simp only[cb,ia,ha,decide_eq_false_iff_not,decide_eq_true_eq]at e
  rw[lB]at hi
  exact⟨wd h.Words i,agJ ⟨by omega,by omega⟩ hi (by rcases e.2 with e |e |e;exact .inl (by omega);exact .inr (.inl e);exact .inr (.inr e)),by simpa using e.1⟩
 ·rintro⟨x,c,e⟩
  obtain⟨i,hi,hc,rfl⟩:=ajA (by omega) c
  refine⟨i,lB.2 hi,?_⟩
  simp only[cb,ia,ha,decide_eq_false_iff_not,decide_eq_true_eq]at e⊢
  exact⟨e,by rcases hc with e |e |e;exact .inl (by omega);exact .inr (.inl e);exact .inr (.inr e)⟩
theorem akg(a:iU h)(c:h9 h k Y O){x:Int}:x∈O↔x∈Y++O/\kB (view h k Y O) x=false:=by
 obtain⟨⟨⟨d,f⟩,a3,a4⟩,b,⟨c1,c2⟩,⟨c3,c4⟩,c5⟩:=id a;have e:kB (view h k Y O) x=(decide (0<x)&&decide (x<=h.ak)):=rfl;rw[e];constructor
 ·intro aa
  have:=c.j8 a x aa
  exact⟨cj.2 (.inr aa),by simp;omega⟩
 ·rintro⟨aa,e⟩
  rcases cj.1 aa with aa |aa
  ·have:=c.EU a x aa
   simp at e;omega
  ·exact aa
theorem aHE(m:10000<F)(g:iU h)(i:h9 h k Y O)(j:pc (view h k Y O))(x:Int)(Z:Option Int)(n:Z=some x)(K:Option (Way Int Unit)):((lk F O x).bind λ c=>
 cond (!c) (some (.out 4)) (Z.bind λ d=>
 (pa F (⟨h.Words,h.ak,h.aM,h.aX,h.aW,h.aS,h.Next⟩:aV) (⟨k.a6,k.aY,k.Fields,k.Names,k.aZ⟩:aO) d).bind λ f=>
 cond (decide ((f.length:Int)=0)) (some (.out 4)) K))=gZ (if sR (view h k Y O) x then some 4 else none) K:=by
 have hc:Y.length+O.length<=5000:=j.pq
 subst n
 rw[G7 ⟨by omega,by omega⟩,ae,XB]
 have e:sR (view h k Y O) x=(!decide (x∈Y++O)||kB (view h k Y O) x||(refs k h.Words x.toNat).isEmpty):=rfl
 rw[e]
 by_cases b:x∈O
 ·obtain⟨l,J⟩:=(akg g i).1 b
  rw[decide_eq_true b,decide_eq_true l,J,eb,cond_false,ae,QV m j l,ae]
  cases refs k h.Words x.toNat with
  |nil=>rfl
  |cons a r=>rw[decide_eq_false (by simp;omega)];rfl
 ·rw[decide_eq_false b]
  have:(!decide (x∈Y++O)||kB (view h k Y O) x)=true:=by
   cases aL:decide (x∈Y++O)with
   |false=>rfl
   |true=>
    cases hy:kB (view h k Y O) x with
    |true=>rfl
    |false=>exact absurd ((akg g i).2 ⟨of_decide_eq_true aL,hy⟩) b
  rw[this];rfl
theorem aHB(d:10000<F)(g:iU h)(j:h9 h k Y O)(l:pc (view h k Y O))(a:Small F h.aS.length):qq F h k (Y,O,true) F 0=some (cA (if(ed h.aS.length).any (hC (view h k Y O))then some 4 else none)):=by
 rw[<-oj];exact kQ _ a.1 (λ f i hi=>by
  rw[qq,bM hi,cond_true];have e:hC (view h k Y O) i=((decide (0<i)&&decide (wd h.aS i<=wd h.aS (i-1)))||sR (view h k Y O) (wd h.aS i)):=rfl;have b:=aHE d g j l (wd h.aS i) (idx h.aS (i:Int)) (e7 hi) (qq F h k (Y,O,true) f (ax ((i:Int)+1)));rw[e];have m:=a.1;by_cases c:0<i
  ·rw[show decide ((0 :Int)<(i:Int))=true from decide_eq_true (by omega),cond_true]
   rw[show∀K:Int->Option (Way Int Unit),(idx h.aS (i:Int)).bind K=K (wd h.aS i) from λ K=>by rw[e7 hi];rfl]
   rw[cQ (n:=(i:Int)-1) (by omega) (by omega),pG (i:=i-1) (by omega) (by omega),ae,decide_eq_true c,kz]
   cases decide (wd h.aS i<=wd h.aS (i-1))with
   |true=>rfl
   |false=>
    rw[cond_false,iQ,<-b]
    rw[e7 hi];rfl
  ·rw[show decide ((0 :Int)<(i:Int))=false from decide_eq_false (by omega),cond_false,decide_eq_false c,Bool.false_and,iQ,<-b]
   rw[e7 hi];rfl) (λ f=>by rw[qq,bL];rfl) a.2
theorem aHC(l:10000<F)(b:pc (view h k Y O))(m:Small F h.aS.length):tJ F h k (Y,O,true) F 0=some (cA (if O.any (qj (view h k Y O))then some 4 else none)):=by
 have hc:Y.length+O.length<=5000:=b.pq;rw[<-oj];exact each _ (by omega) (λ f i a c=>by
  have g:=cj.2 (Or.inr (a:=a∈Y) (bG c));have j:rW (view h k Y O) a:=b.s9 a g;have r:(refs k h.Words a.toNat).length<=5000:=Qr b j;rw[tJ,bM (aP.1 c).1,cond_true,bw c,ae,QV l b g,ae];have n:rP F h (Y,O,true) (i:Int) (refs k h.Words a.toNat) F 0=some (cA ((refs k h.Words a.toNat).findSome? λ w=>if(!decide (a∈h.aS)&&kB (view h k Y O) (wd h.Words w.toNat))then some 4 else none)):=each _ (by omega) (λ o i' w d=>by
   have p:=bG d;have q:idx h.Words w=some (wd h.Words w.toNat):=j.Qq p;rw[rP,bM (aP.1 d).1,cond_true,bw d,ae,q,ae];unfold fX;rw[ae,bw c,ae,G7 m,ae,XB];have e:kB (view h k Y O) (wd h.Words w.toNat)=(decide (1<=wd h.Words w.toNat)&&decide (wd h.Words w.toNat<=h.ak)):=rfl;rw[e];cases(decide (1<=wd h.Words w.toNat)&&decide (wd h.Words w.toNat<=h.ak))<;>cases decide (a∈h.aS)<;>rfl) (λ o=>by rw[rP,bL];rfl) (by omega)
  rw[n,oj];have e:qj (view h k Y O) a=((refs k h.Words a.toNat).any λ w=>!decide (a∈h.aS)&&kB (view h k Y O) (wd h.Words w.toNat)):=by
   show(!decide (a∈h.aS)&&(refs k h.Words a.toNat).any λ w=>kB (view h k Y O) (wd h.Words w.toNat))=_
   cases decide (a∈h.aS)with
   |true=>simp
   |false=>simp
  rw[e];cases(refs k h.Words a.toNat).any (λ w=>!decide (a∈h.aS)&&kB (view h k Y O) (wd h.Words w.toNat))<;>rfl) (λ f=>by rw[tJ,bL];rfl) (by omega)
theorem aHD(c:10000<F)(m:gk k)(o:Small F h.aS.length)(hi:h.Next<=9223372036854775807):∃r,Fb F h k=some r.2/\Spec h k r:=by
 unfold Fb;by_cases a:An h
 case neg=>
  refine⟨(none,nw h),?_,.size λ s=>a s.A⟩
  show _=some (nw h)
  unfold nw fX
  rw[if_neg a,ae,ae]
  cases ag:(decide (3<=h.ak)&&decide (h.ak<=2000))with
  |false=>rfl
  |true=>
   cases j:(decide (3<=h.aM)&&decide (h.aM<=2000))with
   |false=>rfl
   |true=>exact absurd ⟨by simpa using ag,by simpa using j⟩ a
 obtain⟨⟨q,t⟩,a3,a4⟩:=id a;have u:fX h.ak 3 2000=some true:=by unfold fX;rw[decide_eq_true q,decide_eq_true t];rfl
 have v:fX h.aM 3 2000=some true:=by unfold fX;rw[decide_eq_true a3,decide_eq_true a4];rfl
 rw[u,v,ae,ae,eb,cond_false,cond_false,cQ (n:=1+h.ak) (by omega) (by omega),cQ (n:=1+h.ak+h.aM) (by omega) (by omega)];by_cases b:okB h
 case neg=>
  refine⟨(none,nw h),?_,.size λ s=>b s.B⟩
  show _=some (nw h)
  unfold nw
  rw[if_pos a,if_neg b]
  unfold okB at b
  rw[decide_eq_false b];rfl
 have g:=b;unfold okB at g;rw[decide_eq_true g,eb,cond_false,cQ (n:=h.ak+1) (by omega) (by omega),cQ (n:=h.ak+h.aM) (by omega) (by omega),cQ (n:=h.ak+h.aM+1) (by omega) (by omega)];by_cases i:GL h
 case neg=>
  refine⟨(none,nw h),?_,.size λ s=>i s.C⟩
  show _=some (nw h)
  unfold nw fX
  rw[if_pos a,if_pos b,if_neg i,ae,ae]
  cases ag:(decide (1<=h.aX)&&decide (h.aX<=h.ak+1))with
  |false=>rfl
  |true=>
   cases j:(decide (h.ak+1<=h.aW)&&decide (h.aW<=h.ak+h.aM+1))with
   |false=>rfl
   |true=>
    cases w:decide (h.Next<1)with
    |true=>rfl
    |false=>exact absurd ⟨by simpa using ag,by simpa using j,by simp at w;omega⟩ i
 have d:iU h:=⟨a,b,i⟩
 obtain⟨⟨c1,c2⟩,⟨c3,c4⟩,c5⟩:=id i;have y:fX h.aX 1 (h.ak+1)=some true:=by unfold fX;rw[decide_eq_true c1,decide_eq_true c2];rfl
 have e6:fX h.aW (h.ak+1) (h.ak+h.aM+1)=some true:=by unfold fX;rw[decide_eq_true c3,decide_eq_true c4];rfl
 rw[y,e6,ae,ae,eb,cond_false,decide_eq_false (show¬h.Next<1 by omega),Bool.or_self,cond_false];have p:∀r,rT F h k=some r->rT F (⟨h.Words,h.ak,h.aM,h.aX,h.aW,h.aS,h.Next⟩:aV) (⟨k.a6,k.aY,k.Fields,k.Names,k.aZ⟩:aO)=some r:=λ r e=>e;rcases ali (F:=F) (by omega) m d with⟨Y,O,l,e⟩|⟨z,Y,O,e⟩
 case inr=>
  refine⟨(none,1),?_,.form d z⟩
  rw[p _ e];rfl
 have f:=l.p3 m d;have hc:Y.length+O.length<=5000:=f.pq;refine⟨_,?_,.rest d l⟩;show _=some (oV (view h k Y O))
 have A:bI 8 ([]:List Int) Y=some Y:=by rw[io (by simp;omega)];rfl
 have B:bI 8 Y O=some (Y++O):=io (by omega);have l1:=aHx (k:=k) (Y:=Y) (O:=O) c c5 hi f;have C:=aHy (F:=F) c f;have D:=aHz (F:=F) c f;have E:=aHA (F:=F) c d;have G:=aHB c d l f o;have H:=aHC c f o;rw[p _ e,ae];show(bI 8 ([]:List Int) Y).bind _=_
 rw[A,ae];show(bI 8 Y O).bind _=_
 rw[B,ae,l1,kb];unfold oV a7;show pS (if(Y++O).any (l_ (view h k Y O))=true then some 3 else none) _=some (if(if(Y++O).any (l_ (view h k Y O))=true then(3 :Int)else if((Y++O).map (aj h.Words)).Nodup then 0 else 6)=0 then _ else(if(Y++O).any (l_ (view h k Y O))=true then(3 :Int)else if((Y++O).map (aj h.Words)).Nodup then 0 else 6))
 cases(Y++O).any (l_ (view h k Y O))with
 |true=>rfl
 |false=>
  rw[if_neg lc,if_neg lc]
  show cm _ _=_
  rw[C,kb]
  by_cases aL:((Y++O).map (aj h.Words)).Nodup
  case neg=>rw[if_neg aL,if_neg aL];rfl
  rw[if_pos aL,if_pos aL,if_pos rfl]
  show cm _ _=_
  rw[D,kb]
  unfold k9
  show pS (if(Y++O).any (oN (view h k Y O))=true then some 5 else none) _=some (if(if(Y++O).any (oN (view h k Y O))=true then(5 :Int)else if(free h).any (λ x=>!decide (x=0))=true then 1 else 0)=0 then _ else(if(Y++O).any (oN (view h k Y O))=true then(5 :Int)else if(free h).any (λ x=>!decide (x=0))=true then 1 else 0))
  cases(Y++O).any (oN (view h k Y O))with
  |true=>rfl
  |false=>
   rw[if_neg lc,if_neg lc]
   show cm _ _=_
   rw[E,kb]
   cases(free h).any (λ x=>!decide (x=0))with
   |true=>rfl
   |false=>
    rw[if_neg lc,if_neg lc,if_pos rfl]
    show cm _ _=_
    rw[G,kb]
    unfold Aj
    show pS (if(ed h.aS.length).any (hC (view h k Y O))=true then some 4 else none) _=some (if((ed h.aS.length).any (hC (view h k Y O))||O.any (qj (view h k Y O)))=true then(4 :Int)else 0)
    cases(ed h.aS.length).any (hC (view h k Y O))with
    |true=>rfl
    |false=>
     rw[if_neg lc,iQ]
     show cm _ _=_
     rw[H,kb]
     cases O.any (qj (view h k Y O))<;>rfl
theorem Spec.xT{r e:Option bj×Int}(s:Spec h k r)(s':Spec h k e):r=e:=by
 cases s with
 |size b=>cases s' with
  |size _=>rfl
  |form a _=>exact absurd a b
  |rest a _=>exact absurd a b
 |form a d=>cases s' with
  |size b=>exact absurd a b
  |form _ _=>rfl
  |rest _ c=>exact absurd c (d _ _)
 |rest a c=>cases s' with
  |size b=>exact absurd a b
  |form _ d=>exact absurd c (d _ _)
  |rest _ f=>
   obtain rfl:=c.y.xT f.y
   obtain rfl:=c.o.xT f.o
   rfl
end
end I
namespace I
section
variable{k:aO}{h:aV}{Y O:List Int}
theorem h9.fit(b:iU h)(d:h9 h k Y O):∀a∈Y++O,1<=a/\a.toNat+3+(wd h.Words (a.toNat+1)).toNat<=h.Words.length/\(a.toNat+3+(wd h.Words (a.toNat+1)).toNat<=h.aX.toNat\/(h.ak+1<=a/\a.toNat+3+(wd h.Words (a.toNat+1)).toNat<=h.aW.toNat)):=by
 intro a ar;have e:(h.Words.length:Int)=1+h.ak+h.aM:=b.B;obtain⟨⟨c1,c2⟩,⟨c3,c4⟩,_⟩:=b.C;obtain⟨⟨f,_⟩,a3,_⟩:=b.A;rcases cj.1 ar with ar |ar
 ·obtain⟨c,J⟩:=d.EU b a ar;exact⟨c,by omega,.inl J⟩
 ·obtain⟨c,J⟩:=d.j8 b a ar;exact⟨by omega,by omega,.inr ⟨c,J⟩⟩
theorem h9.s7(c:h9 h k Y O):∀a∈Y++O,gJ k (wd h.Words a.toNat)=true/\isLen k (wd h.Words a.toNat) (wd h.Words (a.toNat+1))=true:=by
 intro a ar;rcases cj.1 ar with ar |ar
 ·obtain⟨n,rfl,_,_,b⟩:=c.y.mem a ar;exact b
 ·obtain⟨n,rfl,_,_,b⟩:=c.o.mem a ar;exact b
theorem Ok.set(d:iU h)(m:h9 h k Y O)(g:Ok h k Y O){a:Int}(p:a∈Y++O){n:Nat}(z:n<(wd h.Words (a.toNat+1)).toNat){value:Int}
 (A:ej k (wd h.Words a.toNat) n=true->value=0\/value∈Y++O){nt:List Int}(B:yS nt)(J:∀x∈nt,x∈h.aS\/(x=a/\a∈O/\ej k (wd h.Words a.toNat) n=true))(C:∀x∈h.aS,x∈nt)
 (D:ej k (wd h.Words a.toNat) n=true->a∈O->0<value->value<=h.ak->a∈nt) :
 iU (⟨h.Words.set (a.toNat+3+n) value,h.ak,h.aM,h.aX,h.aW,nt,h.Next⟩:aV)/\h9 (⟨h.Words.set (a.toNat+3+n) value,h.ak,h.aM,h.aX,h.aW,nt,h.Next⟩:aV) k Y O/\
 Ok (⟨h.Words.set (a.toNat+3+n) value,h.ak,h.aM,h.aX,h.aW,nt,h.Next⟩:aV) k Y O:=by
 obtain⟨N,P,Q⟩:=m.fit d a p
 have E:a.toNat+3+n<h.Words.length:=by omega
 have f:∀j,wd (h.Words.set (a.toNat+3+n) value) j=if j=a.toNat+3+n then value else wd h.Words j:=λ j=>Rc E
 have head:∀b∈Y++O,wd (h.Words.set (a.toNat+3+n) value) b.toNat=wd h.Words b.toNat/\wd (h.Words.set (a.toNat+3+n) value) (b.toNat+1)=wd h.Words (b.toNat+1)/\wd (h.Words.set (a.toNat+3+n) value) (b.toNat+2)=wd h.Words (b.toNat+2):=by
  intro b ag;rw[f,f,f];by_cases e:b=a
  ·subst e
   rw[if_neg (by omega),if_neg (by omega),if_neg (by omega)];exact⟨rfl,rfl,rfl⟩
  ·have:=m.apart d b ag a p e
   rw[if_neg (by omega),if_neg (by omega),if_neg (by omega)];exact⟨rfl,rfl,rfl⟩
 have F:(h.Words.length:Int)=1+h.ak+h.aM:=d.B
 obtain⟨⟨c1,c2⟩,⟨c3,c4⟩,c5⟩:=id d.C
 have q:∀b∈Y++O,refs k (h.Words.set (a.toNat+3+n) value) b.toNat=refs k h.Words b.toNat:=λ b ag=>aIa (head b ag).1 (head b ag).2.1
 have t:∀b∈Y++O,aj (h.Words.set (a.toNat+3+n) value) b=aj h.Words b:=λ b ag=>(head b ag).2.2
 have G:(Y++O).map (aj (h.Words.set (a.toNat+3+n) value))=(Y++O).map (aj h.Words):=ly t
 have u:∀b∈Y++O,∀w∈refs k h.Words b.toNat,w.toNat=a.toNat+3+n->b=a/\ej k (wd h.Words a.toNat) n=true:=by
  intro b ag w c e;obtain⟨j,aA,H,rfl⟩:=sK.1 c;simp only[bV]at e;have r:b=a:=by
   by_cases r:b=a
   ·exact r
   ·have:=m.apart d b ag a p r;omega
  subst r;have:j=n:=by omega
  subst this;exact⟨rfl,H⟩
 refine⟨⟨d.A,?_,d.C⟩,⟨m.y.congr λ b ag=>?_,m.o.congr λ b ag=>?_⟩,⟨λ b ag=>?_,?_,λ b ag w c=>?_,λ i hi hc=>?_,B,λ x s=>?_,λ b ag v w c=>?_⟩⟩
 ·show((h.Words.set (a.toNat+3+n) value).length:Int)=_;rw[kc];exact F
 ·obtain⟨l,o,_⟩:=head b (gi _ ag);exact⟨l,o⟩
 ·obtain⟨l,o,_⟩:=head b (gI _ ag);exact⟨l,o⟩
 ·show 1<=aj (h.Words.set (a.toNat+3+n) value) b/\aj (h.Words.set (a.toNat+3+n) value) b<h.Next
  rw[t b ag];exact g.hash b ag
 ·show((Y++O).map (aj (h.Words.set (a.toNat+3+n) value))).Nodup
  rw[G];exact g.nodup
 ·have c:w∈refs k (h.Words.set (a.toNat+3+n) value) b.toNat:=c
  rw[q b ag]at c
  show wd (h.Words.set (a.toNat+3+n) value) w.toNat=0\/wd (h.Words.set (a.toNat+3+n) value) w.toNat∈Y++O
  rw[f]
  by_cases e:w.toNat=a.toNat+3+n
  ·rw[if_pos e];exact A (u b ag w c e).2
  ·rw[if_neg e];exact g.ref b ag w c
 ·have hi:i<(h.Words.set (a.toNat+3+n) value).length:=hi
  rw[kc]at hi
  have hc:i=0\/(h.aX<=i/\(i:Int)<=h.ak)\/h.aW<=i:=hc
  show wd (h.Words.set (a.toNat+3+n) value) i=0
  rw[f,if_neg (by omega)]
  exact g.fr i hi hc
 ·show x∈O/\refs k (h.Words.set (a.toNat+3+n) value) x.toNat≠[]
  rcases J x s with s |⟨rfl,I,aA⟩
  ·obtain⟨l,o⟩:=g.nt x s
   rw[q x (gI _ l)];exact⟨l,o⟩
  ·refine⟨I,?_⟩
   rw[q x p]
   intro e
   have:((x.toNat+3+n:Nat):Int)∈refs k h.Words x.toNat:=sK.2 ⟨n,z,aA,rfl⟩
   rw[e]at this;cases this
 ·have y:b∈Y++O:=gI _ ag
  have c:w∈refs k (h.Words.set (a.toNat+3+n) value) b.toNat:=c
  rw[q b y]at c
  show¬(0<wd (h.Words.set (a.toNat+3+n) value) w.toNat/\wd (h.Words.set (a.toNat+3+n) value) w.toNat<=h.ak)
  rw[f]
  by_cases e:w.toNat=a.toNat+3+n
  ·rw[if_pos e]
   obtain⟨rfl,aA⟩:=u b y w c e
   rintro⟨K,L⟩
   exact v (D aA ag K L)
  ·rw[if_neg e]
   exact g.must b ag (λ M=>v (C b M)) w c
end
end I
namespace I
structure Good (F:Nat) (h:aV) (k:aO) (Y O:List Int):Prop where
 r3:oE F k=some 0
 hF:gk k
 s:iU h
 l:h9 h k Y O
 ok:Ok h k Y O
section
variable{F:Nat}{k:aO}{h:aV}{Y O:List Int}
theorem Good.YM(g:Good F h k Y O):h.aS.length<=5000:=by
 refine aml (N:=5000) g.ok.LA (λ i hi=>?_);obtain⟨a,_⟩:=g.ok.nt _ (abt hi);obtain⟨b,c,_⟩:=g.l.fit g.s _ (gI Y a);have:=g.s.e3;omega
theorem Good.open(b:10000<F)(g:Good F h k Y O):jZ F h k=some (some (view h k Y O),0):=by
 unfold jZ;have c:oE F (⟨k.a6,k.aY,k.Fields,k.Names,k.aZ⟩:aO)=some 0:=g.r3;have f:=g.YM;obtain⟨r,ao,hI⟩:=YU b g.hF (h:=h) ⟨by omega,by omega⟩;have ao:uq F (⟨h.Words,h.ak,h.aM,h.aX,h.aW,h.aS,h.Next⟩:aV) (⟨k.a6,k.aY,k.Fields,k.Names,k.aZ⟩:aO)=some r:=ao;rw[c,ae,r5,ao,ae];cases hI with
 |size aj=>exact absurd g.s aj
 |form _ ad=>exact absurd g.l (ad Y O)
 | @rest i j _ a=>
   have d:=a.y.xT g.l.y
   have e:=a.o.xT g.l.o
   subst d e
   rw[(amV g.hF g.s g.l).2 g.ok];rfl
theorem aFo(j:10000<F)(l:∃e,oE F k=some e/\(e≠0\/(e=0/\gk k)))(m:Small F h.aS.length) :
 ∃r,jZ F h k=some r/\((r.2≠0/\r.1=none)\/ ∃Y O,Good F h k Y O/\r=(some (view h k Y O),0)):=by
 obtain⟨e,d,a⟩:=l
 unfold jZ
 have b:oE F (⟨k.a6,k.aY,k.Fields,k.Names,k.aZ⟩:aO)=some e:=d
 rw[b,ae]
 rcases a with a |⟨rfl,c⟩
 ·rw[sS a];exact⟨_,rfl,.inl ⟨a,rfl⟩⟩
 obtain⟨r,ao,hI⟩:=YU j c m
 have ao:uq F (⟨h.Words,h.ak,h.aM,h.aX,h.aW,h.aS,h.Next⟩:aV) (⟨k.a6,k.aY,k.Fields,k.Names,k.aZ⟩:aO)=some r:=ao
 rw[r5,ao,ae]
 refine⟨_,rfl,?_⟩
 cases hI with
 |size aj=>exact .inl ⟨λ e=>aj (aaT.1 e),rfl⟩
 |form _ ad=>exact .inl ⟨by decide,rfl⟩
 | @rest f g aj i=>
   by_cases q:oV (view h k f g)=0
   ·exact .inr ⟨f,g,⟨d,c,aj,i,(amV c aj i).1 q⟩,by rw[q];rfl⟩
   ·exact .inl ⟨q,by rw[if_neg q]⟩
theorem Good.dP(_:Good F h k Y O)(a:Int):F0 (view h k Y O) a=some (decide (a∈Y++O)):=by
 unfold F0;show some ((cH ((Y++O).map λ a=>(a,true)) a).getD false)=_
 rw[Po]
end
end I
namespace I
theorem aIO{F:Nat}{l:List Int}(h:Small F l.length):pb F l l=some true:=by
 unfold pb;have l1:=Pj (n:=l.length) (λ k i=>vM l l k (i:Int)) (.go ()) (λ k i hi=>by
  obtain⟨x,a⟩:∃x,l[i]? =some x:=⟨l[i],aK hi⟩
  rw[vM,bM hi,cond_true,bw a,ae,ae,decide_eq_true rfl];show vM l l k _=_
  rw[eW hi h.1]) (λ k=>by rw[vM,bL];rfl) h.2
 have l1:vM l l F 0=some (.go ()):=l1;rw[l1,decide_eq_true rfl];rfl
end I
namespace I
open Go Go.Proofs.YteeliipnilghaaaGreat
theorem xP{n:Nat}(h:n<=reachBytes):Small 140737488356000 n:=by
 have:reachBytes=140737488351232:=rfl;unfold Small;omega
theorem p0{n:Nat}(k:Nat)(h:n*(k+1)<=reachBytes):Small 140737488356000 n:=
 xP (hv (mC n (Nat.succ_pos k)) h)
theorem axG{m:Method}(h:MP reachBytes m):m.Fits 140737488356000:=
 ⟨xP h.1,p0 23 h.2.2.1.1,λ k a=>xP (h.2.2.1.2 k a).2,xP h.2.2.2.1.2,p0 39 h.2.2.2.2.2.2.2.1,λ x b=>xP (h.2.2.2.2.2.2.2.2 x b).2.2.2⟩
theorem axF{c:ap}(h:Ic reachBytes c):c.Fits 140737488356000:=
 ⟨xP h.1,xP h.2.1,p0 39 h.2.2.1.1,λ f ad=>⟨xP (h.2.2.1.2 f ad).1,xP (h.2.2.1.2 f ad).2.2⟩,p0 127 h.2.2.2.1,λ m a=>axG (h.2.2.2.2 m a)⟩
theorem axH{l:List ap}(h:l.length*80<=reachBytes/\ ∀x∈l,Ic reachBytes x):Fits 140737488356000 l:=
 ⟨p0 79 h.1,λ c hc=>axF (h.2 c hc)⟩
theorem aDH{k:aO}(h:MO reachBytes k):ML 140737488356000 k:=
 ⟨p0 7 h.2.1.1,p0 23 h.2.2.1.1,λ x a=>p0 39 (h.2.2.1.2 x a).1,p0 23 h.2.2.2.1.1,λ x a=>p0 15 (h.2.2.2.1.2 x a).1,p0 23 h.2.2.2.2.1,λ x a=>p0 15 (h.2.2.2.2.2 x a).1⟩
end I
namespace I
theorem aI5{k:aO}(a:h7 k.a6)(e:k=linked k.a6):gk k:=by
 have:=a.right.len;exact⟨by omega,by rw[e];exact aIn⟩
theorem au3{k:aO}(a:Go.Proofs.YteeliipnilghaaaGreat.MO Go.reachBytes k):∃e,oE 140737488356000 k=some e/\tM 140737488356000 k=some e/\(e≠0\/(e=0/\gk k)):=by
 obtain⟨e,c1,c2,c3⟩:=au2 (F:=140737488356000) (by omega) (axH a.1) (aDH a);refine⟨e,c1,c2,?_⟩;rcases c3 with rfl |⟨rfl,b,c⟩
 ·exact .inl (by decide)
 ·exact .inr ⟨rfl,aI5 b c⟩
theorem aki{F:Nat}{h:aV}{k:aO}(b:10000<F)(l:∃e,oE F k=some e/\tM F k=some e/\(e≠0\/(e=0/\gk k)))(c:Small F h.aS.length)(hi:h.Next<=9223372036854775807) :
 ∃r,jZ F h k=some r/\yM F h k=some r.2/\((r.2≠0/\r.1=none)\/ ∃Y O,Good F h k Y O/\r=(some (view h k Y O),0)):=by
 obtain⟨e,c1,c2,c3⟩:=l
 obtain⟨r,a,m⟩:=aFo b ⟨e,c1,c3⟩ c
 refine⟨r,a,?_,m⟩
 have d:oE F (⟨k.a6,k.aY,k.Fields,k.Names,k.aZ⟩:aO)=some e:=c1
 have f:tM F (⟨k.a6,k.aY,k.Fields,k.Names,k.aZ⟩:aO)=some e:=c2
 unfold yM
 unfold jZ at a
 rw[d,ae]at a
 rw[f,ae]
 rcases c3 with c3 |⟨rfl,j⟩
 ·rw[sS c3]at a
  obtain rfl:=eJ a
  rw[decide_eq_false c3];rfl
 ·rw[r5]at a
  obtain⟨n,g,o⟩:=YU b j c
  obtain⟨p,i,q⟩:=aHD b j c hi
  have g:uq F (⟨h.Words,h.ak,h.aM,h.aX,h.aW,h.aS,h.Next⟩:aV) (⟨k.a6,k.aY,k.Fields,k.Names,k.aZ⟩:aO)=some n:=g
  have i:Fb F (⟨h.Words,h.ak,h.aM,h.aX,h.aW,h.aS,h.Next⟩:aV) (⟨k.a6,k.aY,k.Fields,k.Names,k.aZ⟩:aO)=some p.2:=i
  obtain rfl:=o.xT q
  rw[g,ae]at a
  obtain rfl:=eJ a
  rw[show decide ((0 :Int)=0)=true from rfl,cond_true,i];rfl
end I
namespace Go.Proofs.YteeliipnilghaaaGreat
open I
def cV(y:Int)(o:List Int)(a:Int):List Int:=if(1<=a/\a<=y)/\a∉o then o++[a]else o
structure Ord (Y o:List Int):Prop where
 hn:o.Nodup
 sub:∀a∈o,a∈Y
theorem ajR:∀ {o Y:List Int},o.Nodup->(∀a∈o,a∈Y)->o.length<=Y.length
 |[],Y,_,_=>gT _
 |a::r,Y,c,aj=>by
  have c:=ie.1 c;have d:a∈Y:=aj a (by simp);have f:=ajR (o:=r) (Y:=Y.erase a) c.2 λ b ag=>(nq λ e=>by subst e;exact c.1 ag).2 (aj b (by simp[ag]));rw[mq d]at f;have:0<Y.length:=List.length_pos_of_mem d;simp only[dL];omega
theorem Ord.len{Y o:List Int}(h:Ord Y o):o.length<=Y.length:=ajR h.hn h.sub
theorem Ord.nil{Y:List Int}:Ord Y []:=⟨mA,λ _ h=>by simp at h⟩
theorem Ord.cV{Y o:List Int}{y a:Int}(h:Ord Y o)(f:1<=a->a<=y->a∈Y):Ord Y (cV y o a):=by
 unfold Go.Proofs.YteeliipnilghaaaGreat.cV;split
 ·rename_i d
  refine⟨fA.2 ⟨h.hn,by simp,λ b ag c hc e=>?_⟩,λ b ag=>?_⟩
  ·cases dT.1 hc
   subst e
   exact d.2 ag
  ·rcases cj.1 ag with ag |ag
   ·exact h.sub b ag
   ·cases dT.1 ag
    exact f d.1.1 d.1.2
 ·exact h
theorem Ord.fold{Y:List Int}{y:Int}:∀ {l o:List Int},Ord Y o->(∀a∈l,1<=a->a<=y->a∈Y)->Ord Y (l.foldl (Go.Proofs.YteeliipnilghaaaGreat.cV y) o)
 |[],o,h,_=>h
 |a::r,o,h,c=>Ord.fold (l:=r) (o:=Go.Proofs.YteeliipnilghaaaGreat.cV y o a) (h.cV (c a (by simp))) λ b ag=>c b (by simp[ag])
theorem aan{y a:Int}{o:List Int}:∃t,cV y o a=o++t:=by
 unfold cV;split
 ·exact⟨_,rfl⟩
 ·exact⟨[],by simp⟩
theorem CC{y:Int}:∀ {l o:List Int},∃t,l.foldl (cV y) o=o++t
 |[],o=>⟨[],by simp⟩
 |a::r,o=>by
  obtain⟨t,h⟩:=aan (y:=y) (a:=a) (o:=o);obtain⟨u,J⟩:=CC (y:=y) (l:=r) (o:=cV y o a);exact⟨t++u,by rw[jr,J,h,g_]⟩
end Go.Proofs.YteeliipnilghaaaGreat
namespace Go.Proofs.YteeliipnilghaaaGreat
open I
def dm(k:aO)(W:List Int)(a:Int):List Int:=(refs k W a.toNat).map λ w=>wd W w.toNat
def scan(k:aO)(W:List Int)(y:Int):Nat->Nat->List Int->List Int
 |0,_,o=>o
 |d+1,i,o=>match o[i]? with
  |some a=>scan k W y d (i+1) ((dm k W a).foldl (cV y) o)
  |none=>o
section
variable{F:Nat}{h:aV}{k:aO}{Y O:List Int}{ai eR:List Int}{ao aT bQ dw kr:Int}
theorem yi(g:I.Good F h k Y O){v:Int}(af:v=0\/v∈Y++O)(a:1<=v)(J:v<=h.ak):v∈Y:=by
 rcases af with af |af
 ·omega
 ·rcases cj.1 af with af |af
  ·exact af
  ·have:=(g.l.j8 g.s v af).1;omega
theorem rj(g:I.Good F h k Y O){a:Int}(b:a∈Y++O):∀v∈dm k h.Words a,v=0\/v∈Y++O:=λ v c=>by
 obtain⟨w,d,rfl⟩:=hY.1 c;exact g.ok.ref a b w d
theorem aId(g:I.Good F h k Y O){a:Int}(b:a∈Y++O):∀w∈refs k h.Words a.toNat,0<=w/\w.toNat<h.Words.length:=λ w c=>by
 obtain⟨j,aA,_,rfl⟩:=sK.1 c;have:=(g.l.fit g.s a b).2.1;omega
theorem alA(g:I.Good F h k Y O){a:Int}(b:a∈Y++O):(refs k h.Words a.toNat).length<=5000:=by
 have c:=(g.l.fit g.s a b).2.1;have J:=g.s.e3;have:(refs k h.Words a.toNat).length<=(wd h.Words (a.toNat+1)).toNat:=by
  unfold refs;have key:∀n:Nat,((ed n).flatMap λ j=>if ej k (wd h.Words a.toNat) j then[((a.toNat+3+j:Nat):Int)]else[]).length<=n:=by
   intro n;induction n with
   |zero=>simp
   |succ n d=>
    rw[List.range_succ,List.flatMap_append,dR]
    have:([n].flatMap λ j=>if ej k (wd h.Words a.toNat) j then[((a.toNat+3+j:Nat):Int)]else[]).length<=1:=by
     simp only[ig,List.flatMap_nil,hR];split<;>simp
    omega
  exact key _
 omega
theorem aeD(a:gk k)(g:I.Good F h k Y O):Y.length<=5000:=by
 have:=(g.l.p3 a g.s).pq;have:Y.length+O.length<=5000:=this;omega
def order(k:aO)(h:aV)(Y roots:List Int):List Int:=scan k h.Words h.ak (Y.length+1) 0 ((h.aS.flatMap (dm k h.Words)).foldl (cV h.ak) (roots.foldl (cV h.ak) []))
theorem alZ(g:I.Good F h k Y O):∀ {d i:Nat}{o:List Int},Ord Y o->Ord Y (scan k h.Words h.ak d i o)
 |0,i,o,b=>b
 |d+1,i,o,b=>by
  unfold scan;split
  ·rename_i a c
   exact alZ g (b.fold λ v e=>yi g (rj g (gi O (b.sub _ (bG c))) v e))
  ·exact b
theorem akk(g:I.Good F h k Y O){roots:List Int}(b:∀a∈roots,a=0\/a∈Y++O):Ord Y (roots.foldl (cV h.ak) []):=Ord.nil.fold λ v c=>yi g (b v c)
theorem YX(g:I.Good F h k Y O){roots:List Int}(c:∀a∈roots,a=0\/a∈Y++O):Ord Y ((h.aS.flatMap (dm k h.Words)).foldl (cV h.ak) (roots.foldl (cV h.ak) [])):=(akk g c).fold λ v b=>by
 obtain⟨a,d,b⟩:=hM.1 b;exact yi g (rj g (gI Y (g.ok.nt a d).1) v b)
theorem PZ(g:I.Good F h k Y O){roots:List Int}(b:∀a∈roots,a=0\/a∈Y++O):Ord Y (order k h Y roots):=alZ g (YX g b)
end
end Go.Proofs.YteeliipnilghaaaGreat
namespace Go.Proofs.YteeliipnilghaaaGreat
open I
def mt(o:List Int)(a:Int):List Int:=if a≠0/\a∉o then o++[a]else o
theorem Ord.mt{Y o:List Int}{a:Int}(h:Ord Y o)(f:a=0\/a∈Y):Ord Y (mt o a):=by
 unfold Go.Proofs.YteeliipnilghaaaGreat.mt;split
 ·rename_i d
  refine⟨fA.2 ⟨h.hn,by simp,λ b ag c hc e=>?_⟩,λ b ag=>?_⟩
  ·cases dT.1 hc
   subst e
   exact d.2 ag
  ·rcases cj.1 ag with ag |ag
   ·exact h.sub b ag
   ·cases dT.1 ag
    exact f.resolve_left d.1
 ·exact h
theorem Ord.DL{Y:List Int}:∀ {l o:List Int},Ord Y o->(∀a∈l,a=0\/a∈Y)->Ord Y (l.foldl Go.Proofs.YteeliipnilghaaaGreat.mt o)
 |[],o,h,_=>h
 |a::r,o,h,c=>Ord.DL (l:=r) (o:=Go.Proofs.YteeliipnilghaaaGreat.mt o a) (h.mt (c a (by simp))) λ b ag=>c b (by simp[ag])
theorem aEl{a:Int}{o:List Int}:∃t,mt o a=o++t:=by
 unfold mt;split
 ·exact⟨_,rfl⟩
 ·exact⟨[],by simp⟩
theorem Pn:∀ {l o:List Int},∃t,l.foldl mt o=o++t
 |[],o=>⟨[],by simp⟩
 |a::r,o=>by
  obtain⟨t,h⟩:=aEl (a:=a) (o:=o);obtain⟨u,J⟩:=Pn (l:=r) (o:=mt o a);exact⟨t++u,by rw[jr,J,h,g_]⟩
theorem aEk{a:Int}{o:List Int}{v:Int}:v∈mt o a↔v∈o\/(v=a/\a≠0):=by
 unfold mt;split
 ·rename_i h
  rw[cj,dT]
  exact⟨λ b=>b.imp id λ J=>⟨J,h.1⟩,λ b=>b.imp id λ J=>J.1⟩
 ·rename_i h
  refine⟨.inl,λ b=>b.elim id λ J=>?_⟩
  obtain⟨rfl,c⟩:=J
  exact lL λ d=>h ⟨c,d⟩
theorem GA{v:Int}:∀ {l o:List Int},v∈l.foldl mt o↔v∈o\/(v∈l/\v≠0)
 |[],o=>by simp
 |a::r,o=>by
  rw[jr,GA (l:=r),aEk];constructor
  ·rintro((h |⟨rfl,h⟩)|⟨h,b⟩)
   ·exact .inl h
   ·exact .inr ⟨by simp,h⟩
   ·exact .inr ⟨by simp[h],b⟩
  ·rintro(h |⟨h,b⟩)
   ·exact .inl (.inl h)
   ·rcases cI.1 h with rfl |h
    ·exact .inl (.inr ⟨rfl,b⟩)
    ·exact .inr ⟨h,b⟩
def my(k:aO)(W:List Int):Nat->Nat->List Int->List Int
 |0,_,o=>o
 |d+1,i,o=>match o[i]? with
  |some a=>my k W d (i+1) ((dm k W a).foldl mt o)
  |none=>o
section
variable{F:Nat}{h:aV}{k:aO}{Y O:List Int}
theorem aeh{a:Int}{o:List Int}(c:10000<F)(d:o.length<=5000):Ip F a o=some ((),((),()),mt o a,()):=by
 unfold Ip mt;by_cases b:a=0
 ·rw[decide_eq_true b,eb,cond_false,if_neg (λ h=>h.1 b)]
 ·rw[decide_eq_false b,ja,cond_true,show lk F o a=some (decide (a∈o)) from G7 ⟨by omega,by omega⟩ a,ae]
  by_cases J:a∈o
  ·rw[decide_eq_true J,eb,cond_false,if_neg (λ h=>h.2 J)]
  ·rw[decide_eq_false J,ja,cond_true,if_pos ⟨b,J⟩]
   have:bI 8 o [a]=some (o++[a]):=by
    unfold bI;rw[if_pos (by simp only[kg];omega)]
   rw[this,ae]
section
variable{S:List Int}{y ol yt ot nx:Int}{W nt:List Int}{c1:List ap}{c2:List Int}{c3:List (List I.Field)}{c4:List (List (List UInt8))}{c5:List (List I.Target)}
theorem auH(e:10000<F)(p:S.length<=5000){l:List Int}(g:l.length<=140737488355328)(j:∀a∈l,a=0\/a∈S):∀(d i f:Nat)(o:List Int),i+d=l.length->d<f->Ord S o ->
 B8 F f l (i:Int) W y ol yt ot nt nx c1 c2 c3 c4 c5 o=some (((),(),(),((),()),()),(W,y,ol,yt,ot,nt,nx,()),(c1,c2,c3,c4,c5,()),((),()),(l.drop i).foldl mt o,()):=by
 intro d
 induction d with
 |zero=>
  intro i f o h ad b
  obtain⟨f,rfl⟩:∃c,f=c+1:=⟨f-1,by omega⟩
  have:i=l.length:=by omega
  subst this
  rw[B8,bL,cond_false,iL]
  rfl
 |succ d m=>
  intro i f o h ad b
  obtain⟨f,rfl⟩:∃c,f=c+1:=⟨f-1,by omega⟩
  have hi:i<l.length:=by omega
  have n:l[i]? =some l[i]:=aK hi
  rw[B8,bM hi,cond_true,bw n,ae,aeh e (by have:=b.len;omega),ae,eW hi g]
  refine(m (i+1) f (mt o l[i]) (by omega) (by omega) (b.mt (j _ (hg hi)))).trans ?_
  rw[de hi,jr]
theorem auJ(e:10000<F)(s:S.length<=5000){l:List Int}{j:Int}(g:l.length<=140737488355328)(m:∀w∈l,0<=w/\w.toNat<W.length)(n:∀w∈l,wd W w.toNat=0\/wd W w.toNat∈S):∀(d i f:Nat)(o:List Int),i+d=l.length->d<f->Ord S o ->
 B_ F f j l (i:Int) W y ol yt ot nt nx c1 c2 c3 c4 c5 o=some (((),(),(),((),()),j,()),(W,y,ol,yt,ot,nt,nx,()),(c1,c2,c3,c4,c5,()),((),()),((l.drop i).map λ w=>wd W w.toNat).foldl mt o,()):=by
 intro d
 induction d with
 |zero=>
  intro i f o h ad a
  obtain⟨f,rfl⟩:∃b,f=b+1:=⟨f-1,by omega⟩
  have:i=l.length:=by omega
  subst this
  rw[B_,bL,cond_false,iL]
  rfl
 |succ d p=>
  intro i f o h ad a
  obtain⟨f,rfl⟩:∃b,f=b+1:=⟨f-1,by omega⟩
  have hi:i<l.length:=by omega
  have q:l[i]? =some l[i]:=aK hi
  have c:l[i]∈l:=hg hi
  obtain⟨w0,r⟩:=m _ c
  rw[B_,bM hi,cond_true,bw q,ae,pG (show l[i]=(l[i].toNat:Int) by omega) r,ae,aeh e (by have:=a.len;omega),ae,eW hi g]
  refine(p (i+1) f (mt o (wd W l[i].toNat)) (by omega) (by omega) (a.mt (n _ c))).trans ?_
  rw[de hi,eB,jr]
end
theorem IH(g:I.Good F h k Y O):(Y++O).length<=5000:=by
 have:=(g.l.p3 g.hF g.s).pq;have:Y.length+O.length<=5000:=this;rw[dR];omega
theorem auI(e:10000<F)(g:I.Good F h k Y O):∀(d i f:Nat)(o:List Int),(Y++O).length<i+d->d<f->i<=o.length->Ord (Y++O) o ->
 B9 F f (i:Int) h.Words h.ak h.aM h.aX h.aW h.aS h.Next k.a6 k.aY k.Fields k.Names k.aZ o=some (((),()),(h.Words,h.ak,h.aM,h.aX,h.aW,h.aS,h.Next,()),(k.a6,k.aY,k.Fields,k.Names,k.aZ,()),((),()),my k h.Words d i o,()):=by
 intro d
 have p:=IH g
 induction d with
 |zero=>
  intro i f o hi ad q a
  have:=a.len
  omega
 |succ d r=>
  intro i f o aL ad q a
  obtain⟨f,rfl⟩:∃s,f=s+1:=⟨f-1,by omega⟩
  rcases gL i o.length with hi |hi
  ·have m:o[i]? =some o[i]:=aK hi
   have b:o[i]∈Y++O:=a.sub _ (hg hi)
   have c:Ord (Y++O) ((dm k h.Words o[i]).foldl mt o):=a.DL λ v u=>rj g b v u
   rw[B9,bM hi,cond_true,bw m,ae,QV e (g.l.p3 g.hF g.s) b,ae]
   have n:=auJ (S:=Y++O) (y:=h.ak) (ol:=h.aM) (yt:=h.aX) (ot:=h.aW) (nx:=h.Next) (W:=h.Words) (nt:=h.aS) (c1:=k.a6) (c2:=k.aY) (c3:=k.Fields) (c4:=k.Names) (c5:=k.aZ) e p (j:=(i:Int)) (by have:=alA g b;omega) (aId g b) (λ w x=>g.ok.ref _ b w x) (refs k h.Words o[i].toNat).length 0 F o (by omega) (by have:=alA g b;omega) a
   rw[hB]at n
   have z:B_ F F (i:Int) (refs k h.Words o[i].toNat) 0 h.Words h.ak h.aM h.aX h.aW h.aS h.Next k.a6 k.aY k.Fields k.Names k.aZ o=_:=n
   rw[z,ae,eW hi (by have:=a.len;omega)]
   obtain⟨t,A⟩:=Pn (l:=dm k h.Words o[i]) (o:=o)
   refine(r (i+1) f ((dm k h.Words o[i]).foldl mt o) (by omega) (by omega) (by rw[A,dR];omega) c).trans ?_
   rw[my,m]
  ·have:i=o.length:=by omega
   subst this
   rw[B9,bL,cond_false,my,gE (cT _)]
def iA(k:aO)(h:aV)(Y O roots:List Int):List Int:=my k h.Words ((Y++O).length+1) 0 (roots.foldl mt [])
theorem aH9(b:10000<F)(g:I.Good F h k Y O){roots:List Int}(j:roots.length<=5000)(c:∀a∈roots,a=0\/a∈Y++O) :
 MS F h.Words h.ak h.aM h.aX h.aW h.aS h.Next k.a6 k.aY k.Fields k.Names k.aZ roots=some ((iA k h Y O roots,()),()):=by
 have e:=IH g
 unfold MS
 have d:=auH (S:=Y++O) (y:=h.ak) (ol:=h.aM) (yt:=h.aX) (ot:=h.aW) (nx:=h.Next) (W:=h.Words) (nt:=h.aS) (c1:=k.a6) (c2:=k.aY) (c3:=k.Fields) (c4:=k.Names) (c5:=k.aZ) b e (l:=roots) (by omega) c roots.length 0 F [] (by omega) (by omega) Ord.nil
 rw[hB]at d
 have f:B8 F F roots 0 h.Words h.ak h.aM h.aX h.aW h.aS h.Next k.a6 k.aY k.Fields k.Names k.aZ []=_:=d
 rw[f,ae]
 have ao:=auI b g ((Y++O).length+1) 0 F (roots.foldl mt []) (by omega) (by omega) (gT _) (Ord.nil.DL c)
 dsimp only
 have i:B9 F F 0 h.Words h.ak h.aM h.aX h.aW h.aS h.Next k.a6 k.aY k.Fields k.Names k.aZ (roots.foldl mt [])=_:=ao
 rw[i,ae]
 rfl
theorem alW(g:I.Good F h k Y O):∀ {d i:Nat}{o:List Int},Ord (Y++O) o->Ord (Y++O) (my k h.Words d i o)
 |0,i,o,b=>b
 |d+1,i,o,b=>by
  unfold my;split
  ·rename_i a c
   exact alW g (b.DL λ v e=>rj g (b.sub _ (bG c)) v e)
  ·exact b
theorem sZ(g:I.Good F h k Y O){roots:List Int}(b:∀a∈roots,a=0\/a∈Y++O):Ord (Y++O) (iA k h Y O roots):=alW g (Ord.nil.DL b)
end
end Go.Proofs.YteeliipnilghaaaGreat
namespace Go.Proofs.YteeliipnilghaaaGreat
open I
section
variable{F:Nat}{h:aV}{k:aO}{Y O:List Int}
theorem alX{W:List Int}:∀ {d i:Nat}{o:List Int},∃t,my k W d i o=o++t
 |0,i,o=>⟨[],by simp[my]⟩
 |d+1,i,o=>by
  unfold my;split
  ·rename_i a _
   obtain⟨t,b⟩:=Pn (l:=dm k W a) (o:=o)
   obtain⟨u,c⟩:=alX (W:=W) (d:=d) (i:=i+1) (o:=(dm k W a).foldl mt o)
   exact⟨t++u,by rw[c,b,g_]⟩
  ·exact⟨[],by simp⟩
theorem alU(g:I.Good F h k Y O):∀ {d i:Nat}{o:List Int},(Y++O).length<i+d->Ord (Y++O) o->(∀j a,j<i->o[j]? =some a-> ∀v∈dm k h.Words a,v≠0 ->v∈o) ->
 ∀a∈my k h.Words d i o,∀v∈dm k h.Words a,v≠0 ->v∈my k h.Words d i o
 |0,i,o,aL,n,hc=>λ a f v m p=>by
  unfold my at f⊢;obtain⟨j,aA,rfl⟩:=jf.1 f;have:=n.len;exact hc j _ (by omega) (aK aA) v m p
 |d+1,i,o,aL,n,hc=>λ a f v m p=>by
  unfold my at f⊢;split at f
  ·rename_i b ag
   obtain⟨t,r⟩:=Pn (l:=dm k h.Words b) (o:=o)
   refine alU g (by omega) (n.DL λ v m=>rj g (n.sub _ (bG ag)) v m) (λ j c aA q u s w=>?_) a f v m p
   have hi:=(aP.1 ag).1
   rcases gL j i with e |e
   ·rw[r,eA (by omega)]at q
    exact GA.2 (.inl (hc j c e q u s w))
   ·have:j=i:=by omega
    subst this
    rw[r,eA hi,ag]at q
    cases q
    exact GA.2 (.inr ⟨s,w⟩)
  ·rename_i ag
   obtain⟨j,aA,rfl⟩:=jf.1 f
   have:=List.getElem?_eq_none_iff.1 ag
   exact hc j _ (by omega) (aK aA) v m p
theorem alV{W:List Int}{P:Int->Prop}(e:∀a,P a-> ∀v∈dm k W a,v≠0 ->P v):∀ {d i:Nat}{o:List Int},(∀a∈o,P a)-> ∀a∈my k W d i o,P a
 |0,i,o,c=>c
 |d+1,i,o,c=>by
  unfold my;split
  ·rename_i b ag
   refine alV e λ a f=>?_
   rcases GA.1 f with h |⟨h,g⟩
   ·exact c a h
   ·exact e b (c b (bG ag)) a h g
  ·exact c
structure MH (k:aO) (W roots:List Int) (P:Int->Prop):Prop where
 rt:∀v∈roots,v≠0 ->P v
 gP:∀a,P a-> ∀v∈dm k W a,v≠0 ->P v
theorem Qn(g:I.Good F h k Y O){roots:List Int}(b:∀a∈roots,a=0\/a∈Y++O):MH k h.Words roots (·∈iA k h Y O roots):=by
 refine⟨λ v c e=>?_,alU g (by omega) (Ord.nil.DL b) λ j a aA=>by omega⟩;obtain⟨t,f⟩:=alX (k:=k) (W:=h.Words) (d:=(Y++O).length+1) (i:=0) (o:=roots.foldl mt []);unfold iA;rw[f];exact gi _ (GA.2 (.inr ⟨c,e⟩))
theorem Qo{roots:List Int}{P:Int->Prop}(hc:MH k h.Words roots P):∀a∈iA k h Y O roots,P a:=
 alV hc.gP λ a b=>(GA.1 b).elim (λ h=>by simp at h) λ h=>hc.rt a h.1 h.2
end
end Go.Proofs.YteeliipnilghaaaGreat
namespace Go.Proofs.YteeliipnilghaaaGreat
open I
def jx(k:aO)(W:List Int)(a n i:Nat):List Int:=((ed n).drop i).flatMap λ j=>if ej k (wd W a) j then[wd W (a+3+j)]else[]
theorem alD{k:aO}{W:List Int}{a n:Nat}:jx k W a n n=[]:=by unfold jx;rw[List.drop_eq_nil_of_le (by simp)];rfl
theorem alG{k:aO}{W:List Int}{a n i:Nat}(h:i<n):jx k W a n i=(if ej k (wd W a) i then[wd W (a+3+i)]else[])++jx k W a n (i+1):=by
 unfold jx;have hi:i<(ed n).length:=by simpa using h
 rw[de hi,ig,List.getElem_range]
theorem alF{k:aO}{W:List Int}{a:Int}:jx k W a.toNat (wd W (a.toNat+1)).toNat 0=dm k W a:=by
 unfold jx dm refs;rw[hB,List.map_flatMap];congr 1;funext j;split
 ·rw[lT,bV]
 ·rfl
theorem alE{k:aO}{W:List Int}{a n:Nat}:∀ {d i:Nat},i+d=n->(jx k W a n i).length<=d
 |0,i,h=>by
  have:i=n:=by omega
  subst this;rw[alD];simp
 |d+1,i,h=>by
  rw[alG (by omega),dR];have:=alE (k:=k) (W:=W) (a:=a) (n:=n) (d:=d) (i:=i+1) (by omega);split<;>simp <;>omega
theorem aBn{W:List Int}{a:Int}{i:Nat}(b:1<=a)(ag:a.toNat+3+i<W.length)(c:W.length<=100000):idx W (ax (ax (a+3)+(i:Int)))=some (wd W (a.toNat+3+i)):=by
 have e:ax (ax (a+3)+(i:Int))=((a.toNat+3+i:Nat):Int):=by
  rw[cQ (n:=a+3) (by omega) (by omega),cQ (by omega) (by omega)];omega
 rw[e];exact e7 ag
section
variable{F:Nat}{h:aV}{k:aO}{Y O:List Int}
theorem aD6(v:10000<F)(g:I.Good F h k Y O){a:Int}(j:a∈Y++O){m:List (Int×Bool)}{n:Nat}(w:n=(wd h.Words (a.toNat+1)).toNat):∀(d i f:Nat)(gP:List Int),i+d=n->d<f->gP.length+d<=1000000 ->
 zd F f a (n:Int) (i:Int) k.a6 k.aY k.Fields k.Names k.aZ h.Words h.ak h.aM h.aX h.aW h.aS h.Next m gP=
  some (((),(),()),((),k.a6,k.aY,k.Fields,k.Names,k.aZ,(),()),(h.Words,h.ak,h.aM,h.aX,h.aW,h.aS,h.Next,()),m,gP++jx k h.Words a.toNat n i,()):=by
 obtain⟨p,x,y⟩:=g.l.fit g.s a j
 have z:=g.s.e3
 have C9:=g.l.s7 a j
 have c:a=(a.toNat:Int):=by omega
 obtain⟨q,l⟩:=C9
 have r:wd h.Words (a.toNat+1)=(n:Int):=by
  have:=(kY.1 l).1.1;omega
 intro d
 induction d with
 |zero=>
  intro i f gP hi ad aj
  obtain⟨f,rfl⟩:∃e,f=e+1:=⟨f-1,by omega⟩
  have:i=n:=by omega
  subst this
  rw[zd,bL,cond_false,alD,hR]
 |succ d o=>
  intro i f gP hi ad aj
  obtain⟨f,rfl⟩:∃e,f=e+1:=⟨f-1,by omega⟩
  have b:i<n:=by omega
  have s:qL (b'.mk (aO.mk k.a6 k.aY k.Fields k.Names k.aZ)) (wd h.Words a.toNat) (i:Int)=some (ej k (wd h.Words a.toNat) i):=QG g.hF q l (by omega)
  rw[zd,bM b,cond_true,pG c (by omega),ae,s,ae,alG b]
  cases A:ej k (wd h.Words a.toNat) i with
  |false=>
   rw[cond_false,eW b (by omega)]
   exact(o (i+1) f gP (by omega) (by omega) (by omega)).trans (by simp)
  |true=>
   have t:idx h.Words (ax (ax (a+3)+(i:Int)))=some (wd h.Words (a.toNat+3+i)):=aBn p (by omega) (by omega)
   have u:bI 8 gP [wd h.Words (a.toNat+3+i)]=some (gP++[wd h.Words (a.toNat+3+i)]):=by
    unfold bI;rw[if_pos (by simp only[kg];omega)]
   rw[cond_true,t,ae,u,ae,eW b (by omega)]
   exact(o (i+1) f _ (by omega) (by omega) (by simp;omega)).trans (by simp)
end
end Go.Proofs.YteeliipnilghaaaGreat
namespace Go.Proofs.YteeliipnilghaaaGreat
open I
def sz(W:List Int)(a:Int):Nat:=3+(wd W (a.toNat+1)).toNat
def news(W:List Int):Nat->List Int->List Int
 |_,[]=>[]
 |t,a::r=>(t:Int)::news W (t+sz W a) r
def bx(W:List Int):Nat->List Int->Nat
 |t,[]=>t
 |t,a::r=>bx W (t+sz W a) r
theorem xD{W:List Int}:∀ {o:List Int}{t:Nat},(news W t o).length=o.length
 |[],_=>rfl
 |a::r,t=>by simp[news,xD (o:=r)]
theorem PL{W:List Int}{b:Int}:∀ {o:List Int}{t:Nat},news W t (o++[b])=news W t o++[(bx W t o:Int)]
 |[],t=>rfl
 |a::r,t=>by simp[news,bx,PL (o:=r)]
theorem Hp{W:List Int}{b:Int}:∀ {o:List Int}{t:Nat},bx W t (o++[b])=bx W t o+sz W b
 |[],t=>rfl
 |a::r,t=>by simp[bx,Hp (o:=r)]
theorem k8{W:List Int}:∀ {o:List Int}{t:Nat},t<=bx W t o
 |[],t=>cT _
 |a::r,t=>hv (Nat.le_add_right _ _) (k8 (o:=r))
theorem Hq{W:List Int}{p:List Int}:∀ {o:List Int}{t:Nat},bx W t (o++p)=bx W (bx W t o) p
 |[],t=>rfl
 |a::r,t=>by simp[bx,Hq (o:=r)]
def pos:List Int->Int->Option Nat
 |[],_=>none
 |b::r,a=>if b=a then some 0 else(pos r a).map (·+1)
theorem KT:∀ {o:List Int}{a:Int}{j:Nat},pos o a=some j->o[j]? =some a
 |[],a,j,h=>by simp[pos]at h
 |b::r,a,j,h=>by
  unfold pos at h;split at h
  ·rename_i e
   cases h
   simp[e]
  ·obtain⟨i,c,rfl⟩:=cz.1 h
   simpa using KT c
theorem uX:∀ {o:List Int}{a:Int},pos o a=none↔a∉o
 |[],a=>by simp[pos]
 |b::r,a=>by
  unfold pos;split
  ·rename_i e;simp[e]
  ·rename_i e
   rw[Option.map_eq_none_iff,uX]
   simp only[cI,not_or]
   exact⟨λ h=>⟨λ e'=>e e'.symm,h⟩,λ h=>h.2⟩
def dC(o ns:List Int)(a:Int):Int:=if a=0 then a else match pos o a with
 |some j=>(ns[j]?).getD 0
 |none=>a
section
variable{F:Nat}
theorem aFz{o:List Int}{a:Int}(c:o.length<=140737488355328):∀(d i f:Nat),i+d=o.length->d<f->B7 F f o a (i:Int)=some (match pos (o.drop i) a with
 |some j=>.inl ((((i+j:Nat):Int),()),())
 |none=>.inr ((),())):=by
 intro d
 induction d with
 |zero=>
  intro i f h ad
  obtain⟨f,rfl⟩:∃b,f=b+1:=⟨f-1,by omega⟩
  have:i=o.length:=by omega
  subst this
  rw[B7,bL,cond_false,iL]
  rfl
 |succ d g=>
  intro i f h ad
  obtain⟨f,rfl⟩:∃b,f=b+1:=⟨f-1,by omega⟩
  have hi:i<o.length:=by omega
  have k:o[i]? =some o[i]:=aK hi
  rw[B7,bM hi,cond_true,bw k,ae,de hi]
  by_cases e:o[i]=a
  ·rw[decide_eq_true e,cond_true,pos,if_pos e]
   rfl
  ·rw[decide_eq_false e,cond_false,eW hi c,g (i+1) f (by omega) (by omega),pos,if_neg e]
   cases pos (o.drop (i+1)) a with
   |none=>rfl
   |some j=>simp only[fU,aH,Sum.inl.injEq,cF,and_true];omega
theorem aFA{o:List Int}{a:Int}(b:o.length<=5000)(c:10000<F):B6 F o a=some ((match pos o a with
 |some j=>(j:Int)
 |none=>-1,()),()):=by
 unfold B6
 have e:B7 F F o a 0=_:=aFz (o:=o) (a:=a) (by omega) o.length 0 F (by omega) (by omega)
 rw[e,hB]
 cases pos o a with
 |none=>rfl
 |some j=>simp[dy]
end
end Go.Proofs.YteeliipnilghaaaGreat
namespace Go.Proofs.YteeliipnilghaaaGreat
open I
def iS(A:List Int):List (Int×Bool):=A.map λ a=>(a,true)
theorem aiK{x:Int}:∀ {A:List Int},x∉A->gf (iS A) x true=iS (A++[x])
 |[],_=>rfl
 |a::r,h=>by
  have b:a≠x:=λ e=>h (by simp[e]);have J:x∉r:=λ e=>h (by simp[e]);show gf ((a,true)::iS r) x true=(a,true)::iS (r++[x])
  rw[gf,if_neg b,aiK J]
theorem aB'{x:Int}{A:List Int}:(cH (iS A) x).getD false=decide (x∈A):=Po x A
def gg(W:List Int)(A:List Int):List Int->Nat
 |[]=>0
 |a::r=>(if a∈A then 0 else sz W a)+gg W A r
theorem ajK{W A:List Int}{x:Int}:∀ {S:List Int},gg W (A++[x]) S<=gg W A S
 |[]=>cT _
 |a::r=>by
  have:=ajK (W:=W) (A:=A) (x:=x) (S:=r);unfold gg;by_cases h:a∈A
  ·rw[if_pos h,if_pos (by simp[h])];omega
  ·rw[if_neg h];split<;>omega
theorem ajL{W A:List Int}{x:Int}(c:x∉A):∀ {S:List Int},x∈S->gg W (A++[x]) S+sz W x<=gg W A S
 |[],h=>by simp at h
 |a::r,h=>by
  unfold gg;by_cases e:a=x
  ·subst e
   have:=ajK (W:=W) (A:=A) (x:=a) (S:=r)
   rw[if_pos (by simp),if_neg c]
   omega
  ·have J:x∈r:=(cI.1 h).resolve_left λ h=>e h.symm
   have:=ajL (W:=W) c J
   by_cases b:a∈A
   ·rw[if_pos b,if_pos (by simp[b])];omega
   ·rw[if_neg b,if_neg (by simp[b,e])];omega
theorem GF{W:List Int}:∀ {S:List Int}{t:Nat},bx W t S=t+gg W [] S
 |[],t=>rfl
 |a::r,t=>by
  unfold bx gg;rw[GF (S:=r),if_neg (by simp)];omega
structure at5 (k:aO) (W S A gP cn:List Int):Prop where
 hn:cn.Nodup
 sub:∀a∈cn,a∈S
 cl:(∀a∈A,∀v∈dm k W a,v≠0 ->v∈A\/v∈gP)->(∀a∈cn,∀v∈dm k W a,v≠0 ->v∈cn)
 rt:(∀a∈A,a∈cn)/\ ∀v∈gP,v≠0 ->v∈cn
 gK:∀P:Int->Prop,(∀a,P a-> ∀v∈dm k W a,v≠0 ->P v)->(∀a∈A,P a)->(∀v∈gP,v≠0 ->P v)-> ∀a∈cn,P a
section
variable{F:Nat}{h:aV}{k:aO}{Y O:List Int}
theorem aIM{W:List Int}{a:Int}:(dm k W a).length+3<=sz W a:=by
 have:=alE (k:=k) (W:=W) (a:=a.toNat) (n:=(wd W (a.toNat+1)).toNat) (d:=(wd W (a.toNat+1)).toNat) (i:=0) (by omega);rw[alF]at this;unfold sz;omega
set_option maxHeartbeats 1000000
theorem aD5(L:10000<F)(g:I.Good F h k Y O):∀(N f:Nat)(A gP:List Int),gP.length+gg h.Words A (Y++O)<=N->N<f->N<=100000 ->A.Nodup->(∀a∈A,a∈Y++O)->(∀v∈gP,v=0\/v∈Y++O) ->
 ∃cn,wi F f k.a6 k.aY k.Fields k.Names k.aZ h.Words h.ak h.aM h.aX h.aW h.aS h.Next (iS A) gP=
  some ((),((),k.a6,k.aY,k.Fields,k.Names,k.aZ,(),()),(h.Words,h.ak,h.aM,h.aX,h.aW,h.aS,h.Next,()),iS cn,[],())/\at5 k h.Words (Y++O) A gP cn:=by
 intro N
 induction N with
 |zero=>
  intro f A gP w ad _ p aj s
  obtain⟨f,rfl⟩:∃y,f=y+1:=⟨f-1,by omega⟩
  obtain rfl:gP=[]:=hL (by omega)
  exact⟨A,by rw[wi];rfl,p,aj,λ hc a ar v c i=>(hc a ar v c i).elim id λ h=>by simp at h,⟨λ a h=>h,λ v c=>by simp at c⟩,λ P _ J _=>J⟩
 |succ N H=>
  intro f A gP w ad M p aj s
  obtain⟨f,rfl⟩:∃y,f=y+1:=⟨f-1,by omega⟩
  rcases List.eq_nil_or_concat gP with rfl |⟨d,x,rfl⟩
  ·exact⟨A,by rw[wi];rfl,p,aj,λ hc a ar v c i=>(hc a ar v c i).elim id λ h=>by simp at h,⟨λ a h=>h,λ v c=>by simp at c⟩,λ P _ J _=>J⟩
  ·have l:(d++[x]).length=d.length+1:=by simp
   rw[List.concat_eq_append]at w s⊢
   rw[l]at w
   have Q:decide (0<(((d++[x]).length:Nat):Int))=true:=decide_eq_true (by rw[l];omega)
   have ao:ax ((((d++[x]).length:Nat):Int)-1)=((d.length:Nat):Int):=by rw[l,cQ (by omega) (by omega)];omega
   have R:(d++[x])[d.length]? =some x:=by simp
   have aT:(if(0 :Int)<=0/\0<=((d.length:Nat):Int)/\((d.length:Nat):Int)<=(((d++[x]).length:Nat):Int)then some ()else none)=some ():=if_pos ⟨by omega,by omega,by rw[l];omega⟩
   have bQ:mV (((d.length:Nat):Int)).toNat (d++[x])=d:=by rw[bV];simp
   have S:x=0\/x∈Y++O:=s x (by simp)
   have q:∀v∈d,v=0\/v∈Y++O:=λ v c=>s v (by simp[c])
   rw[wi,Q,cond_true,ao,bw R,ae,aT,ae,bQ,aB']
   clear ao
   by_cases hc:x=0\/x∈A
   ·have:(decide (x=0)||decide (x∈A))=true:=by
     rcases hc with h |h
     ·rw[decide_eq_true h];rfl
     ·rw[decide_eq_true h,Bool.or_true]
    rw[this,cond_true];obtain⟨cn,z,j⟩:=H f A d (by omega) (by omega) (by omega) p aj q;refine⟨cn,z,j.hn,j.sub,λ B=>j.cl λ a ar v c i=>?_,⟨j.rt.1,λ v c i=>?_⟩,λ P t C u=>j.gK P t C λ v c=>u v (by simp[c])⟩
    ·rcases B a ar v c i with h |h
     ·exact .inl h
     ·rcases cj.1 h with h |h
      ·exact .inr h
      ·cases dT.1 h
       exact .inl (hc.resolve_left i)
    ·rcases cj.1 c with h |h
     ·exact j.rt.2 v h i
     ·cases dT.1 h
      exact j.rt.1 _ (hc.resolve_left i)
   ·have D:x≠0:=λ e=>hc (.inl e)
    have OA:x∉A:=λ e=>hc (.inr e)
    have o:=S.resolve_left D
    rw[decide_eq_false D,decide_eq_false OA,Bool.or_self,cond_false,aiK OA]
    obtain⟨X,Z,_⟩:=g.l.fit g.s x o
    have pE:=g.s.e3
    obtain⟨n,K⟩:∃n,n=(wd h.Words (x.toNat+1)).toNat:=⟨_,rfl⟩
    have E:wd h.Words (x.toNat+1)=(n:Int):=by
     have:=(kY.1 (g.l.s7 x o).2).1.1;omega
    have G:idx h.Words (ax (x+1))=some (n:Int):=by
     have e:ax (x+1)=((x.toNat+1 :Nat):Int):=by rw[cQ (by omega) (by omega)];omega
     rw[e,e7 (by omega),E]
    rw[G,ae]
    have T:=aD6 L g o (m:=iS (A++[x])) K n 0 F d (by omega) (by omega) (by omega)
    have U:zd F F x (n:Int) 0 k.a6 k.aY k.Fields k.Names k.aZ h.Words h.ak h.aM h.aX h.aW h.aS h.Next (iS (A++[x])) d=_:=T
    rw[U,ae,K,alF]
    have V:=ajL (W:=h.Words) OA o
    have Gh:=aIM (k:=k) (W:=h.Words) (a:=x)
    obtain⟨cn,z,j⟩:=H f (A++[x]) (d++dm k h.Words x) (by rw[dR];omega) (by omega) (by omega) (fA.2 ⟨p,by simp,λ a ar b ag e=>by cases dT.1 ag;exact OA (e▸ar)⟩)
     (λ a ar=>(cj.1 ar).elim (aj a) λ h=>by cases dT.1 h;exact o)
     (λ v c=>(cj.1 c).elim (q v) λ h=>rj g o v h)
    refine⟨cn,z,j.hn,j.sub,λ B=>j.cl λ a ar v c i=>?_,⟨λ a ar=>j.rt.1 a (by simp[ar]),λ v c i=>?_⟩,λ P t C u=>?_⟩
    ·rcases cj.1 ar with ar |ar
     ·rcases B a ar v c i with h |h
      ·exact .inl (by simp[h])
      ·rcases cj.1 h with h |h
       ·exact .inr (by simp[h])
       ·exact .inl (by simp[dT.1 h])
     ·cases dT.1 ar
      exact .inr (by simp[c])
    ·rcases cj.1 c with h |h
     ·exact j.rt.2 v (by simp[h]) i
     ·exact j.rt.1 v (by simp[dT.1 h])
    ·have r:P x:=u x (by simp) D
     refine j.gK P t (λ a ar=>?_) λ v c i=>?_
     ·rcases cj.1 ar with h |h
      ·exact C a h
      ·cases dT.1 h;exact r
     ·rcases cj.1 c with h |h
      ·exact u v (by simp[h]) i
      ·exact t x r v h i
end
end Go.Proofs.YteeliipnilghaaaGreat
namespace Go.Proofs.YteeliipnilghaaaGreat
open I bc
theorem ajJ{W A:List Int}:∀ {l m:List Int},gg W A (l++m)=gg W A l+gg W A m
 |[],m=>by simp[gg]
 |a::r,m=>by
  show(if a∈A then 0 else sz W a)+gg W A (r++m)=(if a∈A then 0 else sz W a)+gg W A r+gg W A m
  rw[ajJ (l:=r)];omega
theorem am2{k:aO}{W:List Int}{to q:Nat}{L:List Int}(h:I.eQ k W to q L):bx W q L=to:=by
 induction h with
 |nil=>rfl
 | @cons q r _ _ _ _ a=>
   show bx W (q+sz W (q:Int)) r=to
   rw[show q+sz W (q:Int)=q+3+(wd W (q+1)).toNat by unfold sz;rw[bV];omega]
   exact a
theorem amo{W:List Int}:∀ {l:List Int}{n:Int},(∀a∈l,∃v,idx W (ax (a+1))=some v)-> ∃m,iX W l n=some m
 |[],n,_=>⟨n,rfl⟩
 |a::r,n,h=>by
  obtain⟨v,c⟩:=h a (by simp);obtain⟨m,d⟩:=amo (l:=r) (n:=ax (n+ax (3+v))) λ b ag=>h b (by simp[ag]);exact⟨m,by rw[iX,c,ae,d]⟩
section
variable{F:Nat}{h:aV}{k:aO}{Y O:List Int}
theorem aEm(g:I.Good F h k Y O):gg h.Words [] (Y++O)<=4001:=by
 have a:=am2 g.l.y;have J:=am2 g.l.o;rw[GF]at a J;rw[ajJ];have b:(h.Words.length:Int)=1+h.ak+h.aM:=g.s.B;obtain⟨⟨c1,c2⟩,⟨c3,c4⟩,_⟩:=g.s.C;obtain⟨⟨c,_⟩,a3,_⟩:=g.s.A;have:=g.s.e3;omega
theorem aD7(f:10000<F)(g:I.Good F h k Y O){roots:List Int}(o:roots.length<=5000)(d:∀a∈roots,a=0\/a∈Y++O) :
 ∃A,A.Perm (iA k h Y O roots)/\A.Nodup/\(∀a∈A,a∈Y++O)/\CG F roots k.a6 k.aY k.Fields k.Names k.aZ h.Words h.ak h.aM h.aX h.aW h.aS h.Next []=
  some ((),((),k.a6,k.aY,k.Fields,k.Names,k.aZ,(),()),(h.Words,h.ak,h.aM,h.aX,h.aW,h.aS,h.Next,()),iS A,()):=by
 have i:=aEm g
 obtain⟨A,j,c⟩:=aD5 f g (roots.length+4001) F [] roots (by omega) (by omega) (by omega) mA (λ a b=>by simp at b) d
 have e:=Qn g d
 have l:=sZ g d
 refine⟨A,(k7 c.hn l.hn).2 λ a=>⟨λ b=>?_,λ b=>?_⟩,c.hn,c.sub,?_⟩
 ·exact c.gK _ e.gP (λ a b=>by simp at b) e.rt a b
 ·exact Qo (P:=λ a=>a∈A) ⟨c.rt.2,c.cl λ a b=>by simp at b⟩ a b
 ·unfold CG
  have m:bI 8 [] roots=some roots:=by
   unfold bI;rw[if_pos (by simp;omega)];rfl
  have n:wi F F k.a6 k.aY k.Fields k.Names k.aZ h.Words h.ak h.aM h.aX h.aW h.aS h.Next [] roots=_:=j
  rw[m,ae,n,ae]
theorem aBm(g:I.Good F h k Y O){a:Int}(b:a∈Y++O):∃v,idx h.Words (ax (a+1))=some v:=by
 obtain⟨c,d,_⟩:=g.l.fit g.s a b;have f:=g.s.e3;have e:ax (a+1)=((a.toNat+1 :Nat):Int):=by rw[cQ (by omega) (by omega)];omega
 rw[e];exact⟨_,e7 (by omega)⟩
theorem aDM{l:List Int}(c:l.length<=140737488355328):∀(d i f:Nat)(n:Int),i+d=l.length->d<f ->
 B5 F f l n (i:Int) h.Words h.ak h.aM h.aX h.aW h.aS h.Next=(iX h.Words (l.drop i) n).map λ m=>((m,()),(h.Words,h.ak,h.aM,h.aX,h.aW,h.aS,h.Next,()),()):=by
 intro d
 induction d with
 |zero=>
  intro i f n hi ad
  obtain⟨f,rfl⟩:∃b,f=b+1:=⟨f-1,by omega⟩
  have:i=l.length:=by omega
  subst this
  rw[B5,bL,cond_false,iL]
  rfl
 |succ d e=>
  intro i f n hi ad
  obtain⟨f,rfl⟩:∃b,f=b+1:=⟨f-1,by omega⟩
  have a:i<l.length:=by omega
  have g:l[i]? =some l[i]:=aK a
  rw[B5,bM a,cond_true,bw g,ae,de a,iX]
  cases j:idx h.Words (ax (l[i]+1))with
  |none=>rfl
  |some v=>
   rw[ae,ae,eW a c]
   exact e (i+1) f _ (by omega) (by omega)
theorem aDN(d:10000<F)(g:I.Good F h k Y O){roots:List Int}(f:roots.length<=5000)(b:∀a∈roots,a=0\/a∈Y++O) :
 ∃m A,A.Perm (iA k h Y O roots)/\A.Nodup/\(∀a∈A,a∈Y++O)/\iX h.Words A 0=some m/\
  CG F roots k.a6 k.aY k.Fields k.Names k.aZ h.Words h.ak h.aM h.aX h.aW h.aS h.Next []=
   some ((),((),k.a6,k.aY,k.Fields,k.Names,k.aZ,(),()),(h.Words,h.ak,h.aM,h.aX,h.aW,h.aS,h.Next,()),iS A,())/\
  FQ h.Words (iS A)=some m/\MR F h.Words h.ak h.aM h.aX h.aW h.aS h.Next k.a6 k.aY k.Fields k.Names k.aZ roots=some ((m,()),()):=by
 obtain⟨A,i,p,j,q⟩:=aD7 d g f b
 obtain⟨m,c⟩:=amo (W:=h.Words) (l:=A) (n:=0) λ a r=>aBm g (j a r)
 have s:iX h.Words (iA k h Y O roots) 0=some m:=by rw[<-aa2 i];exact c
 refine⟨m,A,i,p,j,c,q,?_,?_⟩
 ·unfold FQ iS
  rw[nr]
  have:(lz∘λ a:Int=>(a,true))=id:=rfl
  rw[this,List.map_id]
  exact c
 ·unfold MR
  rw[aH9 d g f b,ae]
  have o:=(sZ g b).len
  have t:=IH g
  have e:=aDM (F:=F) (h:=h) (l:=iA k h Y O roots) (by omega) (iA k h Y O roots).length 0 F 0 (by omega) (by omega)
  rw[hB,s]at e
  have e':B5 F F (iA k h Y O roots) 0 0 h.Words h.ak h.aM h.aX h.aW h.aS h.Next=_:=e
  dsimp only
  rw[e']
  rfl
end
end Go.Proofs.YteeliipnilghaaaGreat
namespace I
section
variable{F:Nat}{k:aO}{h:aV}{Y O:List Int}
theorem aJk(c:10000<F)(g:Good F h k Y O):rT F h k=some (Y,O,true):=by
 rcases ali (F:=F) (by omega) g.hF g.s with⟨d,f,a,e⟩|⟨b,_⟩
 ·obtain rfl:=a.y.xT g.l.y
  obtain rfl:=a.o.xT g.l.o
  exact e
 ·exact absurd g.l (b _ _)
def vT(Y O:List Int)(a:Int):Bool:=!decide (a=0)&& !decide (a∈Y++O)
def kG(Y O roots:List Int):Int:=if 1000<(roots.length:Int)then 2 else if roots.any (vT Y O)then 5 else 0
theorem Qy(d:10000<F)(g:Good F h k Y O)(roots:List Int):vw F (view h k Y O) roots=some (kG Y O roots):=by
 unfold vw kG;by_cases a:1000<(roots.length:Int)
 ·rw[decide_eq_true a,if_pos a];rfl
 ·rw[decide_eq_false a,if_neg a,cond_false]
  unfold QK QO
  have ad:=UL (l:=roots) (L:=AK roots (view h k Y O)) (vT Y O) (by omega) (λ f i x b=>by
   rw[AK,bM (aP.1 b).1,cond_true,bw b,ae];unfold Sy vT;by_cases c:x=0
   ·rw[decide_eq_true c];rfl
   ·rw[decide_eq_false c,ja,cond_true,kz]
    show ew (ew (F0 (view h k Y O) x) _) _=_
    rw[g.dP x]
    rfl) (λ f=>by rw[AK,bL];rfl) (F:=F) (by omega)
  refine Eq.trans (congrArg (λ o=>ew o λ(r:Bool)=>cond r (some (5 :Int)) (some 0)) (ad:_)) ?_
  rw[ae]
  cases roots.any (vT Y O)<;>rfl
theorem aIj(e:10000<F)(g:Good F h k Y O)(roots:List Int):yK F h k roots=some (kG Y O roots):=by
 have hc:Y.length+O.length<=5000:=(g.l.p3 g.hF g.s).pq;unfold yK kG;by_cases b:1000<(roots.length:Int)
 ·rw[decide_eq_true b,if_pos b];rfl
 ·rw[decide_eq_false b,if_neg b,cond_false]
  have j:rT F (⟨h.Words,h.ak,h.aM,h.aX,h.aW,h.aS,h.Next⟩:aV) (⟨k.a6,k.aY,k.Fields,k.Names,k.aZ⟩:aO)=_:=aJk e g
  rw[j,ae]
  have m:qt F roots (Y,O,true) F 0=some (cA (roots.findSome? λ a=>if vT Y O a then some 5 else none)):=each _ (by omega) (λ f i x c=>by
   rw[qt,bM (aP.1 c).1,cond_true,bw c,ae,ae];rw[show lk F (Y,O,true).1 x=some (decide (x∈Y)) from G7 (l:=Y) ⟨by omega,by omega⟩ x,ae,ae];rw[show lk F (Y,O,true).2.1 x=some (decide (x∈O)) from G7 (l:=O) ⟨by omega,by omega⟩ x,ae];unfold vT;by_cases d:x=0
   ·rw[decide_eq_true d];rfl
   ·by_cases hy:x∈Y<;>by_cases n:x∈O<;>simp[d,hy,n,gZ]) (λ f=>by rw[qt,bL];rfl) (by omega)
  rw[m,UX]
  cases roots.any (vT Y O)<;>rfl
theorem aaF{roots:List Int}(h:kG Y O roots=0):roots.length<=1000/\ ∀a∈roots,a=0\/a∈Y++O:=by
 unfold kG at h;split at h
 ·cases h
 ·rename_i e
  split at h
  ·cases h
  ·rename_i J
   refine⟨by omega,λ a d=>?_⟩
   have:=je.1 (gQ.2 J) a d
   unfold vT at this
   by_cases b:a=0
   ·exact .inl b
   ·by_cases c:a∈Y++O
    ·exact .inr c
    ·simp only[cb,ha,decide_eq_false_iff_not]at this
     exact absurd ⟨b,c⟩ this
end
end I
namespace Go.Proofs.YteeliipnilghaaaGreat
open I
section
variable{F:Nat}{h:aV}{k:aO}{Y O:List Int}
theorem aug{out:List Int}{x:Int}(a:out.length<=1000000):bI 8 out [x]=some (out++[x]):=by
 unfold bI;rw[if_pos (by simp only[kg];omega)]
theorem axM(b:10000<F)(g:I.Good F h k Y O)(roots:List Int) :
 I5 F h.Words h.ak h.aM h.aX h.aW h.aS h.Next k.a6 k.aY k.Fields k.Names k.aZ roots=
  some (.inl (((),kG Y O roots,()),(h.Words,h.ak,h.aM,h.aX,h.aW,h.aS,h.Next,k.a6,k.aY,k.Fields,k.Names,k.aZ,Y,O,(),()),(Y++O).map (λ a=>(a,true)),())):=by
 have c:jZ F (⟨h.Words,h.ak,h.aM,h.aX,h.aW,h.aS,h.Next⟩:aV) (⟨k.a6,k.aY,k.Fields,k.Names,k.aZ⟩:aO)=_:=g.open b
 have d:vw F (⟨⟨h.Words,h.ak,h.aM,h.aX,h.aW,h.aS,h.Next⟩,⟨⟨k.a6,k.aY,k.Fields,k.Names,k.aZ⟩⟩,Y,O,(Y++O).map λ a=>(a,true)⟩:bj) roots=_:=Qy b g roots
 unfold I5
 rw[c]
 dsimp only[iB,dy,view]
 rw[decide_eq_true (rfl:(0 :Int)=0),cond_true,d,ae]
end
end Go.Proofs.YteeliipnilghaaaGreat
namespace Go.Proofs.YteeliipnilghaaaGreat
open I
def val(k:aO)(W o ns:List Int)(q i:Nat):Int:=if 3<=i/\ej k (wd W q) (i-3)=true then dC o ns (wd W (q+i))else wd W (q+i)
theorem lO{a b:Nat}(h:a+b<=100000):I.ax ((a:Int)+(b:Int))=((a+b:Nat):Int):=by rw[cQ (by omega) (by omega)];omega
theorem h5{a:Nat}(h:a<=100000):I.ax ((a:Int)+1)=((a+1 :Nat):Int):=by rw[cQ (by omega) (by omega)];omega
theorem Q9{x:Int}{n:Nat}(a:0<=x)(h:n=3+x.toNat)(b:n<=100000):I.ax (3+x)=(n:Int):=by rw[cQ (by omega) (by omega)];omega
theorem aJT{a:Nat}(h:a<=100000)(b:3<=a):I.ax ((a:Int)-3)=((a-3 :Nat):Int):=by rw[cQ (by omega) (by omega)];omega
end Go.Proofs.YteeliipnilghaaaGreat
namespace Go.Proofs.YteeliipnilghaaaGreat
open I
def laid(k:aO)(W o ns Z:List Int):Nat->List Int->Prop
 |_,[]=>True
 |t,a::r=>(∀m,m<sz W a->wd Z (t+m)=val k W o ns a.toNat m)/\laid k W o ns Z (t+sz W a) r
end Go.Proofs.YteeliipnilghaaaGreat
namespace Go.Proofs.YteeliipnilghaaaGreat
open I
theorem abd{W:List Int}:∀ {o:List Int}{t:Nat},bx W t o=t+(o.map (sz W)).sum
 |[],t=>rfl
 |a::r,t=>by rw[bx,abd (o:=r),eB,mH];omega
theorem afO{f:Int->Nat}:∀ {Y:List Int}{a:Int},a∈Y->(Y.map f).sum=f a+((Y.erase a).map f).sum
 |[],a,h=>by simp at h
 |b::r,a,h=>by
  by_cases e:b=a
  ·subst e;simp
  ·rw[List.erase_cons_tail (by simpa using e),eB,mH,eB,mH]
   have:a∈r:=by
    rcases cI.1 h with h |h
    ·exact absurd h.symm e
    ·exact h
   have:=afO (f:=f) this
   omega
theorem aa1{f:Int->Nat}:∀ {o Y:List Int},o.Nodup->(∀a∈o,a∈Y)->(o.map f).sum<=(Y.map f).sum
 |[],Y,_,_=>gT _
 |a::r,Y,c,aj=>by
  have c:=ie.1 c;have d:a∈Y:=aj a (by simp);have g:=aa1 (f:=f) (o:=r) (Y:=Y.erase a) c.2 λ b ag=>(nq λ e=>by subst e;exact c.1 ag).2 (aj b (by simp[ag]));rw[eB,mH,afO d];omega
theorem abr{k:aO}{W:List Int}{to q:Nat}{L:List Int}(h:I.eQ k W to q L):q+(L.map (sz W)).sum=to:=by
 induction h with
 |nil=>simp
 | @cons q r a J b c d=>
   rw[eB,mH]
   have:sz W (q:Int)=3+(wd W (q+1)).toNat:=by unfold sz;rw[bV]
   omega
theorem aIi{F:Nat}{h:aV}{k:aO}{Y O o:List Int}(g:I.Good F h k Y O)(a:Ord Y o)(c:0<=h.ak+h.aM+1-h.aW- (h.aX-1)):bx h.Words h.aW.toNat o<=h.Words.length:=by
 rw[abd];have d:=aa1 (f:=sz h.Words) a.hn a.sub;have J:=abr g.l.y;obtain⟨⟨⟨e,i⟩,j,e6⟩,b,⟨l,m⟩,⟨jT,n⟩,p⟩:=g.s;unfold okB at b;omega
end Go.Proofs.YteeliipnilghaaaGreat
namespace Go.Proofs.YteeliipnilghaaaGreat
open I
theorem am7{l ds:List Int}{p j:Nat}(h:p+ds.length<=l.length):wd (fQ l p ds) j=if p<=j/\j<p+ds.length then wd ds (j-p)else wd l j:=by
 unfold wd fQ;have a:(l.take p).length=p:=by rw[fZ];omega
 by_cases b:j<p
 ·rw[if_neg (by omega),g_,eA (by omega),List.getElem?_take_of_lt b]
 ·by_cases J:j<p+ds.length
  ·rw[if_pos (by omega),g_,fq (by omega),a,eA (by omega)]
  ·rw[if_neg (by omega),fq (by rw[dR];omega),dR,a,i_]
   rw[show p+ds.length+(j- (p+ds.length))=j by omega]
section
variable{F:Nat}{c1:List ap}{c2:List Int}{c3:List (List I.Field)}{c4:List (List (List UInt8))}{c5:List (List I.Target)}{y ol yt nx:Int}{nt W:List Int}{m:List (Int×Int)}
theorem aEi{a ot:Int}(h:a=0\/y<a):vx F a c1 c2 c3 c4 c5 y ol yt ot nt nx W m=some ((a,()),((),c1,c2,c3,c4,c5,(),()),((),y,ol,yt,ot,nt,nx,()),W,m,()):=by
 unfold vx;have:(decide (a=0)||decide (y<a))=true:=by
  rcases h with h |h
  ·rw[decide_eq_true h,Bool.true_or]
  ·rw[decide_eq_true h,Bool.or_true]
 rw[this,cond_true]
theorem aEg{a ot to:Int}(b:a≠0)(d:a<=y)(c:cH m a=some to):vx F a c1 c2 c3 c4 c5 y ol yt ot nt nx W m=some ((to,()),((),c1,c2,c3,c4,c5,(),()),((),y,ol,yt,ot,nt,nx,()),W,m,()):=by
 unfold vx;rw[decide_eq_false b,decide_eq_false (by omega),iQ,cond_false,c];rfl
theorem aEh{q t n:Nat}(k:1<=q)(l:(q:Int)<=y)(d:cH m (q:Int)=none)(f:0<=wd W (q+1))(g:n=3+(wd W (q+1)).toNat)(o:q+n<=W.length)(r:t+n<=W.length)(s:W.length<=5000) :
 ∃cu,vx F (q:Int) c1 c2 c3 c4 c5 y ol yt (t:Int) nt nx W m=some (((t:Int),()),((),c1,c2,c3,c4,c5,(),()),((),y,ol,yt,((t+n:Nat):Int),nt,nx,()),cu,gf m (q:Int) (t:Int),())/\
  cu.length=W.length/\ ∀p,wd cu p=if t<=p/\p<t+n then wd W (q+(p-t))else wd W p:=by
 have h:q<=100000:=by omega
 have i:n<=100000:=by omega
 have c:q+n<=100000:=by omega
 have mc:t+n<=100000:=by omega
 have j:q+1<W.length:=by omega
 refine⟨fQ W t ((W.take (q+n)).drop q),?_,?_,λ p=>?_⟩
 ·unfold vx
  rw[decide_eq_false (show¬(q:Int)=0 by omega),decide_eq_false (show¬y<(q:Int) by omega),iQ,cond_false,d]
  rw[mo,cond_false,h5 h,e7 j,ae,Q9 f g i,lO c,lO mc]
  rw[if_pos (by omega),ae,if_pos (by omega),ae]
  unfold xC
  rw[if_pos (decide_eq_true (by omega)),ae,bV,bV,bV]
  have e:((W.take (q+n)).drop q).take ((W.length:Int)- (t:Int)).toNat=(W.take (q+n)).drop q:=by
   apply h0;rw[ks,fZ];omega
  rw[e]
 ·apply GO
  rw[ks,fZ]
  omega
 ·have a:((W.take (q+n)).drop q).length=n:=by rw[ks,fZ];omega
  rw[am7 (by omega),a]
  by_cases b:t<=p/\p<t+n
  ·rw[if_pos b,if_pos b]
   unfold wd
   rw[i_,List.getElem?_take_of_lt (by omega)]
  ·rw[if_neg b,if_neg b]
end
end Go.Proofs.YteeliipnilghaaaGreat
namespace Go.Proofs.YteeliipnilghaaaGreat
open I
theorem Pp:∀ {o ns:List Int}{v:Int},ns.length=o.length->cH (o.zip ns) v=(match pos o v with|some j=>ns[j]? |none=>none)
 |[],ns,v,_=>rfl
 |b::r,[],v,h=>by simp at h
 |b::r,n::ns,v,h=>by
  rw[List.zip_cons_cons,cH,pos];by_cases e:b=v
  ·rw[if_pos e,if_pos e]
   rfl
  ·rw[if_neg e,if_neg e,Pp (by simpa using h)]
   cases pos r v<;>rfl
theorem ajF:∀ {o ns:List Int}{b x:Int},ns.length=o.length->b∉o->gf (o.zip ns) b x=(o++[b]).zip (ns++[x])
 |[],[],b,x,_,_=>rfl
 |[],n::ns,b,x,h,_=>by simp at h
 |c::r,[],b,x,h,_=>by simp at h
 |c::r,n::ns,b,x,h,ag=>by
  simp only[cI,not_or]at ag;rw[List.zip_cons_cons,gf,if_neg (λ e=>ag.1 e.symm),ajF (by simpa using h) ag.2];rfl
def base(W:List Int):Nat->List Int->Nat->Int
 |_,[],_=>0
 |t,a::r,p=>if t<=p/\p<t+sz W a then wd W (a.toNat+(p-t))else base W (t+sz W a) r p
def fD(W:List Int)(t0:Nat)(o:List Int)(p:Nat):Int:=if p<t0 then wd W p else base W t0 o p
theorem TB{W:List Int}{b:Int}:∀ {o:List Int}{t p:Nat},t<=p->base W t (o++[b]) p=if bx W t o<=p/\p<bx W t o+sz W b then wd W (b.toNat+(p-bx W t o))else base W t o p
 |[],t,p,_=>rfl
 |a::r,t,p,h=>by
  have d:=k8 (W:=W) (o:=r) (t:=t+sz W a);rw[iE,base,base,bx];by_cases c:t<=p/\p<t+sz W a
  ·rw[if_pos c,if_pos c,if_neg (by omega)]
  ·rw[if_neg c,if_neg c,TB (by omega)]
theorem ad7{W:List Int}:∀ {o:List Int}{t p:Nat},bx W t o<=p->base W t o p=0
 |[],t,p,_=>rfl
 |a::r,t,p,h=>by
  have b:=k8 (W:=W) (o:=r) (t:=t+sz W a);rw[bx]at h;rw[base,if_neg (by omega),ad7 h]
theorem aFF{o:List Int}{b v:Int}:∀ {j:Nat},pos o v=some j->pos (o++[b]) v=some j:=by
 induction o with
 |nil=>intro j h;simp[pos]at h
 |cons c r a=>
  intro j h
  rw[iE,pos]
  rw[pos]at h
  by_cases e:c=v
  ·rw[if_pos e]at h⊢;exact h
  ·rw[if_neg e]at h⊢
   obtain⟨i,d,rfl⟩:=cz.1 h
   rw[a d];rfl
theorem akJ:∀ {o:List Int}{b:Int},b∉o->pos (o++[b]) b=some o.length
 |[],b,_=>by simp[pos]
 |c::r,b,h=>by
  simp only[cI,not_or]at h;rw[iE,pos,if_neg (λ e=>h.1 e.symm),akJ h.2];rfl
theorem amB{o ns:List Int}{b x v:Int}(e:ns.length=o.length)(af:v=0\/v∈o\/v≠b):dC (o++[b]) (ns++[x]) v=dC o ns v:=by
 unfold dC;by_cases a:v=0
 ·rw[if_pos a,if_pos a]
 ·rw[if_neg a,if_neg a]
  cases c:pos o v with
  |some j=>
   rw[aFF c]
   have:=(aP.1 (KT c)).1
   dsimp only
   rw[eA (by omega)]
  |none=>
   have d:=uX.1 c
   have:pos (o++[b]) v=none:=uX.2 (by
    simp only[cj,dT,not_or];refine⟨d,?_⟩;rcases af with af |af |af
    ·exact absurd af a
    ·exact absurd af d
    ·exact af)
   rw[this]
theorem aJB{o ns:List Int}{b x:Int}(a:ns.length=o.length)(ag:b≠0)(c:b∉o):dC (o++[b]) (ns++[x]) b=x:=by
 unfold dC;rw[if_neg ag,akJ c];dsimp only;rw[fq (by omega),a,mm];rfl
theorem amC{o ns:List Int}{v:Int}(a:v∉o):dC o ns v=v:=by
 unfold dC;split
 ·rfl
 ·rw[uX.2 a]
structure Inv (W:List Int) (y:Int) (t0:Nat) (o:List Int) (D:Nat->Bool) (cu:List Int):Prop where
 len:cu.length=W.length
 p4:∀p,p<W.length->wd cu p=if D p=true then dC o (news W t0 o) (fD W t0 o p)else fD W t0 o p
 Cy:∀p,D p=true->y<(p:Int)/\p<bx W t0 o/\(fD W t0 o p=0\/y<fD W t0 o p\/fD W t0 o p∈o)
end Go.Proofs.YteeliipnilghaaaGreat
namespace Go.Proofs.YteeliipnilghaaaGreat
open I
section
variable{F:Nat}{h:aV}{k:aO}{Y O:List Int}{c1:List ap}{c2:List Int}{c3:List (List I.Field)}{c4:List (List (List UInt8))}{c5:List (List I.Target)}{ol yt nx:Int}{nt:List Int}
theorem Bw(g:I.Good F h k Y O){a:Int}(b:a∈Y):1<=a/\a.toNat+sz h.Words a<=h.aX.toNat/\h.aX<=h.ak+1:=by
 have c:=g.l.EU g.s a b;obtain⟨_,_,⟨_,d⟩,_⟩:=g.s;unfold sz;exact⟨c.1,by omega,d⟩
theorem ajE(g:I.Good F h k Y O){t0:Nat}(R:h.aW=(t0:Int)){o:List Int}{D:Nat->Bool}{cu:List Int}(z:Ord Y o)(hi:Inv h.Words h.ak t0 o D cu){v:Int}(af:v=0\/v∈Y++O)(H:∀A,Ord Y A->bx h.Words t0 A<=h.Words.length) :
 ∃fv,vx F v c1 c2 c3 c4 c5 h.ak ol yt ((bx h.Words t0 o:Nat):Int) nt nx cu (o.zip (news h.Words t0 o))=some ((dC (cV h.ak o v) (news h.Words t0 (cV h.ak o v)) v,()),((),c1,c2,c3,c4,c5,(),()),((),h.ak,ol,yt,((bx h.Words t0 (cV h.ak o v):Nat):Int),nt,nx,()),fv,(cV h.ak o v).zip (news h.Words t0 (cV h.ak o v)),())/\Inv h.Words h.ak t0 (cV h.ak o v) D fv:=by
 have i:(news h.Words t0 o).length=o.length:=xD
 have S:=g.s.e3
 by_cases B:v=0\/h.ak<v
 ·have f:cV h.ak o v=o:=by
   unfold cV;rw[if_neg (by omega)]
  have u:dC o (news h.Words t0 o) v=v:=by
   by_cases e:v=0
   ·unfold dC;rw[if_pos e]
   ·refine amC λ c=>?_
    have w:3<=sz h.Words v:=by unfold sz;omega
    have:=Bw g (z.sub v c)
    omega
  rw[f,u];exact⟨cu,aEi B,hi⟩
 ·have m:v≠0:=λ e=>B (.inl e)
  have J:v<=h.ak:=by omega
  have w:1<=v:=by
   rcases af with af |af
   ·exact absurd af m
   ·exact(g.l.fit g.s v af).1
  have x:=yi g af w J
  by_cases c:v∈o
  ·have f:cV h.ak o v=o:=by
    unfold cV;rw[if_neg (λ e=>e.2 c)]
   obtain⟨j,aA⟩:∃j,pos o v=some j:=by
    cases b:pos o v with
    |none=>exact absurd c (uX.1 b)
    |some j=>exact⟨j,rfl⟩
   have T:=(aP.1 (KT aA)).1;have y:cH (o.zip (news h.Words t0 o)) v=some (news h.Words t0 o)[j]:=by
    rw[Pp i,aA];exact aK (by omega)
   have u:dC o (news h.Words t0 o) v=(news h.Words t0 o)[j]:=by
    unfold dC;rw[if_neg m,aA];dsimp only;rw[aK (by omega)];rfl
   rw[f,u];exact⟨cu,aEg m J y,hi⟩
  ·have f:cV h.ak o v=o++[v]:=by
    unfold cV;rw[if_pos ⟨⟨w,J⟩,c⟩]
   have K:Ord Y (o++[v]):=by rw[<-f];exact z.cV λ _ _=>x
   have C:=H _ K;rw[Hp]at C;obtain⟨q,rfl⟩:∃q:Nat,v=(q:Int):=⟨v.toNat,by omega⟩
   obtain⟨U,E,V⟩:=Bw g x;rw[bV]at E;obtain⟨n,r⟩:∃n,n=sz h.Words (q:Int):=⟨_,rfl⟩
   have L:n=3+(wd h.Words (q+1)).toNat:=by rw[r];unfold sz;rw[bV]
   rw[<-r]at E C;obtain⟨_,_,⟨X,Z⟩,⟨jT,ph⟩,_⟩:=g.s;have df:=k8 (W:=h.Words) (o:=o) (t:=t0);have l:∀p,p<h.aX.toNat->wd cu p=wd h.Words p:=λ p b=>by
    rw[hi.p4 p (by omega),if_neg (λ a=>by have:=(hi.Cy p a).1;omega)];unfold fD;rw[if_pos (by omega)]
   have G:=l (q+1) (by omega);have d:=(kY.1 (g.l.s7 _ (gi O x)).2).1.1;rw[bV]at d;have y:cH (o.zip (news h.Words t0 o)) (q:Int)=none:=by rw[Pp i,uX.2 c]
   obtain⟨fv,M,ao,aT⟩:=aEh (F:=F) (c1:=c1) (c2:=c2) (c3:=c3) (c4:=c4) (c5:=c5) (ol:=ol) (yt:=yt) (nt:=nt) (nx:=nx) (W:=cu) (t:=bx h.Words t0 o) (n:=n) (by omega) J y (by rw[G];exact d) (by rw[G];exact L) (by rw[hi.len];omega) (by rw[hi.len];omega) (by rw[hi.len];omega);have N:cV h.ak o (q:Int)=o++[(q:Int)]:=f;rw[N,PL,Hp,<-r,aJB i m c,<-ajF i c];refine⟨fv,M,?_⟩;have tX:∀p,fD h.Words t0 (o++[(q:Int)]) p=if bx h.Words t0 o<=p/\p<bx h.Words t0 o+n then wd h.Words (q+(p-bx h.Words t0 o))else fD h.Words t0 o p:=λ p=>by
    unfold fD;by_cases b:p<t0
    ·rw[if_pos b,if_pos b,if_neg (by omega)]
    ·rw[if_neg b,if_neg b,TB (by omega),<-r,bV]
   refine⟨by rw[ao,hi.len],λ p b=>?_,λ p a=>?_⟩
   ·rw[aT p,tX p,PL]
    by_cases s:bx h.Words t0 o<=p/\p<bx h.Words t0 o+n
    ·rw[if_pos s,if_pos s,if_neg (λ a=>by have:=(hi.Cy p a).2.1;omega),l _ (by omega)]
    ·rw[if_neg s,if_neg s,hi.p4 p b]
     by_cases a:D p=true
     ·rw[if_pos a,if_pos a,amB i (by
       rcases(hi.Cy p a).2.2 with e |e |e
       ·exact .inl e
       ·exact .inr (.inr (by omega))
       ·exact .inr (.inl e))]
     ·rw[if_neg a,if_neg a]
   ·obtain⟨P,d2,Q⟩:=hi.Cy p a
    rw[tX p,if_neg (by omega),Hp]
    refine⟨P,by omega,?_⟩
    rcases Q with e |e |e
    ·exact .inl e
    ·exact .inr (.inl e)
    ·exact .inr (.inr (gi _ e))
end
end Go.Proofs.YteeliipnilghaaaGreat
namespace Go.Proofs.YteeliipnilghaaaGreat
open I
theorem aI0{W:List Int}{y:Int}{t0:Nat}{o:List Int}{D:Nat->Bool}{cu:List Int}(hi:Inv W y t0 o D cu){w:Nat}(a:w<W.length)(b:y<(w:Int))(J:w<bx W t0 o)(c:fD W t0 o w=0\/y<fD W t0 o w\/fD W t0 o w∈o) :
 Inv W y t0 o (λ p=>D p||cy p w) (cu.set w (dC o (news W t0 o) (fD W t0 o w))):=by
 refine⟨by rw[kc,hi.len],λ p d=>?_,λ p eo=>?_⟩
 ·rw[Rc (by rw[hi.len];exact a)]
  by_cases e:p=w
  ·subst e
   rw[if_pos rfl,if_pos (by simp)]
  ·rw[if_neg e,hi.p4 p d]
   have:cy p w=false:=by
    rw[gQ];intro ag;exact e (bd ag)
   simp only[this,Bool.or_false]
 ·simp only[ia]at eo
  rcases eo with eo |eo
  ·exact hi.Cy p eo
  ·have:=bd eo
   subst this
   exact⟨b,J,c⟩
theorem aam{y:Int}{o:List Int}{v:Int}(h:1<=v)(J:v<=y):v∈cV y o v:=by
 unfold cV;split
 ·simp
 ·rename_i b
  by_cases a:v∈o
  ·exact a
  ·exact absurd ⟨⟨h,J⟩,a⟩ b
theorem agt{W:List Int}{t0:Nat}{o t:List Int}{p:Nat}(d:p<bx W t0 o):fD W t0 (o++t) p=fD W t0 o p:=by
 induction t generalizing o with
 |nil=>rw[hR]
 |cons b r a=>
  rw[show o++b::r=(o++[b])++r by simp]
  have c:p<bx W t0 (o++[b]):=by rw[Hp];omega
  rw[a c]
  unfold fD
  by_cases J:p<t0
  ·rw[if_pos J,if_pos J]
  ·rw[if_neg J,if_neg J,TB (by omega),if_neg (by omega)]
def pZ(k:aO)(W:List Int)(a:Nat):Nat->Nat->List Int
 |_,0=>[]
 |j,d+1=>if ej k (wd W a) j=true then wd W (a+3+j)::pZ k W a (j+1) d else pZ k W a (j+1) d
theorem alP{k:aO}{W:List Int}{a:Nat}:∀ {d j:Nat},pZ k W a j d=((List.range' j d).flatMap λ i=>if ej k (wd W a) i then[((a+3+i:Nat):Int)]else[]).map λ w=>wd W w.toNat
 |0,j=>rfl
 |d+1,j=>by
  rw[pZ,List.range'_succ,ig,jH,<-alP];split
  ·rfl
  ·rfl
theorem aIL{k:aO}{W:List Int}{a:Nat}:pZ k W a 0 (wd W (a+1)).toNat=dm k W (a:Int):=by
 rw[alP];unfold dm refs;rw[bV,List.range_eq_range']
end Go.Proofs.YteeliipnilghaaaGreat
namespace Go.Proofs.YteeliipnilghaaaGreat
open I
def yv(k:aO)(tag:Int)(u:Nat):Nat->Nat->(Nat->Bool)->Nat->Bool
 |_,0,D=>D
 |j,d+1,D=>yv k tag u (j+1) d (if ej k tag j=true then λ p=>D p||cy p (u+3+j)else D)
section
variable{F:Nat}{h:aV}{k:aO}{Y O:List Int}{ol yt nx:Int}{nt:List Int}
theorem aIc(g:I.Good F h k Y O){t0:Nat}(hU:h.aW=(t0:Int))(Q:∀R,Ord Y R->bx h.Words t0 R<=h.Words.length){a u:Nat}(S:(a:Int)∈Y++O)(hu:h.ak<(u:Int)){len:Nat}(l:wd h.Words (a+1)=(len:Int)) :
 ∀(d j f:Nat)(o:List Int)(D:Nat->Bool)(cu:List Int),j+d=len->d<f->Ord Y o->Inv h.Words h.ak t0 o D cu->(∀i,i<3+len->fD h.Words t0 o (u+i)=wd h.Words (a+i))->u+3+len<=bx h.Words t0 o->(∀i,i<3 ->D (u+i)=false)->(∀i,j<=i->i<len->D (u+3+i)=false) ->
 ∃fv,Bx F f (u:Int) (len:Int) (j:Int) k.a6 k.aY k.Fields k.Names k.aZ h.ak ol yt ((bx h.Words t0 o:Nat):Int) nt nx cu (o.zip (news h.Words t0 o))=some ((),((),k.a6,k.aY,k.Fields,k.Names,k.aZ,(),()),((),h.ak,ol,yt,((bx h.Words t0 ((pZ k h.Words a j d).foldl (cV h.ak) o):Nat):Int),nt,nx,()),fv,((pZ k h.Words a j d).foldl (cV h.ak) o).zip (news h.Words t0 ((pZ k h.Words a j d).foldl (cV h.ak) o)),())/\
  Inv h.Words h.ak t0 ((pZ k h.Words a j d).foldl (cV h.ak) o) (yv k (wd h.Words a) u j d D) fv:=by
 intro d
 have Jo:=g.s.e3
 have C9:=g.l.s7 _ S
 rw[bV]at C9
 obtain⟨aJ,T⟩:=C9
 rw[l]at T
 induction d with
 |zero=>
  intro j f o D cu aA ad m hi ag U x z
  obtain⟨f,rfl⟩:∃A,f=A+1:=⟨f-1,by omega⟩
  have:j=len:=by omega
  subst this
  refine⟨cu,?_,hi⟩
  rw[Bx,bL,cond_false]
  rfl
 |succ d V=>
  intro j f o D cu aA ad m hi ag U x z
  obtain⟨f,rfl⟩:∃A,f=A+1:=⟨f-1,by omega⟩
  have B:j<len:=by omega
  have ah5:=Q o m
  have uA:u<cu.length:=by rw[hi.len];omega
  have Gi:wd cu u=wd h.Words a:=by
   have:=hi.p4 u (by omega);rw[this,if_neg (by have:=x 0 (by omega);simpa using this)];simpa using ag 0 (by omega)
  have W:j<=100000:=by omega
  have n:u+3+j<cu.length:=by rw[hi.len];omega
  have C:wd cu (u+3+j)=wd h.Words (a+3+j):=by
   rw[hi.p4 _ (by omega),if_neg (by rw[z j (by omega) B];simp)];have:=ag (3+j) (by omega);rw[show u+3+j=u+(3+j) by omega,this,show a+3+j=a+(3+j) by omega]
  have E:u+3<=100000:=by omega
  have G:u+3+j<=100000:=by omega
  have uz:qL (b'.mk (aO.mk k.a6 k.aY k.Fields k.Names k.aZ)) (wd h.Words a) (j:Int)=some (ej k (wd h.Words a) j):=QG g.hF aJ T (by omega)
  rw[Bx,bM B,cond_true,e7 uA,ae,Gi,uz,ae]
  cases q:ej k (wd h.Words a) j with
  |false=>
   rw[cond_false,h5 W]
   have:=V (j+1) f o D cu (by omega) (by omega) m hi ag U x (λ i r J=>z i (by omega) J)
   rw[pZ,yv,q]
   simpa using this
  |true=>
   have gV:idx cu (I.ax (I.ax ((u:Int)+3)+(j:Int)))=some (wd cu (u+3+j)):=by
    rw[show I.ax ((u:Int)+3)=((u+3 :Nat):Int) from lO (b:=3) E,lO G];exact e7 n
   obtain⟨v,s⟩:∃v,v=wd h.Words (a+3+j):=⟨_,rfl⟩
   have H:v=0\/v∈Y++O:=by
    have:=g.ok.ref _ S ((a+3+j:Nat):Int) (sK.2 ⟨j,by rw[bV,l,bV];exact B,by rw[bV];exact q,by rw[bV]⟩);rw[bV,<-s]at this;exact this
   obtain⟨K,X,L⟩:=ajE (F:=F) (c1:=k.a6) (c2:=k.aY) (c3:=k.Fields) (c4:=k.Names) (c5:=k.aZ) (ol:=ol) (yt:=yt) (nx:=nx) (nt:=nt) g hU m hi H Q
   obtain⟨c,nb⟩:∃c,c=cV h.ak o v:=⟨_,rfl⟩
   rw[<-nb]at X L
   obtain⟨aa9,M⟩:=aan (y:=h.ak) (a:=v) (o:=o)
   rw[<-nb]at M
   have pu:Ord Y c:=by rw[nb];exact m.cV (yi g H)
   have aAU:bx h.Words t0 o<=bx h.Words t0 c:=by rw[M,Hq];exact k8
   have Z:∀p,p<bx h.Words t0 o->fD h.Words t0 c p=fD h.Words t0 o p:=λ p aC=>by rw[M];exact agt aC
   have t:fD h.Words t0 c (u+3+j)=v:=by
    rw[Z _ (by omega),show u+3+j=u+(3+j) by omega,ag (3+j) (by omega),s,show a+3+j=a+(3+j) by omega]
   have aj:=aI0 L (w:=u+3+j) (by rw[hi.len]at n;exact n) (by omega) (by omega) (by
    rw[t];rcases H with e |e
    ·exact .inl e
    ·by_cases hy:h.ak<v
     ·exact .inr (.inl hy)
     ·refine .inr (.inr ?_)
      rw[nb]
      exact aam (g.l.fit g.s v e).1 (by omega))
   rw[t]at aj
   have N:idx K (I.ax (I.ax ((u:Int)+3)+(j:Int)))=some (wd K (u+3+j)):=by
    rw[show I.ax ((u:Int)+3)=((u+3 :Nat):Int) from lO (b:=3) E,lO G];exact e7 (by rw[L.len];rw[hi.len]at n;exact n)
   obtain⟨qv,b_,dc⟩:=V (j+1) f c (λ p=>D p||cy p (u+3+j)) (K.set (u+3+j) (dC c (news h.Words t0 c) v)) (by omega) (by omega) pu aj (λ i r=>by rw[Z _ (by omega)];exact ag i r) (by omega)
    (λ i r=>by
     have:cy (u+i) (u+3+j)=false:=by
      rw[gQ];intro P;have:=bd P;omega
     simp[x i r,this])
    (λ i r J=>by
     have:cy (u+3+i) (u+3+j)=false:=by
      rw[gQ];intro P;have:=bd P;omega
     simp[z i (by omega) J,this])
   refine⟨qv,?_,?_⟩
   ·rw[cond_true,gV,ae,C,<-s,X,ae]
    dsimp only
    rw[N,ae,show I.ax ((u:Int)+3)=((u+3 :Nat):Int) from lO (b:=3) E,lO G,h5 W,bV,pZ,if_pos q,jr,<-s,<-nb]
    exact b_
   ·rw[pZ,if_pos q,jr,<-s,<-nb,yv,if_pos q]
    exact dc
end
end Go.Proofs.YteeliipnilghaaaGreat
namespace Go.Proofs.YteeliipnilghaaaGreat
open I
theorem aeY{k:aO}{tag:Int}{u:Nat}:∀ {d j:Nat}{D:Nat->Bool}{p:Nat},yv k tag u j d D p=true↔D p=true\/ ∃i,j<=i/\i<j+d/\ej k tag i=true/\p=u+3+i
 |0,j,D,p=>by
  rw[yv];exact⟨.inl,λ h=>h.elim id λ⟨i,c,J,_⟩=>by omega⟩
 |d+1,j,D,p=>by
  rw[yv,aeY];cases f:ej k tag j with
  |true=>
   simp only[if_true,ia]
   constructor
   ·rintro((h |h)|⟨i,c,J,a,b⟩)
    ·exact .inl h
    ·exact .inr ⟨j,cT _,by omega,f,bd h⟩
    ·exact .inr ⟨i,by omega,by omega,a,b⟩
   ·rintro(h |⟨i,c,J,a,b⟩)
    ·exact .inl (.inl h)
    ·by_cases e:i=j
     ·subst e
      exact .inl (.inr (by rw[b];simp))
     ·exact .inr ⟨i,by omega,by omega,a,b⟩
  |false=>
   simp only[hX,if_false]
   constructor
   ·rintro(h |⟨i,c,J,a,b⟩)
    ·exact .inl h
    ·exact .inr ⟨i,by omega,by omega,a,b⟩
   ·rintro(h |⟨i,c,J,a,b⟩)
    ·exact .inl h
    ·by_cases e:i=j
     ·subst e
      rw[f]at a
      cases a
     ·exact .inr ⟨i,by omega,by omega,a,b⟩
def yw(k:aO)(W:List Int)(a u:Nat)(D:Nat->Bool):Nat->Bool:=yv k (wd W a) u 0 (wd W (a+1)).toNat D
theorem IL{k:aO}{W:List Int}{a u:Nat}{D:Nat->Bool}{p:Nat}:yw k W a u D p=true↔D p=true\/ ∃i,i<(wd W (a+1)).toNat/\ej k (wd W a) i=true/\p=u+3+i:=by
 unfold yw;rw[aeY];constructor
 ·rintro(h |⟨i,_,J,b,c⟩)
  ·exact .inl h
  ·exact .inr ⟨i,by omega,b,c⟩
 ·rintro(h |⟨i,J,b,c⟩)
  ·exact .inl h
  ·exact .inr ⟨i,gT _,by omega,b,c⟩
section
variable{F:Nat}{h:aV}{k:aO}{Y O:List Int}{ol yt nx:Int}{nt:List Int}
theorem alz(z:10000<F)(g:I.Good F h k Y O){t0:Nat}(q:h.aW=(t0:Int))(f:∀j,Ord Y j->bx h.Words t0 j<=h.Words.length){a u:Nat}(l:(a:Int)∈Y++O)(r:h.ak<(u:Int)){o:List Int}{D:Nat->Bool}{cu:List Int}(m:Ord Y o)(hi:Inv h.Words h.ak t0 o D cu)
 (ag:∀i,i<sz h.Words (a:Int)->fD h.Words t0 o (u+i)=wd h.Words (a+i))(s:u+sz h.Words (a:Int)<=bx h.Words t0 o)(c:∀i,i<sz h.Words (a:Int)->D (u+i)=false) :
 ∃fv,Ms F (u:Int) k.a6 k.aY k.Fields k.Names k.aZ h.ak ol yt ((bx h.Words t0 o:Nat):Int) nt nx cu (o.zip (news h.Words t0 o))=some ((),((),k.a6,k.aY,k.Fields,k.Names,k.aZ,(),()),((),h.ak,ol,yt,((bx h.Words t0 ((dm k h.Words (a:Int)).foldl (cV h.ak) o):Nat):Int),nt,nx,()),fv,((dm k h.Words (a:Int)).foldl (cV h.ak) o).zip (news h.Words t0 ((dm k h.Words (a:Int)).foldl (cV h.ak) o)),())/\
  Inv h.Words h.ak t0 ((dm k h.Words (a:Int)).foldl (cV h.ak) o) (yw k h.Words a u D) fv:=by
 have A:=g.s.e3
 have C9:=g.l.s7 _ l
 rw[bV]at C9
 have B:=(kY.1 C9.2).1
 obtain⟨len,b⟩:∃len:Nat,wd h.Words (a+1)=(len:Int):=⟨(wd h.Words (a+1)).toNat,by omega⟩
 have t:sz h.Words (a:Int)=3+len:=by unfold sz;rw[bV,b,bV]
 rw[t]at ag s c
 have v:=f o m
 obtain⟨qv,n,p⟩:=aIc (F:=F) (ol:=ol) (yt:=yt) (nx:=nx) (nt:=nt) g q f l r b len 0 F o D cu (by omega) (by omega) m hi ag (by omega) (λ i C=>c i (by omega)) (λ i _ J=>by rw[show u+3+i=u+(3+i) by omega];exact c (3+i) (by omega))
 have e:pZ k h.Words a 0 len=dm k h.Words (a:Int):=by rw[<-aIL,b,bV]
 rw[e]at n p
 refine⟨qv,?_,by unfold yw;rw[b,bV];exact p⟩
 have w:u<=100000:=by omega
 have x:u+1<cu.length:=by rw[hi.len];omega
 have y:wd cu (u+1)=(len:Int):=by
  rw[hi.p4 _ (by omega),if_neg (by rw[c 1 (by omega)];simp),ag 1 (by omega),b]
 unfold Ms
 rw[h5 w,e7 x,ae,y]
 have d:Bx F F (u:Int) (len:Int) 0 k.a6 k.aY k.Fields k.Names k.aZ h.ak ol yt ((bx h.Words t0 o:Nat):Int) nt nx cu (o.zip (news h.Words t0 o))=_:=n
 rw[d,ae]
end
end Go.Proofs.YteeliipnilghaaaGreat
namespace Go.Proofs.YteeliipnilghaaaGreat
open I
def hr(n:Nat):List Int:=(ed n).map λ(x:Nat)=>(x:Int)
theorem Q5{n:Nat}:(hr n).length=n:=by simp[hr]
theorem abh{n i:Nat}(h:i<n):(hr n)[i]? =some (i:Int):=by
 unfold hr;rw[jw,me h];rfl
theorem aFC{n:Nat}(g:n<=5000):∀(d i f:Nat),i+d=n->d<f->I.tz (n:Int) f (hr i) (i:Int)=some (hr n):=by
 intro d;induction d with
 |zero=>
  intro i f h ad
  obtain⟨f,rfl⟩:∃a,f=a+1:=⟨f-1,by omega⟩
  have:i=n:=by omega
  subst this
  rw[I.tz,bL,cond_false]
 |succ d b=>
  intro i f h ad
  obtain⟨f,rfl⟩:∃a,f=a+1:=⟨f-1,by omega⟩
  have hi:i<n:=by omega
  have c:i<=100000:=by omega
  have e:bI 8 (hr i) [(i:Int)]=some (hr (i+1)):=by
   unfold bI;rw[if_pos (by rw[Q5];simp only[kg];omega)];unfold hr;rw[List.range_succ,jH];rfl
  rw[I.tz,bM hi,cond_true,e,ae,h5 c]
  exact b (i+1) f (by omega) (by omega)
theorem akF{F n:Nat}(a:n<=5000)(b:10000<F):I.rI F (n:Int)=some (hr n):=aFC a n 0 F (by omega) (by omega)
theorem amD{W:List Int}{t0:Nat}{y v:Int}{o:List Int}(a:v=0\/v∈o\/y<v):∀ {t:List Int},(∀b∈t,b<=y)->dC (o++t) (news W t0 (o++t)) v=dC o (news W t0 o) v:=by
 intro t;induction t generalizing o with
 |nil=>intro _;rw[hR]
 |cons b r d=>
  intro ag
  rw[show o++b::r=(o++[b])++r by simp]
  rw[d (o:=o++[b]) (by
   rcases a with e |e |e
   ·exact .inl e
   ·exact .inr (.inl (gi _ e))
   ·exact .inr (.inr e)) (λ c hc=>ag c (by simp[hc]))]
  rw[PL,amB xD (by
   rcases a with e |e |e
   ·exact .inl e
   ·exact .inr (.inl e)
   ·have:=ag b (by simp);exact .inr (.inr (by omega)))]
end Go.Proofs.YteeliipnilghaaaGreat
namespace Go.Proofs.YteeliipnilghaaaGreat
open I
section
variable{F:Nat}{h:aV}{k:aO}{Y O:List Int}{c1:List ap}{c2:List Int}{c3:List (List I.Field)}{c4:List (List (List UInt8))}{c5:List (List I.Target)}{ol yt nx bg:Int}{nt:List Int}
theorem aIA(g:I.Good F h k Y O){t0:Nat}(z:h.aW=(t0:Int))(A:∀u,Ord Y u->bx h.Words t0 u<=h.Words.length){D:Nat->Bool}{roots:List Int}(P:roots.length<=5000)(B:∀v∈roots,v=0\/v∈Y++O) :
 ∀(d i f:Nat)(o cu rs:List Int),i+d=roots.length->d<f->Ord Y o->Inv h.Words h.ak t0 o D cu->rs=(roots.take i).map (dC o (news h.Words t0 o))++roots.drop i->(∀v∈roots.take i,v=0\/v∈o\/h.ak<v) ->
 ∃fv,EW F f bg (hr roots.length) (roots.length:Int) (i:Int) h.ak ol yt ((bx h.Words t0 o:Nat):Int) nt nx cu c1 c2 c3 c4 c5 (o.zip (news h.Words t0 o)) rs=some (((),(),bg,()),((),h.ak,ol,yt,((bx h.Words t0 ((roots.drop i).foldl (cV h.ak) o):Nat):Int),nt,nx,()),fv,((),c1,c2,c3,c4,c5,(),()),((roots.drop i).foldl (cV h.ak) o).zip (news h.Words t0 ((roots.drop i).foldl (cV h.ak) o)),roots.map (dC ((roots.drop i).foldl (cV h.ak) o) (news h.Words t0 ((roots.drop i).foldl (cV h.ak) o))),())/\
  Inv h.Words h.ak t0 ((roots.drop i).foldl (cV h.ak) o) D fv:=by
 intro d
 induction d with
 |zero=>
  intro i f o cu rs aL ad l hi j m
  obtain⟨f,rfl⟩:∃n,f=n+1:=⟨f-1,by omega⟩
  have:i=roots.length:=by omega
  subst this
  refine⟨cu,?_,by rw[iL];exact hi⟩
  rw[EW,bL,cond_false,j,iL,jI,hR]
  rfl
 |succ d C=>
  intro i f o cu rs aL ad l hi j m
  obtain⟨f,rfl⟩:∃n,f=n+1:=⟨f-1,by omega⟩
  have c:i<roots.length:=by omega
  have E:i<=100000:=by omega
  have G:roots[i]∈roots:=hg c
  have p:=B _ G
  have w:((roots.take i).map (dC o (news h.Words t0 o))).length=i:=by simp;omega
  have H:rs[i]? =some roots[i]:=by
   rw[j,fq (by omega),w,mm,de c];rfl
  obtain⟨J,K,L⟩:=ajE (F:=F) (c1:=c1) (c2:=c2) (c3:=c3) (c4:=c4) (c5:=c5) (ol:=ol) (yt:=yt) (nx:=nx) (nt:=nt) g z l hi p A
  have x:Ord Y (cV h.ak o roots[i]):=l.cV (yi g p)
  obtain⟨q,r⟩:=aan (y:=h.ak) (a:=roots[i]) (o:=o)
  have s:∀b∈q,b<=h.ak:=λ b ag=>by
   have Q:=Bw g (x.sub b (by rw[r];exact gI _ ag));have R:3<=sz h.Words b:=by unfold sz;omega
   omega
  have t:roots[i]=0\/roots[i]∈cV h.ak o roots[i]\/h.ak<roots[i]:=by
   rcases p with e |e
   ·exact .inl e
   ·by_cases hy:h.ak<roots[i]
    ·exact .inr (.inr hy)
    ·exact .inr (.inl (aam (g.l.fit g.s _ e).1 (by omega)))
  obtain⟨qv,M,N⟩:=C (i+1) f (cV h.ak o roots[i]) J (rs.set i (dC (cV h.ak o roots[i]) (news h.Words t0 (cV h.ak o roots[i])) roots[i])) (by omega) (by omega) x L (by
   rw[j,List.set_append_right _ _ (by omega),w,mm,de c,List.set_cons_zero,lb c,jH,g_];congr 1;refine ly λ v et=>?_;have:=amD (W:=h.Words) (t0:=t0) (o:=o) (m v et) s;rw[r];exact this.symm) (λ v et=>by
    rw[lb c]at et;rcases cj.1 et with et |et
    ·rcases m v et with e |e |e
     ·exact .inl e
     ·exact .inr (.inl (by rw[r];exact gi _ e))
     ·exact .inr (.inr e)
    ·cases dT.1 et;exact t)
  refine⟨qv,?_,by rw[de c,jr];exact N⟩
  rw[EW,bM c,cond_true,bw (abh c),ae,bw H,ae,K,ae]
  dsimp only
  rw[h5 E,bV,de c,jr]
  exact M
end
end Go.Proofs.YteeliipnilghaaaGreat
namespace Go.Proofs.YteeliipnilghaaaGreat
open I
section
variable{F:Nat}{h:aV}{k:aO}{Y O:List Int}{ol yt nx bg:Int}{nt:List Int}
theorem aIB(E:10000<F)(g:I.Good F h k Y O){t0:Nat}(G:h.aW=(t0:Int))(H:∀A,Ord Y A->bx h.Words t0 A<=h.Words.length){l:List Int}(aB:l.length<=5000)(B:∀x∈l,x∈O)(K:l.Nodup) :
 ∀(d i f:Nat)(o:List Int)(D:Nat->Bool)(cu:List Int),i+d=l.length->d<f->Ord Y o->Inv h.Words h.ak t0 o D cu->(∀x∈l.drop i,∀m,m<sz h.Words x->D (x.toNat+m)=false) ->
 ∃fv,EX F f bg l (l.length:Int) (i:Int) h.ak ol yt ((bx h.Words t0 o:Nat):Int) nt nx cu k.a6 k.aY k.Fields k.Names k.aZ (o.zip (news h.Words t0 o))=some (((),(),bg,()),((),h.ak,ol,yt,((bx h.Words t0 (((l.drop i).flatMap (dm k h.Words)).foldl (cV h.ak) o):Nat):Int),nt,nx,()),fv,((),k.a6,k.aY,k.Fields,k.Names,k.aZ,(),()),(((l.drop i).flatMap (dm k h.Words)).foldl (cV h.ak) o).zip (news h.Words t0 (((l.drop i).flatMap (dm k h.Words)).foldl (cV h.ak) o)),())/\
  Inv h.Words h.ak t0 (((l.drop i).flatMap (dm k h.Words)).foldl (cV h.ak) o) ((l.drop i).foldl (λ D x=>yw k h.Words x.toNat x.toNat D) D) fv:=by
 intro d
 induction d with
 |zero=>
  intro i f o D cu aL ad p hi q
  obtain⟨f,rfl⟩:∃r,f=r+1:=⟨f-1,by omega⟩
  have:i=l.length:=by omega
  subst this
  refine⟨cu,?_,by rw[iL];exact hi⟩
  rw[EX,bL,cond_false,iL]
  rfl
 |succ d L=>
  intro i f o D cu aL ad p hi q
  obtain⟨f,rfl⟩:∃r,f=r+1:=⟨f-1,by omega⟩
  have c:i<l.length:=by omega
  have M:i<=100000:=by omega
  have N:l[i]∈l:=hg c
  have C:=B _ N
  have s:l[i]∈Y++O:=gI Y C
  obtain⟨bq,P⟩:=g.l.j8 g.s _ C
  obtain⟨⟨⟨bN,dF⟩,eY,e6⟩,iN,⟨pg,mR⟩,⟨jT,ph⟩,pf⟩:=g.s
  obtain⟨a,b⟩:∃a:Nat,l[i]=(a:Int):=⟨l[i].toNat,by omega⟩
  have w:∀m,m<sz h.Words (a:Int)->D (a+m)=false:=λ m n=>by
   have:=q l[i] (by rw[de c];exact il) m (by rw[b];exact n);rwa [b,bV]at this
  have df:=k8 (W:=h.Words) (o:=o) (t:=t0)
  have hh:a+sz h.Words (a:Int)<=t0:=by
   rw[b,bV]at P;unfold sz;rw[bV];omega
  obtain⟨Q,R,S⟩:=alz (ol:=ol) (yt:=yt) (nx:=nx) (nt:=nt) E g G H (a:=a) (u:=a) (by rw[<-b];exact s) (by omega) p hi (λ m n=>by unfold fD;rw[if_pos (by omega)]) (by omega) w
  have T:Ord Y ((dm k h.Words (a:Int)).foldl (cV h.ak) o):=p.fold λ v U=>yi g (rj g (by rw[<-b];exact s) v U)
  obtain⟨qv,V,X⟩:=L (i+1) f _ _ Q (by omega) (by omega) T S (λ x y m n=>by
   have Z:x∈l:=l7 y;have b2:l[i]≠x:=λ e=>by
    have z:(l.drop i).Nodup:=K.sublist (List.drop_sublist _ _);rw[de c]at z;exact(ie.1 z).1 (by rw[e];exact y)
   rw[gQ];intro hc;rcases IL.1 hc with hc |⟨j,z,J,aq⟩
   ·have:=q x (by rw[de c];exact dZ _ y) m n
    rw[this]at hc
    cases hc
   ·have:=g.l.apart g.s _ s _ (gI Y (B _ Z)) b2
    rw[b,bV]at this
    unfold sz at n
    omega)
  refine⟨qv,?_,?_⟩
  ·rw[EX,bM c,cond_true,bw (aK c),ae,b,R,ae]
   dsimp only
   rw[h5 M,de c,ig,List.foldl_append,b]
   exact V
  ·rw[de c,ig,List.foldl_append,jr,b,bV]
   exact X
end
end Go.Proofs.YteeliipnilghaaaGreat
namespace Go.Proofs.YteeliipnilghaaaGreat
open I
theorem QY{W:List Int}{t i:Nat}{o:List Int}(hi:i<o.length):bx W t (o.take (i+1))=bx W t (o.take i)+sz W o[i]:=by
 rw[lb hi,Hp]
theorem QZ{W:List Int}{t i:Nat}{o:List Int}:bx W t (o.take i)<=bx W t o:=by
 conv=>rhs;rw[<-jv i o,Hq]
 exact k8
theorem ad6{W:List Int}:∀ {o:List Int}{t i m:Nat}(hi:i<o.length),m<sz W o[i]->base W t o (bx W t (o.take i)+m)=wd W (o[i].toNat+m)
 |[],t,i,m,hi,_=>by simp at hi
 |a::r,t,0,m,hi,b=>by
  have b:m<sz W a:=b;show base W t (a::r) (t+m)=wd W (a.toNat+m)
  rw[base,if_pos (by omega),Nat.add_sub_cancel_left]
 |a::r,t,i+1,m,hi,b=>by
  have c:i<r.length:=by simpa using hi
  have b:m<sz W r[i]:=b;show base W t (a::r) (bx W (t+sz W a) (r.take i)+m)=wd W (r[i].toNat+m)
  have:=k8 (W:=W) (o:=r.take i) (t:=t+sz W a);rw[base,if_neg (by omega)];exact ad6 c b
theorem ags{W:List Int}{o:List Int}{t i m:Nat}(hi:i<o.length)(a:m<sz W o[i]):fD W t o (bx W t (o.take i)+m)=wd W (o[i].toNat+m):=by
 have:=k8 (W:=W) (o:=o.take i) (t:=t);unfold fD;rw[if_neg (by omega)];exact ad6 hi a
section
variable{F:Nat}{h:aV}{k:aO}{Y O:List Int}{ol yt nx:Int}{nt:List Int}
theorem aIC(aD:10000<F)(g:I.Good F h k Y O){t0:Nat}(hU:h.aW=(t0:Int))(M:∀Z,Ord Y Z->bx h.Words t0 Z<=h.Words.length) :
 ∀(d i f:Nat)(o:List Int)(D:Nat->Bool)(cu:List Int),Y.length<i+d->d<f->i<=o.length->Ord Y o->Inv h.Words h.ak t0 o D cu->(∀p,bx h.Words t0 (o.take i)<=p->D p=false) ->
 ∃fv z,EY F f ((bx h.Words t0 (o.take i):Nat):Int) h.ak ol yt ((bx h.Words t0 o:Nat):Int) nt nx cu k.a6 k.aY k.Fields k.Names k.aZ (o.zip (news h.Words t0 o))=some (((),()),((),h.ak,ol,yt,((bx h.Words t0 (scan k h.Words h.ak d i o):Nat):Int),nt,nx,()),fv,((),k.a6,k.aY,k.Fields,k.Names,k.aZ,(),()),(scan k h.Words h.ak d i o).zip (news h.Words t0 (scan k h.Words h.ak d i o)),())/\
  Inv h.Words h.ak t0 (scan k h.Words h.ak d i o) z fv/\(∃t,scan k h.Words h.ak d i o=o++t)/\
  ∀p,z p=true↔D p=true\/ ∃(j:Nat)(a:Int),i<=j/\(scan k h.Words h.ak d i o)[j]? =some a/\ ∃m,m<(wd h.Words (a.toNat+1)).toNat/\ej k (wd h.Words a.toNat) m=true/\p=bx h.Words t0 ((scan k h.Words h.ak d i o).take j)+3+m:=by
 intro d
 have iP:=aeD g.hF g
 have Jo:=g.s.e3
 induction d with
 |zero=>
  intro i f o D cu hi ad JE x
  have:=x.len
  omega
 |succ d a'=>
  intro i f o D cu aL ad JE x hi G
  obtain⟨f,rfl⟩:∃bH,f=bH+1:=⟨f-1,by omega⟩
  rcases gL i o.length with b6 |b6
  ·have aa:o[i]? =some o[i]:=aK b6
   have A:o[i]∈Y:=x.sub _ (hg b6)
   have N:o[i]∈Y++O:=gi O A
   obtain⟨cJ,iI,qh⟩:=Bw g A
   obtain⟨⟨⟨bN,dF⟩,eY,e6⟩,iN,⟨pg,mR⟩,⟨jT,ph⟩,pf⟩:=g.s
   obtain⟨a,r⟩:∃a:Nat,o[i]=(a:Int):=⟨o[i].toNat,by omega⟩
   have kv:=(kY.1 (g.l.s7 _ N).2).1
   rw[r,bV]at kv
   obtain⟨n,P⟩:∃n:Nat,wd h.Words (a+1)=(n:Int):=⟨(wd h.Words (a+1)).toNat,by omega⟩
   have Q:sz h.Words (a:Int)=3+n:=by unfold sz;rw[bV,P,bV]
   have H:=QY (W:=h.Words) (t:=t0) b6
   rw[r,Q]at H
   have aOF:=QZ (W:=h.Words) (t:=t0) (i:=i+1) (o:=o)
   have W5:=k8 (W:=h.Words) (t:=t0) (o:=o.take i)
   have ah5:=M o x
   obtain⟨u,K⟩:∃u,u=bx h.Words t0 (o.take i):=⟨_,rfl⟩
   rw[<-K]at H G W5⊢
   have CT:∀m,m<sz h.Words (a:Int)->fD h.Words t0 o (u+m)=wd h.Words (a+m):=λ m hm=>by
    have:=ags (W:=h.Words) (t:=t0) (m:=m) b6 (by rw[r];exact hm);rw[<-K,r,bV]at this;exact this
   obtain⟨R,m1,L⟩:=alz (ol:=ol) (yt:=yt) (nx:=nx) (nt:=nt) aD g hU M (a:=a) (u:=u) (by rw[<-r];exact N) (by omega) x hi CT (by rw[Q];omega) (λ m _=>G _ (by omega))
   have S:Ord Y ((dm k h.Words (a:Int)).foldl (cV h.ak) o):=x.fold λ v af=>yi g (rj g (by rw[<-r];exact N) v af)
   obtain⟨q,nb⟩:∃q,q=(dm k h.Words (a:Int)).foldl (cV h.ak) o:=⟨_,rfl⟩
   rw[<-nb]at m1 L S
   obtain⟨t,s⟩:=CC (y:=h.ak) (l:=dm k h.Words (a:Int)) (o:=o)
   rw[<-nb]at s
   have B:q.take (i+1)=o.take (i+1):=by rw[s,kh (by omega)]
   have aOB:=M q S
   have aAU:bx h.Words t0 o<=bx h.Words t0 q:=by rw[s,Hq];exact k8
   obtain⟨qv,T,b_,dc,⟨t2,fR⟩,k5⟩:=a' (i+1) f q (yw k h.Words a u D) R (by omega) (by omega) (by rw[s,dR];omega) S L (λ p aC=>by
    rw[B,H]at aC;rw[gQ];intro hc;rcases IL.1 hc with hc |⟨m,w,J,c⟩
    ·rw[G p (by omega)]at hc
     cases hc
    ·rw[P,bV]at w
     omega)
   have C7:scan k h.Words h.ak (d+1) i o=scan k h.Words h.ak d (i+1) q:=by rw[scan,aa,r,nb]
   rw[B,H]at b_
   rw[C7]
   refine⟨qv,T,?_,dc,⟨t++t2,by rw[fR,s,g_]⟩,λ p=>?_⟩
   ·have uA:u+1<R.length:=by rw[L.len];omega
    have Gj:u<=100000:=by omega
    have U:u+(3+n)<=100000:=by omega
    have pD:wd R (u+1)=(n:Int):=by
     rw[L.p4 _ (by omega),if_neg (by
      intro hc;rcases IL.1 hc with hc |⟨m,w,J,c⟩
      ·rw[G (u+1) (by omega)]at hc
       cases hc
      ·omega),s,agt (by omega),CT 1 (by rw[Q];omega),P]
    have c:3+n<=100000:=by omega
    have bD:((u:Nat):Int)<((bx h.Words t0 o:Nat):Int):=by omega
    rw[EY,decide_eq_true bD,cond_true,m1,ae]
    dsimp only
    rw[h5 Gj,e7 uA,ae,pD,show I.ax (3+(n:Int))=((3+n:Nat):Int) from lO (a:=3) c,lO U]
    exact b_
   ·rw[k5 p,IL]
    have C:(scan k h.Words h.ak d (i+1) q)[i]? =some (a:Int):=by
     rw[fR,s,g_,eA (by omega),aa,r]
    have E:(scan k h.Words h.ak d (i+1) q).take i=o.take i:=by
     rw[fR,s,g_,kh (by omega)]
    constructor
    ·rintro((hc |⟨m,w,J,c⟩)|⟨j,b,w,J,c⟩)
     ·exact .inl hc
     ·exact .inr ⟨i,(a:Int),cT _,C,m,by rw[bV];exact w,by rw[bV];exact J,by rw[E,<-K];exact c⟩
     ·exact .inr ⟨j,b,by omega,J,c⟩
    ·rintro(hc |⟨j,b,w,J,m,c,V,X⟩)
     ·exact .inl (.inl hc)
     ·by_cases e:j=i
      ·subst e
       rw[C]at J
       cases J
       rw[bV]at c V
       rw[E,<-K]at X
       exact .inl (.inr ⟨m,c,V,X⟩)
      ·exact .inr ⟨j,b,by omega,J,m,c,V,X⟩
  ·have:i=o.length:=by omega
   subst this
   have C7:scan k h.Words h.ak (d+1) o.length o=o:=by rw[scan,gE (cT _)]
   rw[C7,jI]
   refine⟨cu,D,?_,hi,⟨[],by simp⟩,λ p=>⟨.inl,?_⟩⟩
   ·rw[EY,decide_eq_false (by omega),cond_false]
   ·rintro(hc |⟨j,b,w,J,_⟩)
    ·exact hc
    ·rw[gE w]at J
     cases J
end
end Go.Proofs.YteeliipnilghaaaGreat
namespace Go.Proofs.YteeliipnilghaaaGreat
open I
theorem aJe{l:List Int}(h:yS l):l.Nodup:=by
 rw[lJ,jl];intro i j hi aA a e;have:=h i j a aA;rw[nA (aK hi),nA (aK aA)]at this;omega
theorem T0{k:aO}{W:List Int}{p:Nat}:∀ {l:List Int}{D:Nat->Bool},l.foldl (λ D x=>yw k W x.toNat x.toNat D) D p=true↔D p=true\/ ∃x∈l,∃i,i<(wd W (x.toNat+1)).toNat/\ej k (wd W x.toNat) i=true/\p=x.toNat+3+i
 |[],D=>by simp
 |y::r,D=>by
  rw[jr,T0 (l:=r),IL];constructor
  ·rintro((h |⟨i,h⟩)|⟨x,aa,h⟩)
   ·exact .inl h
   ·exact .inr ⟨y,il,i,h⟩
   ·exact .inr ⟨x,dZ _ aa,h⟩
  ·rintro(h |⟨x,aa,h⟩)
   ·exact .inl (.inl h)
   ·rcases cI.1 aa with rfl |aa
    ·exact .inl (.inr h)
    ·exact .inr ⟨x,aa,h⟩
theorem I1{y v:Int}:∀ {l o:List Int},v∈l->1<=v->v<=y->v∈l.foldl (cV y) o
 |a::r,o,af,b,J=>by
  rw[jr];rcases cI.1 af with rfl |af
  ·obtain⟨t,c⟩:=CC (y:=y) (l:=r) (o:=cV y o v)
   rw[c]
   exact gi _ (aam b J)
  ·exact I1 af b J
structure adQ (k:aO) (W:List Int) (t0:Nat) (nt o:List Int) (p:Nat):Prop where
 it:(∃x∈nt,∃i,i<(wd W (x.toNat+1)).toNat/\ej k (wd W x.toNat) i=true/\p=x.toNat+3+i)\/
  ∃(j:Nat)(a:Int),o[j]? =some a/\ ∃m,m<(wd W (a.toNat+1)).toNat/\ej k (wd W a.toNat) m=true/\p=bx W t0 (o.take j)+3+m
section
variable{F:Nat}{h:aV}{k:aO}{Y O:List Int}
theorem run_eq(Q:10000<F)(g:I.Good F h k Y O){t0:Nat}(q:h.aW=(t0:Int))(w:∀R,Ord Y R->bx h.Words t0 R<=h.Words.length){roots:List Int}(al:roots.length<=5000)(r:∀v∈roots,v=0\/v∈Y++O) :
 ∃(fv:List Int)(D:Nat->Bool),EV F k.a6 k.aY k.Fields k.Names k.aZ (hr roots.length) h.ak h.aM h.aX h.aW h.aS h.Next h.Words roots=some ((),((),h.ak,h.aM,1,((bx h.Words t0 (order k h Y roots):Nat):Int),[],h.Next,()),fv,roots.map (dC (order k h Y roots) (news h.Words t0 (order k h Y roots))),())/\
  fv.length=h.Words.length/\
  (∀p:Nat,p<h.Words.length->wd fv p=if 1<=p/\(p:Int)<=h.ak then 0 else if D p=true then dC (order k h Y roots) (news h.Words t0 (order k h Y roots)) (fD h.Words t0 (order k h Y roots) p)else fD h.Words t0 (order k h Y roots) p)/\
  (∀p:Nat,D p=true↔adQ k h.Words t0 h.aS (order k h Y roots) p)/\ ∀p:Nat,D p=true->h.ak<(p:Int)/\p<bx h.Words t0 (order k h Y roots):=by
 have Jo:=g.s.e3
 have aB:=g.YM
 have iP:=aeD g.hF g
 have S:=akk g r
 have z:=YX g r
 obtain⟨⟨⟨bN,dF⟩,eY,e6⟩,iN,⟨pg,mR⟩,⟨jT,ph⟩,pf⟩:=id g.s
 unfold okB at iN
 have JD:Inv h.Words h.ak t0 [] (λ _=>false) h.Words:=⟨rfl,λ p c=>by
  rw[if_neg (by simp)];unfold fD;by_cases T:p<t0
  ·rw[if_pos T]
  ·rw[if_neg T]
   exact g.ok.fr p c (.inr (.inr (by omega))),λ p c=>by cases c⟩
 obtain⟨U,l1,A⟩:=aIA (F:=F) (c1:=k.a6) (c2:=k.aY) (c3:=k.Fields) (c4:=k.Names) (c5:=k.aZ) (ol:=h.aM) (yt:=h.aX) (nx:=h.Next) (nt:=h.aS) (bg:=h.aW) g q w al r roots.length 0 F [] h.Words roots (by omega) (by omega) Ord.nil JD (by simp) (by simp)
 rw[hB]at l1 A
 obtain⟨f,nb⟩:∃f,f=roots.foldl (cV h.ak) []:=⟨_,rfl⟩
 rw[<-nb]at l1 A S
 obtain⟨qv,u,B⟩:=aIB (ol:=h.aM) (yt:=h.aX) (nx:=h.Next) (nt:=h.aS) (bg:=h.aW) Q g q w (l:=h.aS) aB (λ x C=>(g.ok.nt x C).1) (aJe g.ok.LA) h.aS.length 0 F f (λ _=>false) U (by omega) (by omega) S A (λ _ _ _ _=>rfl)
 rw[hB]at u B
 obtain⟨n,E⟩:∃n,n=(h.aS.flatMap (dm k h.Words)).foldl (cV h.ak) f:=⟨_,rfl⟩
 rw[<-nb]at z
 rw[<-E]at u B z
 have G:∀p,h.aS.foldl (λ D x=>yw k h.Words x.toNat x.toNat D) (λ _=>false) p=true->p<t0:=λ p c=>by
  rcases T0.1 c with c |⟨x,C,i,h1,J,s⟩
  ·cases c
  ·have:=g.l.j8 g.s x (g.ok.nt x C).1
   omega
 obtain⟨H,K,L,m,⟨aa9,V⟩,W⟩:=aIC (ol:=h.aM) (yt:=h.aX) (nx:=h.Next) (nt:=h.aS) Q g q w (Y.length+1) 0 F n _ qv (by omega) (by omega) (gT _) z B (λ p c=>by
  rw[mv]at c;have c:t0<=p:=c;rw[gQ];intro hc;have:=G p hc;omega)
 have M:order k h Y roots=scan k h.Words h.ak (Y.length+1) 0 n:=by rw[E,nb];rfl
 rw[<-M]at L m V W
 rw[mv]at L
 have d:(fV (((h.ak+1)-1).toNat) (0 :Int)).length=h.ak.toNat:=by rw[kf];omega
 refine⟨fQ H 1 (fV (((h.ak+1)-1).toNat) 0),K,?_,?_,λ p c=>?_,λ p=>?_,λ p c=>⟨(m.Cy p c).1,(m.Cy p c).2.1⟩⟩
 ·rw[q]at l1 u
  have N:EW F F (t0:Int) (hr roots.length) (roots.length:Int) 0 h.ak h.aM h.aX (t0:Int) h.aS h.Next h.Words k.a6 k.aY k.Fields k.Names k.aZ [] roots=_:=l1
  have D1:EY F F (t0:Int) h.ak h.aM h.aX ((bx h.Words t0 n:Nat):Int) h.aS h.Next qv k.a6 k.aY k.Fields k.Names k.aZ (n.zip (news h.Words t0 n))=_:=L
  have P:EX F F (t0:Int) h.aS (h.aS.length:Int) 0 h.ak h.aM h.aX ((bx h.Words t0 f:Nat):Int) h.aS h.Next U k.a6 k.aY k.Fields k.Names k.aZ (f.zip (news h.Words t0 f))=_:=u
  have Xh:I.ax (h.ak+1)=h.ak+1:=cQ (by omega) (by omega)
  have aOo:=m.len
  unfold EV
  rw[Q5,q,N,ae]
  dsimp only
  rw[P,ae]
  dsimp only
  rw[D1,ae]
  dsimp only
  rw[Xh,if_pos (by omega),ae]
  unfold xC
  rw[if_pos (decide_eq_true (by omega)),ae]
  obtain⟨aO2,X⟩:=CC (y:=h.ak) (l:=h.aS.flatMap (dm k h.Words)) (o:=f)
  rw[<-E]at X
  have t:=PZ g r
  have r7:roots.map (dC f (news h.Words t0 f))=roots.map (dC (order k h Y roots) (news h.Words t0 (order k h Y roots))):=by
   refine ly λ v Z=>?_;rw[V,X,g_]at t⊢;refine(amD (y:=h.ak) ?_ λ b ag=>?_).symm
   ·rcases r v Z with e |e
    ·exact .inl e
    ·by_cases hy:h.ak<v
     ·exact .inr (.inr hy)
     ·refine .inr (.inl ?_)
      rw[nb]
      exact I1 Z (g.l.fit g.s v e).1 (by omega)
   ·have:=Bw g (t.sub b (gI _ ag))
    have s:3<=sz h.Words b:=by unfold sz;omega
    omega
  rw[r7]
  rfl
 ·rw[GO (by rw[d,m.len];omega),m.len]
 ·rw[am7 (by rw[d,m.len];omega),d]
  by_cases C4:1<=p/\(p:Int)<=h.ak
  ·rw[if_pos (by omega),if_pos C4]
   unfold wd
   rw[List.getElem?_replicate]
   split<;>rfl
  ·rw[if_neg (by omega),if_neg C4]
   exact m.p4 p c
 ·rw[W p,T0]
  constructor
  ·rintro((hc |hc)|⟨j,a,_,J,s⟩)
   ·cases hc
   ·exact⟨.inl hc⟩
   ·exact⟨.inr ⟨j,a,J,s⟩⟩
  ·rintro⟨hc |⟨j,a,J,s⟩⟩
   ·exact .inl (.inr hc)
   ·exact .inr ⟨j,a,gT _,J,s⟩
end
end Go.Proofs.YteeliipnilghaaaGreat
namespace Go.Proofs.YteeliipnilghaaaGreat
open I
theorem aKa{l m:List Int}(b:l.length=m.length)(h:∀p,p<l.length->wd l p=wd m p):l=m:=by
 refine List.ext_getElem b λ i a J=>?_;have:=h i a;rwa [nA (aK a),nA (aK J)]at this
theorem amz{W:List Int}:∀ {o:List Int}{t p:Nat},t<=p->p<bx W t o-> ∃j,∃aA:j<o.length,∃i,i<sz W o[j]/\p=bx W t (o.take j)+i
 |[],t,p,b,J=>by rw[bx]at J;omega
 |a::r,t,p,b,J=>by
  by_cases hc:p<t+sz W a
  ·exact⟨0,by simp,p-t,by simpa using(by omega:p-t<sz W a),by simp[bx];omega⟩
  ·obtain⟨j,aA,i,c,d⟩:=amz (o:=r) (t:=t+sz W a) (p:=p) (by omega) J
   exact⟨j+1,by simpa using aA,i,by simpa using c,by simpa[bx]using d⟩
theorem amA{W:List Int}{o:List Int}{t i i' j gB:Nat}(aA:j<o.length)(d:gB<o.length)(hi:i<sz W o[j])(f:i'<sz W o[gB])(e:bx W t (o.take j)+i=bx W t (o.take gB)+i'):j=gB:=by
 have key:∀ {a b:Nat}(c:a<o.length),a<b->bx W t (o.take a)+sz W o[a]<=bx W t (o.take b):=λ{a b} c g=>by
  rw[<-QY c];have:o.take (a+1)=(o.take b).take (a+1):=by rw[List.take_take,mj (by omega)]
  rw[this];exact QZ
 rcases Nat.lt_trichotomy j gB with h |h |h
 ·have:=key aA h;omega
 ·exact h
 ·have:=key d h;omega
theorem ajf{k:aO}{W o ns Z:List Int}:∀ {l:List Int}{t j m:Nat}(aA:j<l.length),laid k W o ns Z t l->m<sz W l[j]->wd Z (bx W t (l.take j)+m)=val k W o ns l[j].toNat m
 |[],t,j,m,aA,_,_=>by simp at aA
 |a::r,t,0,m,aA,b,c=>b.1 m c
 |a::r,t,j+1,m,aA,b,c=>by
  have d:j<r.length:=by simpa using aA
  exact ajf (l:=r) d b.2 c
section
variable{F:Nat}{h:aV}{k:aO}{Y O:List Int}
structure Kept (h:aV) (k:aO) (O:List Int) (t0:Nat) (o fv:List Int):Prop where
 len:fv.length=h.Words.length
 j8:∀a∈O,∀i,i<sz h.Words a->wd fv (a.toNat+i)=val k h.Words o (news h.Words t0 o) a.toNat i
 new:∀j (aA:j<o.length),∀i,i<sz h.Words o[j]->wd fv (bx h.Words t0 (o.take j)+i)=val k h.Words o (news h.Words t0 o) o[j].toNat i
 fr:∀p,p<h.Words.length->(p<(h.ak+1).toNat\/bx h.Words t0 o<=p)->wd fv p=0
theorem aCb(g:I.Good F h k Y O){t0:Nat}(V:h.aW=(t0:Int)){o fv:List Int}{D:Nat->Bool}(K:Ord Y o)(X:bx h.Words t0 o<=h.Words.length)
 (l:fv.length=h.Words.length)(v:∀p:Nat,p<h.Words.length->wd fv p=if 1<=p/\(p:Int)<=h.ak then 0 else if D p=true then dC o (news h.Words t0 o) (fD h.Words t0 o p)else fD h.Words t0 o p)
 (C:∀p:Nat,D p=true↔adQ k h.Words t0 h.aS o p)(w:∀p:Nat,D p=true->h.ak<(p:Int)/\p<bx h.Words t0 o):Kept h k O t0 o fv:=by
 obtain⟨⟨⟨Z,dF⟩,eY,e6⟩,iN,⟨pg,mR⟩,⟨jT,ph⟩,pf⟩:=id g.s
 have df:=k8 (W:=h.Words) (o:=o) (t:=t0)
 refine⟨l,λ a r i d=>?_,λ j aA i d=>?_,λ p E hc=>?_⟩
 ·obtain⟨bq,bA⟩:=g.l.j8 g.s a r
  have L:sz h.Words a=3+(wd h.Words (a.toNat+1)).toNat:=rfl
  have n:a.toNat+i<t0:=by omega
  rw[v _ (by omega),if_neg (by omega)]
  have M:fD h.Words t0 o (a.toNat+i)=wd h.Words (a.toNat+i):=by unfold fD;rw[if_pos n]
  rw[M]
  unfold val
  have f:D (a.toNat+i)=true↔a∈h.aS/\3<=i/\ej k (wd h.Words a.toNat) (i-3)=true:=by
   rw[C];constructor
   ·rintro⟨⟨x,s,m,G,u,y⟩|⟨j,b,_,m,_,_,y⟩⟩
    ·have z:=(g.ok.nt x s).1
     by_cases e:a=x
     ·subst e
      refine⟨s,by omega,?_⟩
      rw[show i-3=m by omega]
      exact u
     ·have:=g.l.apart g.s _ (gI Y r) _ (gI Y z) e
      unfold sz at d
      omega
    ·have:=k8 (W:=h.Words) (o:=o.take j) (t:=t0)
     omega
   ·rintro⟨J,A,N⟩
    unfold sz at d
    exact⟨.inl ⟨a,J,i-3,by omega,N,by omega⟩⟩
  by_cases c:3<=i/\ej k (wd h.Words a.toNat) (i-3)=true
  ·rw[if_pos c]
   by_cases B:a∈h.aS
   ·rw[if_pos (f.2 ⟨B,c⟩)]
   ·rw[if_neg (λ hc=>B (f.1 hc).1)]
    unfold sz at d
    have H:((a.toNat+i:Nat):Int)∈refs k h.Words a.toNat:=sK.2 ⟨i-3,by omega,c.2,by omega⟩
    have q:=g.ok.must a r B _ H
    have P:=g.ok.ref a (gI Y r) _ H
    rw[bV]at q P
    by_cases Q:wd h.Words (a.toNat+i)=0
    ·rw[Q];unfold dC;rw[if_pos rfl]
    ·refine(amC λ R=>q ?_).symm
     have:=Bw g (K.sub _ R)
     have A:3<=sz h.Words (wd h.Words (a.toNat+i)):=by unfold sz;omega
     omega
  ·rw[if_neg c,if_neg (λ hc=>c (f.1 hc).2)]
 ·have C_:=QY (W:=h.Words) (t:=t0) aA
  have qQ:=QZ (W:=h.Words) (t:=t0) (i:=j+1) (o:=o)
  have pC:=k8 (W:=h.Words) (o:=o.take j) (t:=t0)
  have n: ¬bx h.Words t0 (o.take j)+i<t0:=by omega
  rw[v _ (by omega),if_neg (by omega),ags aA d]
  unfold val
  have f:D (bx h.Words t0 (o.take j)+i)=true↔3<=i/\ej k (wd h.Words o[j].toNat) (i-3)=true:=by
   rw[C];constructor
   ·rintro⟨⟨x,s,m,G,u,y⟩|⟨gB,b,ag,m,G,u,y⟩⟩
    ·have:=g.l.j8 g.s x (g.ok.nt x s).1
     omega
    ·obtain⟨S,e⟩:=aP.1 ag
     have:=amA (t:=t0) aA S d (i':=3+m) (by rw[e];unfold sz;omega) (by omega)
     subst this
     rw[e]
     refine⟨by omega,?_⟩
     rw[show i-3=m by omega]
     exact u
   ·rintro⟨J,A⟩
    unfold sz at d
    exact⟨.inr ⟨j,o[j],aK aA,i-3,by omega,A,by omega⟩⟩
  by_cases c:3<=i/\ej k (wd h.Words o[j].toNat) (i-3)=true
  ·rw[if_pos c,if_pos (f.2 c)]
  ·rw[if_neg c,if_neg (λ hc=>c (f.1 hc))]
 ·rw[v p E]
  by_cases C4:1<=p/\(p:Int)<=h.ak
  ·rw[if_pos C4]
  ·rw[if_neg C4,if_neg (λ T=>by have:=w p T;omega)]
   by_cases U:p=0
   ·subst U
    unfold fD
    rw[if_pos (by omega)]
    exact g.ok.fr 0 E (.inl rfl)
   ·unfold fD
    rw[if_neg (by omega)]
    exact ad7 (by omega)
end
end Go.Proofs.YteeliipnilghaaaGreat
namespace Go.Proofs.YteeliipnilghaaaGreat
open I
structure fW (h:aV) (k:aO) (L:List Int) (x:aV):Prop where
 hn:L.Nodup
 cl:∀a∈L,∀v∈dm k h.Words a,v=0\/v∈L
 len:x.Words.length=h.Words.length
 y:x.ak=h.ak
 o:x.aM=h.aM
 yt:x.aX=1
 ot:x.aW=((bx h.Words (h.ak+1).toNat L:Nat):Int)
 nt:x.aS=[]
 nx:x.Next=h.Next
 room:bx h.Words (h.ak+1).toNat L<=h.Words.length
 p4:∀j (aA:j<L.length),∀i,i<sz h.Words L[j]->wd x.Words (bx h.Words (h.ak+1).toNat (L.take j)+i)=val k h.Words L (news h.Words (h.ak+1).toNat L) L[j].toNat i
 fr:∀p,p<h.Words.length->(p<(h.ak+1).toNat\/bx h.Words (h.ak+1).toNat L<=p)->wd x.Words p=0
theorem GH{W:List Int}:∀ {L:List Int}{t j:Nat},j<L.length->(news W t L)[j]? =some ((bx W t (L.take j):Nat):Int)
 |[],t,j,h=>by simp at h
 |a::r,t,0,_=>rfl
 |a::r,t,j+1,h=>by
  have b:j<r.length:=by simpa using h
  show(news W (t+sz W a) r)[j]? =some ((bx W (t+sz W a) (r.take j):Nat):Int)
  exact GH b
theorem pos_at:∀ {L:List Int}{j:Nat}(aA:j<L.length),L.Nodup->pos L L[j]=some j
 |[],j,aA,_=>by simp at aA
 |a::r,0,_,_=>by show pos (a::r) a=some 0;rw[pos,if_pos rfl]
 |a::r,j+1,aA,d=>by
  have b:j<r.length:=by simpa using aA
  have c:=ie.1 d;show pos (a::r) r[j]=some (j+1)
  rw[pos,if_neg (λ e=>c.1 (by rw[e];exact hg b)),pos_at b c.2];rfl
section
variable{F:Nat}{h x:aV}{k:aO}{Y O L:List Int}
abbrev tn(h:aV)(L:List Int)(v:Int):Int:=dC L (news h.Words (h.ak+1).toNat L) v
theorem LF:tn h L 0=0:=by unfold tn dC;rw[if_pos rfl]
theorem QW(a:L.Nodup){j:Nat}(aA:j<L.length)(b:L[j]≠0):tn h L L[j]=((bx h.Words (h.ak+1).toNat (L.take j):Nat):Int):=by
 unfold tn dC;rw[if_neg b,pos_at aA a];dsimp only;rw[GH aA];rfl
theorem aa_(a:L.Nodup){v:Int}(b:v≠0)(c:v∈L):tn h L v∈news h.Words (h.ak+1).toNat L/\((h.ak+1).toNat:Int)<=tn h L v:=by
 obtain⟨j,aA,rfl⟩:=iz c;rw[QW a aA b];refine⟨bG (GH aA),?_⟩;have:=k8 (W:=h.Words) (o:=L.take j) (t:=(h.ak+1).toNat);omega
theorem aJl(b:L.Nodup){v w:Int}(c:v≠0)(a:w≠0)(d:v∈L)(f:w∈L)(e:tn h L v=tn h L w):v=w:=by
 obtain⟨j,aA,rfl⟩:=iz d;obtain⟨i,hi,rfl⟩:=iz f;rw[QW b aA c,QW b hi a]at e;have:=amA (W:=h.Words) (t:=(h.ak+1).toNat) aA hi (i:=0) (i':=0) (by unfold sz;omega) (by unfold sz;omega) (by omega);subst this;rfl
theorem ajU{a:Int}(b:a∈news h.Words (h.ak+1).toNat L):∃j,∃_:j<L.length,a=((bx h.Words (h.ak+1).toNat (L.take j):Nat):Int):=by
 obtain⟨j,aA,rfl⟩:=iz b;rw[xD]at aA;refine⟨j,aA,?_⟩;have:=GH (W:=h.Words) (t:=(h.ak+1).toNat) aA;rw[aK (by rw[xD];exact aA)]at this;exact eJ this
theorem aJN{W o ns:List Int}{q i:Nat}(hi:i<3):val k W o ns q i=wd W (q+i):=by
 unfold val;rw[if_neg (by omega)]
theorem fW.lo(c:fW h k L x){j:Nat}(aA:j<L.length){i:Nat}(hi:i<3):wd x.Words (bx h.Words (h.ak+1).toNat (L.take j)+i)=wd h.Words (L[j].toNat+i):=by
 rw[c.p4 j aA i (by unfold sz;omega),aJN hi]
theorem fW.hi(c:fW h k L x){j:Nat}(aA:j<L.length){i:Nat}(hi:i<(wd h.Words (L[j].toNat+1)).toNat):wd x.Words (bx h.Words (h.ak+1).toNat (L.take j)+3+i)=if ej k (wd h.Words L[j].toNat) i=true then tn h L (wd h.Words (L[j].toNat+3+i))else wd h.Words (L[j].toNat+3+i):=by
 rw[show bx h.Words (h.ak+1).toNat (L.take j)+3+i=bx h.Words (h.ak+1).toNat (L.take j)+(3+i) by omega,c.p4 j aA (3+i) (by unfold sz;omega)];unfold val;rw[show 3+i-3=i by omega,show L[j].toNat+(3+i)=L[j].toNat+3+i by omega];by_cases a:ej k (wd h.Words L[j].toNat) i=true
 ·rw[if_pos ⟨by omega,a⟩,if_pos a]
 ·rw[if_neg (λ e=>a e.2),if_neg a]
theorem fW.walk(g:I.Good F h k Y O)(c:fW h k L x)(aj:∀a∈L,a∈Y++O):∀(d j:Nat),j+d=L.length->I.eQ k x.Words (bx h.Words (h.ak+1).toNat L) (bx h.Words (h.ak+1).toNat (L.take j)) (news h.Words (bx h.Words (h.ak+1).toNat (L.take j)) (L.drop j)):=by
 intro d;induction d with
 |zero=>
  intro j aA
  have:j=L.length:=by omega
  subst this
  rw[jI,iL]
  exact I.eQ.nil
 |succ d m=>
  intro j aA
  have b:j<L.length:=by omega
  have n:=aj _ (hg b)
  obtain⟨p,q⟩:=g.l.s7 _ n
  have e:=c.lo b (i:=0) (by omega)
  have f:=c.lo b (i:=1) (by omega)
  rw[lf,lf]at e
  have r:=QY (W:=h.Words) (t:=(h.ak+1).toNat) b
  have s:=QZ (W:=h.Words) (t:=(h.ak+1).toNat) (i:=j+1) (o:=L)
  have l:sz h.Words L[j]=3+(wd x.Words (bx h.Words (h.ak+1).toNat (L.take j)+1)).toNat:=by rw[f];rfl
  rw[de b,news]
  refine I.eQ.cons (by rw[e];exact p) (by rw[e,f];exact q) (by omega) ?_
  have:=m (j+1) (by omega)
  rw[r,l,show bx h.Words (h.ak+1).toNat (L.take j)+(3+(wd x.Words (bx h.Words (h.ak+1).toNat (L.take j)+1)).toNat)=bx h.Words (h.ak+1).toNat (L.take j)+3+(wd x.Words (bx h.Words (h.ak+1).toNat (L.take j)+1)).toNat by omega]at this
  rw[l,show bx h.Words (h.ak+1).toNat (L.take j)+(3+(wd x.Words (bx h.Words (h.ak+1).toNat (L.take j)+1)).toNat)=bx h.Words (h.ak+1).toNat (L.take j)+3+(wd x.Words (bx h.Words (h.ak+1).toNat (L.take j)+1)).toNat by omega]
  exact this
theorem aj7{α β:Type}{f:α->β}:∀ {M L:List α},(M.map f).Nodup->L.Nodup->(∀a∈L,a∈M)->(L.map f).Nodup
 |M,[],_,_,_=>mA
 |M,a::r,d,m,aj=>by
  have g:=ie.1 m;rw[eB];refine ie.2 ⟨λ n=>?_,aj7 d g.2 λ b ag=>aj b (dZ _ ag)⟩;obtain⟨b,ag,e⟩:=hY.1 n;have o:b=a:=by
   obtain⟨i,hi,c⟩:=iz (aj a il);obtain⟨j,aA,ao⟩:=iz (aj b (dZ _ ag));have l:=jl.1 (lJ.1 d);rcases Nat.lt_trichotomy i j with al |al |al
   ·exact absurd (by rw[la,la,c,ao,e]) (l i j (by simpa using hi) (by simpa using aA) al)
   ·subst al;rw[<-c,<-ao]
   ·exact absurd (by rw[la,la,c,ao,e]) (l j i (by simpa using aA) (by simpa using hi) al)
  exact g.1 (o▸ag)
theorem fW.I'(g:I.Good F h k Y O)(c:fW h k L x)(aj:∀a∈L,a∈Y++O):I.Good F x k [] (news h.Words (h.ak+1).toNat L):=by
 obtain⟨⟨⟨r,s⟩,u,e6⟩,m,⟨C,D⟩,⟨jT,E⟩,v⟩:=id g.s;unfold okB at m;have G:=c.room;have H:=k8 (W:=h.Words) (o:=L) (t:=(h.ak+1).toNat);have y:∀a∈L,a≠0:=λ a d=>by have:=(g.l.fit g.s a (aj a d)).1;omega
 have n:(news h.Words (h.ak+1).toNat L).map (I.aj x.Words)=L.map (I.aj h.Words):=by
  refine List.ext_getElem (by rw[gC,gC,xD]) λ j l J=>?_;have aA:j<L.length:=by simpa using J
  rw[la,la];have:(news h.Words (h.ak+1).toNat L)[j]'(by rw[xD];exact aA)=((bx h.Words (h.ak+1).toNat (L.take j):Nat):Int):=by
   have:=GH (W:=h.Words) (t:=(h.ak+1).toNat) aA;rw[aK (by rw[xD];exact aA)]at this;exact eJ this
  rw[this];unfold I.aj;rw[bV];exact c.lo aA (by omega)
 have p:∀a∈news h.Words (h.ak+1).toNat L,∀w∈refs k x.Words a.toNat,wd x.Words w.toNat=0\/wd x.Words w.toNat∈news h.Words (h.ak+1).toNat L:=λ a d w f=>by
  obtain⟨j,aA,rfl⟩:=ajU d;rw[bV]at f;obtain⟨i,l,J,rfl⟩:=sK.1 f;have q:=c.lo aA (i:=0) (by omega);have z:=c.lo aA (i:=1) (by omega);rw[lf,lf]at q;rw[z]at l;rw[q]at J;rw[bV,c.hi aA l,if_pos J];have A:wd h.Words (L[j].toNat+3+i)∈dm k h.Words L[j]:=hY.2 ⟨((L[j].toNat+3+i:Nat):Int),sK.2 ⟨i,l,J,rfl⟩,by rw[bV]⟩;rcases c.cl _ (hg aA) _ A with e |e
  ·rw[e,LF];exact .inl rfl
  ·exact .inr (aa_ c.hn (y _ e) e).1
 refine⟨g.r3,g.hF,⟨?_,?_,?_⟩,⟨?_,?_⟩,?_,?_,?_,?_,?_,?_,?_⟩
 ·unfold An;rw[c.y,c.o];exact⟨⟨r,s⟩,u,e6⟩
 ·unfold okB;rw[c.y,c.o,c.len];exact m
 ·unfold I.GL;rw[c.y,c.o,c.yt,c.ot,c.nx];exact⟨⟨by omega,by omega⟩,⟨by omega,by omega⟩,v⟩
 ·rw[c.yt];exact I.eQ.nil
 ·rw[c.ot,c.y,bV]
  have:=c.walk g aj L.length 0 (by omega)
  rw[mv,hB]at this
  exact this
 ·intro a d
  rw[kK]at d
  have B:I.aj x.Words a∈L.map (I.aj h.Words):=by rw[<-n];exact j5 d
  obtain⟨b,ag,e⟩:=hY.1 B
  rw[<-e,c.nx]
  exact g.ok.hash b (aj b ag)
 ·rw[kK,n]
  exact aj7 g.ok.nodup c.hn aj
 ·intro a d w f
  rw[kK]at d⊢
  exact p a d w f
 ·intro i hi hc
  rw[c.len]at hi
  rw[c.yt,c.ot,c.y]at hc
  exact c.fr i hi (by omega)
 ·rw[c.nt];intro a b _ ag;simp at ag
 ·rw[c.nt];intro a d;simp at d
 ·intro a d _ w f hc
  rw[c.y]at hc
  rcases p a d w f with e |e
  ·omega
  ·obtain⟨j,aA,ao⟩:=ajU e
   have:=k8 (W:=h.Words) (o:=L.take j) (t:=(h.ak+1).toNat)
   omega
end
end Go.Proofs.YteeliipnilghaaaGreat
