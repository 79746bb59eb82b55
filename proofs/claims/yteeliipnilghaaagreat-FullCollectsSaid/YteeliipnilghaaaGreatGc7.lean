/- Part 7 of the proof that is ended in the last text: small logic, what the functions compute, walks, plain laws. -/
import Derived.Test.YteeliipnilghaaaGreatGc6
import Derived.KernelRfl
open Bool renaming and_eq_false_iff->lz,and_eq_true->bC,eq_false_iff->gX,eq_iff_iff->hT,false_eq_true->hv,false_ne_true->j0,false_or->hX,not_eq_true'->ga,not_false->iy,not_true->dF,or_eq_false_iff->hQ,or_eq_true->hM,true_and->jw
open Classical renaming byContradiction->k9
open Int renaming le_refl->kj,toNat_natCast->cN
open List renaming Pairwise.imp_of_mem->lb,any_eq_false->ih,any_eq_true->h7,append_assoc->gT,append_nil->gL,cons.inj->ei,drop_eq_getElem_cons->cw,drop_length->hV,drop_zero->fK,eq_nil_of_length_eq_zero->gK,exists_of_findSome?_eq_some->dN,ext_getElem?->j4,findSome?_cons->h5,findSome?_eq_none_iff->fJ,flatMap_cons->ig,flatten_cons->lq,foldl_cons->k7,getElem?_append_left->eW,getElem?_append_right->fs,getElem?_drop->iN,getElem?_eq_getElem->aH,getElem?_eq_none->gz,getElem?_eq_some_iff->aM,getElem?_map->iT,getElem?_range->kW,getElem?_take->gI,getElem_mem->hC,getElem_of_mem->kX,length->h4,length_append->dS,length_cons->cV,length_erase_of_mem->la,length_map->hl,length_nil->gr,length_range->iS,length_reverse->kq,length_set->iP,length_singleton->je,length_take->fP,map_append->jz,map_cons->eu,map_nil->hK,map_singleton->ky,mem_append->b3,mem_append_left->j3,mem_append_right->iZ,mem_cons->cm,mem_cons_of_mem->ez,mem_cons_self->jX,mem_filter->iA,mem_flatMap->ho,mem_iff_getElem->iv,mem_iff_getElem?->lA,mem_map->jv,mem_of_getElem?->bB,mem_range->lf,mem_singleton->dK,mergeSort_perm->kd,nil_append->jy,nodup_append->eK,nodup_cons->iO,pairwise_iff_getElem->jt,pairwise_mergeSort->lp,perm_ext_iff_of_nodup->kf,range->dy,replicate->eH,singleton_append->j1,take->lu,take_add_one->kg,take_length->jP,take_of_length_le->hF
open Nat renaming add_assoc->jK,add_zero->lC,eq_zero_or_pos->kx,le_mul_of_pos_right->lj,le_refl->cu,le_trans->gm,lt_or_ge->fN,zero_add->ji,zero_le->gD
open Option renaming bind->dB,bind_some->ae,getD_none->jh,map_eq_some_iff->cd,map_none->iz,map_some->fI,some.inj->dT,some.injEq->aD
open Prod renaming fst->ke,mk.injEq->b5
namespace I
theorem OZ{cJ β:Type} [DecidableEq cJ]{k:cJ}{v:β}:∀m:List (cJ×β),(gC m k v).length=if(cF m k).isSome then m.length else m.length+1
 |[]=>rfl
 |p::r=>by
  simp only[gC,cF];by_cases h:p.1=k
  ·simp[h]
  ·simp only[if_neg h,cV,OZ r]
   split<;>rfl
theorem J'{cJ β:Type} [DecidableEq cJ]{k s:cJ}{v:β}:∀m:List (cJ×β),(cF (gC m k v) s).isSome=true↔s=k\/(cF m s).isSome=true
 |[]=>by
  simp only[gC,cF];by_cases h:k=s
  ·simp[h]
  ·simp[h];exact λ e=>h e.symm
 |p::r=>by
  have a:=J' (k:=k) (s:=s) (v:=v) r;simp only[gC];by_cases h:p.1=k
  ·rw[if_pos h]
   simp only[cF]
   by_cases e:k=s
   ·simp[e]
   ·have e2: ¬p.1=s:=λ x=>e (h.symm.trans x)
    rw[if_neg e,if_neg e2]
    constructor
    ·exact λ x=>.inr x
    ·rintro(x |x)
     ·exact absurd x.symm e
     ·exact x
  ·rw[if_neg h]
   simp only[cF]
   by_cases e:p.1=s
   ·simp[e]
   ·rw[if_neg e,if_neg e];exact a
def v_(ns:List (List UInt8)):Option Int:=if ns.Nodup then none else some 6
section
variable{F:Nat}{l:List ak}
theorem akM(r:1100<F){ns:List (List UInt8)}(t:ns.length<=1000):Gq F ns=some (decide (¬ns.Nodup)):=by
 have key:∀(d i k:Nat)(m:List (List UInt8×Bool)),i+d=ns.length->d<k->(∀s,(cF m s).isSome=true↔s∈ns.take i)->m.length<=i->(m.length=i↔(ns.take i).Nodup) ->
  ∃g,zT ns k m (i:Int)=some g/\g.length<=ns.length/\(g.length=ns.length↔ns.Nodup):=by
  intro d
  induction d with
  |zero=>
   intro i k m hi o f J c
   obtain⟨k,rfl⟩:∃k',k=k'+1:=⟨k-1,by omega⟩
   have:i=ns.length:=by omega
   subst this
   rw[jP]at c
   exact⟨m,by rw[zT,bG];rfl,J,c⟩
  |succ d p=>
   intro i k m hi o f J c
   obtain⟨k,rfl⟩:∃k',k=k'+1:=⟨k-1,by omega⟩
   have j:i<ns.length:=by omega
   have e1:ns.take (i+1)=ns.take i++[ns[i]]:=by rw[kg,aH j];rfl
   rw[zT,bH j,cond_true,bq (aH j),ae,eG j (by omega)]
   refine p (i+1) k _ (by omega) (by omega) (λ s=>?_) ?_ ?_
   ·rw[J',f,e1,b3,dK]
    constructor
    ·rintro(h |h)
     ·exact .inr h
     ·exact .inl h
    ·rintro(h |h)
     ·exact .inr h
     ·exact .inl h
   ·rw[OZ];split<;>omega
   ·rw[OZ,e1,eK]
    by_cases n:(cF m ns[i]).isSome=true
    ·rw[if_pos n]
     have:=(f ns[i]).1 n
     constructor
     ·intro h;omega
     ·rintro⟨_,_,h⟩;exact absurd rfl (h _ this _ (by simp))
    ·rw[if_neg n]
     have:ns[i]∉ns.take i:=λ h=>n ((f ns[i]).2 h)
     constructor
     ·intro h
      exact⟨c.1 (by omega),by simp,λ a q b af e=>by
       rw[dK]at af;subst af;exact this (e▸q)⟩
     ·rintro⟨h,_,_⟩
      have:=c.2 h
      omega
 obtain⟨g,f,J,c⟩:=key ns.length 0 F [] (by omega) (by omega) (λ s=>by simp[cF]) (by simp) (by simp);unfold Gq;rw[show(0 :Int)=((0 :Nat):Int) from rfl,f,ae];congr 1;by_cases aK:ns.Nodup
 ·have:=c.2 aK
  rw[decide_eq_false (by omega),decide_eq_false (by simp[aK])]
 ·have:g.length≠ns.length:=λ e=>aK (c.1 e)
  rw[decide_eq_true (by omega),decide_eq_true aK]
def S4{α:Type}(nm:α->List UInt8)(r:List α):Option Int:=(dy r.length).findSome? λ k=>(dy k).findSome? λ j=>if(r[j]?).map nm=(r[k]?).map nm then some 6 else none
theorem adB{α:Type}(nm:α->List UInt8)(r:List α):S4 nm r=v_ (r.map nm):=by
 have c:S4 nm r=none\/S4 nm r=some 6:=tD (λ k=>tD (λ j=>by split<;>simp) _) _;unfold v_;by_cases aK:(r.map nm).Nodup
 ·rw[if_pos aK]
  rcases c with h |h
  ·exact h
  ·exfalso
   obtain⟨k,a,b⟩:=dN h
   obtain⟨j,aA,J⟩:=dN b
   simp only[lf]at a aA
   split at J
   ·rename_i e
    have:=jt.1 aK j k (by simp;omega) (by simpa using a) aA
    apply this
    rw[aH (by omega),aH a]at e
    simpa using e
   ·cases J
 ·rw[if_neg aK]
  rcases c with h |h
  ·exfalso
   apply aK
   refine jt.2 λ j k aA a d e=>?_
   have b:=fJ.1 h k (by simpa using a)
   have J:=fJ.1 b j (by simpa using d)
   simp only[hl]at aA a
   rw[aH aA,aH a]at J
   simp only[List.getElem_map]at e
   rw[if_pos (by simp[e])]at J
   cases J
  ·exact h
theorem atK(b:1100<F)(r:List Field)(c:r.length<=1000):BG F r F 0=some (cn (v_ (r.map (·.Name)))):=by
 rw[<-adB];exact kA _ (by omega) (λ k i hi=>by
  have a:BH r (i:Int) F 0=some (cn ((dy i).findSome? λ j=>if(r[j]?).map (·.Name)=(r[i]?).map (·.Name)then some 6 else none)):=kA _ (by omega) (λ k j aA=>by
   rw[BH,bH aA,cond_true,bq (aH (show j<r.length by omega)),ae,bq (aH hi),ae,aH (show j<r.length by omega),aH hi];simp only[fI,aD];by_cases e:r[j].Name=r[i].Name
   ·rw[decide_eq_true e,if_pos e];rfl
   ·rw[decide_eq_false e,if_neg e];rfl) (λ k=>by rw[BH,bG];rfl) (by omega)
  rw[BG,bH hi,cond_true,a,oz,qO,ox]) (λ k=>by rw[BG,bG];rfl) (by omega)
theorem atL(b:1100<F)(c:ak)(d:c.bf.length<=1000):tg F c F 0=some (cn (v_ (c.bf.map (·.Name)))):=by
 rw[<-adB];exact kA _ (by omega) (λ k i hi=>by
  have a:th c (i:Int) F 0=some (cn ((dy i).findSome? λ j=>if(c.bf[j]?).map (·.Name)=(c.bf[i]?).map (·.Name)then some 6 else none)):=kA _ (by omega) (λ k j aA=>by
   rw[th,bH aA,cond_true,bq (aH (show j<c.bf.length by omega)),ae,bq (aH hi),ae,aH (show j<c.bf.length by omega),aH hi];simp only[fI,aD];by_cases e:c.bf[j].Name=c.bf[i].Name
   ·rw[decide_eq_true e,if_pos e];rfl
   ·rw[decide_eq_false e,if_neg e];rfl) (λ k=>by rw[th,bG];rfl) (by omega)
  rw[tg,bH hi,cond_true,a,oz,qO,ox]) (λ k=>by rw[tg,bG];rfl) (by omega)
def An(l:List ak)(i:Nat):Option Int:=(v_ ((fx l i).map (·.Name))).or (v_ ((eJ l i).map (·.Name)))
theorem afa(h:hY l){n:Int}(a:0<=n)(b:n<l.length):(fx l n).length<=60:=by
 obtain⟨_,c,_⟩:=h.chain a b;have:=TS h.right (dt l n).reverse;unfold fx;simp only[kq]at this;omega
theorem adC{ns:List (List UInt8)}{Y:Option (Way Int Unit)}:cond (decide (¬ns.Nodup)) (some (.out 6)) Y=gR (v_ ns) Y:=by
 unfold v_;by_cases h:ns.Nodup
 ·rw[if_pos h,decide_eq_false (by simp[h])];rfl
 ·rw[if_neg h,decide_eq_true h];rfl
theorem ah6{i:Nat}{c:ak}(h:l[i]? =some c):eJ l (i:Int)=c.bf:=by unfold eJ;rw[bq h];rfl
theorem aC9(a:1100<F)(h:hY l):BQ F l F 0=some (cn ((dy l.length).findSome? (An l))):=by
 have d:=h.right.len;exact kA _ (by omega) (λ k i hi=>by
  obtain⟨c,b⟩:∃x,l[i]? =some x:=⟨l[i],aH hi⟩
  have e:=h.right.methods c (bB b);have f:=afa h (n:=(i:Int)) (by omega) (by omega);rw[BQ,bH hi,cond_true,h.Zj a (by omega) (by omega),ae,atK a _ (by omega),oz,bq b,ae,atL a c (by omega),oz,Lh,qO,ox];unfold An;rw[ah6 b]) (λ k=>by rw[BQ,bG];rfl) (by omega)
theorem aC8(b:1100<F)(h:hY l)(m:List (List UInt8×Int)):J1 F ⟨l,m,c' l⟩=some (((dy l.length).findSome? (An l)).getD 0):=by
 have o:=h.right.len;have:=kA (n:=l.length) (L:=zP F ⟨l,m,c' l⟩) (An l) (by omega) (λ k i hi=>by
  obtain⟨c,a⟩:∃x,l[i]? =some x:=⟨l[i],aH hi⟩
  have u:=h.right.methods c (bB a);have v:=afa h (n:=(i:Int)) (by omega) (by omega);have p:xo (fx l i) F [] 0=some ((fx l i).map (·.Name)):=by
   have:=vP (l:=fx l i) (λ k acc d=>xo (fx l i) k acc (d:Int)) (λ f=>[f.Name]) 1 3000 (λ f _=>by simp) (λ k j x acc a q=>by
    have aA:=(aM.1 a).1;rw[xo,bH aA,cond_true,bq a,ae,h3 (by simp only[cV,gr];omega),ae,eG aA (by omega)]) (λ k acc=>by rw[xo,bG];rfl) (F:=F) (by omega) (acc:=[]) (by simp;omega)
   rw[show(0 :Int)=((0 :Nat):Int) from rfl,this];congr 1;rw[jy];induction fx l i with
   |nil=>rfl
   |cons x r e=>rw[ig,e];rfl
  have s:sf c F [] 0=some (c.bf.map (·.Name)):=by
   have:=vP (l:=c.bf) (λ k acc d=>sf c k acc (d:Int)) (λ f=>[f.Name]) 1 3000 (λ f _=>by simp) (λ k j x acc a q=>by
    have aA:=(aM.1 a).1;rw[sf,bH aA,cond_true,bq a,ae,h3 (by simp only[cV,gr];omega),ae,eG aA (by omega)]) (λ k acc=>by rw[sf,bG];rfl) (F:=F) (by omega) (acc:=[]) (by simp;omega)
   rw[show(0 :Int)=((0 :Nat):Int) from rfl,this];congr 1;rw[jy];induction c.bf with
   |nil=>rfl
   |cons x r e=>rw[ig,e];rfl
  rw[zP];have t:decide ((i:Int)<((⟨l,m,c' l⟩:bp).l.length:Int))=true:=bH (n:=l.length) hi;have g:=h.WZ b m (n:=(i:Int)) (by omega) (by omega);rw[t,cond_true];show cU (α:=Unit) ((idx l (i:Int)).bind λ w=>(uf F ⟨l,m,c' l⟩ (i:Int)).bind λ y=>_) _=_
  rw[bq a,ae,g,ae,p,ae,s,ae,akM b (by simp;omega),ae,akM b (by simp;omega),ae,adC,adC,Lh,qO,ox];unfold An;rw[ah6 a]) (λ k=>by
   rw[zP];show cond (decide ((l.length:Int)<(l.length:Int))) _ _=_
   rw[bG];rfl) (F:=F) (by omega)
 unfold J1;rw[this];cases(dy l.length).findSome? (An l)<;>rfl
theorem aka{a b:List Kind}(g:a.length<=1000)(af:b.length<=1000)(h:1100<F):vO F a b=some (decide (a=b)):=by
 unfold vO;by_cases d:a.length=b.length
 ·rw[decide_eq_true (show(a.length:Int)=(b.length:Int) by omega)]
  simp only[dF,cond_false]
  have l1:pX a b F 0=some (cn ((dy a.length).findSome? λ i=>if a[i]? =b[i]? then none else some false)):=kA _ (by omega) (λ k i hi=>by
   rw[pX,bH hi,cond_true,bq (aH hi),ae,bq (aH (show i<b.length by omega)),ae,aH hi,aH (show i<b.length by omega)];simp only[aD];by_cases e:a[i]=b[i]
   ·rw[decide_eq_true e,if_pos e];rfl
   ·rw[decide_eq_false e,if_neg e];rfl) (λ k=>by rw[pX,bG];rfl) (by omega)
  rw[l1,jW]
  cases ad:(dy a.length).findSome? λ i=>if a[i]? =b[i]? then none else some false with
  |some e=>
   obtain⟨i,hi,c⟩:=dN ad
   split at c
   ·cases c
   ·rename_i f
    injection c with c
    subst c
    rw[decide_eq_false (λ e=>f (by rw[e]))];rfl
  |none=>
   rw[decide_eq_true];rfl
   apply j4
   intro i
   by_cases hi:i<a.length
   ·have:=fJ.1 ad i (by simpa using hi)
    split at this
    ·assumption
    ·cases this
   ·rw[gz (by omega),gz (by omega)]
 ·rw[decide_eq_false (show¬(a.length:Int)=(b.length:Int) by omega),decide_eq_false (λ e=>d (by rw[e]))];rfl
theorem au'{a b:List Kind}(c:a.length<=1000)(af:b.length<=1000)(d:1100<F):K2 F a b=some (decide (a=b)):=by
 rw[<-aka c af d];unfold K2 vO;have e:∀k n,D8 a b k n=pX a b k n:=by
  intro k;induction k with
  |zero=>intro n;rfl
  |succ k f=>intro n;rw[D8,pX];simp only[f]
 rw[e]
def SU(a b:Method):Bool:=decide (a.Name=b.Name)&&(a.Static||b.Static|| !decide (a.cr=b.cr)|| !decide (a.Returns=b.Returns))
def p4(a b:Method):Option Int:=if SU a b then some 4 else none
def v7(l:List ak)(c:ak)(u:Int):Option Int:=c.bf.findSome? λ a=>(eJ l u).findSome? (p4 a)
def Gu(l:List ak)(c:ak)(i:Nat):Option Int:=(dt l i).tail.findSome? (v7 l c)
theorem ate(a b:Method):p4 a b=none\/p4 a b=some 4:=by unfold p4;split<;>simp
theorem ade(c:ak)(u:Int):v7 l c u=none\/v7 l c u=some 4:=tD (λ _=>tD (λ _=>ate _ _) _) _
theorem av_{α:Type}{g:α->Option Int}{e:Int}(b:∀x,g x=none\/g x=some e)(r:List α):r.reverse.findSome? g=r.findSome? g:=by
 rcases tD b r with h |h
 ·rw[h,fJ]
  intro x a
  exact fJ.1 h x (by simpa using a)
 ·rw[h]
  rcases tD b r.reverse with J |J
  ·obtain⟨x,a,c⟩:=dN h
   have:=fJ.1 J x (by simpa using a)
   rw[c]at this;cases this
  ·exact J
theorem aBY(p:1100<F)(h:hY l)(m:List (List UInt8×Int)):J0 F ⟨l,m,c' l⟩=some (((dy l.length).findSome? λ i=>(l[i]?).bind λ c=>Gu l c i).getD 0):=by
 have q:=h.right.len;have:=kA (n:=l.length) (L:=zM F ⟨l,m,c' l⟩) (λ i=>(l[i]?).bind λ c=>Gu l c i) (by omega) (λ k i hi=>by
  obtain⟨c,f⟩:∃x,l[i]? =some x:=⟨l[i],aH hi⟩
  have s:=bB f;have N:=h.right.methods c s;obtain⟨w,O,y⟩:=h.chain (n:=(i:Int)) (by omega) (by omega);obtain⟨r,t⟩:=Z0 w (by omega);have z:∀(a:Method),a∈c.bf-> ∀(u:ak),u∈l->sd F a u F 0=some (cn (u.bf.findSome? (p4 a))):=λ a e u d=>each (p4 a) (by have:=h.right.methods u d;omega) (λ k j b af=>by
   have A:=bB af;have B:=h.right.method c s a e;have P:=h.right.method u d b A;rw[sd,bH (aM.1 af).1,cond_true,bq af,ae];unfold OJ;simp only;rw[au' (by omega) (by omega) p];unfold p4 SU;show cond _ (dB (cond _ (dB _ λ r=>cond r (some (decide (a.Returns=b.Returns))) _) _) _) _=_
   by_cases v:a.Name=b.Name
   ·rw[decide_eq_true v]
    simp only[ae,cond_true,jw]
    cases a.Static<;>cases b.Static<;>cases decide (a.cr=b.cr)<;>cases decide (a.Returns=b.Returns)<;>rfl
   ·rw[decide_eq_false v];rfl) (λ k=>by rw[sd,bG];rfl) (by have:=h.right.methods u d;omega)
  have C:∀(x:Int),0<=x->x<l.length->zO F ⟨l,m,c' l⟩ c x F 0=some (cn (v7 l c x)):=λ x D E=>each (λ a=>(eJ l x).findSome? (p4 a)) (by omega) (λ k j a e=>by
   obtain⟨u,d,_⟩:=xR (l:=l) D E;have G:u∈l:=by obtain⟨_,_,J⟩:=lk d;exact bB J
   have H:eJ l x=u.bf:=by unfold eJ;rw[d];rfl
   rw[zO,bH (aM.1 e).1,cond_true,bq e,ae];show cU (α:=Unit) ((idx l x).bind λ Q=>_) _=_
   rw[d,ae,z a (bB e) u G,oz,qO,ox,H]) (λ k=>by rw[zO,bG];rfl) (by omega)
  have I:zN F ⟨l,m,c' l⟩ c (dt l i).tail F 0=some (cn ((dt l i).tail.findSome? (v7 l c))):=each (v7 l c) (by simp;omega) (λ k j x g=>by
   have af:=y x (List.mem_of_mem_tail (bB g));rw[zN,bH (aM.1 g).1,cond_true,bq g,ae,C x af.1 af.2,oz,qO,ox]) (λ k=>by rw[zN,bG];rfl) (by simp;omega)
  rw[zM];have K:decide ((i:Int)<((⟨l,m,c' l⟩:bp).l.length:Int))=true:=bH (n:=l.length) hi;have o:=h.WY p m (n:=(i:Int)) (by omega) (by omega);rw[K,cond_true];show cU (α:=Unit) ((idx l (i:Int)).bind λ R=>(sb F ⟨l,m,c' l⟩ (i:Int)).bind λ S=>_) _=_
  have M:cut (dt l i) 1 ((dt l i).length:Int)=some (dt l i).tail:=by
   unfold cut;rw[if_pos (by rw[t];simp only[cV];omega)];rw[t];simp
  rw[bq f,ae,o,ae,M,ae,I,oz,qO,ox,f];rfl) (λ k=>by
   rw[zM];show cond (decide ((l.length:Int)<(l.length:Int))) _ _=_
   rw[bG];rfl) (F:=F) (by omega)
 unfold J0;rw[this];cases(dy l.length).findSome? (λ i=>(l[i]?).bind λ c=>Gu l c i)<;>rfl
theorem aBZ(z:1100<F)(h:hY l):BI F l F 0=some (cn ((dy l.length).findSome? λ i=>(l[i]?).bind λ c=>Gu l c i)):=by
 have A:=h.right.len;exact kA _ (by omega) (λ k i hi=>by
  obtain⟨c,d⟩:∃x,l[i]? =some x:=⟨l[i],aH hi⟩
  have B:=bB d;have O:=h.right.methods c B;obtain⟨H,P,I⟩:=h.chain (n:=(i:Int)) (by omega) (by omega);obtain⟨r,C⟩:=Z0 H (by omega);have g:(dt l i).reverse=(dt l i).tail.reverse++[(i:Int)]:=by rw[C];simp
  have m:BJ F l (i:Int) (dt l i).reverse F 0=some (cn ((dt l i).tail.reverse.findSome? (v7 l c))):=each (l:=(dt l i).tail.reverse) (v7 l c) (by simp;omega) (λ k u x o=>by
   have D:=(aM.1 o).1;have af:=I x (List.mem_of_mem_tail (by simpa using bB o));obtain⟨w,f,_⟩:=xR (l:=l) af.1 af.2;have E:w∈l:=by obtain⟨_,_,J⟩:=lk f;exact bB J
   have K:=h.right.methods w E;have L:eJ l x=w.bf:=by unfold eJ;rw[f];rfl
   have e:(dt l i).reverse[u]? =some x:=by rw[g,eW D];exact o
   have p:BK F l (i:Int) (dt l i).reverse (u:Int) F 0=some (cn (v7 l c x)):=each (l:=c.bf) (λ a=>(eJ l x).findSome? (p4 a)) (by omega) (λ k j a s=>by
    have t:=bB s;have v:yH F l (i:Int) (dt l i).reverse (u:Int) (j:Int) F 0=some (cn (w.bf.findSome? (p4 a))):=each (l:=w.bf) (p4 a) (by omega) (λ k q b af=>by
     have M:=bB af;have N:=h.right.method c B a t;have Q:=h.right.method w E b M;rw[yH];simp only[bq e,ae,f,bH (aM.1 af).1,cond_true,bq d,bq s,bq af];rw[aka (by omega) (by omega) z];unfold p4 SU;show cond _ (cond _ _ (dB _ λ r=>cond (!r) _ (cond (!decide (a.Returns=b.Returns)) _ _))) _=_
     by_cases G:a.Name=b.Name
     ·rw[decide_eq_true G]
      simp only[ae,cond_true,jw]
      cases a.Static<;>cases b.Static<;>cases decide (a.cr=b.cr)<;>cases decide (a.Returns=b.Returns)<;>rfl
     ·rw[decide_eq_false G];rfl) (λ k=>by rw[yH];simp only[bq e,ae,f,bG];rfl) (by omega)
    rw[BK,bq d,ae,bH (aM.1 s).1,cond_true,v,oz,qO,ox,L]) (λ k=>by rw[BK,bq d,ae,bG];rfl) (by omega)
   have y:decide ((u:Int)<ar (((dt l i).reverse.length:Int)-1))=true:=by
    rw[cQ (by omega) (by simp;omega)];simp only[kq,List.length_tail]at D;exact decide_eq_true (by simp only[kq];omega)
   rw[BJ,y,cond_true,p,oz,qO,ox]) (λ k=>by
    have y:decide (((dt l i).tail.reverse.length:Int)<ar (((dt l i).reverse.length:Int)-1))=false:=by
     rw[cQ (by omega) (by simp;omega)];exact decide_eq_false (by rw[C];simp)
    rw[BJ,y];rfl) (by simp;omega)
  rw[BI,bH hi,cond_true,Qx z h.right (by omega),ae,m,oz,qO,ox,d,av_ (ade c)];rfl) (λ k=>by rw[BI,bG];rfl) (by omega)
end
end I
namespace I
def wd(W:List Int)(i:Nat):Int:=(W[i]?).getD 0
def iw(k:aP)(t:Int):List Field:=(k.Fields[(t-3).toNat]?).getD []
def fX(k:aP)(t:Int):Bool:=decide (1<=t)&&decide (t<=2+k.aY.length)
def isLen(k:aP)(t n:Int):Bool:=decide (0<=n)&&decide (n<=500)&&(decide (t<3)||decide (n=(iw k t).length))
def gA(k:aP)(t:Int)(j:Nat):Bool:=decide (t=2)||(decide (3<=t)&&((iw k t)[j]?.map λ f=>!decide (f.Kind.Kind=1)).getD false)
structure fS (k:aP):Prop where
 cl:k.aY.length<=1000
 nP:k.Fields.length=k.aY.length
theorem fU{W:List Int}{i:Nat}(h:i<W.length):idx W (i:Int)=some (wd W i):=by
 rw[bq (aH h)];unfold wd;rw[aH h];rfl
theorem o8{W:List Int}{a:Int}{i:Nat}(e:a=(i:Int))(h:i<W.length):idx W a=some (wd W i):=by rw[e];exact fU h
theorem azC{k:aP}{t:Int}:fX k t=true↔1<=t/\t<=2+k.aY.length:=by simp[fX]
theorem l3{k:aP}{t n:Int}:isLen k t n=true↔(0<=n/\n<=500)/\(t<3\/n=(iw k t).length):=by simp[isLen]
section
variable{k:aP}
theorem akk(h:fS k)(t:Int):wE ⟨k⟩ t=some (fX k t):=by
 have hc:=h.cl;unfold wE o2 fX;have e:ar (ar (3+(k.aY.length:Int))-1)=2+k.aY.length:=by rw[cQ (n:=3+(k.aY.length:Int)) (by omega) (by omega),cQ (by omega) (by omega)];omega
 simp only[e,ae];by_cases a:t=1
 ·subst a;simp;omega
 by_cases J:t=2
 ·subst J;simp;omega
 rw[show((decide (t=1))||(decide (t=2)))=false by simp[a,J],cond_false,aD,hT];simp;omega
theorem Qp(h:fS k){t:Int}(a:fX k t=true)(b: ¬t<3):idx k.Fields (ar (t-3))=some (iw k t):=by
 obtain⟨c,J⟩:=azC.1 a;have hc:=h.cl;have ad:=h.nP;rw[cQ (by omega) (by omega)];unfold idx iw;rw[if_pos (by omega)];have:(t-3).toNat<k.Fields.length:=by omega
 rw[aH this];rfl
theorem akl(h:fS k){t:Int}(b:fX k t=true)(n:Int):wF ⟨k⟩ t n=some (isLen k t n):=by
 unfold wF o2 isLen;simp only[ae];cases af:(decide (0<=n)&&decide (n<=500))with
 |false=>simp
 |true=>
  by_cases a:t<3
  ·simp[a]
  ·rw[Qp h b a];simp[a]
theorem ZD(h:fS k){t:Int}(d:fX k t=true){n:Int}(e:isLen k t n=true){j:Nat}(aA:(j:Int)<n):rY ⟨k⟩ t (j:Int)=some (gA k t j):=by
 unfold rY gA;obtain⟨_,a⟩:=l3.1 e;by_cases J:t=2
 ·simp[J]
 by_cases b:t<3
 ·have: ¬3<=t:=by omega
  simp[J,this]
 ·have a:=a.resolve_left b
  have f:3<=t:=by omega
  have c:j<(iw k t).length:=by omega
  rw[Qp h d b,ae,bq (aH c),aH c]
  simp[J,f]
inductive fk (k:aP) (W:List Int) (to:Nat):Nat->List Int->Prop
 |nil:fk k W to to []
 |cons {q:Nat} {r:List Int}:fX k (wd W q)=true->isLen k (wd W q) (wd W (q+1))=true->q+3+(wd W (q+1)).toNat<=to->fk k W to (q+3+(wd W (q+1)).toNat) r->fk k W to q ((q:Int)::r)
theorem fk.inv{W:List Int}{to q:Nat}{L:List Int}(h:fk k W to q L)(d:q<to):∃r,L=(q:Int)::r/\fX k (wd W q)=true/\isLen k (wd W q) (wd W (q+1))=true/\q+3+(wd W (q+1)).toNat<=to/\fk k W to (q+3+(wd W (q+1)).toNat) r:=by
 cases h with
 |nil=>omega
 |cons a J b c=>exact⟨_,rfl,a,J,b,c⟩
theorem aG1(v:bg)(aj:fS v.S.K){to:Nat}(z:to<=v.H.Words.length)(A:v.H.Words.length<=5000):∀(f q:Nat)(acc:List Int)(m:List (Int×Bool)),q<=to->to-q<f->acc.length+(to-q)<=5000 ->(∀p∈m,p.1<(q:Int)) ->
 (∃L,fk v.S.K v.H.Words to q L/\o1 (to:Int) v f acc m (q:Int)=some (.go (acc++L,m++L.map λ a=>(a,true))))\/
 ((∀L,¬fk v.S.K v.H.Words to q L)/\ ∃g,o1 (to:Int) v f acc m (q:Int)=some (.out ([],false,{ v with dz:=g }))):=by
 intro f
 induction f with
 |zero=>intro q acc m _ h;omega
 |succ f d=>
  intro q acc m B ad C j
  rw[o1]
  by_cases c:q<to
  case neg=>
   have:q=to:=by omega
   subst this
   refine .inl ⟨[],.nil,?_⟩
   rw[bG];simp
  rw[bH c,cond_true,cQ (n:=(q:Int)+3) (by omega) (by omega)]
  by_cases s:(to:Int)<(q:Int)+3
  ·rw[decide_eq_true s]
   refine .inr ⟨λ L b=>?_,m,rfl⟩
   obtain⟨_,_,_,_,h,_⟩:=b.inv c
   omega
  rw[decide_eq_false s,cond_false,fU (by omega),ae,cQ (n:=(q:Int)+1) (by omega) (by omega),o8 (i:=q+1) (by omega) (by omega),ae]
  have e1:wE (⟨(⟨v.S.K.aY,v.S.K.aW,v.S.K.Fields,v.S.K.Names,v.S.K.aX⟩:aP)⟩:b4) (wd v.H.Words q)=some (fX v.S.K (wd v.H.Words q)):=akk aj _
  rw[e1,ae]
  cases l:fX v.S.K (wd v.H.Words q)with
  |false=>
   refine .inr ⟨λ L b=>?_,m,rfl⟩
   obtain⟨_,_,h,_⟩:=b.inv c
   rw[l]at h;cases h
  |true=>
   have e2:wF (⟨(⟨v.S.K.aY,v.S.K.aW,v.S.K.Fields,v.S.K.Names,v.S.K.aX⟩:aP)⟩:b4) (wd v.H.Words q) (wd v.H.Words (q+1))=some (isLen v.S.K (wd v.H.Words q) (wd v.H.Words (q+1))):=akl aj l _
   rw[e2,ae,dF,cond_false]
   cases o:isLen v.S.K (wd v.H.Words q) (wd v.H.Words (q+1))with
   |false=>
    refine .inr ⟨λ L b=>?_,m,rfl⟩
    obtain⟨_,_,_,h,_⟩:=b.inv c
    rw[o]at h;cases h
   |true=>
    obtain⟨⟨l0,l1⟩,_⟩:=l3.1 o
    rw[dF,hX,cQ (n:=(q:Int)+3+wd v.H.Words (q+1)) (by omega) (by omega)]
    by_cases t:(to:Int)<(q:Int)+3+wd v.H.Words (q+1)
    ·rw[decide_eq_true t]
     refine .inr ⟨λ L b=>?_,m,rfl⟩
     obtain⟨_,_,_,_,h,_⟩:=b.inv c
     omega
    rw[decide_eq_false t,cond_false,h3 (by simp;omega),ae,cQ (n:=3+wd v.H.Words (q+1)) (by omega) (by omega),cQ (n:=(q:Int)+(3+wd v.H.Words (q+1))) (by omega) (by omega)]
    have u:cF m (q:Int)=none:=by
     clear d e1 e2;induction m with
     |nil=>rfl
     |cons p r d=>
      have aE:=j p jX
      rw[cF,if_neg (by omega)]
      exact d (λ x w=>j x (ez _ w))
    rw[Gx u,show(q:Int)+(3+wd v.H.Words (q+1))=((q+3+(wd v.H.Words (q+1)).toNat:Nat):Int) by omega]
    rcases d (q+3+(wd v.H.Words (q+1)).toNat) (acc++[(q:Int)]) (m++[((q:Int),true)]) (by omega) (by omega) (by simp;omega) (λ p aE=>by
     rcases b3.1 aE with aE |aE
     ·have:=j p aE;omega
     ·simp at aE;subst aE;simp;omega)with⟨L,b,e⟩|⟨y,g,e⟩
    ·refine .inl ⟨(q:Int)::L,.cons l o (by omega) b,?_⟩
     rw[e];simp
    ·refine .inr ⟨λ L b=>?_,g,e⟩
     obtain⟨r,_,_,_,_,h⟩:=b.inv c
     exact y r h
theorem akF{F:Nat}(j:6000<F)(v:bg)(aj:fS v.S.K){q to:Nat}(c:q<=to)(d:to<=v.H.Words.length)(f:v.H.Words.length<=5000)(g:∀p∈v.dz,p.1<(q:Int)) :
 (∃L,fk v.S.K v.H.Words to q L/\mK F v (q:Int) (to:Int)=some (L,true,{ v with dz:=v.dz++L.map λ a=>(a,true) }))\/
 ((∀L,¬fk v.S.K v.H.Words to q L)/\ ∃b,mK F v (q:Int) (to:Int)=some ([],false,{ v with dz:=b })):=by
 unfold mK
 rcases aG1 v aj d f F q [] v.dz c (by omega) (by simp;omega) g with⟨L,h,e⟩|⟨i,b,e⟩
 ·exact .inl ⟨L,h,by rw[e,qN];simp⟩
 ·exact .inr ⟨i,b,by rw[e,akh]⟩
end
end I
namespace I
def refs(k:aP)(W:List Int)(q:Nat):List Int:=(dy (wd W (q+1)).toNat).flatMap λ j=>if gA k (wd W q) j then[((q+3+j:Nat):Int)]else[]
theorem J9{k:aP}{W:List Int}{q:Nat}{x:Int}:x∈refs k W q↔ ∃j,j<(wd W (q+1)).toNat/\gA k (wd W q) j=true/\x=((q+3+j:Nat):Int):=by
 unfold refs;rw[ho];constructor
 ·rintro⟨j,aA,a⟩
  split at a
  ·rename_i h;exact⟨j,by simpa using aA,h,by simpa using a⟩
  ·cases a
 ·rintro⟨j,aA,h,e⟩
  exact⟨j,by simpa using aA,by rw[if_pos h,e];simp⟩
section
variable{F:Nat}{k:aP}
theorem aF4(m:6000<F)(v:bg)(aj:fS v.S.K){q:Nat}(d:q+3+(wd v.H.Words (q+1)).toNat<=v.H.Words.length)(o:v.H.Words.length<=5000)(e:fX v.S.K (wd v.H.Words q)=true)(b:isLen v.S.K (wd v.H.Words q) (wd v.H.Words (q+1))=true) :
 qd F v (q:Int)=some (refs v.S.K v.H.Words q):=by
 obtain⟨⟨l0,l1⟩,_⟩:=l3.1 b
 unfold qd
 rw[cQ (n:=(q:Int)+1) (by omega) (by omega),o8 (i:=q+1) (by omega) (by omega),ae]
 generalize g:(wd v.H.Words (q+1)).toNat=n at d
 have h:wd v.H.Words (q+1)=(n:Int):=by omega
 have c:=b
 rw[h]at c⊢
 have l1:=vP (l:=dy n) (λ k acc i=>wG (q:Int) v (n:Int) k acc (i:Int)) (λ j=>if gA v.S.K (wd v.H.Words q) j then[((q+3+j:Nat):Int)]else[]) 1 5000 (λ x _=>by split<;>simp) (λ f i x acc a p=>by
  have hi:i<n:=by have:=(aM.1 a).1;simpa using this
  rw[kW hi]at a;simp only[aD]at a;subst a;rw[wG,bH hi,cond_true,fU (by omega),ae];have e1:rY (⟨(⟨v.S.K.aY,v.S.K.aW,v.S.K.Fields,v.S.K.Names,v.S.K.aX⟩:aP)⟩:b4) (wd v.H.Words q) (i:Int)=some (gA v.S.K (wd v.H.Words q) i):=ZD aj e c (by omega);rw[e1,ae];show _=wG (q:Int) v (n:Int) f _ _
  cases gA v.S.K (wd v.H.Words q) i with
  |true=>
   rw[cond_true,cQ (n:=(q:Int)+3) (by omega) (by omega),cQ (n:=(q:Int)+3+i) (by omega) (by omega),h3 (by simp;omega),ae,ae,eG hi (by omega),if_pos rfl]
   congr 2
  |false=>
   rw[cond_false,ae,eG hi (by omega),if_neg (by decide),gL]) (λ f acc=>by
  rw[iS,wG,bG];rfl) (F:=F) (by simp;omega) (acc:=[]) (by simp;omega)
 have l1:wG (q:Int) v (n:Int) F [] 0=_:=l1
 rw[l1,ae,jy,refs,g]
theorem adg(o:10000<F){ls:List (List Int)}(p:ls.length<=10)(J:ls.flatten.length<=10000):G8 F ls=some ls.flatten:=by
 unfold G8;have c:∀(d i f:Nat)(n:Int),i+d=ls.length->d<f->0<=n->n+(ls.drop i).flatten.length<=10000 ->xN ls f n (i:Int)=some (n+(ls.drop i).flatten.length):=by
  intro d;induction d with
  |zero=>
   intro i f n h ad m _
   obtain⟨f,rfl⟩:∃a,f=a+1:=⟨f-1,by omega⟩
   have:i=ls.length:=by omega
   subst this
   rw[xN,bG];simp
  |succ d e=>
   intro i f n h ad m af
   obtain⟨f,rfl⟩:∃a,f=a+1:=⟨f-1,by omega⟩
   have hi:i<ls.length:=by omega
   rw[cw hi]at af
   simp only[lq,dS]at af
   rw[xN,bH hi,cond_true,bq (aH hi),ae,cQ (n:=n+((ls[i]).length:Int)) (by omega) (by omega),show decide (n+((ls[i]).length:Int)<0)=false from decide_eq_false (by omega),cond_false,ae,eG hi (by omega),e (i+1) f _ (by omega) (by omega) (by omega) (by omega),cw hi]
   simp only[lq,dS]
   congr 1;omega
 have g:=c ls.length 0 F 0 (by omega) (by omega) (by omega) (by simp at J⊢;omega);have g:xN ls F 0 0=some (0+((ls.drop 0).flatten.length:Int)):=g;rw[g,ae,fK,Int.zero_add];have b:Qg (ls.flatten.length:Int)=some []:=by
  unfold Qg;rw[show decide ((ls.flatten.length:Int)<0)=false from decide_eq_false (by omega),cond_false,ae,cQ (n:=(ls.flatten.length:Int)-0) (by omega) (by omega),Int.sub_zero];by_cases j:(0 :Int)<(ls.flatten.length:Int)
  ·rw[decide_eq_true j,cond_true]
   unfold Ig
   rw[if_pos ⟨j,by omega⟩];rfl
  ·rw[decide_eq_false j];rfl
 rw[b,ae];have l:∀(d i f:Nat)(acc:List Int),i+d=ls.length->d<f->acc.length+(ls.drop i).flatten.length<=10000 ->xO ls f acc (i:Int)=some (acc++(ls.drop i).flatten):=by
  intro d;induction d with
  |zero=>
   intro i f n h ad m
   obtain⟨f,rfl⟩:∃a,f=a+1:=⟨f-1,by omega⟩
   have:i=ls.length:=by omega
   subst this
   rw[xO,bG];simp
  |succ d e=>
   intro i f acc h ad af
   obtain⟨f,rfl⟩:∃a,f=a+1:=⟨f-1,by omega⟩
   have hi:i<ls.length:=by omega
   rw[cw hi]at af
   simp only[lq,dS]at af
   rw[xO,bH hi,cond_true,bq (aH hi),ae,h3 (by omega),ae,eG hi (by omega),e (i+1) f _ (by omega) (by omega) (by simp only[dS];omega),cw hi,lq,gT]
 have b:=l ls.length 0 F [] (by omega) (by omega) (by simp at J⊢;omega);have b:xO ls F [] 0=some ([]++(ls.drop 0).flatten):=b;rw[b];simp
theorem all_eq(a:10000<F)(v:bg)(h:v.av.length+v.aL.length<=10000):zq F v=some (v.av++v.aL):=by
 unfold zq;rw[adg a (by simp) (by simp;omega)];simp
def aj(W:List Int)(a:Int):Int:=wd W (a.toNat+2)
def Au(l:List Int)(m:List (Int×Bool)):List (Int×Bool):=l.foldl (λ m x=>gC m x true) m
theorem aje:∀(l:List Int)(m:List (Int×Bool)),(Au l m).length<=m.length+l.length/\((Au l m).length=m.length+l.length↔l.Nodup/\ ∀x∈l,(cF m x).isSome=false)
 |[],m=>by simp[Au]
 |x::r,m=>by
  have d:=aje r (gC m x true);have e:Au (x::r) m=Au r (gC m x true):=rfl;rw[e];have b:=OZ (k:=x) (v:=true) m;rw[cV];cases c:(cF m x).isSome with
  |true=>
   rw[c,if_pos rfl]at b
   rw[b]at d
   refine⟨by omega,⟨λ h=>by omega,λ h=>?_⟩⟩
   have:=h.2 x jX
   rw[c]at this;cases this
  |false=>
   rw[c,if_neg (by decide)]at b
   rw[b]at d
   refine⟨by omega,?_⟩
   rw[show m.length+(r.length+1)=m.length+1+r.length by omega,d.2,iO]
   constructor
   ·rintro⟨f,J⟩
    refine⟨⟨λ i=>?_,f⟩,λ y hy=>?_⟩
    ·have:=J x i
     have a:=(J' (k:=x) (s:=x) (v:=true) m).2 (.inl rfl)
     rw[this]at a;cases a
    ·rcases cm.1 hy with rfl |hy
     ·exact c
     ·cases g:(cF m y).isSome with
      |false=>rfl
      |true=>
       have a:=(J' (k:=x) (s:=y) (v:=true) m).2 (.inr g)
       rw[J y hy]at a;cases a
   ·rintro⟨⟨f,J⟩,a⟩
    refine⟨J,λ y hy=>?_⟩
    cases g:(cF (gC m x true) y).isSome with
    |false=>rfl
    |true=>
     rcases(J' (k:=x) (s:=y) (v:=true) m).1 g with e |e
     ·subst e;exact absurd hy f
     ·rw[a y (ez _ hy)]at e;cases e
def lT(v:bg)(a:Int):Bool:=decide (aj v.H.Words a<1)||decide (v.H.Next<=aj v.H.Words a)
theorem aw1(v:bg)(r:List Int)(e:r.length<=10000)(af:∀a∈r,0<=a/\a.toNat+3<=v.H.Words.length)(g:v.H.Words.length<=5000):∀(d i f:Nat)(m:List (Int×Bool)),i+d=r.length->d<f ->
 wH v r f m (i:Int)=if(r.drop i).any (lT v)then some (.out 3)else some (.go (Au ((r.drop i).map (aj v.H.Words)) m)):=by
 intro d
 induction d with
 |zero=>
  intro i f m h ad
  obtain⟨f,rfl⟩:∃b,f=b+1:=⟨f-1,by omega⟩
  have:i=r.length:=by omega
  subst this
  rw[wH,bG];simp[Au]
 |succ d c=>
  intro i f m h ad
  obtain⟨f,rfl⟩:∃b,f=b+1:=⟨f-1,by omega⟩
  have hi:i<r.length:=by omega
  obtain⟨j,l⟩:=af r[i] (hC hi)
  rw[wH,bH hi,cond_true,bq (aH hi),ae,cQ (n:=r[i]+2) (by omega) (by omega),o8 (i:=(r[i]).toNat+2) (by omega) (by omega),ae,cw hi,List.any_cons]
  show cond (lT v r[i]) _ _=_
  cases lT v r[i]with
  |true=>rfl
  |false=>
   rw[cond_false,eG hi (by omega),c (i+1) f _ (by omega) (by omega),hX]
   rfl
theorem aw0(f:10000<F)(v:bg)(h:v.av.length+v.aL.length<=5000)(af:∀a∈v.av++v.aL,0<=a/\a.toNat+3<=v.H.Words.length)(g:v.H.Words.length<=5000)(b:v.dz.length=(v.av++v.aL).length) :
 F2 F v=some (if(v.av++v.aL).any (lT v)then 3 else if((v.av++v.aL).map (aj v.H.Words)).Nodup then 0 else 6):=by
 unfold F2
 have e:zq F (⟨(⟨v.H.Words,v.H.av,v.H.aL,v.H.aU,v.H.aT,v.H.aS,v.H.Next⟩:aR),(⟨(⟨v.S.K.aY,v.S.K.aW,v.S.K.Fields,v.S.K.Names,v.S.K.aX⟩:aP)⟩:b4),v.av,v.aL,v.dz⟩:bg)=some (v.av++v.aL):=all_eq f v (by omega)
 rw[e,ae]
 have l1:=aw1 v (v.av++v.aL) (by simp;omega) af g (v.av++v.aL).length 0 F [] (by omega) (by simp;omega)
 have l1:wH v (v.av++v.aL) F [] 0=_:=l1
 rw[l1,fK]
 cases(v.av++v.aL).any (lT v)with
 |true=>rfl
 |false=>
  rw[if_neg (by decide),if_neg (by decide),qN]
  obtain⟨i,d⟩:=aje ((v.av++v.aL).map (aj v.H.Words)) []
  rw[hl,gr,ji]at i d
  by_cases c:((v.av++v.aL).map (aj v.H.Words)).Nodup
  ·rw[if_pos c]
   have:=d.2 ⟨c,λ _ _=>rfl⟩
   rw[decide_eq_false (by rw[this,b];omega)];rfl
  ·rw[if_neg c]
   have:(Au ((v.av++v.aL).map (aj v.H.Words)) []).length≠(v.av++v.aL).length:=λ e=>c (d.1 e).1
   rw[decide_eq_true (by rw[b];omega)];rfl
end
end I
namespace I
def Cn(l:List Int):Prop:=∀a b,a<b->b<l.length->wd l a<wd l b
theorem ZM{l:List Int}(h:∀i,i+1<l.length->wd l i<wd l (i+1)):Cn l:=by
 intro a b d;induction b with
 |zero=>omega
 |succ b c=>
  intro af
  by_cases e:a=b
  ·subst e;exact h a af
  ·exact Int.lt_trans (c (by omega) (by omega)) (h b af)
theorem Z9{l:List Int}{i:Nat}(h:i<l.length):wd l i∈l:=by unfold wd;rw[aH h];exact hC h
theorem pz{l:List Int}{i:Nat}{x:Int}(h:l[i]? =some x):wd l i=x:=by unfold wd;rw[h];rfl
theorem W8{l:List Int}{x:Int}(h:x∈l):∃i,i<l.length/\wd l i=x:=by
 obtain⟨i,hi,e⟩:=kX h;exact⟨i,hi,pz (by rw[aH hi,e])⟩
theorem ai4{α:Type}{p:α->Bool}:∀ {l:List α},(en p l).isSome=l.any p
 |[]=>rfl
 |x::r=>by
  rw[en,List.any_cons];cases h:p x with
  |true=>rfl
  |false=>simp only[hv,if_false,hX];rw[<-ai4 (l:=r)];cases en p r<;>rfl
theorem TN{α:Type}{l:List α}{L:Nat->Int->Option (Way Int Unit)}(p:α->Bool)(a:l.length<=140737488355328)
 (aj:∀k (i:Nat) x,l[i]? =some x->L (k+1) (i:Int)=cond (p x) (some (.out (i:Int))) (L k (ar ((i:Int)+1))))
 (b:∀k,L (k+1) (l.length:Int)=some (.go ())){F:Nat}(c:l.length<F):((ca (α:=Unit) (L F 0) λ(_:Unit)=>some (-1)).bind λ r=>some (decide ((0 :Int)<=r)))=some (l.any p):=by
 rw[TP p (λ n:Nat=>(n:Int)) a aj b c,<-ai4]
 cases en p l with
 |none=>rfl
 |some i=>
  show some (decide ((0 :Int)<=(i:Int)))=_
  rw[decide_eq_true (by omega)];rfl
section
variable{F:Nat}
theorem aGJ{l:List Int}(k:l.length<=10000)(t:Int):∀(f i j:Nat),i<=j->j<=l.length->j-i<f->(∀a,a<i->wd l a<t)->(∀a,j<=a->a<l.length->t<=wd l a)->Cn l ->
 ∃p:Nat,uL t l f (i:Int) (j:Int)=some (p:Int)/\p<=l.length/\(∀a,a<p->wd l a<t)/\(∀a,p<=a->a<l.length->t<=wd l a):=by
 intro f
 induction f with
 |zero=>intro i j _ _ h;omega
 |succ f b=>
  intro i j m aA ad c J aj
  rw[uL]
  by_cases h:i<j
  case neg=>
   have:i=j:=by omega
   subst this
   rw[bG]
   exact⟨i,rfl,aA,c,J⟩
  have d:ar (xM (Hf (ar ((i:Int)+(j:Int)))) 1)=(((i+j) / 2 :Nat):Int):=by
   rw[cQ (n:=(i:Int)+j) (by omega) (by omega)];unfold Hf xM;rw[cQ (by omega) (by omega)];omega
  have o:(i+j) / 2<j:=by omega
  have q:i<=(i+j) / 2:=by omega
  rw[bH h,cond_true,d,fU (by omega),ae]
  unfold cmp_Less_int cmp_isNaN_int
  rw[ae,show(!decide (wd l ((i+j) / 2)=wd l ((i+j) / 2)))=false by simp,cond_false,ae]
  by_cases hc:wd l ((i+j) / 2)<t
  ·rw[decide_eq_true hc,cond_true,ae]
   show∃p:Nat,uL t l f (ar ((((i+j) / 2 :Nat):Int)+1)) (j:Int)=_/\_
   rw[cQ (n:=(((i+j) / 2 :Nat):Int)+1) (by omega) (by omega),show(((i+j) / 2 :Nat):Int)+1=(((i+j) / 2+1 :Nat):Int) by omega]
   refine b ((i+j) / 2+1) j (by omega) aA (by omega) (λ a g=>?_) J aj
   by_cases e:a=(i+j) / 2
   ·subst e;exact hc
   ·exact Int.lt_trans (aj a ((i+j) / 2) (by omega) (by omega)) hc
  ·rw[decide_eq_false hc,cond_false,ae]
   show∃p:Nat,uL t l f (i:Int) (((i+j) / 2 :Nat):Int)=_/\_
   refine b i ((i+j) / 2) (by omega) (by omega) (by omega) c (λ a g af=>?_) aj
   by_cases e:a=(i+j) / 2
   ·subst e;omega
   ·have:=aj ((i+j) / 2) a (by omega) af
    omega
theorem aGI(n:10000<F){l:List Int}(j:l.length<=10000)(aj:Cn l)(t:Int) :
 ∃p:Nat,KX F l t=some ((p:Int),decide (t∈l))/\p<=l.length/\(∀a,a<p->wd l a<t)/\(∀a,p<=a->a<l.length->t<=wd l a):=by
 obtain⟨p,e,k,f,J⟩:=aGJ j t F 0 l.length (by omega) (cu _) (by omega) (λ a b=>by omega) (λ a b af=>by omega) aj
 refine⟨p,?_,k,f,J⟩
 unfold KX
 have e:uL t l F 0 (l.length:Int)=some (p:Int):=e
 rw[e,ae]
 by_cases c:p<l.length
 ·rw[bH c,cond_true,fU c,ae]
  by_cases d:wd l p=t
  ·rw[decide_eq_true d,cond_true,decide_eq_true (d▸Z9 c)]
  ·have g: ¬t∈l:=λ h=>by
    obtain⟨a,b,i⟩:=W8 h;by_cases m:a<p
    ·have:=f a m;omega
    ·have o:=J p (cu _) c
     by_cases e:a=p
     ·subst e;exact d i
     ·have:=aj p a (by omega) b;omega
   rw[decide_eq_false d,cond_false,ae,decide_eq_false g];unfold Qk;rw[ae,show(!decide (wd l p=wd l p))=false by simp,cond_false]
 ·have:p=l.length:=by omega
  subst this
  have g: ¬t∈l:=λ h=>by
   obtain⟨a,b,i⟩:=W8 h;have:=f a b;omega
  rw[bG,cond_false,decide_eq_false g]
structure ry (v:bg) (a:Int):Prop where
 pos:0<=a
 fit:a.toNat+3+(wd v.H.Words (a.toNat+1)).toNat<=v.H.Words.length
 tag:fX v.S.K (wd v.H.Words a.toNat)=true
 len:isLen v.S.K (wd v.H.Words a.toNat) (wd v.H.Words (a.toNat+1))=true
structure oS (v:bg):Prop where
 pv:fS v.S.K
 fq:v.H.Words.length<=4900
 rG:v.av.length+v.aL.length<=5000
 sF:∀a∈v.av++v.aL,ry v a
 dz:∀x,(cF v.dz x).getD false=decide (x∈v.av++v.aL)
theorem ry.Zo{v:bg}{a:Int}(b:oS v)(h:ry v a)(c:6000<F):qd F v a=some (refs v.S.K v.H.Words a.toNat):=by
 have:=aF4 c v b.pv h.fit (by have:=b.fq;omega) h.tag h.len;rwa [show((a.toNat:Nat):Int)=a by have:=h.pos;omega]at this
theorem ry.PX{v:bg}{a w:Int}(h:ry v a)(b:w∈refs v.S.K v.H.Words a.toNat):idx v.H.Words w=some (wd v.H.Words w.toNat):=by
 obtain⟨j,aA,_,e⟩:=J9.1 b;have:=h.fit;subst e;exact fU (by omega)
theorem PY{v:bg}{a:Int}(b:oS v)(h:ry v a):(refs v.S.K v.H.Words a.toNat).length<=5000:=by
 have:(refs v.S.K v.H.Words a.toNat).length<=1*(dy (wd v.H.Words (a.toNat+1)).toNat).length:=zf λ x _=>by split<;>simp
 have c:=h.fit;have J:=b.fq;rw[iS]at this;omega
def uR(v:bg)(w:Int):Bool:=!decide (wd v.H.Words w.toNat=0)&& !decide (wd v.H.Words w.toNat∈v.av++v.aL)
def oq(v:bg)(a:Int):Bool:=(refs v.S.K v.H.Words a.toNat).any (uR v)
def free(h:aR):List Int:=h.Words.take 1++((h.Words.take (h.av+1).toNat).drop h.aU.toNat++h.Words.drop h.aT.toNat)
theorem nS{α:Type}{p:α->Bool}{e:Int}:∀l:List α,l.findSome? (λ x=>if p x then some e else none)=if l.any p then some e else none
 |[]=>rfl
 |x::r=>by
  rw[h5,List.any_cons];cases p x with
  |true=>rfl
  |false=>simp only[hv,if_false,hX];exact nS r
theorem aHP(j:10000<F){v:bg}(b:oS v)(q:0<=v.H.av)(r:0<=v.H.aU/\v.H.aU<=v.H.av+1/\v.H.av+1<=v.H.Words.length)(J:0<=v.H.aT/\v.H.aT<=v.H.Words.length) :
 F4 F v=some (if(v.av++v.aL).any (oq v)then 5 else if(free v.H).any (λ x=>!decide (x=0))then 1 else 0):=by
 have hc:=b.rG;have s:=b.fq
 unfold F4
 have e:zq F (⟨(⟨v.H.Words,v.H.av,v.H.aL,v.H.aU,v.H.aT,v.H.aS,v.H.Next⟩:aR),(⟨(⟨v.S.K.aY,v.S.K.aW,v.S.K.Fields,v.S.K.Names,v.S.K.aX⟩:aP)⟩:b4),v.av,v.aL,v.dz⟩:bg)=some (v.av++v.aL):=all_eq j v (by omega)
 rw[e,ae]
 have l1:zr F v (v.av++v.aL) F 0=some (cn ((v.av++v.aL).findSome? λ a=>if oq v a then some 5 else none)):=each _ (by simp;omega) (λ f i a c=>by
  have m:=bB c;have d:=b.sF a m;rw[zr,bH (aM.1 c).1,cond_true,bq c,ae];have e2:qd F (⟨(⟨v.H.Words,v.H.av,v.H.aL,v.H.aU,v.H.aT,v.H.aS,v.H.Next⟩:aR),(⟨(⟨v.S.K.aY,v.S.K.aW,v.S.K.Fields,v.S.K.Names,v.S.K.aX⟩:aP)⟩:b4),v.av,v.aL,v.dz⟩:bg) a=some (refs v.S.K v.H.Words a.toNat):=d.Zo b (by omega);have Gd:=PY b d;rw[e2,ae];have n:wJ v (refs v.S.K v.H.Words a.toNat) F 0=some (cn ((refs v.S.K v.H.Words a.toNat).findSome? λ w=>if uR v w then some 5 else none)):=each _ (by omega) (λ o t w g=>by
   have p:=bB g;rw[wJ,bH (aM.1 g).1,cond_true,bq g,ae,d.PX p,ae,b.dz];unfold uR;cases decide (wd v.H.Words w.toNat=0)<;>cases decide (wd v.H.Words w.toNat∈v.av++v.aL)<;>rfl) (λ o=>by rw[wJ,bG];rfl) (by omega)
  rw[n,nS];show _=gR (if(refs v.S.K v.H.Words a.toNat).any (uR v)then some 5 else none) _
  cases(refs v.S.K v.H.Words a.toNat).any (uR v)<;>rfl) (λ f=>by rw[zr,bG];rfl) (by simp;omega)
 rw[l1,nS]
 cases(v.av++v.aL).any (oq v)with
 |true=>rfl
 |false=>
  simp only[hv,if_false,cn,qN]
  have c1:cut v.H.Words 0 1=some (v.H.Words.take 1):=by
   unfold cut;rw[if_pos ⟨by omega,by omega,by omega⟩];rfl
  have c2:cut v.H.Words v.H.aU (ar (v.H.av+1))=some ((v.H.Words.take (v.H.av+1).toNat).drop v.H.aU.toNat):=by
   rw[cQ (by omega) (by omega)];unfold cut;rw[if_pos ⟨by omega,by omega,by omega⟩]
  have c3:cut v.H.Words v.H.aT (v.H.Words.length:Int)=some (v.H.Words.drop v.H.aT.toNat):=by
   unfold cut;rw[if_pos ⟨by omega,by omega,by omega⟩,cN,jP]
  have u:(free v.H).length<=10000:=by unfold free;simp;omega
  rw[c1,c2,c3,ae,ae,ae,adg j (by simp) (by simp;omega),ae]
  have h:[v.H.Words.take 1,(v.H.Words.take (v.H.av+1).toNat).drop v.H.aU.toNat,v.H.Words.drop v.H.aT.toNat].flatten=free v.H:=by simp[free]
  rw[h]
  unfold Qd Qi
  rw[TN (l:=free v.H) (L:=AM (free v.H)) (λ x=>!decide (x=0)) (by omega) (λ f i x k=>by
   rw[AM,bH (aM.1 k).1,cond_true,bq k,ae];rfl) (λ f=>by rw[AM,bG];rfl) (by omega),ae]
  cases(free v.H).any (λ x=>!decide (x=0))<;>rfl
def kh(v:bg)(x:Int):Bool:=decide (0<x)&&decide (x<=v.H.av)
def sq(v:bg)(x:Int):Bool:=!decide (x∈v.av++v.aL)||kh v x||(refs v.S.K v.H.Words x.toNat).isEmpty
def hx(v:bg)(i:Nat):Bool:=(decide (0<i)&&decide (wd v.H.aS i<=wd v.H.aS (i-1)))||sq v (wd v.H.aS i)
def pO(v:bg)(x:Int):Bool:=!decide (x∈v.H.aS)&&(refs v.S.K v.H.Words x.toNat).any λ w=>kh v (wd v.H.Words w.toNat)
theorem aCX(f:10000<F){v:bg}(b:oS v)(x:Int)(Y:Option (Way Int Unit)):(cond (!((cF v.dz x).getD false)) (some (.out 4)) ((F1 v x).bind λ d=>
 cond (d) (some (.out 4)) ((qd F v x).bind λ e=>
 cond (decide ((e.length:Int)=0)) (some (.out 4)) Y)))=gR (if sq v x then some 4 else none) Y:=by
 rw[b.dz]
 unfold sq
 by_cases c:x∈v.av++v.aL
 ·rw[decide_eq_true c,(b.sF x c).Zo b (by omega)]
  show cond (kh v x) _ ((some _).bind _)=_
  cases kh v x with
  |true=>rfl
  |false=>
   rw[cond_false,ae]
   cases refs v.S.K v.H.Words x.toNat with
   |nil=>rfl
   |cons a r=>rw[decide_eq_false (by simp;omega)];rfl
 ·rw[decide_eq_false c];rfl
theorem aCW(k:10000<F){v:bg}(a:oS v)(s:v.H.aS.length<=140737488355328)(t:v.H.aS.length<F)(c:(∀i,i<v.H.aS.length->hx v i=false)->v.H.aS.length<=10000) :
 F3 F v=some (if(dy v.H.aS.length).any (hx v)||v.aL.any (pO v)then 4 else 0):=by
 have hc:=a.rG;have B:=a.fq
 unfold F3
 have l1:tO F v F 0=some (cn ((dy v.H.aS.length).findSome? λ i=>if hx v i then some 4 else none)):=kA _ s (λ f i hi=>by
  have m:=aCX k a (wd v.H.aS i) (tO F v f (ar ((i:Int)+1)));rw[tO,bH hi,cond_true,fU hi,ae];unfold hx;by_cases o:0<i
  ·rw[show decide ((0 :Int)<(i:Int))=true from decide_eq_true (by omega),cond_true,cQ (n:=(i:Int)-1) (by omega) (by omega),o8 (i:=i-1) (by omega) (by omega),ae,decide_eq_true o,jw]
   cases decide (wd v.H.aS i<=wd v.H.aS (i-1))with
   |true=>rfl
   |false=>exact m
  ·rw[show decide ((0 :Int)<(i:Int))=false from decide_eq_false (by omega),cond_false,decide_eq_false o,Bool.false_and,hX]
   exact m) (λ f=>by rw[tO,bG];rfl) t
 rw[l1,nS]
 cases af:(dy v.H.aS.length).any (hx v)with
 |true=>rfl
 |false=>
  have q:∀i,i<v.H.aS.length->hx v i=false:=λ i hi=>by
   rw[ih]at af;simpa using af i (by simpa using hi)
  have b:=c q
  have d:Cn v.H.aS:=ZM λ i hi=>by
   have:=q (i+1) hi;unfold hx at this;simp only[hQ,lz,decide_eq_false_iff_not,Nat.add_sub_cancel]at this;rcases this.1 with h |h<;>omega
  simp only[hv,if_false,cn,qN,hX]
  have u:wI F v F 0=some (cn (v.aL.findSome? λ x=>if pO v x then some 4 else none)):=each _ (by omega) (λ f i x e=>by
   have y:x∈v.av++v.aL:=iZ _ (bB e);have g:=a.sF x y;obtain⟨p,z,_⟩:=aGI k b d x;rw[wI,bH (aM.1 e).1,cond_true,bq e,ae,z,ae];unfold pO;by_cases r:x∈v.H.aS
   ·rw[decide_eq_true r];rfl
   ·rw[decide_eq_false r]
    have e2:qd F (⟨(⟨v.H.Words,v.H.av,v.H.aL,v.H.aU,v.H.aT,v.H.aS,v.H.Next⟩:aR),(⟨(⟨v.S.K.aY,v.S.K.aW,v.S.K.Fields,v.S.K.Names,v.S.K.aX⟩:aP)⟩:b4),v.av,v.aL,v.dz⟩:bg) x=some (refs v.S.K v.H.Words x.toNat):=g.Zo a (by omega)
    have Gd:=PY a g
    simp only[iy,cond_true,jw]
    rw[e2,ae]
    unfold Qc Qh
    rw[TN (l:=refs v.S.K v.H.Words x.toNat) (L:=AL (refs v.S.K v.H.Words x.toNat) v) (λ w=>kh v (wd v.H.Words w.toNat)) (by omega) (λ A C w j=>by
     rw[AL,bH (aM.1 j).1,cond_true,bq j,ae];unfold NP;rw[g.PX (bB j)];rfl) (λ A=>by rw[AL,bG];rfl) (by omega),ae]
    cases(refs v.S.K v.H.Words x.toNat).any (λ w=>kh v (wd v.H.Words w.toNat))<;>rfl) (λ f=>by rw[wI,bG];rfl) (by omega)
  rw[u,nS]
  cases v.aL.any (pO v)<;>rfl
end
end I
namespace I
def Pm:aP:=⟨[],[],[],[],[]⟩
def rows{β:Type}(f:Int->β)(i:Nat):List β:=(dy i).map λ j:Nat=>f (j:Int)
theorem G3{β:Type}(f:Int->β)(i:Nat):rows f (i+1)=rows f i++[f (i:Int)]:=by simp[rows,List.range_succ]
def linked(l:List ak):aP:=⟨l,c' l,rows (fx l) l.length,rows (λ i=>(hf l i).1) l.length,rows (λ i=>(hf l i).2) l.length⟩
def Fl(l:List ak)(i:Nat):Option (aP×Int):=if 12<(fx l i).length\/16<(hf l i).1.length then some (Pm,2)else none
section
variable{F:Nat}{l:List ak}
theorem acN(x y:Nat):((decide ((12 :Int)<(x:Int)))||(decide ((16 :Int)<(y:Int))))=decide (12<x\/16<y):=by
 rw[hT];simp;omega
theorem aBB(c:1100<F)(h:hY l)(a b:Int×bp)(e:a.2.bV=eL 0 l)(f:b.2.dl=c' l) :
 n' F l a b F [] [] [] 0=some (Eh ((dy l.length).findSome? (Fl l)) (rows (λ i=>(hf l i).2) l.length,rows (λ i=>(hf l i).1) l.length,rows (fx l) l.length)):=by
 have d:=h.right.len
 refine Sy (n:=l.length) (λ k i=>n' F l a b k (rows (λ i=>(hf l i).2) i) (rows (λ i=>(hf l i).1) i) (rows (fx l) i) (i:Int)) _ _ (λ k i hi=>?_) (λ k=>?_) (F:=F) (by omega)
 ·show n' F l a b (k+1) (rows (λ i=>(hf l i).2) i) (rows (λ i=>(hf l i).1) i) (rows (fx l) i) (i:Int)=_
  rw[n',bH hi,cond_true,e,f,h.aBC c (eL 0 l) (by omega) (by omega),ae,h.WZ c (eL 0 l) (by omega) (by omega),ae,
   h3 (by simp only[rows,hl,iS,cV,gr];omega),ae,h3 (by simp only[rows,hl,iS,cV,gr];omega),ae,
   h3 (by simp only[rows,hl,iS,cV,gr];omega),ae,bq (i:=i) (x:=fx l i) (by simp[rows]),ae,acN,eG hi (by omega),<-G3 (fx l),<-G3 (λ i=>(hf l i).1),<-G3 (λ i=>(hf l i).2)]
  unfold Fl
  by_cases af:12<(fx l i).length\/16<(hf l i).1.length
  ·rw[decide_eq_true af,if_pos af];rfl
  ·rw[decide_eq_false af,if_neg af];rfl
 ·show n' F l a b (k+1) (rows (λ i=>(hf l i).2) l.length) (rows (λ i=>(hf l i).1) l.length) (rows (fx l) l.length) (l.length:Int)=_
  rw[n',bG];rfl
theorem aF1(a:1100<F)(h:hY l) :
 rn F l F [] [] [] [] 0=some (Eh ((dy l.length).findSome? (Fl l)) (rows (λ i=>(hf l i).2) l.length,rows (λ i=>(hf l i).1) l.length,rows (fx l) l.length,c' l)):=by
 have b:=h.right.len
 refine Sy (n:=l.length) (λ k i=>rn F l k (rows (λ i=>(hf l i).2) i) (rows (λ i=>(hf l i).1) i) (rows (fx l) i) ((c' l).take i) (i:Int)) _ _ (λ k i hi=>?_) (λ k=>?_) (F:=F) (by omega)
 ·obtain⟨x,c⟩:∃x,l[i]? =some x:=⟨l[i],aH hi⟩
  have e3:(c' l).take i++[cL l x.cR]=(c' l).take (i+1):=by rw[kg,ZO c];rfl
  show rn F l (k+1) (rows (λ i=>(hf l i).2) i) (rows (λ i=>(hf l i).1) i) (rows (fx l) i) ((c' l).take i) (i:Int)=_
  rw[rn,bH hi,cond_true,h.Zj a (by omega) (by omega),ae,h.aF2 a (by omega) (by omega),ae,acN,bq c,ae,yL ⟨by omega,by omega⟩,ae,
   h3 (by simp only[fP,G9,cV,gr];omega),ae,
   h3 (by simp only[rows,hl,iS,cV,gr];omega),ae,h3 (by simp only[rows,hl,iS,cV,gr];omega),ae,
   h3 (by simp only[rows,hl,iS,cV,gr];omega),ae,eG hi (by omega),<-G3 (fx l),<-G3 (λ i=>(hf l i).1),<-G3 (λ i=>(hf l i).2),e3]
  unfold Fl
  by_cases af:12<(fx l i).length\/16<(hf l i).1.length
  ·rw[decide_eq_true af,if_pos af];rfl
  ·rw[decide_eq_false af,if_neg af];rfl
 ·show rn F l (k+1) (rows (λ i=>(hf l i).2) l.length) (rows (λ i=>(hf l i).1) l.length) (rows (fx l) l.length) ((c' l).take l.length) (l.length:Int)=_
  rw[rn,bG,hF (by rw[G9];omega)];rfl
theorem sr{α:Type}{e:Int}(h:e≠0){x y:α}:cond (!decide (e=0)) x y=x:=by rw[decide_eq_false h];rfl
theorem rI{α:Type}{x y:α}:cond (!decide ((0 :Int)=0)) x y=y:=rfl
theorem aG_{e:Int}(h:l.findSome? uP=some e):e=4:=by
 obtain⟨x,_,a⟩:=dN h;unfold uP at a;split at a
 ·cases a
 ·injection a with a;exact a.symm
theorem aB2{e:Int}(h:l.findSome? (qw l)=some e):e=5:=by
 obtain⟨x,_,a⟩:=dN h;unfold qw at a;split at a
 ·cases a
 ·injection a with a;exact a.symm
theorem atC{e:Int}(h:(dy l.length).findSome? (v8 l)=some e):e=4:=by
 obtain⟨x,_,a⟩:=dN h;unfold v8 at a;split at a
 ·cases a
 ·injection a with a;exact a.symm
theorem aHk{nm:List UInt8}(h:0<=cL l nm):(cF (eL 0 l) nm).getD 0=cL l nm:=by
 rw[GA];unfold cL at h⊢;cases a:en (fV nm) l with
 |none=>rw[a]at h;simp at h
 |some i=>simp
theorem as_(g:1100<F)(ad:Fits F l):∃e,H3 F l=some e/\
 ((e≠0/\DE F l=some (Pm,e))\/
  (e=0/\hY l/\ ∃A n:Int×bp,A.2.bV=eL 0 l/\n.2.dl=c' l/\
   DE F l=ca (α:=(List (List Target))×(List (List (List UInt8)))×(List (List Field))) (n' F l A n F [] [] [] 0) λ((G,H,I):(List (List Target))×(List (List (List UInt8)))×(List (List Field)))=>some ((⟨l,n.2.dl,I,H,G⟩:aP),0))):=by
 unfold H3 DE
 rw[asf ad,azl ad,ae,ae]
 by_cases k:ts l=0
 case neg=>exact⟨ts l,by rw[sr k],.inl ⟨k,by rw[sr k];rfl⟩⟩
 rw[k,rI,rI]
 have f:=atb k
 have B:=f.len
 rw[aDh (by omega) f,ae]
 rcases aCo (F:=F) (by omega) f with⟨K,p,q⟩|⟨_,⟨m,p⟩,q⟩
 case inr=>
  unfold Gn
  simp only
  rw[p,q]
  exact⟨6,rfl,.inl ⟨by decide,rfl⟩⟩
 rw[q,qN,yL ⟨by omega,by omega⟩,ae,yL ⟨by omega,by omega⟩,ae]
 have t:Gn F ⟨l,[],[]⟩=some (cond (decide (0<=cL l [79,98,106,101,99,116])&&decide (0<=cL l [69,114,114,111,114])) 0 5,⟨l,eL 0 l,[]⟩):=by
  unfold Gn;simp only;rw[p,qN,XB,XB];cases decide (0<=cL l [79,98,106,101,99,116])<;>cases decide (0<=cL l [69,114,114,111,114])<;>rfl
 rw[t,ae]
 by_cases u:0<=cL l [79,98,106,101,99,116]
 case neg=>
  rw[decide_eq_true (show cL l [79,98,106,101,99,116]<0 by omega),decide_eq_false u]
  exact⟨5,rfl,.inl ⟨by decide,rfl⟩⟩
 rw[decide_eq_false (show¬cL l [79,98,106,101,99,116]<0 by omega),decide_eq_true u,cond_false]
 by_cases j:0<=cL l [69,114,114,111,114]
 case neg=>
  rw[decide_eq_true (show cL l [69,114,114,111,114]<0 by omega),decide_eq_false j]
  exact⟨5,rfl,.inl ⟨by decide,rfl⟩⟩
 rw[decide_eq_false (show¬cL l [69,114,114,111,114]<0 by omega),decide_eq_true j,cond_false,Bool.and_self,cond_true]
 simp only[ae,decide_true,dF,cond_false]
 unfold OL
 simp only
 rw[aG8 (by omega) f,aG9 (by omega) f,jW,jW]
 cases C:l.findSome? uP with
 |some e=>
  have:=aG_ C
  subst this
  exact⟨4,rfl,.inl ⟨by decide,rfl⟩⟩
 |none=>
 simp only[iz,pk]
 obtain⟨o,ap,L⟩:=aB0 (F:=F) (by omega) f
 rw[aB1 (by omega) f,jW,L,<-ap]
 cases o with
 |some r=>
  simp only[fI]at ap
  have:=aB2 ap.symm
  refine⟨5,by simp only[fI,pk];rw[this],.inl ⟨by decide,?_⟩⟩
  obtain⟨a,b⟩:=r
  simp only at this
  subst this
  rfl
 |none=>
 simp only[iz,pk,Eh,qN]
 simp only[iz]at ap
 rw[atB g f,jW,atA g f,jW]
 cases hc:(dy l.length).findSome? (v8 l)with
 |some e=>
  have:=atC hc
  subst this
  exact⟨4,rfl,.inl ⟨by decide,rfl⟩⟩
 |none=>
 simp only[iz,pk,ae,decide_true,dF,cond_false]
 have v:∀c∈l,c.cR=[]\/0<=cL l c.cR:=λ c w=>by
  have:=fJ.1 ap.symm c w;unfold qw at this;split at this
  ·assumption
  ·cases this
 have y:∀i,i<l.length-> ∃c,dq (c' l) l.length (i:Int)=some c:=λ i hi=>by
  have:=fJ.1 hc i (by simpa using hi);unfold v8 at this;split at this
  ·rename_i d;exact Option.isSome_iff_exists.1 d
  ·cases this
 have h:hY l:=⟨f,K,v,y,λ c w=>fJ.1 C c w,u⟩
 have z:cL l [69,114,114,111,114]<l.length:=SR
 obtain⟨x,M,_⟩:=xR (l:=l) j z
 unfold OM
 simp only[aHk j]
 rw[h.Zj g j z,ae,h.WZ g (eL 0 l) j z,ae,M,ae,ae]
 by_cases aj:((!decide (x.cR=[79,98,106,101,99,116]))||(decide (((fx l (cL l [69,114,114,111,114])).length:Int)=0)))=true
 ·rw[aj]
  exact⟨4,rfl,.inl ⟨by decide,rfl⟩⟩
 rw[gX.2 aj,cond_false,cond_false]
 have N:0<(fx l (cL l [69,114,114,111,114])).length:=by
  simp only[hM,decide_eq_true_eq,not_or]at aj;omega
 have O:idx (fx l (cL l [69,114,114,111,114])) 0=some ((fx l (cL l [69,114,114,111,114]))[0]):=by
  have:=bq (l:=fx l (cL l [69,114,114,111,114])) (i:=0) (aH N);exact this
 rw[O,ae,ae]
 by_cases D:((fx l (cL l [69,114,114,111,114]))[0]).Kind.Kind=1
 case neg=>
  rw[decide_eq_false D]
  exact⟨4,rfl,.inl ⟨by decide,rfl⟩⟩
 rw[decide_eq_true D]
 simp only[dF,cond_false,ae,decide_true]
 rw[aG6 g f,jW,aG5 g f,ae]
 cases P:(sH l).findSome? (jY l)with
 |some e=>
  have:e=5:=by
   obtain⟨s,_,d⟩:=dN P;rcases akJ (l:=l) (s:=s)with J |J
   ·rw[J]at d;cases d
   ·rw[J]at d;injection d with d;exact d.symm
  subst this
  exact⟨5,rfl,.inl ⟨by decide,rfl⟩⟩
 |none=>
 simp only[pk,jh,decide_true,dF,cond_false]
 rw[aC9 g h,jW,aC8 g h,ae]
 cases Q:(dy l.length).findSome? (An l)with
 |some e=>
  have:e=6:=by
   obtain⟨s,_,d⟩:=dN Q;unfold An v_ at d;split at d
   ·split at d
    ·cases d
    ·simp at d;exact d.symm
   ·simp at d;exact d.symm
  subst this
  exact⟨6,rfl,.inl ⟨by decide,rfl⟩⟩
 |none=>
 simp only[pk,jh,decide_true,dF,cond_false]
 rw[aBZ g h,jW,aBY g h,ae]
 cases R:(dy l.length).findSome? (λ i=>(l[i]?).bind λ c=>Gu l c i)with
 |some e=>
  have:e=4:=by
   obtain⟨i,_,d⟩:=dN R;cases E:l[i]? with
   |none=>rw[E]at d;cases d
   |some c=>
    rw[E,ae]at d
    unfold Gu at d
    rcases tD (ade (l:=l) c) (dt l i).tail with J |J
    ·rw[J]at d;cases d
    ·rw[J]at d;injection d with d;exact d.symm
  subst this
  exact⟨4,rfl,.inl ⟨by decide,rfl⟩⟩
 |none=>
 simp only[pk,jh,decide_true,dF,cond_false]
 exact⟨0,rfl,.inr ⟨rfl,h,(0,⟨l,eL 0 l,[]⟩),(0,⟨l,eL 0 l,c' l⟩),rfl,rfl,rfl⟩⟩
theorem aBA(b:1100<F)(ad:Fits F l):∃r:aP×Int,DE F l=some r/\H6 F l=some r/\(r.2=0 ->hY l/\r.1=linked l)/\(r.2≠0 ->r.1=Pm):=by
 obtain⟨e,a,J⟩:=as_ b ad;unfold H6;rw[a,ae];rcases J with⟨f,J⟩|⟨rfl,c,g,j,k,d,J⟩
 ·exact⟨_,J,by rw[sr f];rfl,λ h=>absurd h f,λ _=>rfl⟩
 ·rw[rI,J,aBB b c g j k d,aF1 b c]
  cases af:(dy l.length).findSome? (Fl l)with
  |some r=>
   have:r=(Pm,2):=by
    obtain⟨i,_,a⟩:=dN af;unfold Fl at a;split at a
    ·injection a with a;exact a.symm
    ·cases a
   subst this
   exact⟨_,rfl,rfl,λ h=>absurd h (by decide),λ _=>rfl⟩
  |none=>
   refine⟨_,rfl,?_,λ _=>⟨c,?_⟩,λ h=>absurd rfl h⟩
   ·simp only[Eh,qN,d]
   ·simp only[d];rfl
end
end I
namespace I
theorem mD{α:Type} [DecidableEq α]{F:Nat}{a b:List α}(j:a.length=b.length){L:Nat->Int->Option (Way Bool Unit)}(d:a.length<=140737488355328)
 (aj:∀k (i:Nat) x y,a[i]? =some x->b[i]? =some y->L (k+1) (i:Int)=cond (!decide (x=y)) (some (.out false)) (L k (ar ((i:Int)+1))))(f:∀k,L (k+1) (a.length:Int)=some (.go ()))(g:a.length<F) :
 L F 0=some (if a=b then .go ()else .out false):=by
 have l1:L F 0=some (cn ((dy a.length).findSome? λ i=>if a[i]? =b[i]? then none else some false)):=kA _ d (λ k i hi=>by
  rw[aj k i a[i] (b[i]'(by omega)) (aH hi) (aH (show i<b.length by omega)),aH hi,aH (show i<b.length by omega)];simp only[aD];by_cases e:a[i]=b[i]'(by omega)
  ·rw[decide_eq_true e,if_pos e];rfl
  ·rw[decide_eq_false e,if_neg e];rfl) f g
 rw[l1]
 cases ad:(dy a.length).findSome? λ i=>if a[i]? =b[i]? then none else some false with
 |some e=>
  obtain⟨i,hi,c⟩:=dN ad
  split at c
  ·cases c
  ·rename_i h
   injection c with c
   subst c
   rw[if_neg (λ e=>h (by rw[e]))];rfl
 |none=>
  rw[if_pos];rfl
  apply j4
  intro i
  by_cases hi:i<a.length
  ·have:=fJ.1 ad i (by simpa using hi)
   split at this
   ·assumption
   ·cases this
  ·rw[gz (by omega),gz (by omega)]
theorem T0{α β:Type}(l:List α):l.findSome? (λ _=>(none:Option β))=none:=by rw[fJ];intro _ _;rfl
theorem oX{p:Prop} [Decidable p]{Y:Option Bool}:ca (α:=Unit) (some (if p then(.go ():Way Bool Unit)else .out false)) (λ _=>Y)=if p then Y else some false:=by by_cases h:p<;>simp[h]
theorem adf{p:Prop} [Decidable p]{Y:Option (Way Bool Unit)}:cU (α:=Unit) (some (if p then(.go ():Way Bool Unit)else .out false)) (λ _=>Y)=if p then Y else some (.out false):=by by_cases h:p<;>simp[h]
theorem mS{α:Type}{a b:List α}:decide ((a.length:Int)=(b.length:Int))=decide (a.length=b.length):=by
 rw[hT];simp;omega
theorem rJ{α:Type} [DecidableEq α]{a b:List α}(h:a.length≠b.length):decide (a=b)=false:=decide_eq_false (λ e=>h (by rw[e]))
section
variable{F:Nat}
theorem aj_{a b:List Field}(d:Small F a.length):E' F a b=some (decide (a=b)):=by
 unfold E';rw[mS];by_cases c:a.length=b.length
 ·rw[decide_eq_true c]
  simp only[dF,cond_false]
  rw[mD c d.1 (L:=B7 a b) (λ k i x y e hy=>by rw[B7,bH (aM.1 e).1,cond_true,bq e,ae,bq hy,ae]) (λ k=>by rw[B7,bG];rfl) d.2,oX]
  by_cases h:a=b<;>simp[h]
 ·rw[decide_eq_false c,rJ c];rfl
theorem aGB{a b:List Kind}(d:Small F a.length):vO F a b=some (decide (a=b)):=by
 unfold vO;rw[mS];by_cases c:a.length=b.length
 ·rw[decide_eq_true c]
  simp only[dF,cond_false]
  rw[mD c d.1 (L:=pX a b) (λ k i x y e hy=>by rw[pX,bH (aM.1 e).1,cond_true,bq e,ae,bq hy,ae]) (λ k=>by rw[pX,bG];rfl) d.2,oX]
  by_cases h:a=b<;>simp[h]
 ·rw[decide_eq_false c,rJ c];rfl
theorem aGF{l:List ak}(h:Fits F l):E_ F l l=some true:=by
 unfold E_;rw[decide_eq_true rfl];simp only[dF,cond_false];have l1:B4 F l l F 0=some (cn (l.findSome? λ _=>(none:Option Bool))):=each (λ _=>none) h.1.1 (λ k i c a=>by
  have hc:=h.2 c (bB a);have e:B5 F c c F 0=some (cn (c.bf.findSome? λ _=>(none:Option Bool))):=each (λ _=>none) hc.methods.1 (λ k i m hy=>by
   have b:=hc.method m (bB hy);have f:B6 m m F 0=some (cn (m.cy.findSome? λ _=>(none:Option Bool))):=each (λ _=>none) b.zn.1 (λ k i x d=>by
    rw[B6,bH (aM.1 d).1,cond_true,bq d,ae,ae,decide_eq_true rfl];rfl) (λ k=>by rw[B6,bG];rfl) b.zn.2
   rw[B5,bH (aM.1 hy).1,cond_true,bq hy,ae,ae,aGB b.args,ae,f,T0];simp;rfl) (λ k=>by rw[B5,bG];rfl) hc.methods.2
  rw[B4,bH (aM.1 a).1,cond_true,bq a,ae,ae,aj_ hc.fields,ae,e,T0];simp;rfl) (λ k=>by rw[B4,bG];rfl) h.1.2
 rw[l1,T0];rfl
structure Mj (F:Nat) (k:aP):Prop where
 dl:Small F k.aW.length
 fields:Small F k.Fields.length
 field:∀x∈k.Fields,Small F x.length
 names:Small F k.Names.length
 name:∀x∈k.Names,Small F x.length
 targets:Small F k.aX.length
 target:∀x∈k.aX,Small F x.length
instance:DecidableEq (List (List Field)):=inferInstance
theorem aGC{a b:aP}(d:Mj F a)(hc:E_ F a.aY b.aY=some true) :
 Fa F a b=some (decide (a.aW=b.aW/\a.Fields=b.Fields/\a.Names=b.Names/\a.aX=b.aX)):=by
 unfold Fa
 rw[hc,ae,mS,mS,mS,mS]
 have aK:∀(_: ¬(a.aW=b.aW/\a.Fields=b.Fields/\a.Names=b.Names/\a.aX=b.aX)),decide (a.aW=b.aW/\a.Fields=b.Fields/\a.Names=b.Names/\a.aX=b.aX)=false:=λ h=>decide_eq_false h
 by_cases g:b.aW.length=a.aW.length
 case neg=>rw[aK (λ e=>g (by rw[e.1])),decide_eq_false g];rfl
 by_cases J:a.Fields.length=b.Fields.length
 case neg=>rw[aK (λ e=>J (by rw[e.2.1])),decide_eq_true g,decide_eq_false J];rfl
 by_cases l:a.Names.length=b.Names.length
 case neg=>rw[aK (λ e=>l (by rw[e.2.2.1])),decide_eq_true g,decide_eq_true J,decide_eq_false l];rfl
 by_cases o:a.aX.length=b.aX.length
 case neg=>rw[aK (λ e=>o (by rw[e.2.2.2])),decide_eq_true g,decide_eq_true J,decide_eq_true l,decide_eq_false o];rfl
 rw[decide_eq_true g,decide_eq_true J,decide_eq_true l,decide_eq_true o]
 simp only[dF,Bool.or_self,cond_false]
 have l1:=mD (F:=F) g.symm d.dl.1 (L:=yO a b) (λ k i x y c hy=>by rw[yO,bH (aM.1 c).1,cond_true,bq c,ae,bq hy,ae]) (λ k=>by rw[yO,bG];rfl) d.dl.2
 have q:=mD (F:=F) J d.fields.1 (L:=B9 F a b) (λ k i x y c hy=>by
  rw[B9,bH (aM.1 c).1,cond_true,bq c,ae,bq hy,ae,aj_ (d.field x (bB c)),ae]) (λ k=>by rw[B9,bG];rfl) d.fields.2
 have r:=mD (F:=F) l d.names.1 (L:=B_ F a b) (λ k i x y c hy=>by
  have m:=d.name x (bB c);rw[B_,bH (aM.1 c).1,cond_true,bq c,ae,bq hy,ae,mS];by_cases f:x.length=y.length
  ·rw[decide_eq_true f]
   simp only[dF,cond_false]
   rw[mD (F:=F) f m.1 (L:=Ca a b i) (λ k j u v n p=>by
    rw[Ca,bq c,ae,bH (aM.1 n).1,cond_true,ae,bq n,ae,bq hy,ae,bq p,ae]) (λ k=>by rw[Ca,bq c,ae,bG];rfl) m.2,adf]
   by_cases h:x=y
   ·rw[if_pos h,decide_eq_true h];rfl
   ·rw[if_neg h,decide_eq_false h];rfl
  ·rw[decide_eq_false f,rJ f];rfl) (λ k=>by rw[B_,bG];rfl) d.names.2
 have s:=mD (F:=F) o d.targets.1 (L:=Cb F a b) (λ k i x y c hy=>by
  have m:=d.target x (bB c);rw[Cb,bH (aM.1 c).1,cond_true,bq c,ae,bq hy,ae,mS];by_cases f:x.length=y.length
  ·rw[decide_eq_true f]
   simp only[dF,cond_false]
   rw[mD (F:=F) f m.1 (L:=Cc a b i) (λ k j u v n p=>by
    rw[Cc,bq c,ae,bH (aM.1 n).1,cond_true,ae,bq n,ae,bq hy,ae,bq p,ae]) (λ k=>by rw[Cc,bq c,ae,bG];rfl) m.2,adf]
   by_cases h:x=y
   ·rw[if_pos h,decide_eq_true h];rfl
   ·rw[if_neg h,decide_eq_false h];rfl
  ·rw[decide_eq_false f,rJ f];rfl) (λ k=>by rw[Cb,bG];rfl) d.targets.2
 rw[l1,q,r,s,oX,oX,oX,oX]
 by_cases e1:a.aW=b.aW
 ·by_cases e2:a.Fields=b.Fields
  ·by_cases e3:a.Names=b.Names
   ·by_cases e4:a.aX=b.aX<;>simp[e1,e2,e3,e4]
   ·simp[e3]
  ·simp[e2]
 ·simp[e1]
end
section
variable{F:Nat}{l:List ak}
theorem aGe{β:Type}{f:Int->β}{n:Nat}:(rows f n).length=n:=by simp[rows]
end
end I
namespace I
section
variable{F:Nat}
theorem auY{a b:List (Int)}(d:Small F a.length):K4 F a b=some (decide (a=b)):=by
 unfold K4;rw[mS];by_cases c:a.length=b.length
 ·rw[decide_eq_true c]
  simp only[dF,cond_false]
  rw[mD c d.1 (L:=AJ a b) (λ k i x y e hy=>by rw[AJ,bH (aM.1 e).1,cond_true,bq e,ae,bq hy,ae]) (λ k=>by rw[AJ,bG];rfl) d.2,oX]
  by_cases h:a=b<;>simp[h]
 ·rw[decide_eq_false c,rJ c];rfl
theorem auW{a b:List (Field)}(d:Small F a.length):K1 F a b=some (decide (a=b)):=by
 unfold K1;rw[mS];by_cases c:a.length=b.length
 ·rw[decide_eq_true c]
  simp only[dF,cond_false]
  rw[mD c d.1 (L:=AH a b) (λ k i x y e hy=>by rw[AH,bH (aM.1 e).1,cond_true,bq e,ae,bq hy,ae]) (λ k=>by rw[AH,bG];rfl) d.2,oX]
  by_cases h:a=b<;>simp[h]
 ·rw[decide_eq_false c,rJ c];rfl
theorem auZ{a b:List (List UInt8)}(d:Small F a.length):K5 F a b=some (decide (a=b)):=by
 unfold K5;rw[mS];by_cases c:a.length=b.length
 ·rw[decide_eq_true c]
  simp only[dF,cond_false]
  rw[mD c d.1 (L:=AK a b) (λ k i x y e hy=>by rw[AK,bH (aM.1 e).1,cond_true,bq e,ae,bq hy,ae]) (λ k=>by rw[AK,bG];rfl) d.2,oX]
  by_cases h:a=b<;>simp[h]
 ·rw[decide_eq_false c,rJ c];rfl
theorem au1{a b:List (Target)}(d:Small F a.length):K3 F a b=some (decide (a=b)):=by
 unfold K3;rw[mS];by_cases c:a.length=b.length
 ·rw[decide_eq_true c]
  simp only[dF,cond_false]
  rw[mD c d.1 (L:=AI a b) (λ k i x y e hy=>by rw[AI,bH (aM.1 e).1,cond_true,bq e,ae,bq hy,ae]) (λ k=>by rw[AI,bG];rfl) d.2,oX]
  by_cases h:a=b<;>simp[h]
 ·rw[decide_eq_false c,rJ c];rfl
theorem auX{a b:List (List Field)}(e:Small F a.length)(f:∀x∈a,Small F x.length):KY F a b=some (decide (a=b)):=by
 unfold KY;rw[mS];by_cases c:a.length=b.length
 ·rw[decide_eq_true c]
  simp only[dF,cond_false]
  rw[mD c e.1 (L:=AE F a b) (λ k i x y d J=>by rw[AE,bH (aM.1 d).1,cond_true,bq d,ae,bq J,ae,auW (f x (bB d)),ae]) (λ k=>by rw[AE,bG];rfl) e.2,oX]
  by_cases h:a=b<;>simp[h]
 ·rw[decide_eq_false c,rJ c];rfl
theorem au0{a b:List (List (List UInt8))}(e:Small F a.length)(f:∀x∈a,Small F x.length):K0 F a b=some (decide (a=b)):=by
 unfold K0;rw[mS];by_cases c:a.length=b.length
 ·rw[decide_eq_true c]
  simp only[dF,cond_false]
  rw[mD c e.1 (L:=AG F a b) (λ k i x y d J=>by rw[AG,bH (aM.1 d).1,cond_true,bq d,ae,bq J,ae,auZ (f x (bB d)),ae]) (λ k=>by rw[AG,bG];rfl) e.2,oX]
  by_cases h:a=b<;>simp[h]
 ·rw[decide_eq_false c,rJ c];rfl
theorem au2{a b:List (List Target)}(e:Small F a.length)(f:∀x∈a,Small F x.length):KZ F a b=some (decide (a=b)):=by
 unfold KZ;rw[mS];by_cases c:a.length=b.length
 ·rw[decide_eq_true c]
  simp only[dF,cond_false]
  rw[mD c e.1 (L:=AF F a b) (λ k i x y d J=>by rw[AF,bH (aM.1 d).1,cond_true,bq d,ae,bq J,ae,au1 (f x (bB d)),ae]) (λ k=>by rw[AF,bG];rfl) e.2,oX]
  by_cases h:a=b<;>simp[h]
 ·rw[decide_eq_false c,rJ c];rfl
theorem aGE{a b:aP}(c:Mj F a):Gp F a b=some (decide (a.aW=b.aW/\a.Fields=b.Fields/\a.Names=b.Names/\a.aX=b.aX)):=by
 unfold Gp;rw[auY c.dl,ae];by_cases e1:a.aW=b.aW;case neg=>rw[decide_eq_false e1,decide_eq_false (λ e=>e1 e.1)];rfl
 rw[decide_eq_true e1,cond_true,auX c.fields c.field,ae];by_cases e2:a.Fields=b.Fields;case neg=>rw[decide_eq_false e2,decide_eq_false (λ e=>e2 e.2.1)];rfl
 rw[decide_eq_true e2,cond_true,au0 c.names c.name,ae];by_cases e3:a.Names=b.Names;case neg=>rw[decide_eq_false e3,decide_eq_false (λ e=>e3 e.2.2.1)];rfl
 rw[decide_eq_true e3,cond_true,au2 c.targets c.target,ae];congr 1;rw[hT];simp[e1,e2,e3]
theorem as'{k:aP}(i:1100<F)(hc:Fits F k.aY)(h:Mj F k):∃e,pc F k=some e/\vK F k=some e/\((e=4)\/(e=0/\hY k.aY/\k=linked k.aY)):=by
 obtain⟨r,j,J,l,p⟩:=aBA i hc;unfold pc vK;rw[j,J,ae,ae];by_cases g:r.2=0;case neg=>rw[sr g,sr g];exact⟨4,rfl,rfl,.inl rfl⟩
 obtain⟨m,e⟩:=l g;have n:Gp F (⟨k.aY,k.aW,k.Fields,k.Names,k.aX⟩:aP) (⟨r.1.aY,r.1.aW,r.1.Fields,r.1.Names,r.1.aX⟩:aP)=some (decide (k.aW=r.1.aW/\k.Fields=r.1.Fields/\k.Names=r.1.Names/\k.aX=r.1.aX)):=aGE (a:=k) (b:=r.1) h;have o:Fa F (⟨k.aY,k.aW,k.Fields,k.Names,k.aX⟩:aP) (⟨r.1.aY,r.1.aW,r.1.Fields,r.1.Names,r.1.aX⟩:aP)=some (decide (k.aW=r.1.aW/\k.Fields=r.1.Fields/\k.Names=r.1.Names/\k.aX=r.1.aX)):=aGC (a:=k) (b:=r.1) h (by rw[e];exact aGF hc);rw[n,o,g];simp only[rI,ae];by_cases aj:k.aW=r.1.aW/\k.Fields=r.1.Fields/\k.Names=r.1.Names/\k.aX=r.1.aX
 ·rw[decide_eq_true aj]
  refine⟨0,rfl,rfl,.inr ⟨rfl,m,?_⟩⟩
  obtain⟨e1,e2,e3,e4⟩:=aj
  rw[e]at e1 e2 e3 e4
  obtain⟨a,b,c,d,f⟩:=k
  simp only at e1 e2 e3 e4
  subst e1 e2 e3 e4
  rfl
 ·rw[decide_eq_false aj]
  exact⟨4,rfl,rfl,.inl rfl⟩
end
end I
namespace I
def DX(h:aR):Prop:=(3<=h.av/\h.av<=2000)/\(3<=h.aL/\h.aL<=2000)
def okB(h:aR):Prop:=(h.Words.length:Int)=1+h.av+h.aL
def Kk(h:aR):Prop:=(1<=h.aU/\h.aU<=h.av+1)/\(h.av+1<=h.aT/\h.aT<=h.av+h.aL+1)/\1<=h.Next
instance (h:aR):Decidable (DX h):=inferInstanceAs (Decidable ((3<=h.av/\h.av<=2000)/\(3<=h.aL/\h.aL<=2000)))
instance (h:aR):Decidable (okB h):=inferInstanceAs (Decidable ((h.Words.length:Int)=1+h.av+h.aL))
instance (h:aR):Decidable (Kk h):=inferInstanceAs (Decidable ((1<=h.aU/\h.aU<=h.av+1)/\(h.av+1<=h.aT/\h.aT<=h.av+h.aL+1)/\1<=h.Next))
def mZ(h:aR):Int:=if DX h then(if okB h then(if Kk h then 0 else 3)else 1)else 3
theorem aGN(h:aR):F5 h=some (mZ h):=by
 unfold F5 o2 mZ;simp only[ae];by_cases d:DX h
 case neg=>
  rw[if_neg d]
  unfold DX at d
  by_cases a:3<=h.av/\h.av<=2000
  ·have b: ¬(3<=h.aL/\h.aL<=2000):=λ b=>d ⟨a,b⟩
   rw[show(decide (3<=h.av)&&decide (h.av<=2000))=true by simpa using a,show(decide (3<=h.aL)&&decide (h.aL<=2000))=false by rw[gX];simpa using b]
   rfl
  ·rw[show(decide (3<=h.av)&&decide (h.av<=2000))=false by rw[gX];simpa using a]
   rfl
 rw[if_pos d];unfold DX at d;obtain⟨⟨g,i⟩,a3,a4⟩:=d
 rw[show(decide (3<=h.av)&&decide (h.av<=2000))=true by simp;omega,show(decide (3<=h.aL)&&decide (h.aL<=2000))=true by simp;omega,
  cQ (n:=1+h.av) (by omega) (by omega),cQ (n:=1+h.av+h.aL) (by omega) (by omega),cQ (n:=h.av+1) (by omega) (by omega),cQ (n:=h.av+h.aL) (by omega) (by omega),cQ (n:=h.av+h.aL+1) (by omega) (by omega)]
 simp only[dF,cond_false];by_cases e:okB h
 case neg=>
  rw[if_neg e,show decide ((h.Words.length:Int)=1+h.av+h.aL)=false from decide_eq_false e];rfl
 rw[if_pos e,show decide ((h.Words.length:Int)=1+h.av+h.aL)=true from decide_eq_true e];simp only[dF,cond_false];by_cases f:Kk h
 ·rw[if_pos f]
  obtain⟨c1,c2,c3⟩:=f
  rw[show(decide (1<=h.aU)&&decide (h.aU<=h.av+1))=true by simpa using c1,show(decide (h.av+1<=h.aT)&&decide (h.aT<=h.av+h.aL+1))=true by simpa using c2,show decide (h.Next<1)=false from decide_eq_false (by omega)]
  rfl
 ·rw[if_neg f]
  by_cases c1:1<=h.aU/\h.aU<=h.av+1
  ·rw[show(decide (1<=h.aU)&&decide (h.aU<=h.av+1))=true by simpa using c1]
   by_cases c2:h.av+1<=h.aT/\h.aT<=h.av+h.aL+1
   ·have c3:h.Next<1:=by
     rcases Int.lt_or_le h.Next 1 with c |c
     ·exact c
     ·exact absurd ⟨c1,c2,c⟩ f
    rw[decide_eq_true c3,Bool.or_true];rfl
   ·rw[show(decide (h.av+1<=h.aT)&&decide (h.aT<=h.av+h.aL+1))=false by rw[gX];simpa using c2]
    rfl
  ·rw[show(decide (1<=h.aU)&&decide (h.aU<=h.av+1))=false by rw[gX];simpa using c1]
   rfl
structure iJ (h:aR):Prop where
 A:DX h
 B:okB h
 C:Kk h
theorem ZF{h:aR}:mZ h=0↔iJ h:=by
 unfold mZ;constructor
 ·intro e
  split at e
  ·split at e
   ·split at e
    ·exact⟨‹_›,‹_›,‹_›⟩
    ·cases e
   ·cases e
  ·cases e
 ·rintro⟨a,b,c⟩
  rw[if_pos a,if_pos b,if_pos c]
section
variable{F:Nat}{k:aP}{W:List Int}
theorem fk.mem{to q:Nat}{L:List Int}(h:fk k W to q L):∀a∈L,∃n:Nat,a=(n:Int)/\q<=n/\n+3+(wd W (n+1)).toNat<=to/\fX k (wd W n)=true/\isLen k (wd W n) (wd W (n+1))=true:=by
 induction h with
 |nil=>intro a ax;cases ax
 |cons b J c _ d=>
  intro a ax
  rcases cm.1 ax with rfl |ax
  ·exact⟨_,rfl,cu _,c,b,J⟩
  ·obtain⟨n,e,g,f⟩:=d a ax
   exact⟨n,e,by omega,f⟩
theorem fk.uQ{to q:Nat}{L L':List Int}(h:fk k W to q L)(h':fk k W to q L'):L=L':=by
 induction h generalizing L' with
 |nil=>
  cases h' with
  |nil=>rfl
  |cons _ _ _ _=>omega
 |cons _ _ c _ a=>
  cases h' with
  |nil=>omega
  |cons _ _ _ b=>rw[a b]
theorem fk.len{to q:Nat}{L:List Int}(h:fk k W to q L):3*L.length+q<=to:=by
 induction h with
 |nil=>simp
 |cons _ _ a _ b=>simp only[cV];omega
theorem akv{l:List Int}{N:Nat}(h:Cn l)(a:∀i,i<l.length->0<=wd l i/\wd l i<N):l.length<=N:=by
 have key:∀i,i<l.length->(i:Int)<=wd l i:=by
  intro i;induction i with
  |zero=>intro hi;exact(a 0 hi).1
  |succ i b=>
   intro hi
   have:=h i (i+1) (by omega) hi
   have:=b (by omega)
   omega
 rcases kx l.length with e |e
 ·omega
 ·have:=key (l.length-1) (by omega)
  have:=(a (l.length-1) (by omega)).2
  omega
theorem OW(x:Int):∀A:List Int,(cF (A.map λ a=>(a,true)) x).getD false=decide (x∈A)
 |[]=>by simp[cF]
 |a::r=>by
  rw[eu,cF];by_cases e:a=x
  ·simp[e]
  ·rw[if_neg e,OW x r]
   have: ¬x=a:=λ h=>e h.symm
   simp[this]
def view(h:aR)(k:aP)(Y O:List Int):bg:=⟨h,⟨k⟩,Y,O,(Y++O).map λ a=>(a,true)⟩
structure h0 (h:aR) (k:aP) (Y O:List Int):Prop where
 y:fk k h.Words h.aU.toNat 1 Y
 o:fk k h.Words h.aT.toNat (h.av+1).toNat O
theorem iJ.fq{h:aR}(aj:iJ h):h.Words.length<=4001:=by
 obtain⟨⟨⟨a,b⟩,c,d⟩,e,_⟩:=aj;unfold okB at e;omega
theorem h0.sJ{h:aR}{Y O:List Int}(f:fS k)(aj:iJ h)(c:h0 h k Y O):oS (view h k Y O):=by
 have i:=aj.fq;obtain⟨⟨⟨j,l⟩,a3,a4⟩,b,⟨c1,c2⟩,⟨c3,c4⟩,c5⟩:=aj;unfold okB at b;refine⟨f,by show h.Words.length<=4900;omega,?_,λ a ax=>?_,λ x=>OW x _⟩
 ·have:=c.y.len;have:=c.o.len
  show Y.length+O.length<=5000
  omega
 ·have ax:a∈Y++O:=ax
  rcases b3.1 ax with ax |ax
  ·obtain⟨n,rfl,g,J,d,e⟩:=c.y.mem a ax
   exact⟨by omega,by show((n:Int).toNat)+3+(wd h.Words ((n:Int).toNat+1)).toNat<=h.Words.length;rw[cN];omega,by rw[cN];exact d,by rw[cN];exact e⟩
  ·obtain⟨n,rfl,g,J,d,e⟩:=c.o.mem a ax
   exact⟨by omega,by show((n:Int).toNat)+3+(wd h.Words ((n:Int).toNat+1)).toNat<=h.Words.length;rw[cN];omega,by rw[cN];exact d,by rw[cN];exact e⟩
def aZ(v:bg):Int:=if(v.av++v.aL).any (lT v)then 3 else if((v.av++v.aL).map (aj v.H.Words)).Nodup then 0 else 6
def kR(v:bg):Int:=if(v.av++v.aL).any (oq v)then 5 else if(free v.H).any (λ x=>!decide (x=0))then 1 else 0
def Aj(v:bg):Int:=if(dy v.H.aS.length).any (hx v)||v.aL.any (pO v)then 4 else 0
def oB(v:bg):Int:=if aZ v=0 then(if kR v=0 then Aj v else kR v)else aZ v
inductive Spec (h:aR) (k:aP):Option bg×Int->Prop
 |size: ¬iJ h->Spec h k (none,mZ h)
 |form:iJ h->(∀Y O,¬h0 h k Y O)->Spec h k (none,1)
 |rest {Y O:List Int}:iJ h->h0 h k Y O->Spec h k (if oB (view h k Y O)=0 then some (view h k Y O)else none,oB (view h k Y O))
theorem XL(w:10000<F){h:aR}(l:fS k)(C:Small F h.aS.length):∃r,tP F h k=some r/\Spec h k r:=by
 unfold tP;have M:F5 (⟨h.Words,h.av,h.aL,h.aU,h.aT,h.aS,h.Next⟩:aR)=some (mZ h):=aGN h;rw[M,ae];by_cases aj:iJ h
 case neg=>
  rw[sr (λ e=>aj (ZF.1 e))]
  exact⟨_,rfl,.size aj⟩
 rw[ZF.2 aj,rI];have Z:=aj.fq;have b8:=aj;obtain⟨⟨⟨b_,a2⟩,a3,a4⟩,b,⟨c1,c2⟩,⟨c3,c4⟩,c5⟩:=aj;unfold okB at b;have D:=akF (F:=F) (by omega) (⟨h,⟨k⟩,[],[],[]⟩:bg) l (q:=1) (to:=h.aU.toNat) (by omega) (by show _<=h.Words.length;omega) (by show h.Words.length<=5000;omega) (λ p x=>by cases x);rw[show((h.aU.toNat:Nat):Int)=h.aU by omega]at D;rw[cQ (n:=h.av+1) (by omega) (by omega)];rcases D with⟨Y,E,e1⟩|⟨y,d,e1⟩
 case inr=>
  have e1:mK F (⟨(⟨h.Words,h.av,h.aL,h.aU,h.aT,h.aS,h.Next⟩:aR),(⟨(⟨k.aY,k.aW,k.Fields,k.Names,k.aX⟩:aP)⟩:b4),[],[],[]⟩:bg) 1 h.aU=some ([],false,(⟨h,⟨k⟩,[],[],d⟩:bg)):=e1
  rw[e1,ae]
  have s:∃r,mK F (⟨(⟨h.Words,h.av,h.aL,h.aU,h.aT,h.aS,h.Next⟩:aR),(⟨(⟨k.aY,k.aW,k.Fields,k.Names,k.aX⟩:aP)⟩:b4),[],[],d⟩:bg) (h.av+1) h.aT=some r:=by
   unfold mK;have key:∀(f q:Nat)(acc:List Int)(m:List (Int×Bool)),q<=h.aT.toNat->h.aT.toNat-q<f->acc.length+(h.aT.toNat-q)<=5000-> ∃r,o1 h.aT (⟨h,⟨k⟩,[],[],d⟩:bg) f acc m (q:Int)=some r:=by
    intro f;induction f with
    |zero=>intro q acc m _ P;omega
    |succ f Q=>
     intro q acc m P ad wv
     rw[o1]
     by_cases G:(q:Int)<h.aT
     case neg=>rw[decide_eq_false G];exact⟨_,rfl⟩
     rw[decide_eq_true G,cond_true,cQ (n:=(q:Int)+3) (by omega) (by omega)]
     by_cases H:h.aT<(q:Int)+3
     ·rw[decide_eq_true H];exact⟨_,rfl⟩
     rw[decide_eq_false H,cond_false]
     show∃r,(idx h.Words (q:Int)).bind _=some r
     rw[fU (by omega),ae]
     show∃r,(idx h.Words (ar ((q:Int)+1))).bind _=some r
     rw[cQ (n:=(q:Int)+1) (by omega) (by omega),o8 (i:=q+1) (by omega) (by omega),ae]
     have e1:wE (⟨(⟨k.aY,k.aW,k.Fields,k.Names,k.aX⟩:aP)⟩:b4) (wd h.Words q)=some (fX k (wd h.Words q)):=akk l _
     show∃r,(wE (⟨(⟨k.aY,k.aW,k.Fields,k.Names,k.aX⟩:aP)⟩:b4) (wd h.Words q)).bind _=some r
     rw[e1,ae]
     cases t:fX k (wd h.Words q)with
     |false=>exact⟨_,rfl⟩
     |true=>
      have e2:wF (⟨(⟨k.aY,k.aW,k.Fields,k.Names,k.aX⟩:aP)⟩:b4) (wd h.Words q) (wd h.Words (q+1))=some (isLen k (wd h.Words q) (wd h.Words (q+1))):=akl l t _
      rw[dF,cond_false]
      show∃r,(wF (⟨(⟨k.aY,k.aW,k.Fields,k.Names,k.aX⟩:aP)⟩:b4) (wd h.Words q) (wd h.Words (q+1))).bind _=some r
      rw[e2,ae]
      cases c:isLen k (wd h.Words q) (wd h.Words (q+1))with
      |false=>exact⟨_,rfl⟩
      |true=>
       obtain⟨⟨l0,l1⟩,_⟩:=l3.1 c
       rw[dF,hX,cQ (n:=(q:Int)+3+wd h.Words (q+1)) (by omega) (by omega)]
       by_cases I:h.aT<(q:Int)+3+wd h.Words (q+1)
       ·rw[decide_eq_true I];exact⟨_,rfl⟩
       rw[decide_eq_false I,cond_false,h3 (by simp;omega),ae,cQ (n:=3+wd h.Words (q+1)) (by omega) (by omega),cQ (n:=(q:Int)+(3+wd h.Words (q+1))) (by omega) (by omega),
        show(q:Int)+(3+wd h.Words (q+1))=((q+3+(wd h.Words (q+1)).toNat:Nat):Int) by omega]
       exact Q _ _ _ (by omega) (by omega) (by simp;omega)
   obtain⟨r,u⟩:=key F (h.av+1).toNat [] d (by omega) (by omega) (by simp;omega);rw[show(((h.av+1).toNat:Nat):Int)=h.av+1 by omega]at u;have u:o1 h.aT (⟨(⟨h.Words,h.av,h.aL,h.aU,h.aT,h.aS,h.Next⟩:aR),(⟨(⟨k.aY,k.aW,k.Fields,k.Names,k.aX⟩:aP)⟩:b4),[],[],d⟩:bg) F [] d (h.av+1)=some r:=u;rw[u];cases r<;>exact⟨_,rfl⟩
  obtain⟨r,e2⟩:=s
  rw[e2,ae]
  exact⟨_,rfl,.form b8 (λ Y O c=>y Y c.y)⟩
 have e1:mK F (⟨(⟨h.Words,h.av,h.aL,h.aU,h.aT,h.aS,h.Next⟩:aR),(⟨(⟨k.aY,k.aW,k.Fields,k.Names,k.aX⟩:aP)⟩:b4),[],[],[]⟩:bg) 1 h.aU=some (Y,true,(⟨h,⟨k⟩,[],[],Y.map λ a=>(a,true)⟩:bg)):=e1;rw[e1,ae];have s:=akF (F:=F) (by omega) (⟨h,⟨k⟩,[],[],Y.map λ a=>(a,true)⟩:bg) l (q:=(h.av+1).toNat) (to:=h.aT.toNat) (by omega) (by show _<=h.Words.length;omega) (by show h.Words.length<=5000;omega) (λ p x=>by
  obtain⟨a,v,rfl⟩:=jv.1 x;have A:fk k h.Words h.aU.toNat 1 Y:=E;obtain⟨n,rfl,K,J,_⟩:=A.mem a v;show(n:Int)<_
  omega)
 rw[show((h.aT.toNat:Nat):Int)=h.aT by omega,show(((h.av+1).toNat:Nat):Int)=h.av+1 by omega]at s;rcases s with⟨O,R,e2⟩|⟨y,d,e2⟩
 case inr=>
  have e2:mK F (⟨(⟨h.Words,h.av,h.aL,h.aU,h.aT,h.aS,h.Next⟩:aR),(⟨(⟨k.aY,k.aW,k.Fields,k.Names,k.aX⟩:aP)⟩:b4),[],[],Y.map λ a=>(a,true)⟩:bg) (h.av+1) h.aT=_:=e2
  show∃r,(mK F (⟨(⟨h.Words,h.av,h.aL,h.aU,h.aT,h.aS,h.Next⟩:aR),(⟨(⟨k.aY,k.aW,k.Fields,k.Names,k.aX⟩:aP)⟩:b4),[],[],Y.map λ a=>(a,true)⟩:bg) (h.av+1) h.aT).bind _=some r/\_
  rw[e2,ae]
  exact⟨_,rfl,.form b8 (λ Ib S c=>y S c.o)⟩
 have e2:mK F (⟨(⟨h.Words,h.av,h.aL,h.aU,h.aT,h.aS,h.Next⟩:aR),(⟨(⟨k.aY,k.aW,k.Fields,k.Names,k.aX⟩:aP)⟩:b4),[],[],Y.map λ a=>(a,true)⟩:bg) (h.av+1) h.aT=some (O,true,(⟨h,⟨k⟩,[],[],(Y.map λ a=>(a,true))++O.map λ a=>(a,true)⟩:bg)):=e2;show∃r,(mK F (⟨(⟨h.Words,h.av,h.aL,h.aU,h.aT,h.aS,h.Next⟩:aR),(⟨(⟨k.aY,k.aW,k.Fields,k.Names,k.aX⟩:aP)⟩:b4),[],[],Y.map λ a=>(a,true)⟩:bg) (h.av+1) h.aT).bind _=some r/\_
 rw[e2,ae,<-jz];have c:h0 h k Y O:=⟨E,R⟩
 have g:=c.sJ l b8
 have T:F2 F (⟨(⟨h.Words,h.av,h.aL,h.aU,h.aT,h.aS,h.Next⟩:aR),(⟨(⟨k.aY,k.aW,k.Fields,k.Names,k.aX⟩:aP)⟩:b4),Y,O,(Y++O).map λ a=>(a,true)⟩:bg)=some (aZ (view h k Y O)):=
  aw0 w (view h k Y O) g.rG (λ a v=>⟨(g.sF a v).pos,by have:=(g.sF a v).fit;omega⟩) (by have:=g.fq;omega) (by simp[view])
 have U:F4 F (⟨(⟨h.Words,h.av,h.aL,h.aU,h.aT,h.aS,h.Next⟩:aR),(⟨(⟨k.aY,k.aW,k.Fields,k.Names,k.aX⟩:aP)⟩:b4),Y,O,(Y++O).map λ a=>(a,true)⟩:bg)=some (kR (view h k Y O)):=
  aHP w g (by show 0<=h.av;omega) ⟨by show 0<=h.aU;omega,by show h.aU<=h.av+1;omega,by show h.av+1<=h.Words.length;omega⟩ ⟨by show 0<=h.aT;omega,by show h.aT<=h.Words.length;omega⟩
 have V:F3 F (⟨(⟨h.Words,h.av,h.aL,h.aU,h.aT,h.aS,h.Next⟩:aR),(⟨(⟨k.aY,k.aW,k.Fields,k.Names,k.aX⟩:aP)⟩:b4),Y,O,(Y++O).map λ a=>(a,true)⟩:bg)=some (Aj (view h k Y O)):=
  aCW w g C.1 C.2 (λ L=>by
   refine gm (akv (N:=5000) (ZM λ i hi=>?_) (λ i hi=>?_)) (by omega)
   ·have:=L (i+1) hi
    unfold hx at this
    simp only[hQ,lz,decide_eq_false_iff_not,Nat.add_sub_cancel]at this
    rcases this.1 with z |z
    ·omega
    ·have z: ¬wd h.aS (i+1)<=wd h.aS i:=z
     show wd h.aS i<wd h.aS (i+1);omega
   ·have:=L i hi
    unfold hx sq at this
    simp only[hQ]at this
    have X:wd (view h k Y O).H.aS i∈(view h k Y O).av++(view h k Y O).aL:=by
     have:=this.2.1.1;simp only[Bool.not_eq_false']at this;exact of_decide_eq_true this
    have t:=g.sF _ X
    have K:0<=wd h.aS i:=t.pos
    have J:(wd h.aS i).toNat+3+(wd h.Words ((wd h.aS i).toNat+1)).toNat<=h.Words.length:=t.fit
    exact⟨K,by show wd h.aS i<((5000 :Nat):Int);omega⟩)
 simp only[dF,Bool.or_self,cond_false];rw[T,ae];by_cases j:aZ (view h k Y O)=0
 case neg=>
  rw[sr j]
  have bS:oB (view h k Y O)=aZ (view h k Y O):=by unfold oB;rw[if_neg j]
  have:=Spec.rest b8 c
  rw[bS,if_neg j]at this
  exact⟨_,rfl,this⟩
 rw[j,rI,U,ae];by_cases o:kR (view h k Y O)=0
 case neg=>
  rw[sr o]
  have bS:oB (view h k Y O)=kR (view h k Y O):=by unfold oB;rw[if_pos j,if_neg o]
  have:=Spec.rest b8 c
  rw[bS,if_neg o]at this
  exact⟨_,rfl,this⟩
 rw[o,rI,V,ae];have bS:oB (view h k Y O)=Aj (view h k Y O):=by unfold oB;rw[if_pos j,if_pos o]
 have C9:=Spec.rest b8 c;rw[bS]at C9;by_cases B:Aj (view h k Y O)=0
 ·rw[B]at C9⊢
  rw[rI]
  exact⟨_,rfl,C9⟩
 ·rw[sr B]
  rw[if_neg B]at C9
  exact⟨_,rfl,C9⟩
end
end I
namespace I
theorem Lf{W:List Int}{p j:Nat}{x:Int}(a:p<W.length):wd (W.set p x) j=if j=p then x else wd W j:=by
 unfold wd;rw[List.getElem?_set];by_cases e:j=p
 ·subst e;simp[a]
 ·have: ¬p=j:=λ h=>e h.symm
  simp[e,this]
theorem ah1{h:aR}{x:Int}(hy:0<=h.av)(aa:x∈free h):∃i:Nat,i<h.Words.length/\(i=0\/(h.aU<=i/\(i:Int)<=h.av)\/h.aT<=i)/\x=wd h.Words i:=by
 unfold free at aa;rw[b3,b3]at aa;rcases aa with aa |aa |aa
 ·obtain⟨i,hi,e⟩:=kX aa
  have a:i<1/\i<h.Words.length:=by rw[fP]at hi;omega
  refine⟨i,a.2,.inl (by omega),?_⟩
  rw[<-e,List.getElem_take];exact(pz (aH a.2)).symm
 ·obtain⟨i,hi,e⟩:=kX aa
  have a:i<min (h.av+1).toNat h.Words.length-h.aU.toNat:=by simpa using hi
  have J:h.aU.toNat+i<h.Words.length:=by omega
  refine⟨h.aU.toNat+i,J,.inr (.inl ⟨by omega,by omega⟩),?_⟩
  rw[<-e,List.getElem_drop,List.getElem_take];exact(pz (aH J)).symm
 ·obtain⟨i,hi,e⟩:=kX aa
  have a:i<h.Words.length-h.aT.toNat:=by simpa using hi
  have J:h.aT.toNat+i<h.Words.length:=by omega
  refine⟨h.aT.toNat+i,J,.inr (.inr (by omega)),?_⟩
  rw[<-e,List.getElem_drop];exact(pz (aH J)).symm
theorem aff{h:aR}(a:0<=h.aU/\0<=h.aT){i:Nat}(hi:i<h.Words.length)(hc:i=0\/(h.aU<=i/\(i:Int)<=h.av)\/h.aT<=i):wd h.Words i∈free h:=by
 have key:wd h.Words i=h.Words[i]:=pz (aH hi);unfold free;rw[b3,b3,key];rcases hc with rfl |⟨h1,J⟩|h1
 ·left
  rw[lA]
  exact⟨0,by rw[gI,if_pos (by omega)];exact aH hi⟩
 ·right;left
  rw[lA]
  refine⟨i-h.aU.toNat,?_⟩
  rw[iN,gI,if_pos (by omega),show h.aU.toNat+(i-h.aU.toNat)=i by omega]
  exact aH hi
 ·right;right
  rw[lA]
  refine⟨i-h.aT.toNat,?_⟩
  rw[iN,show h.aT.toNat+(i-h.aT.toNat)=i by omega]
  exact aH hi
structure Ok (h:aR) (k:aP) (Y O:List Int):Prop where
 hash:∀a∈Y++O,1<=aj h.Words a/\aj h.Words a<h.Next
 nodup:((Y++O).map (aj h.Words)).Nodup
 ref:∀a∈Y++O,∀w∈refs k h.Words a.toNat,wd h.Words w.toNat=0\/wd h.Words w.toNat∈Y++O
 fr:∀i:Nat,i<h.Words.length->(i=0\/(h.aU<=i/\(i:Int)<=h.av)\/h.aT<=i)->wd h.Words i=0
 Ql:Cn h.aS
 nt:∀x∈h.aS,x∈O/\refs k h.Words x.toNat≠[]
 must:∀a∈O,¬a∈h.aS-> ∀w∈refs k h.Words a.toNat,¬(0<wd h.Words w.toNat/\wd h.Words w.toNat<=h.av)
section
variable{F:Nat}{k:aP}{h:aR}{Y O:List Int}
theorem h0.HJ(aj:iJ h)(b:h0 h k Y O):∀a∈Y,1<=a/\a.toNat+3+(wd h.Words (a.toNat+1)).toNat<=h.aU.toNat:=λ a c=>by
 obtain⟨n,rfl,d,J,_⟩:=b.y.mem a c;exact⟨by omega,by rw[cN];exact J⟩
theorem h0.qC(aj:iJ h)(b:h0 h k Y O):∀a∈O,h.av+1<=a/\a.toNat+3+(wd h.Words (a.toNat+1)).toNat<=h.aT.toNat:=λ a c=>by
 obtain⟨n,rfl,d,J,_⟩:=b.o.mem a c;have:=aj.A.1.1;exact⟨by omega,by rw[cN];exact J⟩
theorem ak4(v:fS k)(b8:iJ h)(s:h0 h k Y O):oB (view h k Y O)=0↔Ok h k Y O:=by
 have D:=s.sJ v b8;obtain⟨⟨⟨E,G⟩,a3,a4⟩,b,⟨c1,c2⟩,⟨c3,c4⟩,c5⟩:=id b8;have hy:=s.HJ b8;have ap:=s.qC b8;have e1:aZ (view h k Y O)=0↔(∀a∈Y++O,lT (view h k Y O) a=false)/\((Y++O).map (aj h.Words)).Nodup:=by
  unfold aZ;show(if(Y++O).any (lT (view h k Y O))then(3 :Int)else if((Y++O).map (aj h.Words)).Nodup then 0 else 6)=0↔_
  cases af:(Y++O).any (lT (view h k Y O))with
  |true=>
   rw[if_pos rfl]
   refine⟨λ e=>(by cases e),λ⟨e,_⟩=>?_⟩
   obtain⟨x,c,e2⟩:=h7.1 af
   rw[e x c]at e2;cases e2
  |false=>
   rw[if_neg (by decide)]
   rw[ih]at af
   have m:∀a∈Y++O,lT (view h k Y O) a=false:=λ a d=>by simpa using af a d
   split
   ·rename_i f;exact⟨λ _=>⟨m,f⟩,λ _=>rfl⟩
   ·rename_i f;exact⟨λ e=>(by cases e),λ e=>absurd e.2 f⟩
 have e2:kR (view h k Y O)=0↔(∀a∈Y++O,oq (view h k Y O) a=false)/\ ∀x∈free h,x=0:=by
  unfold kR;show(if(Y++O).any (oq (view h k Y O))then(5 :Int)else if(free h).any (λ x=>!decide (x=0))then 1 else 0)=0↔_
  cases af:(Y++O).any (oq (view h k Y O))with
  |true=>
   rw[if_pos rfl]
   refine⟨λ e=>(by cases e),λ⟨e,_⟩=>?_⟩
   obtain⟨x,c,e2⟩:=h7.1 af
   rw[e x c]at e2;cases e2
  |false=>
   rw[if_neg (by decide)]
   rw[ih]at af
   have m:∀a∈Y++O,oq (view h k Y O) a=false:=λ a d=>by simpa using af a d
   cases ad:(free h).any (λ x=>!decide (x=0))with
   |true=>
    rw[if_pos rfl]
    refine⟨λ e=>(by cases e),λ⟨_,e⟩=>?_⟩
    obtain⟨x,c,e2⟩:=h7.1 ad
    rw[e x c]at e2;cases e2
   |false=>
    rw[if_neg (by decide)]
    rw[ih]at ad
    exact⟨λ _=>⟨m,λ x c=>by simpa using ad x c⟩,λ _=>rfl⟩
 have e3:Aj (view h k Y O)=0↔(∀i,i<h.aS.length->hx (view h k Y O) i=false)/\ ∀a∈O,pO (view h k Y O) a=false:=by
  unfold Aj;show(if(dy h.aS.length).any (hx (view h k Y O))||O.any (pO (view h k Y O))then(4 :Int)else 0)=0↔_
  cases af:(dy h.aS.length).any (hx (view h k Y O))with
  |true=>
   rw[Bool.true_or,if_pos rfl]
   refine⟨λ e=>(by cases e),λ⟨e,_⟩=>?_⟩
   obtain⟨x,c,e2⟩:=h7.1 af
   rw[e x (by simpa using c)]at e2;cases e2
  |false=>
   rw[hX]
   rw[ih]at af
   have m:∀i,i<h.aS.length->hx (view h k Y O) i=false:=λ i hi=>by simpa using af i (by simpa using hi)
   cases ad:O.any (pO (view h k Y O))with
   |true=>
    rw[if_pos rfl]
    refine⟨λ e=>(by cases e),λ⟨_,e⟩=>?_⟩
    obtain⟨x,c,e2⟩:=h7.1 ad
    rw[e x c]at e2;cases e2
   |false=>
    rw[if_neg (by decide)]
    rw[ih]at ad
    exact⟨λ _=>⟨m,λ x c=>by simpa using ad x c⟩,λ _=>rfl⟩
 have e4:oB (view h k Y O)=0↔aZ (view h k Y O)=0/\kR (view h k Y O)=0/\Aj (view h k Y O)=0:=by
  unfold oB;by_cases n:aZ (view h k Y O)=0
  ·rw[if_pos n]
   by_cases o:kR (view h k Y O)=0
   ·rw[if_pos o];exact⟨λ e=>⟨n,o,e⟩,λ e=>e.2.2⟩
   ·rw[if_neg o];exact⟨λ e=>absurd e o,λ e=>absurd e.2.1 o⟩
  ·rw[if_neg n];exact⟨λ e=>absurd e n,λ e=>absurd e.1 n⟩
 rw[e4,e1,e2,e3];have t:∀x,(sq (view h k Y O) x=false)↔x∈O/\refs k h.Words x.toNat≠[]:=λ x=>by
  unfold sq kh;show((!decide (x∈Y++O)||(decide (0<x)&&decide (x<=h.av)))||(refs k h.Words x.toNat).isEmpty)=false↔_
  rw[hQ,hQ];constructor
  ·rintro⟨⟨j,J⟩,r⟩
   have j:x∈Y++O:=by simp only[Bool.not_eq_false']at j;exact of_decide_eq_true j
   refine⟨?_,λ e=>by rw[e]at r;cases r⟩
   rcases b3.1 j with a' |a'
   ·have:=hy x a'
    rw[decide_eq_true (by omega),decide_eq_true (by omega)]at J
    cases J
   ·exact a'
  ·rintro⟨j,J⟩
   have:=ap x j
   refine⟨⟨?_,?_⟩,?_⟩
   ·rw[decide_eq_true (iZ _ j)];rfl
   ·rw[decide_eq_false (p:=x<=h.av) (by omega),Bool.and_false]
   ·cases e:refs k h.Words x.toNat with
    |nil=>exact absurd e J
    |cons _ _=>rfl
 constructor
 ·rintro⟨⟨j,J⟩,⟨r,a'⟩,u,y⟩
  refine⟨λ a d=>?_,J,λ a d w l=>?_,λ i hi hc=>a' _ (aff ⟨by omega,by omega⟩ hi hc),ZM λ i hi=>?_,λ x c=>?_,λ a d f w l=>?_⟩
  ·have:=j a d
   unfold lT at this
   rw[hQ,decide_eq_false_iff_not,decide_eq_false_iff_not]at this
   have H: ¬aj h.Words a<1:=this.1
   have I: ¬h.Next<=aj h.Words a:=this.2
   omega
  ·have:=r a d
   unfold oq at this
   rw[ih]at this
   have q:=this w l
   unfold uR at q
   by_cases e:wd h.Words w.toNat=0
   ·exact .inl e
   ·refine .inr ?_
    by_cases e2:wd h.Words w.toNat∈Y++O
    ·exact e2
    ·refine absurd ?_ q
     show(!decide (wd h.Words w.toNat=0)&& !decide (wd h.Words w.toNat∈Y++O))=true
     rw[decide_eq_false e,decide_eq_false e2];rfl
  ·have:=u (i+1) hi
   unfold hx at this
   simp only[hQ,lz,decide_eq_false_iff_not,Nat.add_sub_cancel]at this
   rcases this.1 with z |z
   ·omega
   ·have z: ¬wd h.aS (i+1)<=wd h.aS i:=z
    omega
  ·obtain⟨i,hi,e⟩:=W8 c
   have:=u i hi
   unfold hx at this
   rw[hQ]at this
   have q:sq (view h k Y O) (wd h.aS i)=false:=this.2
   rw[e]at q
   exact(t x).1 q
  ·rintro⟨A,B⟩
   have:=y a d
   unfold pO at this
   have this:(!decide (a∈h.aS)&&(refs k h.Words a.toNat).any λ w=>kh (view h k Y O) (wd h.Words w.toNat))=false:=this
   rw[decide_eq_false f,iy,jw,ih]at this
   refine this w l ?_
   show(decide (0<wd h.Words w.toNat)&&decide (wd h.Words w.toNat<=h.av))=true
   rw[decide_eq_true A,decide_eq_true B];rfl
 ·intro g
  refine⟨⟨λ a d=>?_,g.nodup⟩,⟨λ a d=>?_,λ x c=>?_⟩,λ i hi=>?_,λ a d=>?_⟩
  ·have:=g.hash a d
   show(decide (aj h.Words a<1)||decide (h.Next<=aj h.Words a))=false
   rw[decide_eq_false (by omega),decide_eq_false (by omega)];rfl
  ·show((refs k h.Words a.toNat).any (uR (view h k Y O)))=false
   rw[ih]
   intro w l
   show¬(!decide (wd h.Words w.toNat=0)&& !decide (wd h.Words w.toNat∈Y++O))=true
   rcases g.ref a d w l with e |e
   ·rw[decide_eq_true e];simp
   ·rw[decide_eq_true e];simp
  ·obtain⟨i,hi,hc,e⟩:=ah1 (by omega) c
   rw[e];exact g.fr i hi hc
  ·show((decide (0<i)&&decide (wd h.aS i<=wd h.aS (i-1)))||sq (view h k Y O) (wd h.aS i))=false
   rw[(t _).2 (g.nt _ (Z9 hi)),Bool.or_false]
   by_cases C:0<i
   ·have:=g.Ql (i-1) i (by omega) hi
    rw[decide_eq_false (p:=wd h.aS i<=wd h.aS (i-1)) (by omega),Bool.and_false]
   ·rw[decide_eq_false C];rfl
  ·show(!decide (a∈h.aS)&&(refs k h.Words a.toNat).any λ w=>kh (view h k Y O) (wd h.Words w.toNat))=false
   by_cases f:a∈h.aS
   ·rw[decide_eq_true f];rfl
   ·rw[decide_eq_false f,iy,jw,ih]
    intro w l e
    have e:(decide (0<wd h.Words w.toNat)&&decide (wd h.Words w.toNat<=h.av))=true:=e
    simp only[bC,decide_eq_true_eq]at e
    exact g.must a d f w l e
theorem fk.apart{W:List Int}{to q:Nat}{L:List Int}(h:fk k W to q L):∀a∈L,∀b∈L,a≠b->a.toNat+3+(wd W (a.toNat+1)).toNat<=b.toNat\/b.toNat+3+(wd W (b.toNat+1)).toNat<=a.toNat:=by
 induction h with
 |nil=>intro a ax;cases ax
 |cons g J i d f=>
  intro a ax b af e
  rcases cm.1 ax with rfl |ax
  ·rcases cm.1 af with rfl |af
   ·exact absurd rfl e
   ·obtain⟨n,rfl,c,_⟩:=d.mem b af
    left;simp only[cN];exact c
  ·rcases cm.1 af with rfl |af
   ·obtain⟨n,rfl,c,_⟩:=d.mem a ax
    right;simp only[cN];exact c
   ·exact f a ax b af e
theorem h0.apart(aj:iJ h)(c:h0 h k Y O):∀a∈Y++O,∀b∈Y++O,a≠b->a.toNat+3+(wd h.Words (a.toNat+1)).toNat<=b.toNat\/b.toNat+3+(wd h.Words (b.toNat+1)).toNat<=a.toNat:=by
 intro a ax b af d;have hc:=aj.C.1.2;rcases b3.1 ax with ax |ax<;>rcases b3.1 af with af |af
 ·exact c.y.apart a ax b af d
 ·have:=c.HJ aj a ax;have:=c.qC aj b af;left;omega
 ·have:=c.qC aj a ax;have:=c.HJ aj b af;right;omega
 ·exact c.o.apart a ax b af d
theorem fk.congr{W b:List Int}{to q:Nat}{L:List Int}(h:fk k W to q L)(c:∀a∈L,wd b a.toNat=wd W a.toNat/\wd b (a.toNat+1)=wd W (a.toNat+1)):fk k b to q L:=by
 induction h with
 |nil=>exact .nil
 | @cons q r d J e i f=>
   obtain⟨e1,e2⟩:=c _ jX
   simp only[cN]at e1 e2
   have:=f (λ a g=>c a (ez _ g))
   rw[<-e2]at this e J
   rw[<-e1]at d J
   exact .cons d J e this
theorem aF3{W a:List Int}{q:Nat}(b:wd a q=wd W q)(J:wd a (q+1)=wd W (q+1)):refs k a q=refs k W q:=by unfold refs;rw[b,J]
end
end I
namespace I
section
variable{F:Nat}{k:aP}
theorem aFk(h:fS k)(t:Int):E9 k t=some (fX k t):=by
 have hc:=h.cl;unfold E9 fX;rw[cQ (by omega) (by omega),aD,hT];simp;omega
theorem aFh(h:fS k){t:Int}(b:fX k t=true)(n:Int):E8 k t n=some (isLen k t n):=by
 unfold E8 fL isLen;simp only[ae];cases af:(decide (0<=n)&&decide (n<=500))with
 |false=>simp
 |true=>
  by_cases a:t<3
  ·simp[a]
  ·rw[Qp h b a];simp[a]
theorem ajD(h:fS k){t:Int}(d:fX k t=true){n:Int}(e:isLen k t n=true){j:Nat}(aA:(j:Int)<n):tl k t (j:Int)=some (gA k t j):=by
 unfold tl gA;obtain⟨_,a⟩:=l3.1 e;by_cases J:t=2
 ·simp[J]
 by_cases b:t<3
 ·have: ¬3<=t:=by omega
  simp[J,this]
 ·have a:=a.resolve_left b
  have f:3<=t:=by omega
  have c:j<(iw k t).length:=by omega
  rw[Qp h d b,ae,bq (aH c),aH c]
  simp[J,f]
theorem fk.le{W:List Int}{to q:Nat}{L:List Int}(h:fk k W to q L):q<=to:=by
 cases h with
 |nil=>exact cu _
 |cons a J b c=>omega
theorem av3(h:aR)(aj:fS k){to:Nat}(m:to<=h.Words.length)(o:h.Words.length<=5000):∀(f q:Nat)(acc:List Int),to-q<f->q<=6000 ->acc.length+(to-q)<=6000 ->
 (∃L,fk k h.Words to q L/\yP h k (to:Int) f acc (q:Int)=some (.go (acc++L,(to:Int))))\/
 ((∀L,¬fk k h.Words to q L)/\(yP h k (to:Int) f acc (q:Int)=some (.out ([],false))\/ ∃x,yP h k (to:Int) f acc (q:Int)=some (.go x)/\x.2≠(to:Int))):=by
 intro f
 induction f with
 |zero=>intro q acc h;omega
 |succ f j=>
  intro q acc ad p s
  rw[yP]
  by_cases b:q<to
  case neg=>
   by_cases e:q=to
   ·subst e
    refine .inl ⟨[],.nil,?_⟩
    rw[bG];simp
   ·rw[show decide ((q:Int)<(to:Int))=false from decide_eq_false (by omega)]
    exact .inr ⟨λ L a=>by have:=a.le;omega,.inr ⟨(acc,(q:Int)),rfl,by show(q:Int)≠(to:Int);omega⟩⟩
  rw[bH b,cond_true,cQ (n:=(q:Int)+3) (by omega) (by omega)]
  by_cases g:(to:Int)<(q:Int)+3
  ·rw[decide_eq_true g]
   refine .inr ⟨λ L a=>?_,.inl rfl⟩
   obtain⟨_,_,_,_,h,_⟩:=a.inv b
   omega
  rw[decide_eq_false g,cond_false,fU (by omega),ae]
  have e1:E9 (⟨k.aY,k.aW,k.Fields,k.Names,k.aX⟩:aP) (wd h.Words q)=some (fX k (wd h.Words q)):=aFk aj _
  rw[e1,ae]
  cases c:fX k (wd h.Words q)with
  |false=>
   refine .inr ⟨λ L a=>?_,.inl rfl⟩
   obtain⟨_,_,h,_⟩:=a.inv b
   rw[c]at h;cases h
  |true=>
   have e2:E8 (⟨k.aY,k.aW,k.Fields,k.Names,k.aX⟩:aP) (wd h.Words q) (wd h.Words (q+1))=some (isLen k (wd h.Words q) (wd h.Words (q+1))):=aFh aj c _
   rw[dF,cond_false,ae,cQ (n:=(q:Int)+1) (by omega) (by omega),o8 (i:=q+1) (by omega) (by omega),ae,e2,ae]
   cases d:isLen k (wd h.Words q) (wd h.Words (q+1))with
   |false=>
    refine .inr ⟨λ L a=>?_,.inl rfl⟩
    obtain⟨_,_,_,h,_⟩:=a.inv b
    rw[d]at h;cases h
   |true=>
    obtain⟨⟨l0,l1⟩,_⟩:=l3.1 d
    rw[dF,cond_false,h3 (by simp;omega),ae,ae,cQ (n:=3+wd h.Words (q+1)) (by omega) (by omega),cQ (n:=(q:Int)+(3+wd h.Words (q+1))) (by omega) (by omega)]
    rw[show(q:Int)+(3+wd h.Words (q+1))=((q+3+(wd h.Words (q+1)).toNat:Nat):Int) by omega]
    rcases j (q+3+(wd h.Words (q+1)).toNat) (acc++[(q:Int)]) (by omega) (by omega) (by simp;omega)with⟨L,a,e⟩|⟨l,e⟩
    ·refine .inl ⟨(q:Int)::L,.cons c d a.le a,?_⟩
     rw[e];simp
    ·refine .inr ⟨λ L a=>?_,e⟩
     obtain⟨r,_,_,_,_,h⟩:=a.inv b
     exact l r h
theorem ajB(g:6000<F)(h:aR)(aj:fS k){to q:Nat}(i:q<=5000)(b:to<=h.Words.length)(c:h.Words.length<=5000) :
 (∃L,fk k h.Words to q L/\rq F h k (q:Int) (to:Int)=some (L,true))\/((∀L,¬fk k h.Words to q L)/\ ∃l,rq F h k (q:Int) (to:Int)=some (l,false)):=by
 unfold rq
 rcases av3 h aj b c F q [] (by omega) (by omega) (by simp;omega)with⟨L,d,e⟩|⟨a,e |⟨x,e,f⟩⟩
 ·exact .inl ⟨L,d,by rw[e,qN];simp⟩
 ·exact .inr ⟨a,[],by rw[e,akh]⟩
 ·exact .inr ⟨a,x.1,by rw[e,qN];show some (x.1,decide (x.2=(to:Int)))=_;rw[decide_eq_false f]⟩
theorem TZ{α ρ:Type}{p:α->Bool}{e:ρ}:∀l:List α,l.findSome? (λ x=>if p x then some e else none)=if l.any p then some e else none
 |[]=>rfl
 |x::r=>by
  rw[h5,List.any_cons];cases p x with
  |true=>rfl
  |false=>simp only[hX];exact TZ r
theorem Aw{l:List Int}(b:Small F l.length)(n:Int):j9 F l n=some (decide (n∈l)):=by
 unfold j9;have l1:BV l n F 0=some (cn (l.findSome? λ x=>if decide (x=n)then some true else none)):=each _ b.1 (λ f i x a=>by
  rw[BV,bH (aM.1 a).1,cond_true,bq a,ae];cases decide (x=n)<;>rfl) (λ f=>by rw[BV,bG];rfl) b.2
 rw[l1,TZ];by_cases e:n∈l
 ·rw[show(l.any λ x=>decide (x=n))=true from h7.2 ⟨n,e,by simp⟩,decide_eq_true e];rfl
 ·rw[show(l.any λ x=>decide (x=n))=false from ih.2 λ x a=>by simp;rintro rfl;exact e a,decide_eq_false e];rfl
theorem aFj(o:6000<F)(h:aR)(aj:fS k){q:Nat}(e:q+3+(wd h.Words (q+1)).toNat<=h.Words.length)(p:h.Words.length<=5000)(g:fX k (wd h.Words q)=true)(c:isLen k (wd h.Words q) (wd h.Words (q+1))=true) :
 oQ F h k (q:Int)=some (refs k h.Words q):=by
 obtain⟨⟨l0,l1⟩,_⟩:=l3.1 c
 unfold oQ
 generalize m:(wd h.Words (q+1)).toNat=n at e
 have b:wd h.Words (q+1)=(n:Int):=by omega
 have d:=c
 rw[b]at d
 have l1:=vP (l:=dy n) (λ f acc i=>vL (q:Int) h k f acc (i:Int)) (λ j=>if gA k (wd h.Words q) j then[((q+3+j:Nat):Int)]else[]) 1 5000 (λ x _=>by split<;>simp) (λ f i x acc a r=>by
  have hi:i<n:=by have:=(aM.1 a).1;simpa using this
  rw[kW hi]at a;simp only[aD]at a;subst a;rw[vL,cQ (n:=(q:Int)+1) (by omega) (by omega),o8 (i:=q+1) (by omega) (by omega),ae,b,bH hi,cond_true,fU (by omega),ae];have e1:tl (⟨k.aY,k.aW,k.Fields,k.Names,k.aX⟩:aP) (wd h.Words q) (i:Int)=some (gA k (wd h.Words q) i):=ajD aj g d (by omega);rw[e1,ae];show _=vL (q:Int) h k f _ _
  cases gA k (wd h.Words q) i with
  |true=>
   rw[cond_true,cQ (n:=(q:Int)+3) (by omega) (by omega),cQ (n:=(q:Int)+3+i) (by omega) (by omega),h3 (by simp;omega),ae,ae,eG hi (by omega),if_pos rfl]
   congr 2
  |false=>
   rw[cond_false,ae,eG hi (by omega),if_neg (by decide),gL]) (λ f acc=>by
  rw[iS,vL,cQ (n:=(q:Int)+1) (by omega) (by omega),o8 (i:=q+1) (by omega) (by omega),ae,b,bG];rfl) (F:=F) (by simp;omega) (acc:=[]) (by simp;omega)
 have l1:vL (q:Int) h k F [] 0=_:=l1
 rw[l1,ae,jy,refs,m]
theorem ajC(a:6000<F){h:aR}(c:fS k)(aj:iJ h):(∃Y O,h0 h k Y O/\oR F h k=some (Y,O,true))\/((∀Y O,¬h0 h k Y O)/\ ∃Y O,oR F h k=some (Y,O,false)):=by
 have m:=aj.fq;obtain⟨⟨⟨o,p⟩,a3,a4⟩,b,⟨c1,c2⟩,⟨c3,c4⟩,c5⟩:=id aj;unfold okB at b;unfold oR;have d:=ajB (F:=F) a h c (q:=1) (to:=h.aU.toNat) (by omega) (by omega) (by omega);have f:=ajB (F:=F) a h c (q:=(h.av+1).toNat) (to:=h.aT.toNat) (by omega) (by omega) (by omega);rw[show((h.aU.toNat:Nat):Int)=h.aU by omega]at d;rw[show((h.aT.toNat:Nat):Int)=h.aT by omega,show(((h.av+1).toNat:Nat):Int)=h.av+1 by omega]at f;rw[cQ (n:=h.av+1) (by omega) (by omega)];have u1:∀r,rq F h k 1 h.aU=some r->rq F (⟨h.Words,h.av,h.aL,h.aU,h.aT,h.aS,h.Next⟩:aR) (⟨k.aY,k.aW,k.Fields,k.Names,k.aX⟩:aP) 1 h.aU=some r:=λ r e=>e;have u2:∀r,rq F h k (h.av+1) h.aT=some r->rq F (⟨h.Words,h.av,h.aL,h.aU,h.aT,h.aS,h.Next⟩:aR) (⟨k.aY,k.aW,k.Fields,k.Names,k.aX⟩:aP) (h.av+1) h.aT=some r:=λ r e=>e;rcases d with⟨Y,i,e1⟩|⟨g,Y,e1⟩<;>rcases f with⟨O,j,e2⟩|⟨l,O,e2⟩<;>rw[u1 _ e1,ae,u2 _ e2,ae]
 ·exact .inl ⟨Y,O,⟨i,j⟩,rfl⟩
 ·exact .inr ⟨λ Y O h=>l _ h.o,Y,O,rfl⟩
 ·exact .inr ⟨λ Y O h=>g _ h.y,Y,O,rfl⟩
 ·exact .inr ⟨λ Y O h=>g _ h.y,Y,O,rfl⟩
end
end I
namespace I
section
variable{F:Nat}{k:aP}{h:aR}{Y O:List Int}
theorem Wp{b:Bool}{e:Int}{K:Option (Way Int Unit)}:gR (if b=true then some e else none) K=cond b (some (.out e)) K:=by cases b<;>rfl
theorem aFo(g:10000<F)(j:1<=h.Next)(l:h.Next<=9223372036854775807)(b:oS (view h k Y O)):BD h (Y++O) F 0=some (cn (if(Y++O).any (lT (view h k Y O))then some 3 else none)):=by
 have hc:Y.length+O.length<=5000:=b.rG;have m:h.Words.length<=4900:=b.fq;rw[<-nS];exact each _ (by simp;omega) (λ f i a c=>by
  have e:=bB c;have d:ry (view h k Y O) a:=b.sF a e;have o:0<=a:=d.pos;have J:a.toNat+3+(wd h.Words (a.toNat+1)).toNat<=h.Words.length:=d.fit;rw[BD,bH (aM.1 c).1,cond_true,bq c,ae,cQ (n:=a+2) (by omega) (by omega),o8 (i:=a.toNat+2) (by omega) (by omega),ae];unfold fL;rw[ae,cQ (n:=h.Next-1) (by omega) (by omega),Wp];congr 1;show _=(decide (wd h.Words (a.toNat+2)<1)||decide (h.Next<=wd h.Words (a.toNat+2)))
  rw[hT];simp;omega) (λ f=>by rw[BD,bG];rfl) (by simp;omega)
theorem aCU{l:List Int}:(dy l.length).any (λ i=>(dy i).any λ j=>decide (wd l i=wd l j))= !decide l.Nodup:=by
 rw[hT,h7];simp only[lf,h7,decide_eq_true_eq,ga,decide_eq_false_iff_not];rw[List.Nodup,jt];constructor
 ·rintro⟨i,hi,j,aA,e⟩ a
  have:=a j i (by omega) hi aA
  rw[pz (aH hi),pz (aH (by omega:j<l.length))]at e
  exact this e.symm
 ·intro a
  apply k9
  intro b
  refine a λ j i aA hi c e=>b ⟨i,hi,j,c,?_⟩
  rw[pz (aH hi),pz (aH aA)];exact e.symm
theorem aFp(g:10000<F)(a:oS (view h k Y O)):yF F h (Y++O) F 0=some (cn (if((Y++O).map (aj h.Words)).Nodup then none else some 6)):=by
 have hc:Y.length+O.length<=5000:=a.rG;have m:h.Words.length<=4900:=a.fq;have n:(Y++O).length<=5000:=by simp;omega
 have at_:∀i,i<(Y++O).length->idx (Y++O) (i:Int)=some (wd (Y++O) i)/\idx h.Words (ar (wd (Y++O) i+2))=some (wd ((Y++O).map (aj h.Words)) i):=λ i hi=>by
  have e1:wd (Y++O) i=(Y++O)[i]:=pz (aH hi);have b:ry (view h k Y O) (Y++O)[i]:=a.sF _ (hC hi);have o:0<=(Y++O)[i]:=b.pos;have J:(Y++O)[i].toNat+3+(wd h.Words ((Y++O)[i].toNat+1)).toNat<=h.Words.length:=b.fit;refine⟨fU hi,?_⟩;rw[e1,cQ (by omega) (by omega),o8 (i:=(Y++O)[i].toNat+2) (by omega) (by omega)];refine congrArg some (pz ?_).symm;rw[iT,aH hi];rfl
 have l1:yF F h (Y++O) F 0=some (cn ((dy (Y++O).length).findSome? λ i=>if(dy i).any (λ j=>decide (wd ((Y++O).map (aj h.Words)) i=wd ((Y++O).map (aj h.Words)) j))then some 6 else none)):=kA _ (by omega) (λ f i hi=>by
  rw[yF,bH hi,cond_true];have c:BE h (Y++O) (i:Int) F 0=some (cn ((dy i).findSome? λ j=>if decide (wd ((Y++O).map (aj h.Words)) i=wd ((Y++O).map (aj h.Words)) j)then some 6 else none)):=kA _ (by omega) (λ d j aA=>by
   rw[BE,bH aA,cond_true,(at_ i hi).1,ae,(at_ i hi).2,ae,(at_ j (by omega)).1,ae,(at_ j (by omega)).2,ae];cases decide (wd ((Y++O).map (aj h.Words)) i=wd ((Y++O).map (aj h.Words)) j)<;>rfl) (λ d=>by rw[BE,bG];rfl) (by omega)
  rw[c,nS];cases(dy i).any (λ j=>decide (wd ((Y++O).map (aj h.Words)) i=wd ((Y++O).map (aj h.Words)) j))<;>rfl) (λ f=>by rw[yF,bG];rfl) (by omega)
 rw[l1,nS];have e:=aCU (l:=(Y++O).map (aj h.Words));rw[hl]at e;rw[e];by_cases aK:((Y++O).map (aj h.Words)).Nodup
 ·rw[if_pos aK,decide_eq_true aK];rfl
 ·rw[if_neg aK,decide_eq_false aK];rfl
theorem Qr(e:10000<F)(c:oS (view h k Y O)){a:Int}(d:a∈Y++O):oQ F (⟨h.Words,h.av,h.aL,h.aU,h.aT,h.aS,h.Next⟩:aR) (⟨k.aY,k.aW,k.Fields,k.Names,k.aX⟩:aP) a=some (refs k h.Words a.toNat):=by
 have b:ry (view h k Y O) a:=c.sF a d;have f:h.Words.length<=4900:=c.fq;have:=aFj (F:=F) (by omega) h c.pv (q:=a.toNat) b.fit (by omega) b.tag b.len;rwa [show((a.toNat:Nat):Int)=a by have:=b.pos;omega]at this
theorem aFq(l:10000<F)(b:oS (view h k Y O)):BF F h k (Y++O) F 0=some (cn (if(Y++O).any (oq (view h k Y O))then some 5 else none)):=by
 have hc:Y.length+O.length<=5000:=b.rG;have p:h.Words.length<=4900:=b.fq;rw[<-nS];exact each _ (by simp;omega) (λ f i a c=>by
  have e:=bB c;have g:ry (view h k Y O) a:=b.sF a e;have Gd:(refs k h.Words a.toNat).length<=5000:=PY b g;rw[BF,bH (aM.1 c).1,cond_true,bq c,ae,Qr l b e,ae];have m:yG F h (Y++O) (refs k h.Words a.toNat) F 0=some (cn ((refs k h.Words a.toNat).findSome? λ w=>if uR (view h k Y O) w then some 5 else none)):=each _ (by omega) (λ n q w d=>by
   have o:=bB d;have j:idx h.Words w=some (wd h.Words w.toNat):=g.PX o;rw[yG,bH (aM.1 d).1,cond_true,bq d,ae,j,ae,ae,j,ae,Aw ⟨by simp;omega,by simp;omega⟩,ae];show _=gR (if(!decide (wd h.Words w.toNat=0)&& !decide (wd h.Words w.toNat∈Y++O))=true then some 5 else none) _
   cases decide (wd h.Words w.toNat=0)<;>cases decide (wd h.Words w.toNat∈Y++O)<;>rfl) (λ n=>by rw[yG,bG];rfl) (by omega)
  rw[m,nS];show _=gR (if(refs k h.Words a.toNat).any (uR (view h k Y O))then some 5 else none) _
  cases(refs k h.Words a.toNat).any (uR (view h k Y O))<;>rfl) (λ f=>by rw[BF,bG];rfl) (by simp;omega)
theorem aFr(c:10000<F)(b8:iJ h):vI h F 0=some (cn (if(free h).any (λ x=>!decide (x=0))then some 1 else none)):=by
 have d:=b8.fq;obtain⟨⟨⟨g,j⟩,a3,a4⟩,b,⟨c1,c2⟩,⟨c3,c4⟩,c5⟩:=id b8;have l1:vI h F 0=some (cn ((dy h.Words.length).findSome? λ i=>if(!decide (wd h.Words i=0)&&(decide ((i:Int)=0)||((decide (h.aU<=(i:Int))&&decide ((i:Int)<=h.av))||decide (h.aT<=(i:Int)))))then some 1 else none)):=kA _ (by omega) (λ f i hi=>by
  rw[vI,bH hi,cond_true,fU hi,ae];unfold fL;rw[ae];cases decide (wd h.Words i=0)<;>cases decide ((i:Int)=0)<;>cases((decide (h.aU<=(i:Int))&&decide ((i:Int)<=h.av))||decide (h.aT<=(i:Int)))<;>rfl) (λ f=>by rw[vI,bG];rfl) (by omega)
 rw[l1,nS];refine congrArg (λ b:Bool=>some (cn (if b=true then some 1 else none))) ?_;rw[hT,h7,h7];constructor
 ·rintro⟨i,hi,e⟩
  simp only[bC,hM,ga,decide_eq_false_iff_not,decide_eq_true_eq]at e
  rw[lf]at hi
  exact⟨wd h.Words i,aff ⟨by omega,by omega⟩ hi (by rcases e.2 with e |e |e;exact .inl (by omega);exact .inr (.inl e);exact .inr (.inr e)),by simpa using e.1⟩
 ·rintro⟨x,a,e⟩
  obtain⟨i,hi,hc,rfl⟩:=ah1 (by omega) a
  refine⟨i,lf.2 hi,?_⟩
  simp only[bC,hM,ga,decide_eq_false_iff_not,decide_eq_true_eq]at e⊢
  exact⟨e,by rcases hc with e |e |e;exact .inl (by omega);exact .inr (.inl e);exact .inr (.inr e)⟩
theorem aiF(b8:iJ h)(a:h0 h k Y O){x:Int}:x∈O↔x∈Y++O/\kh (view h k Y O) x=false:=by
 obtain⟨⟨⟨c,d⟩,a3,a4⟩,b,⟨c1,c2⟩,⟨c3,c4⟩,c5⟩:=id b8;have e:kh (view h k Y O) x=(decide (0<x)&&decide (x<=h.av)):=rfl;rw[e];constructor
 ·intro aa
  have:=a.qC b8 x aa
  exact⟨b3.2 (.inr aa),by simp;omega⟩
 ·rintro⟨aa,e⟩
  rcases b3.1 aa with aa |aa
  ·have:=a.HJ b8 x aa
   simp at e;omega
  ·exact aa
theorem aFv(i:10000<F)(b8:iJ h)(d:h0 h k Y O)(f:oS (view h k Y O))(x:Int)(Z:Option Int)(j:Z=some x)(K:Option (Way Int Unit)):((j9 F O x).bind λ l=>
 cond (!l) (some (.out 4)) (Z.bind λ c=>
 (oQ F (⟨h.Words,h.av,h.aL,h.aU,h.aT,h.aS,h.Next⟩:aR) (⟨k.aY,k.aW,k.Fields,k.Names,k.aX⟩:aP) c).bind λ m=>
 cond (decide ((m.length:Int)=0)) (some (.out 4)) K))=gR (if sq (view h k Y O) x then some 4 else none) K:=by
 have hc:Y.length+O.length<=5000:=f.rG
 subst j
 rw[Aw ⟨by omega,by omega⟩,ae,Wp]
 have e:sq (view h k Y O) x=(!decide (x∈Y++O)||kh (view h k Y O) x||(refs k h.Words x.toNat).isEmpty):=rfl
 rw[e]
 by_cases b:x∈O
 ·obtain⟨g,J⟩:=(aiF b8 d).1 b
  rw[decide_eq_true b,decide_eq_true g,J,dF,cond_false,ae,Qr i f g,ae]
  cases refs k h.Words x.toNat with
  |nil=>rfl
  |cons a r=>rw[decide_eq_false (by simp;omega)];rfl
 ·rw[decide_eq_false b]
  have:(!decide (x∈Y++O)||kh (view h k Y O) x)=true:=by
   cases aK:decide (x∈Y++O)with
   |false=>rfl
   |true=>
    cases hy:kh (view h k Y O) x with
    |true=>rfl
    |false=>exact absurd ((aiF b8 d).2 ⟨of_decide_eq_true aK,hy⟩) b
  rw[this];rfl
theorem aFs(d:10000<F)(b8:iJ h)(g:h0 h k Y O)(j:oS (view h k Y O))(a:Small F h.aS.length):pU F h k (Y,O,true) F 0=some (cn (if(dy h.aS.length).any (hx (view h k Y O))then some 4 else none)):=by
 rw[<-nS];exact kA _ a.1 (λ f i hi=>by
  rw[pU,bH hi,cond_true];have e:hx (view h k Y O) i=((decide (0<i)&&decide (wd h.aS i<=wd h.aS (i-1)))||sq (view h k Y O) (wd h.aS i)):=rfl;have b:=aFv d b8 g j (wd h.aS i) (idx h.aS (i:Int)) (fU hi) (pU F h k (Y,O,true) f (ar ((i:Int)+1)));rw[e];have l:=a.1;by_cases c:0<i
  ·rw[show decide ((0 :Int)<(i:Int))=true from decide_eq_true (by omega),cond_true]
   rw[show∀K:Int->Option (Way Int Unit),(idx h.aS (i:Int)).bind K=K (wd h.aS i) from λ K=>by rw[fU hi];rfl]
   rw[cQ (n:=(i:Int)-1) (by omega) (by omega),o8 (i:=i-1) (by omega) (by omega),ae,decide_eq_true c,jw]
   cases decide (wd h.aS i<=wd h.aS (i-1))with
   |true=>rfl
   |false=>
    rw[cond_false,hX,<-b]
    rw[fU hi];rfl
  ·rw[show decide ((0 :Int)<(i:Int))=false from decide_eq_false (by omega),cond_false,decide_eq_false c,Bool.false_and,hX,<-b]
   rw[fU hi];rfl) (λ f=>by rw[pU,bG];rfl) a.2
theorem aFt(l:10000<F)(b:oS (view h k Y O))(m:Small F h.aS.length):tf F h k (Y,O,true) F 0=some (cn (if O.any (pO (view h k Y O))then some 4 else none)):=by
 have hc:Y.length+O.length<=5000:=b.rG;rw[<-nS];exact each _ (by omega) (λ f i a c=>by
  have g:=b3.2 (Or.inr (a:=a∈Y) (bB c));have j:ry (view h k Y O) a:=b.sF a g;have Gd:(refs k h.Words a.toNat).length<=5000:=PY b j;rw[tf,bH (aM.1 c).1,cond_true,bq c,ae,Qr l b g,ae];have n:rm F h (Y,O,true) (i:Int) (refs k h.Words a.toNat) F 0=some (cn ((refs k h.Words a.toNat).findSome? λ w=>if(!decide (a∈h.aS)&&kh (view h k Y O) (wd h.Words w.toNat))then some 4 else none)):=each _ (by omega) (λ o r w d=>by
   have p:=bB d;have q:idx h.Words w=some (wd h.Words w.toNat):=j.PX p;rw[rm,bH (aM.1 d).1,cond_true,bq d,ae,q,ae];unfold fL;rw[ae,bq c,ae,Aw m,ae,Wp];have e:kh (view h k Y O) (wd h.Words w.toNat)=(decide (1<=wd h.Words w.toNat)&&decide (wd h.Words w.toNat<=h.av)):=rfl;rw[e];cases(decide (1<=wd h.Words w.toNat)&&decide (wd h.Words w.toNat<=h.av))<;>cases decide (a∈h.aS)<;>rfl) (λ o=>by rw[rm,bG];rfl) (by omega)
  rw[n,nS];have e:pO (view h k Y O) a=((refs k h.Words a.toNat).any λ w=>!decide (a∈h.aS)&&kh (view h k Y O) (wd h.Words w.toNat)):=by
   show(!decide (a∈h.aS)&&(refs k h.Words a.toNat).any λ w=>kh (view h k Y O) (wd h.Words w.toNat))=_
   cases decide (a∈h.aS)with
   |true=>simp
   |false=>simp
  rw[e];cases(refs k h.Words a.toNat).any (λ w=>!decide (a∈h.aS)&&kh (view h k Y O) (wd h.Words w.toNat))<;>rfl) (λ f=>by rw[tf,bG];rfl) (by omega)
theorem aFu(c:10000<F)(l:fS k)(m:Small F h.aS.length)(hi:h.Next<=9223372036854775807):∃r,E7 F h k=some r.2/\Spec h k r:=by
 unfold E7;by_cases a:DX h
 case neg=>
  refine⟨(none,mZ h),?_,.size λ s=>a s.A⟩
  show _=some (mZ h)
  unfold mZ fL
  rw[if_neg a,ae,ae]
  cases af:(decide (3<=h.av)&&decide (h.av<=2000))with
  |false=>rfl
  |true=>
   cases i:(decide (3<=h.aL)&&decide (h.aL<=2000))with
   |false=>rfl
   |true=>exact absurd ⟨by simpa using af,by simpa using i⟩ a
 obtain⟨⟨o,p⟩,a3,a4⟩:=id a;have bO:fL h.av 3 2000=some true:=by unfold fL;rw[decide_eq_true o,decide_eq_true p];rfl
 have q:fL h.aL 3 2000=some true:=by unfold fL;rw[decide_eq_true a3,decide_eq_true a4];rfl
 rw[bO,q,ae,ae,dF,cond_false,cond_false,cQ (n:=1+h.av) (by omega) (by omega),cQ (n:=1+h.av+h.aL) (by omega) (by omega)];by_cases b:okB h
 case neg=>
  refine⟨(none,mZ h),?_,.size λ s=>b s.B⟩
  show _=some (mZ h)
  unfold mZ
  rw[if_pos a,if_neg b]
  unfold okB at b
  rw[decide_eq_false b];rfl
 have f:=b;unfold okB at f;rw[decide_eq_true f,dF,cond_false,cQ (n:=h.av+1) (by omega) (by omega),cQ (n:=h.av+h.aL) (by omega) (by omega),cQ (n:=h.av+h.aL+1) (by omega) (by omega)];by_cases g:Kk h
 case neg=>
  refine⟨(none,mZ h),?_,.size λ s=>g s.C⟩
  show _=some (mZ h)
  unfold mZ fL
  rw[if_pos a,if_pos b,if_neg g,ae,ae]
  cases af:(decide (1<=h.aU)&&decide (h.aU<=h.av+1))with
  |false=>rfl
  |true=>
   cases i:(decide (h.av+1<=h.aT)&&decide (h.aT<=h.av+h.aL+1))with
   |false=>rfl
   |true=>
    cases t:decide (h.Next<1)with
    |true=>rfl
    |false=>exact absurd ⟨by simpa using af,by simpa using i,by simp at t;omega⟩ g
 have b8:iJ h:=⟨a,b,g⟩
 obtain⟨⟨c1,c2⟩,⟨c3,c4⟩,c5⟩:=id g;have gd:fL h.aU 1 (h.av+1)=some true:=by unfold fL;rw[decide_eq_true c1,decide_eq_true c2];rfl
 have u:fL h.aT (h.av+1) (h.av+h.aL+1)=some true:=by unfold fL;rw[decide_eq_true c3,decide_eq_true c4];rfl
 rw[gd,u,ae,ae,dF,cond_false,decide_eq_false (show¬h.Next<1 by omega),Bool.or_self,cond_false];have u1:∀r,oR F h k=some r->oR F (⟨h.Words,h.av,h.aL,h.aU,h.aT,h.aS,h.Next⟩:aR) (⟨k.aY,k.aW,k.Fields,k.Names,k.aX⟩:aP)=some r:=λ r e=>e;rcases ajC (F:=F) (by omega) l b8 with⟨Y,O,j,e⟩|⟨v,Y,O,e⟩
 case inr=>
  refine⟨(none,1),?_,.form b8 v⟩
  rw[u1 _ e];rfl
 have d:=j.sJ l b8;have hc:Y.length+O.length<=5000:=d.rG;refine⟨_,?_,.rest b8 j⟩;show _=some (oB (view h k Y O))
 have w:bD 8 ([]:List Int) Y=some Y:=by rw[h3 (by simp;omega)];rfl
 have y:bD 8 Y O=some (Y++O):=h3 (by omega);have l1:=aFo (k:=k) (Y:=Y) (O:=O) c c5 hi d;have z:=aFp (F:=F) c d;have A:=aFq (F:=F) c d;have B:=aFr (F:=F) c b8;have C:=aFs c b8 j d m;have D:=aFt c d m;rw[u1 _ e,ae];show(bD 8 ([]:List Int) Y).bind _=_
 rw[w,ae];show(bD 8 Y O).bind _=_
 rw[y,ae,l1,jW];unfold oB aZ;show pk (if(Y++O).any (lT (view h k Y O))=true then some 3 else none) _=some (if(if(Y++O).any (lT (view h k Y O))=true then(3 :Int)else if((Y++O).map (aj h.Words)).Nodup then 0 else 6)=0 then _ else(if(Y++O).any (lT (view h k Y O))=true then(3 :Int)else if((Y++O).map (aj h.Words)).Nodup then 0 else 6))
 cases(Y++O).any (lT (view h k Y O))with
 |true=>rfl
 |false=>
  rw[if_neg j0,if_neg j0]
  show ca _ _=_
  rw[z,jW]
  by_cases aK:((Y++O).map (aj h.Words)).Nodup
  case neg=>rw[if_neg aK,if_neg aK];rfl
  rw[if_pos aK,if_pos aK,if_pos rfl]
  show ca _ _=_
  rw[A,jW]
  unfold kR
  show pk (if(Y++O).any (oq (view h k Y O))=true then some 5 else none) _=some (if(if(Y++O).any (oq (view h k Y O))=true then(5 :Int)else if(free h).any (λ x=>!decide (x=0))=true then 1 else 0)=0 then _ else(if(Y++O).any (oq (view h k Y O))=true then(5 :Int)else if(free h).any (λ x=>!decide (x=0))=true then 1 else 0))
  cases(Y++O).any (oq (view h k Y O))with
  |true=>rfl
  |false=>
   rw[if_neg j0,if_neg j0]
   show ca _ _=_
   rw[B,jW]
   cases(free h).any (λ x=>!decide (x=0))with
   |true=>rfl
   |false=>
    rw[if_neg j0,if_neg j0,if_pos rfl]
    show ca _ _=_
    rw[C,jW]
    unfold Aj
    show pk (if(dy h.aS.length).any (hx (view h k Y O))=true then some 4 else none) _=some (if((dy h.aS.length).any (hx (view h k Y O))||O.any (pO (view h k Y O)))=true then(4 :Int)else 0)
    cases(dy h.aS.length).any (hx (view h k Y O))with
    |true=>rfl
    |false=>
     rw[if_neg j0,hX]
     show ca _ _=_
     rw[D,jW]
     cases O.any (pO (view h k Y O))<;>rfl
theorem Spec.uQ{r d:Option bg×Int}(s:Spec h k r)(s':Spec h k d):r=d:=by
 cases s with
 |size a=>cases s' with
  |size _=>rfl
  |form ap _=>exact absurd ap a
  |rest ap _=>exact absurd ap a
 |form ap c=>cases s' with
  |size a=>exact absurd ap a
  |form _ _=>rfl
  |rest _ b=>exact absurd b (c _ _)
 |rest ap b=>cases s' with
  |size a=>exact absurd ap a
  |form _ c=>exact absurd b (c _ _)
  |rest _ e=>
   obtain rfl:=b.y.uQ e.y
   obtain rfl:=b.o.uQ e.o
   rfl
end
end I
namespace I
section
variable{k:aP}{h:aR}{Y O:List Int}
theorem h0.fit(b8:iJ h)(c:h0 h k Y O):∀a∈Y++O,1<=a/\a.toNat+3+(wd h.Words (a.toNat+1)).toNat<=h.Words.length/\(a.toNat+3+(wd h.Words (a.toNat+1)).toNat<=h.aU.toNat\/(h.av+1<=a/\a.toNat+3+(wd h.Words (a.toNat+1)).toNat<=h.aT.toNat)):=by
 intro a ax;have d:(h.Words.length:Int)=1+h.av+h.aL:=b8.B;obtain⟨⟨c1,c2⟩,⟨c3,c4⟩,_⟩:=b8.C;obtain⟨⟨e,_⟩,a3,_⟩:=b8.A;rcases b3.1 ax with ax |ax
 ·obtain⟨b,J⟩:=c.HJ b8 a ax;exact⟨b,by omega,.inl J⟩
 ·obtain⟨b,J⟩:=c.qC b8 a ax;exact⟨by omega,by omega,.inr ⟨b,J⟩⟩
theorem h0.K'(c:h0 h k Y O):∀a∈Y++O,fX k (wd h.Words a.toNat)=true/\isLen k (wd h.Words a.toNat) (wd h.Words (a.toNat+1))=true:=by
 intro a ax;rcases b3.1 ax with ax |ax
 ·obtain⟨n,rfl,_,_,b⟩:=c.y.mem a ax;exact b
 ·obtain⟨n,rfl,_,_,b⟩:=c.o.mem a ax;exact b
theorem Ok.set(b8:iJ h)(l:h0 h k Y O)(g:Ok h k Y O){a:Int}(o:a∈Y++O){n:Nat}(y:n<(wd h.Words (a.toNat+1)).toNat){value:Int}
 (z:gA k (wd h.Words a.toNat) n=true->value=0\/value∈Y++O){nt:List Int}(A:Cn nt)(J:∀x∈nt,x∈h.aS\/(x=a/\a∈O/\gA k (wd h.Words a.toNat) n=true))(B:∀x∈h.aS,x∈nt)
 (C:gA k (wd h.Words a.toNat) n=true->a∈O->0<value->value<=h.av->a∈nt) :
 iJ (⟨h.Words.set (a.toNat+3+n) value,h.av,h.aL,h.aU,h.aT,nt,h.Next⟩:aR)/\h0 (⟨h.Words.set (a.toNat+3+n) value,h.av,h.aL,h.aU,h.aT,nt,h.Next⟩:aR) k Y O/\
 Ok (⟨h.Words.set (a.toNat+3+n) value,h.av,h.aL,h.aU,h.aT,nt,h.Next⟩:aR) k Y O:=by
 obtain⟨L,M,N⟩:=l.fit b8 a o
 have D:a.toNat+3+n<h.Words.length:=by omega
 have d:∀j,wd (h.Words.set (a.toNat+3+n) value) j=if j=a.toNat+3+n then value else wd h.Words j:=λ j=>Lf D
 have head:∀b∈Y++O,wd (h.Words.set (a.toNat+3+n) value) b.toNat=wd h.Words b.toNat/\wd (h.Words.set (a.toNat+3+n) value) (b.toNat+1)=wd h.Words (b.toNat+1)/\wd (h.Words.set (a.toNat+3+n) value) (b.toNat+2)=wd h.Words (b.toNat+2):=by
  intro b af;rw[d,d,d];by_cases e:b=a
  ·subst e
   rw[if_neg (by omega),if_neg (by omega),if_neg (by omega)];exact⟨rfl,rfl,rfl⟩
  ·have:=l.apart b8 b af a o e
   rw[if_neg (by omega),if_neg (by omega),if_neg (by omega)];exact⟨rfl,rfl,rfl⟩
 have E:(h.Words.length:Int)=1+h.av+h.aL:=b8.B
 obtain⟨⟨c1,c2⟩,⟨c3,c4⟩,c5⟩:=id b8.C
 have p:∀b∈Y++O,refs k (h.Words.set (a.toNat+3+n) value) b.toNat=refs k h.Words b.toNat:=λ b af=>aF3 (head b af).1 (head b af).2.1
 have s:∀b∈Y++O,aj (h.Words.set (a.toNat+3+n) value) b=aj h.Words b:=λ b af=>(head b af).2.2
 have F:(Y++O).map (aj (h.Words.set (a.toNat+3+n) value))=(Y++O).map (aj h.Words):=List.map_congr_left s
 have t:∀b∈Y++O,∀w∈refs k h.Words b.toNat,w.toNat=a.toNat+3+n->b=a/\gA k (wd h.Words a.toNat) n=true:=by
  intro b af w c e;obtain⟨j,aA,C0,rfl⟩:=J9.1 c;simp only[cN]at e;have q:b=a:=by
   by_cases q:b=a
   ·exact q
   ·have:=l.apart b8 b af a o q;omega
  subst q;have:j=n:=by omega
  subst this;exact⟨rfl,C0⟩
 refine⟨⟨b8.A,?_,b8.C⟩,⟨l.y.congr λ b af=>?_,l.o.congr λ b af=>?_⟩,⟨λ b af=>?_,?_,λ b af w c=>?_,λ i hi hc=>?_,A,λ x r=>?_,λ b af u w c=>?_⟩⟩
 ·show((h.Words.set (a.toNat+3+n) value).length:Int)=_;rw[iP];exact E
 ·obtain⟨f,m,_⟩:=head b (j3 _ af);exact⟨f,m⟩
 ·obtain⟨f,m,_⟩:=head b (iZ _ af);exact⟨f,m⟩
 ·show 1<=aj (h.Words.set (a.toNat+3+n) value) b/\aj (h.Words.set (a.toNat+3+n) value) b<h.Next
  rw[s b af];exact g.hash b af
 ·show((Y++O).map (aj (h.Words.set (a.toNat+3+n) value))).Nodup
  rw[F];exact g.nodup
 ·have c:w∈refs k (h.Words.set (a.toNat+3+n) value) b.toNat:=c
  rw[p b af]at c
  show wd (h.Words.set (a.toNat+3+n) value) w.toNat=0\/wd (h.Words.set (a.toNat+3+n) value) w.toNat∈Y++O
  rw[d]
  by_cases e:w.toNat=a.toNat+3+n
  ·rw[if_pos e];exact z (t b af w c e).2
  ·rw[if_neg e];exact g.ref b af w c
 ·have hi:i<(h.Words.set (a.toNat+3+n) value).length:=hi
  rw[iP]at hi
  have hc:i=0\/(h.aU<=i/\(i:Int)<=h.av)\/h.aT<=i:=hc
  show wd (h.Words.set (a.toNat+3+n) value) i=0
  rw[d,if_neg (by omega)]
  exact g.fr i hi hc
 ·show x∈O/\refs k (h.Words.set (a.toNat+3+n) value) x.toNat≠[]
  rcases J x r with r |⟨rfl,G,aA⟩
  ·obtain⟨f,m⟩:=g.nt x r
   rw[p x (iZ _ f)];exact⟨f,m⟩
  ·refine⟨G,?_⟩
   rw[p x o]
   intro e
   have:((x.toNat+3+n:Nat):Int)∈refs k h.Words x.toNat:=J9.2 ⟨n,y,aA,rfl⟩
   rw[e]at this;cases this
 ·have v:b∈Y++O:=iZ _ af
  have c:w∈refs k (h.Words.set (a.toNat+3+n) value) b.toNat:=c
  rw[p b v]at c
  show¬(0<wd (h.Words.set (a.toNat+3+n) value) w.toNat/\wd (h.Words.set (a.toNat+3+n) value) w.toNat<=h.av)
  rw[d]
  by_cases e:w.toNat=a.toNat+3+n
  ·rw[if_pos e]
   obtain⟨rfl,aA⟩:=t b v w c e
   rintro⟨H,I⟩
   exact u (C aA af H I)
  ·rw[if_neg e]
   exact g.must b af (λ K=>u (B b K)) w c
end
end I
namespace I
structure Good (F:Nat) (h:aR) (k:aP) (Y O:List Int):Prop where
 ts:pc F k=some 0
 pv:fS k
 s:iJ h
 l:h0 h k Y O
 ok:Ok h k Y O
section
variable{F:Nat}{k:aP}{h:aR}{Y O:List Int}
theorem Good.aiv(g:Good F h k Y O):h.aS.length<=5000:=by
 refine akv (N:=5000) g.ok.Ql (λ i hi=>?_);obtain⟨a,_⟩:=g.ok.nt _ (Z9 hi);obtain⟨b,c,_⟩:=g.l.fit g.s _ (iZ Y a);have:=g.s.fq;omega
theorem Good.open(b:10000<F)(g:Good F h k Y O):kC F h k=some (some (view h k Y O),0):=by
 unfold kC;have e1:pc F (⟨k.aY,k.aW,k.Fields,k.Names,k.aX⟩:aP)=some 0:=g.ts;have e:=g.aiv;obtain⟨r,e2,hD⟩:=XL b g.pv (h:=h) ⟨by omega,by omega⟩;have e2:tP F (⟨h.Words,h.av,h.aL,h.aU,h.aT,h.aS,h.Next⟩:aR) (⟨k.aY,k.aW,k.Fields,k.Names,k.aX⟩:aP)=some r:=e2;rw[e1,ae,rI,e2,ae];cases hD with
 |size aj=>exact absurd g.s aj
 |form _ ad=>exact absurd g.l (ad Y O)
 | @rest f i _ a=>
   have c:=a.y.uQ g.l.y
   have d:=a.o.uQ g.l.o
   subst c d
   rw[(ak4 g.pv g.s g.l).2 g.ok];rfl
theorem aDc(g:10000<F)(i:∃e,pc F k=some e/\(e≠0\/(e=0/\fS k)))(j:Small F h.aS.length) :
 ∃r,kC F h k=some r/\((r.2≠0/\r.1=none)\/ ∃Y O,Good F h k Y O/\r=(some (view h k Y O),0)):=by
 obtain⟨e,e1,a⟩:=i
 unfold kC
 have l:pc F (⟨k.aY,k.aW,k.Fields,k.Names,k.aX⟩:aP)=some e:=e1
 rw[l,ae]
 rcases a with a |⟨rfl,b⟩
 ·rw[sr a];exact⟨_,rfl,.inl ⟨a,rfl⟩⟩
 obtain⟨r,e2,hD⟩:=XL g b j
 have e2:tP F (⟨h.Words,h.av,h.aL,h.aU,h.aT,h.aS,h.Next⟩:aR) (⟨k.aY,k.aW,k.Fields,k.Names,k.aX⟩:aP)=some r:=e2
 rw[rI,e2,ae]
 refine⟨_,rfl,?_⟩
 cases hD with
 |size aj=>exact .inl ⟨λ e=>aj (ZF.1 e),rfl⟩
 |form _ ad=>exact .inl ⟨by decide,rfl⟩
 | @rest c d aj f=>
   by_cases q:oB (view h k c d)=0
   ·exact .inr ⟨c,d,⟨e1,b,aj,f,(ak4 b aj f).1 q⟩,by rw[q];rfl⟩
   ·exact .inl ⟨q,by rw[if_neg q]⟩
theorem Good.dz(_:Good F h k Y O)(a:Int):F0 (view h k Y O) a=some (decide (a∈Y++O)):=by
 unfold F0;show some ((cF ((Y++O).map λ a=>(a,true)) a).getD false)=_
 rw[OW]
end
end I
namespace I
theorem P_{F:Nat}{l:List Int}(h:Small F l.length):k1 F l l=some true:=by
 unfold k1;have l1:=OS (n:=l.length) (λ k i=>vN l l k (i:Int)) (.go ()) (λ k i hi=>by
  obtain⟨x,a⟩:∃x,l[i]? =some x:=⟨l[i],aH hi⟩
  rw[vN,bH hi,cond_true,bq a,ae,ae,decide_eq_true rfl];show vN l l k _=_
  rw[eG hi h.1]) (λ k=>by rw[vN,bG];rfl) h.2
 have l1:vN l l F 0=some (.go ()):=l1;rw[l1,decide_eq_true rfl];rfl
theorem aj'{F:Nat}{h:aR}(a:Small F h.Words.length)(J:Small F h.aS.length):B8 F h h=some true:=by
 unfold B8;rw[P_ a,P_ J];simp
end I
namespace I
open Go Go.Proofs.YteeliipnilghaaaGreat
theorem xP{n:Nat}(h:n<=reachBytes):Small 140737488356000 n:=by
 have:reachBytes=140737488351232:=rfl;unfold Small;omega
theorem pw{n:Nat}(k:Nat)(h:n*(k+1)<=reachBytes):Small 140737488356000 n:=
 xP (gm (lj n (Nat.succ_pos k)) h)
theorem avO{m:Method}(h:Mn reachBytes m):m.Fits 140737488356000:=
 ⟨xP h.1,pw 23 h.2.2.1.1,λ k a=>xP (h.2.2.1.2 k a).2,xP h.2.2.2.1.2,pw 39 h.2.2.2.2.2.2.2.1,λ x b=>xP (h.2.2.2.2.2.2.2.2 x b).2.2.2⟩
theorem avN{c:ak}(h:HV reachBytes c):c.Fits 140737488356000:=
 ⟨xP h.1,xP h.2.1,pw 39 h.2.2.1.1,λ f ad=>⟨xP (h.2.2.1.2 f ad).1,xP (h.2.2.1.2 f ad).2.2⟩,pw 127 h.2.2.2.1,λ m a=>avO (h.2.2.2.2 m a)⟩
theorem avP{l:List ak}(h:l.length*80<=reachBytes/\ ∀x∈l,HV reachBytes x):Fits 140737488356000 l:=
 ⟨pw 79 h.1,λ c hc=>avN (h.2 c hc)⟩
theorem aBz{k:aP}(h:Mm reachBytes k):Mj 140737488356000 k:=
 ⟨pw 7 h.2.1.1,pw 23 h.2.2.1.1,λ x a=>pw 39 (h.2.2.1.2 x a).1,pw 23 h.2.2.2.1.1,λ x a=>pw 15 (h.2.2.2.1.2 x a).1,pw 23 h.2.2.2.2.1,λ x a=>pw 15 (h.2.2.2.2.2 x a).1⟩
end I
namespace I
theorem aGM{k:aP}(a:hY k.aY)(e:k=linked k.aY):fS k:=by
 have:=a.right.len;exact⟨by omega,by rw[e];exact aGe⟩
theorem ata{k:aP}(a:Go.Proofs.YteeliipnilghaaaGreat.Mm Go.reachBytes k):∃e,pc 140737488356000 k=some e/\vK 140737488356000 k=some e/\(e≠0\/(e=0/\fS k)):=by
 obtain⟨e,c1,c2,c3⟩:=as' (F:=140737488356000) (by omega) (avP a.1) (aBz a);refine⟨e,c1,c2,?_⟩;rcases c3 with rfl |⟨rfl,b,c⟩
 ·exact .inl (by decide)
 ·exact .inr ⟨rfl,aGM b c⟩
theorem aDb{F:Nat}{h:aR}{k:aP}(a:10000<F)(i:∃e,pc F k=some e/\vK F k=some e/\(e≠0\/(e=0/\fS k)))(b:Small F h.aS.length)(hi:h.Next<=9223372036854775807) :
 ∃r,kC F h k=some r/\pW F h k=some r.2/\((r.2≠0/\r.1=none)\/ ∃Y O,Good F h k Y O/\r=(some (view h k Y O),0)):=by
 obtain⟨e,c1,c2,c3⟩:=i
 obtain⟨r,e1,j⟩:=aDc a ⟨e,c1,c3⟩ b
 refine⟨r,e1,?_,j⟩
 have asR:pc F (⟨k.aY,k.aW,k.Fields,k.Names,k.aX⟩:aP)=some e:=c1
 have c:vK F (⟨k.aY,k.aW,k.Fields,k.Names,k.aX⟩:aP)=some e:=c2
 unfold pW
 unfold kC at e1
 rw[asR,ae]at e1
 rw[c,ae]
 rcases c3 with c3 |⟨rfl,g⟩
 ·rw[sr c3]at e1
  obtain rfl:=dT e1
  rw[decide_eq_false c3];rfl
 ·rw[rI]at e1
  obtain⟨l,d,m⟩:=XL a g b
  obtain⟨n,f,o⟩:=aFu a g b hi
  have d:tP F (⟨h.Words,h.av,h.aL,h.aU,h.aT,h.aS,h.Next⟩:aR) (⟨k.aY,k.aW,k.Fields,k.Names,k.aX⟩:aP)=some l:=d
  have f:E7 F (⟨h.Words,h.av,h.aL,h.aU,h.aT,h.aS,h.Next⟩:aR) (⟨k.aY,k.aW,k.Fields,k.Names,k.aX⟩:aP)=some n.2:=f
  obtain rfl:=m.uQ o
  rw[d,ae]at e1
  obtain rfl:=dT e1
  rw[show decide ((0 :Int)=0)=true from rfl,cond_true,f];rfl
end I
namespace Go.Proofs.YteeliipnilghaaaGreat
open I
structure Ord (Y o:List Int):Prop where
 og:o.Nodup
 sub:∀a∈o,a∈Y
theorem aif:∀ {o Y:List Int},o.Nodup->(∀a∈o,a∈Y)->o.length<=Y.length
 |[],Y,_,_=>gD _
 |a::r,Y,c,aj=>by
  have c:=iO.1 c;have d:a∈Y:=aj a (by simp);have f:=aif (o:=r) (Y:=Y.erase a) c.2 λ b af=>(List.mem_erase_of_ne λ e=>by subst e;exact c.1 af).2 (aj b (by simp[af]));rw[la d]at f;have:0<Y.length:=List.length_pos_of_mem d;simp only[cV];omega
theorem Ord.len{Y o:List Int}(h:Ord Y o):o.length<=Y.length:=aif h.og h.sub
theorem Ord.nil{Y:List Int}:Ord Y []:=⟨List.nodup_nil,λ _ h=>by simp at h⟩
end Go.Proofs.YteeliipnilghaaaGreat
namespace Go.Proofs.YteeliipnilghaaaGreat
open I
def hB(k:aP)(W:List Int)(a:Int):List Int:=(refs k W a.toNat).map λ w=>wd W w.toNat
section
variable{F:Nat}{h:aR}{k:aP}{Y O:List Int}{e1 e6:List Int}{e2 e3 e4 e5 e7:Int}
theorem P8(g:I.Good F h k Y O){a:Int}(b:a∈Y++O):∀v∈hB k h.Words a,v=0\/v∈Y++O:=λ v c=>by
 obtain⟨w,d,rfl⟩:=jv.1 c;exact g.ok.ref a b w d
theorem aF5(g:I.Good F h k Y O){a:Int}(b:a∈Y++O):∀w∈refs k h.Words a.toNat,0<=w/\w.toNat<h.Words.length:=λ w c=>by
 obtain⟨j,aA,_,rfl⟩:=J9.1 c;have:=(g.l.fit g.s a b).2.1;omega
theorem ajS(g:I.Good F h k Y O){a:Int}(b:a∈Y++O):(refs k h.Words a.toNat).length<=5000:=by
 have c:=(g.l.fit g.s a b).2.1;have J:=g.s.fq;have:(refs k h.Words a.toNat).length<=(wd h.Words (a.toNat+1)).toNat:=by
  unfold refs;have key:∀n:Nat,((dy n).flatMap λ j=>if gA k (wd h.Words a.toNat) j then[((a.toNat+3+j:Nat):Int)]else[]).length<=n:=by
   intro n;induction n with
   |zero=>simp
   |succ n d=>
    rw[List.range_succ,List.flatMap_append,dS]
    have:([n].flatMap λ j=>if gA k (wd h.Words a.toNat) j then[((a.toNat+3+j:Nat):Int)]else[]).length<=1:=by
     simp only[ig,List.flatMap_nil,gL];split<;>simp
    omega
  exact key _
 omega
end
end Go.Proofs.YteeliipnilghaaaGreat
namespace Go.Proofs.YteeliipnilghaaaGreat
open I
def mt(o:List Int)(a:Int):List Int:=if a≠0/\a∉o then o++[a]else o
theorem Ord.mt{Y o:List Int}{a:Int}(h:Ord Y o)(f:a=0\/a∈Y):Ord Y (mt o a):=by
 unfold Go.Proofs.YteeliipnilghaaaGreat.mt;split
 ·rename_i d
  refine⟨eK.2 ⟨h.og,by simp,λ b af c hc e=>?_⟩,λ b af=>?_⟩
  ·cases dK.1 hc
   subst e
   exact d.2 af
  ·rcases b3.1 af with af |af
   ·exact h.sub b af
   ·cases dK.1 af
    exact f.resolve_left d.1
 ·exact h
theorem Ord.DK{Y:List Int}:∀ {l o:List Int},Ord Y o->(∀a∈l,a=0\/a∈Y)->Ord Y (l.foldl Go.Proofs.YteeliipnilghaaaGreat.mt o)
 |[],o,h,_=>h
 |a::r,o,h,c=>Ord.DK (l:=r) (o:=Go.Proofs.YteeliipnilghaaaGreat.mt o a) (h.mt (c a (by simp))) λ b af=>c b (by simp[af])
theorem aB9{a:Int}{o:List Int}:∃t,mt o a=o++t:=by
 unfold mt;split
 ·exact⟨_,rfl⟩
 ·exact⟨[],by simp⟩
theorem OV:∀ {l o:List Int},∃t,l.foldl mt o=o++t
 |[],o=>⟨[],by simp⟩
 |a::r,o=>by
  obtain⟨t,h⟩:=aB9 (a:=a) (o:=o);obtain⟨u,J⟩:=OV (l:=r) (o:=mt o a);exact⟨t++u,by rw[k7,J,h,gT]⟩
theorem aB8{a:Int}{o:List Int}{v:Int}:v∈mt o a↔v∈o\/(v=a/\a≠0):=by
 unfold mt;split
 ·rename_i h
  rw[b3,dK]
  exact⟨λ b=>b.imp id λ J=>⟨J,h.1⟩,λ b=>b.imp id λ J=>J.1⟩
 ·rename_i h
  refine⟨.inl,λ b=>b.elim id λ J=>?_⟩
  obtain⟨rfl,c⟩:=J
  exact k9 λ d=>h ⟨c,d⟩
theorem Gv{v:Int}:∀ {l o:List Int},v∈l.foldl mt o↔v∈o\/(v∈l/\v≠0)
 |[],o=>by simp
 |a::r,o=>by
  rw[k7,Gv (l:=r),aB8];constructor
  ·rintro((h |⟨rfl,h⟩)|⟨h,b⟩)
   ·exact .inl h
   ·exact .inr ⟨by simp,h⟩
   ·exact .inr ⟨by simp[h],b⟩
  ·rintro(h |⟨h,b⟩)
   ·exact .inl (.inl h)
   ·rcases cm.1 h with rfl |h
    ·exact .inl (.inr ⟨rfl,b⟩)
    ·exact .inr ⟨h,b⟩
def mi(k:aP)(W:List Int):Nat->Nat->List Int->List Int
 |0,_,o=>o
 |d+1,i,o=>match o[i]? with
  |some a=>mi k W d (i+1) ((hB k W a).foldl mt o)
  |none=>o
section
variable{F:Nat}{h:aR}{k:aP}{Y O:List Int}
theorem acU{a:Int}{o:List Int}(c:10000<F)(ap:o.length<=5000):H9 F a o=some ((),((),()),mt o a,()):=by
 unfold H9 mt;by_cases b:a=0
 ·rw[decide_eq_true b,dF,cond_false,if_neg (λ h=>h.1 b)]
 ·rw[decide_eq_false b,iy,cond_true,show j9 F o a=some (decide (a∈o)) from Aw ⟨by omega,by omega⟩ a,ae]
  by_cases J:a∈o
  ·rw[decide_eq_true J,dF,cond_false,if_neg (λ h=>h.2 J)]
  ·rw[decide_eq_false J,iy,cond_true,if_pos ⟨b,J⟩]
   have:bD 8 o [a]=some (o++[a]):=by
    unfold bD;rw[if_pos (by simp only[je];omega)]
   rw[this,ae]
section
variable{S:List Int}{y ol yt ot nx:Int}{W nt:List Int}{c1:List ak}{c2:List Int}{c3:List (List I.Field)}{c4:List (List (List UInt8))}{c5:List (List I.Target)}
theorem asN(c:10000<F)(n:S.length<=5000){l:List Int}(e:l.length<=140737488355328)(g:∀a∈l,a=0\/a∈S):∀(d i f:Nat)(o:List Int),i+d=l.length->d<f->Ord S o ->
 B1 F f l (i:Int) W y ol yt ot nt nx c1 c2 c3 c4 c5 o=some (((),(),(),((),()),()),(W,y,ol,yt,ot,nt,nx,()),(c1,c2,c3,c4,c5,()),((),()),(l.drop i).foldl mt o,()):=by
 intro d
 induction d with
 |zero=>
  intro i f o h ad ap
  obtain⟨f,rfl⟩:∃b,f=b+1:=⟨f-1,by omega⟩
  have:i=l.length:=by omega
  subst this
  rw[B1,bG,cond_false,hV]
  rfl
 |succ d j=>
  intro i f o h ad ap
  obtain⟨f,rfl⟩:∃b,f=b+1:=⟨f-1,by omega⟩
  have hi:i<l.length:=by omega
  have m:l[i]? =some l[i]:=aH hi
  rw[B1,bH hi,cond_true,bq m,ae,acU c (by have:=ap.len;omega),ae,eG hi e]
  refine(j (i+1) f (mt o l[i]) (by omega) (by omega) (ap.mt (g _ (hC hi)))).trans ?_
  rw[cw hi,k7]
theorem asP(c:10000<F)(r:S.length<=5000){l:List Int}{j:Int}(e:l.length<=140737488355328)(g:∀w∈l,0<=w/\w.toNat<W.length)(m:∀w∈l,wd W w.toNat=0\/wd W w.toNat∈S):∀(d i f:Nat)(o:List Int),i+d=l.length->d<f->Ord S o ->
 B3 F f j l (i:Int) W y ol yt ot nt nx c1 c2 c3 c4 c5 o=some (((),(),(),((),()),j,()),(W,y,ol,yt,ot,nt,nx,()),(c1,c2,c3,c4,c5,()),((),()),((l.drop i).map λ w=>wd W w.toNat).foldl mt o,()):=by
 intro d
 induction d with
 |zero=>
  intro i f o h ad ap
  obtain⟨f,rfl⟩:∃a,f=a+1:=⟨f-1,by omega⟩
  have:i=l.length:=by omega
  subst this
  rw[B3,bG,cond_false,hV]
  rfl
 |succ d n=>
  intro i f o h ad ap
  obtain⟨f,rfl⟩:∃a,f=a+1:=⟨f-1,by omega⟩
  have hi:i<l.length:=by omega
  have p:l[i]? =some l[i]:=aH hi
  have b:l[i]∈l:=hC hi
  obtain⟨w0,q⟩:=g _ b
  rw[B3,bH hi,cond_true,bq p,ae,o8 (show l[i]=(l[i].toNat:Int) by omega) q,ae,acU c (by have:=ap.len;omega),ae,eG hi e]
  refine(n (i+1) f (mt o (wd W l[i].toNat)) (by omega) (by omega) (ap.mt (m _ b))).trans ?_
  rw[cw hi,eu,k7]
end
theorem Cx(g:I.Good F h k Y O):(Y++O).length<=5000:=by
 have:=(g.l.sJ g.pv g.s).rG;have:Y.length+O.length<=5000:=this;rw[dS];omega
theorem asO(c:10000<F)(g:I.Good F h k Y O):∀(d i f:Nat)(o:List Int),(Y++O).length<i+d->d<f->i<=o.length->Ord (Y++O) o ->
 B2 F f (i:Int) h.Words h.av h.aL h.aU h.aT h.aS h.Next k.aY k.aW k.Fields k.Names k.aX o=some (((),()),(h.Words,h.av,h.aL,h.aU,h.aT,h.aS,h.Next,()),(k.aY,k.aW,k.Fields,k.Names,k.aX,()),((),()),mi k h.Words d i o,()):=by
 intro d
 have n:=Cx g
 induction d with
 |zero=>
  intro i f o hi ad p ap
  have:=ap.len
  omega
 |succ d q=>
  intro i f o aK ad p ap
  obtain⟨f,rfl⟩:∃r,f=r+1:=⟨f-1,by omega⟩
  rcases fN i o.length with hi |hi
  ·have e:o[i]? =some o[i]:=aH hi
   have a:o[i]∈Y++O:=ap.sub _ (hC hi)
   have b:Ord (Y++O) ((hB k h.Words o[i]).foldl mt o):=ap.DK λ v s=>P8 g a v s
   rw[B2,bH hi,cond_true,bq e,ae,Qr c (g.l.sJ g.pv g.s) a,ae]
   have m:=asP (S:=Y++O) (y:=h.av) (ol:=h.aL) (yt:=h.aU) (ot:=h.aT) (nx:=h.Next) (W:=h.Words) (nt:=h.aS) (c1:=k.aY) (c2:=k.aW) (c3:=k.Fields) (c4:=k.Names) (c5:=k.aX) c n (j:=(i:Int)) (by have:=ajS g a;omega) (aF5 g a) (λ w u=>g.ok.ref _ a w u) (refs k h.Words o[i].toNat).length 0 F o (by omega) (by have:=ajS g a;omega) ap
   rw[fK]at m
   have x:B3 F F (i:Int) (refs k h.Words o[i].toNat) 0 h.Words h.av h.aL h.aU h.aT h.aS h.Next k.aY k.aW k.Fields k.Names k.aX o=_:=m
   rw[x,ae,eG hi (by have:=ap.len;omega)]
   obtain⟨t,z⟩:=OV (l:=hB k h.Words o[i]) (o:=o)
   refine(q (i+1) f ((hB k h.Words o[i]).foldl mt o) (by omega) (by omega) (by rw[z,dS];omega) b).trans ?_
   rw[mi,e]
  ·have:i=o.length:=by omega
   subst this
   rw[B2,bG,cond_false,mi,gz (cu _)]
def ib(k:aP)(h:aR)(Y O roots:List Int):List Int:=mi k h.Words ((Y++O).length+1) 0 (roots.foldl mt [])
theorem ajQ(b:10000<F)(g:I.Good F h k Y O){roots:List Int}(i:roots.length<=5000)(c:∀a∈roots,a=0\/a∈Y++O) :
 H8 F h.Words h.av h.aL h.aU h.aT h.aS h.Next k.aY k.aW k.Fields k.Names k.aX roots=some ((ib k h Y O roots,()),()):=by
 have e:=Cx g
 unfold H8
 have d:=asN (S:=Y++O) (y:=h.av) (ol:=h.aL) (yt:=h.aU) (ot:=h.aT) (nx:=h.Next) (W:=h.Words) (nt:=h.aS) (c1:=k.aY) (c2:=k.aW) (c3:=k.Fields) (c4:=k.Names) (c5:=k.aX) b e (l:=roots) (by omega) c roots.length 0 F [] (by omega) (by omega) Ord.nil
 rw[fK]at d
 have Fz:B1 F F roots 0 h.Words h.av h.aL h.aU h.aT h.aS h.Next k.aY k.aW k.Fields k.Names k.aX []=_:=d
 rw[Fz,ae]
 have e2:=asO b g ((Y++O).length+1) 0 F (roots.foldl mt []) (by omega) (by omega) (gD _) (Ord.nil.DK c)
 dsimp only
 have f:B2 F F 0 h.Words h.av h.aL h.aU h.aT h.aS h.Next k.aY k.aW k.Fields k.Names k.aX (roots.foldl mt [])=_:=e2
 rw[f,ae]
 rfl
theorem akd(g:I.Good F h k Y O):∀ {d i:Nat}{o:List Int},Ord (Y++O) o->Ord (Y++O) (mi k h.Words d i o)
 |0,i,o,ap=>ap
 |d+1,i,o,ap=>by
  unfold mi;split
  ·rename_i a b
   exact akd g (ap.DK λ v c=>P8 g (ap.sub _ (bB b)) v c)
  ·exact ap
theorem Az(g:I.Good F h k Y O){roots:List Int}(b:∀a∈roots,a=0\/a∈Y++O):Ord (Y++O) (ib k h Y O roots):=akd g (Ord.nil.DK b)
end
end Go.Proofs.YteeliipnilghaaaGreat
namespace Go.Proofs.YteeliipnilghaaaGreat
open I
section
variable{F:Nat}{h:aR}{k:aP}{Y O:List Int}
theorem ake{W:List Int}:∀ {d i:Nat}{o:List Int},∃t,mi k W d i o=o++t
 |0,i,o=>⟨[],by simp[mi]⟩
 |d+1,i,o=>by
  unfold mi;split
  ·rename_i a _
   obtain⟨t,b⟩:=OV (l:=hB k W a) (o:=o)
   obtain⟨u,c⟩:=ake (W:=W) (d:=d) (i:=i+1) (o:=(hB k W a).foldl mt o)
   exact⟨t++u,by rw[c,b,gT]⟩
  ·exact⟨[],by simp⟩
theorem akb(g:I.Good F h k Y O):∀ {d i:Nat}{o:List Int},(Y++O).length<i+d->Ord (Y++O) o->(∀j a,j<i->o[j]? =some a-> ∀v∈hB k h.Words a,v≠0 ->v∈o) ->
 ∀a∈mi k h.Words d i o,∀v∈hB k h.Words a,v≠0 ->v∈mi k h.Words d i o
 |0,i,o,aK,ap,hc=>λ a f v m n=>by
  unfold mi at f⊢;obtain⟨j,aA,rfl⟩:=iv.1 f;have:=ap.len;exact hc j _ (by omega) (aH aA) v m n
 |d+1,i,o,aK,ap,hc=>λ a f v m n=>by
  unfold mi at f⊢;split at f
  ·rename_i b af
   obtain⟨t,q⟩:=OV (l:=hB k h.Words b) (o:=o)
   refine akb g (by omega) (ap.DK λ v m=>P8 g (ap.sub _ (bB af)) v m) (λ j c aA p u r s=>?_) a f v m n
   have hi:=(aM.1 af).1
   rcases fN j i with e |e
   ·rw[q,eW (by omega)]at p
    exact Gv.2 (.inl (hc j c e p u r s))
   ·have:j=i:=by omega
    subst this
    rw[q,eW hi,af]at p
    cases p
    exact Gv.2 (.inr ⟨r,s⟩)
  ·rename_i af
   obtain⟨j,aA,rfl⟩:=iv.1 f
   have:=List.getElem?_eq_none_iff.1 af
   exact hc j _ (by omega) (aH aA) v m n
theorem akc{W:List Int}{P:Int->Prop}(c:∀a,P a-> ∀v∈hB k W a,v≠0 ->P v):∀ {d i:Nat}{o:List Int},(∀a∈o,P a)-> ∀a∈mi k W d i o,P a
 |0,i,o,ap=>ap
 |d+1,i,o,ap=>by
  unfold mi;split
  ·rename_i b af
   refine akc c λ a e=>?_
   rcases Gv.1 e with h |⟨h,f⟩
   ·exact ap a h
   ·exact c b (ap b (bB af)) a h f
  ·exact ap
structure ab_ (k:aP) (W roots:List Int) (P:Int->Prop):Prop where
 rt:∀v∈roots,v≠0 ->P v
 hd:∀a,P a-> ∀v∈hB k W a,v≠0 ->P v
theorem ajP(g:I.Good F h k Y O){roots:List Int}(b:∀a∈roots,a=0\/a∈Y++O):ab_ k h.Words roots (·∈ib k h Y O roots):=by
 refine⟨λ v c e=>?_,akb g (by omega) (Ord.nil.DK b) λ j a aA=>by omega⟩;obtain⟨t,f⟩:=ake (k:=k) (W:=h.Words) (d:=(Y++O).length+1) (i:=0) (o:=roots.foldl mt []);unfold ib;rw[f];exact j3 _ (Gv.2 (.inr ⟨c,e⟩))
theorem aFZ{roots:List Int}{P:Int->Prop}(hc:ab_ k h.Words roots P):∀a∈ib k h Y O roots,P a:=
 akc hc.hd λ a b=>(Gv.1 b).elim (λ h=>by simp at h) λ h=>hc.rt a h.1 h.2
end
end Go.Proofs.YteeliipnilghaaaGreat
namespace Go.Proofs.YteeliipnilghaaaGreat
open I
def jj(k:aP)(W:List Int)(a n i:Nat):List Int:=((dy n).drop i).flatMap λ j=>if gA k (wd W a) j then[wd W (a+3+j)]else[]
theorem ajV{k:aP}{W:List Int}{a n:Nat}:jj k W a n n=[]:=by unfold jj;rw[List.drop_eq_nil_of_le (by simp)];rfl
theorem ajY{k:aP}{W:List Int}{a n i:Nat}(h:i<n):jj k W a n i=(if gA k (wd W a) i then[wd W (a+3+i)]else[])++jj k W a n (i+1):=by
 unfold jj;have hi:i<(dy n).length:=by simpa using h
 rw[cw hi,ig,List.getElem_range]
theorem ajX{k:aP}{W:List Int}{a:Int}:jj k W a.toNat (wd W (a.toNat+1)).toNat 0=hB k W a:=by
 unfold jj hB refs;rw[fK,List.map_flatMap];congr 1;funext j;split
 ·rw[ky,cN]
 ·rfl
theorem ajW{k:aP}{W:List Int}{a n:Nat}:∀ {d i:Nat},i+d=n->(jj k W a n i).length<=d
 |0,i,h=>by
  have:i=n:=by omega
  subst this;rw[ajV];simp
 |d+1,i,h=>by
  rw[ajY (by omega),dS];have:=ajW (k:=k) (W:=W) (a:=a) (n:=n) (d:=d) (i:=i+1) (by omega);split<;>simp <;>omega
theorem azi{W:List Int}{a:Int}{i:Nat}(b:1<=a)(af:a.toNat+3+i<W.length)(c:W.length<=100000):idx W (ar (ar (a+3)+(i:Int)))=some (wd W (a.toNat+3+i)):=by
 have e:ar (ar (a+3)+(i:Int))=((a.toNat+3+i:Nat):Int):=by
  rw[cQ (n:=a+3) (by omega) (by omega),cQ (by omega) (by omega)];omega
 rw[e];exact fU af
section
variable{F:Nat}{h:aR}{k:aP}{Y O:List Int}
theorem aBW(w:10000<F)(g:I.Good F h k Y O){a:Int}(o:a∈Y++O){m:List (Int×Bool)}{n:Nat}(x:n=(wd h.Words (a.toNat+1)).toNat):∀(d i f:Nat)(hd:List Int),i+d=n->d<f->hd.length+d<=1000000 ->
 zg F f a (n:Int) (i:Int) k.aY k.aW k.Fields k.Names k.aX h.Words h.av h.aL h.aU h.aT h.aS h.Next m hd=
  some (((),(),()),((),k.aY,k.aW,k.Fields,k.Names,k.aX,(),()),(h.Words,h.av,h.aL,h.aU,h.aT,h.aS,h.Next,()),m,hd++jj k h.Words a.toNat n i,()):=by
 obtain⟨r,y,z⟩:=g.l.fit g.s a o
 have A:=g.s.fq
 have c:=g.l.K' a o
 have e:a=(a.toNat:Int):=by omega
 obtain⟨s,p⟩:=c
 have t:wd h.Words (a.toNat+1)=(n:Int):=by
  have:=(l3.1 p).1.1;omega
 intro d
 induction d with
 |zero=>
  intro i f hd hi ad aj
  obtain⟨f,rfl⟩:∃j,f=j+1:=⟨f-1,by omega⟩
  have:i=n:=by omega
  subst this
  rw[zg,bG,cond_false,ajV,gL]
 |succ d q=>
  intro i f hd hi ad aj
  obtain⟨f,rfl⟩:∃j,f=j+1:=⟨f-1,by omega⟩
  have b:i<n:=by omega
  have l:rY (b4.mk (aP.mk k.aY k.aW k.Fields k.Names k.aX)) (wd h.Words a.toNat) (i:Int)=some (gA k (wd h.Words a.toNat) i):=ZD g.pv s p (by omega)
  rw[zg,bH b,cond_true,o8 e (by omega),ae,l,ae,ajY b]
  cases B:gA k (wd h.Words a.toNat) i with
  |false=>
   rw[cond_false,eG b (by omega)]
   exact(q (i+1) f hd (by omega) (by omega) (by omega)).trans (by simp)
  |true=>
   have u:idx h.Words (ar (ar (a+3)+(i:Int)))=some (wd h.Words (a.toNat+3+i)):=azi r (by omega) (by omega)
   have v:bD 8 hd [wd h.Words (a.toNat+3+i)]=some (hd++[wd h.Words (a.toNat+3+i)]):=by
    unfold bD;rw[if_pos (by simp only[je];omega)]
   rw[cond_true,u,ae,v,ae,eG b (by omega)]
   exact(q (i+1) f _ (by omega) (by omega) (by simp;omega)).trans (by simp)
end
end Go.Proofs.YteeliipnilghaaaGreat
namespace Go.Proofs.YteeliipnilghaaaGreat
open I
def sz(W:List Int)(a:Int):Nat:=3+(wd W (a.toNat+1)).toNat
def news(W:List Int):Nat->List Int->List Int
 |_,[]=>[]
 |t,a::r=>(t:Int)::news W (t+sz W a) r
def dc(W:List Int):Nat->List Int->Nat
 |t,[]=>t
 |t,a::r=>dc W (t+sz W a) r
theorem Xy{W:List Int}:∀ {o:List Int}{t:Nat},(news W t o).length=o.length
 |[],_=>rfl
 |a::r,t=>by simp[news,Xy (o:=r)]
theorem ZW{W:List Int}:∀ {o:List Int}{t:Nat},t<=dc W t o
 |[],t=>cu _
 |a::r,t=>gm (Nat.le_add_right _ _) (ZW (o:=r))
def pos:List Int->Int->Option Nat
 |[],_=>none
 |b::r,a=>if b=a then some 0 else(pos r a).map (·+1)
theorem ai6:∀ {o:List Int}{a:Int}{j:Nat},pos o a=some j->o[j]? =some a
 |[],a,j,h=>by simp[pos]at h
 |b::r,a,j,h=>by
  unfold pos at h;split at h
  ·rename_i e
   cases h
   simp[e]
  ·obtain⟨i,c,rfl⟩:=cd.1 h
   simpa using ai6 c
theorem ai5:∀ {o:List Int}{a:Int},pos o a=none↔a∉o
 |[],a=>by simp[pos]
 |b::r,a=>by
  unfold pos;split
  ·rename_i e;simp[e]
  ·rename_i e
   rw[Option.map_eq_none_iff,ai5]
   simp only[cm,not_or]
   exact⟨λ h=>⟨λ e'=>e e'.symm,h⟩,λ h=>h.2⟩
def gl(o ns:List Int)(a:Int):Int:=if a=0 then a else match pos o a with
 |some j=>(ns[j]?).getD 0
 |none=>a
section
variable{F:Nat}
theorem aDp{o:List Int}{a:Int}(c:o.length<=140737488355328):∀(d i f:Nat),i+d=o.length->d<f->B0 F f o a (i:Int)=some (match pos (o.drop i) a with
 |some j=>.inl ((((i+j:Nat):Int),()),())
 |none=>.inr ((),())):=by
 intro d
 induction d with
 |zero=>
  intro i f h ad
  obtain⟨f,rfl⟩:∃b,f=b+1:=⟨f-1,by omega⟩
  have:i=o.length:=by omega
  subst this
  rw[B0,bG,cond_false,hV]
  rfl
 |succ d g=>
  intro i f h ad
  obtain⟨f,rfl⟩:∃b,f=b+1:=⟨f-1,by omega⟩
  have hi:i<o.length:=by omega
  have k:o[i]? =some o[i]:=aH hi
  rw[B0,bH hi,cond_true,bq k,ae,cw hi]
  by_cases e:o[i]=a
  ·rw[decide_eq_true e,cond_true,pos,if_pos e]
   rfl
  ·rw[decide_eq_false e,cond_false,eG hi c,g (i+1) f (by omega) (by omega),pos,if_neg e]
   cases pos (o.drop (i+1)) a with
   |none=>rfl
   |some j=>simp only[fI,aD,Sum.inl.injEq,b5,and_true];omega
theorem aDq{o:List Int}{a:Int}(b:o.length<=5000)(c:10000<F):BZ F o a=some ((match pos o a with
 |some j=>(j:Int)
 |none=>-1,()),()):=by
 unfold BZ
 have e:B0 F F o a 0=_:=aDp (o:=o) (a:=a) (by omega) o.length 0 F (by omega) (by omega)
 rw[e,fK]
 cases pos o a with
 |none=>rfl
 |some j=>simp[dj]
theorem akL{o ns:List Int}{a:Int}(d:o.length<=5000)(e:10000<F)(f:ns.length=o.length):H' F a o ns=some ((gl o ns a,()),(o,()),((),()),ns,()):=by
 unfold H' gl;rw[aDq d e,ae];by_cases b:a=0
 ·rw[decide_eq_true b,Bool.true_or,cond_true,if_pos b]
 ·rw[decide_eq_false b,hX,if_neg b]
  cases g:pos o a with
  |none=>rfl
  |some j=>
   have aA:=ai6 g
   have c:j<ns.length:=by rw[f];exact(aM.1 aA).1
   dsimp only
   rw[decide_eq_false (by omega),cond_false,bq (aH c),ae,aH c]
   rfl
end
end Go.Proofs.YteeliipnilghaaaGreat
namespace Go.Proofs.YteeliipnilghaaaGreat
open I
def iH(A:List Int):List (Int×Bool):=A.map λ a=>(a,true)
theorem ag_{x:Int}:∀ {A:List Int},x∉A->gC (iH A) x true=iH (A++[x])
 |[],_=>rfl
 |a::r,h=>by
  have b:a≠x:=λ e=>h (by simp[e]);have J:x∉r:=λ e=>h (by simp[e]);show gC ((a,true)::iH r) x true=(a,true)::iH (r++[x])
  rw[gC,if_neg b,ag_ J]
theorem az6{x:Int}{A:List Int}:(cF (iH A) x).getD false=decide (x∈A):=OW x A
def gk(W:List Int)(A:List Int):List Int->Nat
 |[]=>0
 |a::r=>(if a∈A then 0 else sz W a)+gk W A r
theorem ah_{W A:List Int}{x:Int}:∀ {S:List Int},gk W (A++[x]) S<=gk W A S
 |[]=>cu _
 |a::r=>by
  have:=ah_ (W:=W) (A:=A) (x:=x) (S:=r);unfold gk;by_cases h:a∈A
  ·rw[if_pos h,if_pos (by simp[h])];omega
  ·rw[if_neg h];split<;>omega
theorem ah'{W A:List Int}{x:Int}(c:x∉A):∀ {S:List Int},x∈S->gk W (A++[x]) S+sz W x<=gk W A S
 |[],h=>by simp at h
 |a::r,h=>by
  unfold gk;by_cases e:a=x
  ·subst e
   have:=ah_ (W:=W) (A:=A) (x:=a) (S:=r)
   rw[if_pos (by simp),if_neg c]
   omega
  ·have J:x∈r:=(cm.1 h).resolve_left λ h=>e h.symm
   have:=ah' (W:=W) c J
   by_cases b:a∈A
   ·rw[if_pos b,if_pos (by simp[b])];omega
   ·rw[if_neg b,if_neg (by simp[b,e])];omega
theorem O2{W:List Int}:∀ {S:List Int}{t:Nat},dc W t S=t+gk W [] S
 |[],t=>rfl
 |a::r,t=>by
  unfold dc gk;rw[O2 (S:=r),if_neg (by simp)];omega
structure asd (k:aP) (W S A hd cb:List Int):Prop where
 og:cb.Nodup
 sub:∀a∈cb,a∈S
 cl:(∀a∈A,∀v∈hB k W a,v≠0 ->v∈A\/v∈hd)->(∀a∈cb,∀v∈hB k W a,v≠0 ->v∈cb)
 rt:(∀a∈A,a∈cb)/\ ∀v∈hd,v≠0 ->v∈cb
 gB:∀P:Int->Prop,(∀a,P a-> ∀v∈hB k W a,v≠0 ->P v)->(∀a∈A,P a)->(∀v∈hd,v≠0 ->P v)-> ∀a∈cb,P a
section
variable{F:Nat}{h:aR}{k:aP}{Y O:List Int}
theorem aGz{W:List Int}{a:Int}:(hB k W a).length+3<=sz W a:=by
 have:=ajW (k:=k) (W:=W) (a:=a.toNat) (n:=(wd W (a.toNat+1)).toNat) (d:=(wd W (a.toNat+1)).toNat) (i:=0) (by omega);rw[ajX]at this;unfold sz;omega
set_option maxHeartbeats 1000000
theorem aBV(L:10000<F)(g:I.Good F h k Y O):∀(N f:Nat)(A hd:List Int),hd.length+gk h.Words A (Y++O)<=N->N<f->N<=100000 ->A.Nodup->(∀a∈A,a∈Y++O)->(∀v∈hd,v=0\/v∈Y++O) ->
 ∃cb,wj F f k.aY k.aW k.Fields k.Names k.aX h.Words h.av h.aL h.aU h.aT h.aS h.Next (iH A) hd=
  some ((),((),k.aY,k.aW,k.Fields,k.Names,k.aX,(),()),(h.Words,h.av,h.aL,h.aU,h.aT,h.aS,h.Next,()),iH cb,[],())/\asd k h.Words (Y++O) A hd cb:=by
 intro N
 induction N with
 |zero=>
  intro f A hd w ad _ o aj r
  obtain⟨f,rfl⟩:∃y,f=y+1:=⟨f-1,by omega⟩
  obtain rfl:hd=[]:=gK (by omega)
  exact⟨A,by rw[wj];rfl,o,aj,λ hc a ax v c i=>(hc a ax v c i).elim id λ h=>by simp at h,⟨λ a h=>h,λ v c=>by simp at c⟩,λ P _ J _=>J⟩
 |succ N H=>
  intro f A hd w ad M o aj r
  obtain⟨f,rfl⟩:∃y,f=y+1:=⟨f-1,by omega⟩
  rcases List.eq_nil_or_concat hd with rfl |⟨d,x,rfl⟩
  ·exact⟨A,by rw[wj];rfl,o,aj,λ hc a ax v c i=>(hc a ax v c i).elim id λ h=>by simp at h,⟨λ a h=>h,λ v c=>by simp at c⟩,λ P _ J _=>J⟩
  ·have l:(d++[x]).length=d.length+1:=by simp
   rw[List.concat_eq_append]at w r⊢
   rw[l]at w
   have e1:decide (0<(((d++[x]).length:Nat):Int))=true:=decide_eq_true (by rw[l];omega)
   have e2:ar ((((d++[x]).length:Nat):Int)-1)=((d.length:Nat):Int):=by rw[l,cQ (by omega) (by omega)];omega
   have Q:(d++[x])[d.length]? =some x:=by simp
   have e3:(if(0 :Int)<=0/\0<=((d.length:Nat):Int)/\((d.length:Nat):Int)<=(((d++[x]).length:Nat):Int)then some ()else none)=some ():=if_pos ⟨by omega,by omega,by rw[l];omega⟩
   have e4:lu (((d.length:Nat):Int)).toNat (d++[x])=d:=by rw[cN];simp
   have R:x=0\/x∈Y++O:=r x (by simp)
   have p:∀v∈d,v=0\/v∈Y++O:=λ v c=>r v (by simp[c])
   rw[wj,e1,cond_true,e2,bq Q,ae,e3,ae,e4,az6]
   clear e2
   by_cases hc:x=0\/x∈A
   ·have:(decide (x=0)||decide (x∈A))=true:=by
     rcases hc with h |h
     ·rw[decide_eq_true h];rfl
     ·rw[decide_eq_true h,Bool.or_true]
    rw[this,cond_true];obtain⟨cb,z,j⟩:=H f A d (by omega) (by omega) (by omega) o aj p;refine⟨cb,z,j.og,j.sub,λ B=>j.cl λ a ax v c i=>?_,⟨j.rt.1,λ v c i=>?_⟩,λ P s C t=>j.gB P s C λ v c=>t v (by simp[c])⟩
    ·rcases B a ax v c i with h |h
     ·exact .inl h
     ·rcases b3.1 h with h |h
      ·exact .inr h
      ·cases dK.1 h
       exact .inl (hc.resolve_left i)
    ·rcases b3.1 c with h |h
     ·exact j.rt.2 v h i
     ·cases dK.1 h
      exact j.rt.1 _ (hc.resolve_left i)
   ·have D:x≠0:=λ e=>hc (.inl e)
    have u:x∉A:=λ e=>hc (.inr e)
    have Gg:=R.resolve_left D
    rw[decide_eq_false D,decide_eq_false u,Bool.or_self,cond_false,ag_ u]
    obtain⟨V,X,_⟩:=g.l.fit g.s x Gg
    have Z:=g.s.fq
    obtain⟨n,K⟩:∃n,n=(wd h.Words (x.toNat+1)).toNat:=⟨_,rfl⟩
    have E:wd h.Words (x.toNat+1)=(n:Int):=by
     have:=(l3.1 (g.l.K' x Gg).2).1.1;omega
    have G:idx h.Words (ar (x+1))=some (n:Int):=by
     have e:ar (x+1)=((x.toNat+1 :Nat):Int):=by rw[cQ (by omega) (by omega)];omega
     rw[e,fU (by omega),E]
    rw[G,ae]
    have S:=aBW L g Gg (m:=iH (A++[x])) K n 0 F d (by omega) (by omega) (by omega)
    have T:zg F F x (n:Int) 0 k.aY k.aW k.Fields k.Names k.aX h.Words h.av h.aL h.aU h.aT h.aS h.Next (iH (A++[x])) d=_:=S
    rw[T,ae,K,ajX]
    have U:=ah' (W:=h.Words) u Gg
    have Gd:=aGz (k:=k) (W:=h.Words) (a:=x)
    obtain⟨cb,z,j⟩:=H f (A++[x]) (d++hB k h.Words x) (by rw[dS];omega) (by omega) (by omega) (eK.2 ⟨o,by simp,λ a ax b af e=>by cases dK.1 af;exact u (e▸ax)⟩)
     (λ a ax=>(b3.1 ax).elim (aj a) λ h=>by cases dK.1 h;exact Gg)
     (λ v c=>(b3.1 c).elim (p v) λ h=>P8 g Gg v h)
    refine⟨cb,z,j.og,j.sub,λ B=>j.cl λ a ax v c i=>?_,⟨λ a ax=>j.rt.1 a (by simp[ax]),λ v c i=>?_⟩,λ P s C t=>?_⟩
    ·rcases b3.1 ax with ax |ax
     ·rcases B a ax v c i with h |h
      ·exact .inl (by simp[h])
      ·rcases b3.1 h with h |h
       ·exact .inr (by simp[h])
       ·exact .inl (by simp[dK.1 h])
     ·cases dK.1 ax
      exact .inr (by simp[c])
    ·rcases b3.1 c with h |h
     ·exact j.rt.2 v (by simp[h]) i
     ·exact j.rt.1 v (by simp[dK.1 h])
    ·have q:P x:=t x (by simp) D
     refine j.gB P s (λ a ax=>?_) λ v c i=>?_
     ·rcases b3.1 ax with h |h
      ·exact C a h
      ·cases dK.1 h;exact q
     ·rcases b3.1 c with h |h
      ·exact t v (by simp[h]) i
      ·exact s x q v h i
end
end Go.Proofs.YteeliipnilghaaaGreat
namespace Go.Proofs.YteeliipnilghaaaGreat
open I a8
theorem ah9{W A:List Int}:∀ {l m:List Int},gk W A (l++m)=gk W A l+gk W A m
 |[],m=>by simp[gk]
 |a::r,m=>by
  show(if a∈A then 0 else sz W a)+gk W A (r++m)=(if a∈A then 0 else sz W a)+gk W A r+gk W A m
  rw[ah9 (l:=r)];omega
theorem ala{k:aP}{W:List Int}{to q:Nat}{L:List Int}(h:I.fk k W to q L):dc W q L=to:=by
 induction h with
 |nil=>rfl
 | @cons q r _ _ _ _ a=>
   show dc W (q+sz W (q:Int)) r=to
   rw[show q+sz W (q:Int)=q+3+(wd W (q+1)).toNat by unfold sz;rw[cN];omega]
   exact a
theorem aky{W:List Int}:∀ {l:List Int}{n:Int},(∀a∈l,∃v,idx W (ar (a+1))=some v)-> ∃m,iM W l n=some m
 |[],n,_=>⟨n,rfl⟩
 |a::r,n,h=>by
  obtain⟨v,c⟩:=h a (by simp);obtain⟨m,d⟩:=aky (l:=r) (n:=ar (n+ar (3+v))) λ b af=>h b (by simp[af]);exact⟨m,by rw[iM,c,ae,d]⟩
section
variable{F:Nat}{h:aR}{k:aP}{Y O:List Int}
theorem aB_(g:I.Good F h k Y O):gk h.Words [] (Y++O)<=4001:=by
 have a:=ala g.l.y;have J:=ala g.l.o;rw[O2]at a J;rw[ah9];have b:(h.Words.length:Int)=1+h.av+h.aL:=g.s.B;obtain⟨⟨c1,c2⟩,⟨c3,c4⟩,_⟩:=g.s.C;obtain⟨⟨c,_⟩,a3,_⟩:=g.s.A;have:=g.s.fq;omega
theorem aBX(f:10000<F)(g:I.Good F h k Y O){roots:List Int}(o:roots.length<=5000)(d:∀a∈roots,a=0\/a∈Y++O) :
 ∃A,A.Perm (ib k h Y O roots)/\A.Nodup/\(∀a∈A,a∈Y++O)/\CG F roots k.aY k.aW k.Fields k.Names k.aX h.Words h.av h.aL h.aU h.aT h.aS h.Next []=
  some ((),((),k.aY,k.aW,k.Fields,k.Names,k.aX,(),()),(h.Words,h.av,h.aL,h.aU,h.aT,h.aS,h.Next,()),iH A,()):=by
 have i:=aB_ g
 obtain⟨A,j,c⟩:=aBV f g (roots.length+4001) F [] roots (by omega) (by omega) (by omega) List.nodup_nil (λ a b=>by simp at b) d
 have e:=ajP g d
 have l:=Az g d
 refine⟨A,(kf c.og l.og).2 λ a=>⟨λ b=>?_,λ b=>?_⟩,c.og,c.sub,?_⟩
 ·exact c.gB _ e.hd (λ a b=>by simp at b) e.rt a b
 ·exact aFZ (P:=λ a=>a∈A) ⟨c.rt.2,c.cl λ a b=>by simp at b⟩ a b
 ·unfold CG
  have m:bD 8 [] roots=some roots:=by
   unfold bD;rw[if_pos (by simp;omega)];rfl
  have n:wj F F k.aY k.aW k.Fields k.Names k.aX h.Words h.av h.aL h.aU h.aT h.aS h.Next [] roots=_:=j
  rw[m,ae,n,ae]
theorem azh(g:I.Good F h k Y O){a:Int}(b:a∈Y++O):∃v,idx h.Words (ar (a+1))=some v:=by
 obtain⟨c,d,_⟩:=g.l.fit g.s a b;have f:=g.s.fq;have e:ar (a+1)=((a.toNat+1 :Nat):Int):=by rw[cQ (by omega) (by omega)];omega
 rw[e];exact⟨_,fU (by omega)⟩
theorem aBE{l:List Int}(c:l.length<=140737488355328):∀(d i f:Nat)(n:Int),i+d=l.length->d<f ->
 BX F f l n (i:Int) h.Words h.av h.aL h.aU h.aT h.aS h.Next=(iM h.Words (l.drop i) n).map λ m=>((m,()),(h.Words,h.av,h.aL,h.aU,h.aT,h.aS,h.Next,()),()):=by
 intro d
 induction d with
 |zero=>
  intro i f n hi ad
  obtain⟨f,rfl⟩:∃b,f=b+1:=⟨f-1,by omega⟩
  have:i=l.length:=by omega
  subst this
  rw[BX,bG,cond_false,hV]
  rfl
 |succ d e=>
  intro i f n hi ad
  obtain⟨f,rfl⟩:∃b,f=b+1:=⟨f-1,by omega⟩
  have a:i<l.length:=by omega
  have g:l[i]? =some l[i]:=aH a
  rw[BX,bH a,cond_true,bq g,ae,cw a,iM]
  cases j:idx h.Words (ar (l[i]+1))with
  |none=>rfl
  |some v=>
   rw[ae,ae,eG a c]
   exact e (i+1) f _ (by omega) (by omega)
theorem aBF(d:10000<F)(g:I.Good F h k Y O){roots:List Int}(f:roots.length<=5000)(b:∀a∈roots,a=0\/a∈Y++O) :
 ∃m A,A.Perm (ib k h Y O roots)/\A.Nodup/\(∀a∈A,a∈Y++O)/\iM h.Words A 0=some m/\
  CG F roots k.aY k.aW k.Fields k.Names k.aX h.Words h.av h.aL h.aU h.aT h.aS h.Next []=
   some ((),((),k.aY,k.aW,k.Fields,k.Names,k.aX,(),()),(h.Words,h.av,h.aL,h.aU,h.aT,h.aS,h.Next,()),iH A,())/\
  FM h.Words (iH A)=some m/\H7 F h.Words h.av h.aL h.aU h.aT h.aS h.Next k.aY k.aW k.Fields k.Names k.aX roots=some ((m,()),()):=by
 obtain⟨A,i,p,j,q⟩:=aBX d g f b
 obtain⟨m,c⟩:=aky (W:=h.Words) (l:=A) (n:=0) λ a r=>azh g (j a r)
 have s:iM h.Words (ib k h Y O roots) 0=some m:=by rw[<-ZN i];exact c
 refine⟨m,A,i,p,j,c,q,?_,?_⟩
 ·unfold FM iH
  rw[List.map_map]
  have:(ke∘λ a:Int=>(a,true))=id:=rfl
  rw[this,List.map_id]
  exact c
 ·unfold H7
  rw[ajQ d g f b,ae]
  have o:=(Az g b).len
  have t:=Cx g
  have e:=aBE (F:=F) (h:=h) (l:=ib k h Y O roots) (by omega) (ib k h Y O roots).length 0 F 0 (by omega) (by omega)
  rw[fK,s]at e
  have e':BX F F (ib k h Y O roots) 0 0 h.Words h.av h.aL h.aU h.aT h.aS h.Next=_:=e
  dsimp only
  rw[e']
  rfl
end
end Go.Proofs.YteeliipnilghaaaGreat
namespace I
section
variable{F:Nat}{k:aP}{h:aR}{Y O:List Int}
theorem akG(c:10000<F)(g:Good F h k Y O):oR F h k=some (Y,O,true):=by
 rcases ajC (F:=F) (by omega) g.pv g.s with⟨d,f,a,e⟩|⟨b,_⟩
 ·obtain rfl:=a.y.uQ g.l.y
  obtain rfl:=a.o.uQ g.l.o
  exact e
 ·exact absurd g.l (b _ _)
def yY(Y O:List Int)(a:Int):Bool:=!decide (a=0)&& !decide (a∈Y++O)
def qM(Y O roots:List Int):Int:=if 1000<(roots.length:Int)then 2 else if roots.any (yY Y O)then 5 else 0
theorem aGa(d:10000<F)(g:Good F h k Y O)(roots:List Int):ER F (view h k Y O) roots=some (qM Y O roots):=by
 unfold ER qM;by_cases a:1000<(roots.length:Int)
 ·rw[decide_eq_true a,if_pos a];rfl
 ·rw[decide_eq_false a,if_neg a,cond_false]
  unfold Qf Qj
  have ad:=TN (l:=roots) (L:=AN roots (view h k Y O)) (yY Y O) (by omega) (λ f i x b=>by
   rw[AN,bH (aM.1 b).1,cond_true,bq b,ae];unfold RJ yY;by_cases c:x=0
   ·rw[decide_eq_true c];rfl
   ·rw[decide_eq_false c,iy,cond_true,jw]
    show dB (dB (F0 (view h k Y O) x) _) _=_
    rw[g.dz x]
    rfl) (λ f=>by rw[AN,bG];rfl) (F:=F) (by omega)
  refine Eq.trans (congrArg (λ o=>dB o λ(r:Bool)=>cond r (some (5 :Int)) (some 0)) (ad:_)) ?_
  rw[ae]
  cases roots.any (yY Y O)<;>rfl
theorem aF'(e:10000<F)(g:Good F h k Y O)(roots:List Int):yK F h k roots=some (qM Y O roots):=by
 have hc:Y.length+O.length<=5000:=(g.l.sJ g.pv g.s).rG;unfold yK qM;by_cases b:1000<(roots.length:Int)
 ·rw[decide_eq_true b,if_pos b];rfl
 ·rw[decide_eq_false b,if_neg b,cond_false]
  have e1:oR F (⟨h.Words,h.av,h.aL,h.aU,h.aT,h.aS,h.Next⟩:aR) (⟨k.aY,k.aW,k.Fields,k.Names,k.aX⟩:aP)=_:=akG e g
  rw[e1,ae]
  have j:pV F roots (Y,O,true) F 0=some (cn (roots.findSome? λ a=>if yY Y O a then some 5 else none)):=each _ (by omega) (λ f i x c=>by
   rw[pV,bH (aM.1 c).1,cond_true,bq c,ae,ae];rw[show j9 F (Y,O,true).1 x=some (decide (x∈Y)) from Aw (l:=Y) ⟨by omega,by omega⟩ x,ae,ae];rw[show j9 F (Y,O,true).2.1 x=some (decide (x∈O)) from Aw (l:=O) ⟨by omega,by omega⟩ x,ae];unfold yY;by_cases d:x=0
   ·rw[decide_eq_true d];rfl
   ·by_cases hy:x∈Y<;>by_cases ap:x∈O<;>simp[d,hy,ap,gR]) (λ f=>by rw[pV,bG];rfl) (by omega)
  rw[j,TZ]
  cases roots.any (yY Y O)<;>rfl
theorem aDd(a:10000<F)(g:Good F h k Y O)(roots:List Int)(b:pW F h k=some 0):s7 F h k roots=some (qM Y O roots):=by
 unfold s7;have e1:pW F (⟨h.Words,h.av,h.aL,h.aU,h.aT,h.aS,h.Next⟩:aR) (⟨k.aY,k.aW,k.Fields,k.Names,k.aX⟩:aP)=_:=b;have e2:yK F (⟨h.Words,h.av,h.aL,h.aU,h.aT,h.aS,h.Next⟩:aR) (⟨k.aY,k.aW,k.Fields,k.Names,k.aX⟩:aP) roots=_:=aF' a g roots;rw[e1,ae,e2];rfl
theorem aDe{e:Int}(roots:List Int)(a:pW F h k=some e)(b:e≠0):s7 F h k roots=some e:=by
 unfold s7;have e1:pW F (⟨h.Words,h.av,h.aL,h.aU,h.aT,h.aS,h.Next⟩:aR) (⟨k.aY,k.aW,k.Fields,k.Names,k.aX⟩:aP)=_:=a;rw[e1,ae,decide_eq_false b];rfl
theorem ajZ{roots:List Int}(h:qM Y O roots=0):roots.length<=1000/\ ∀a∈roots,a=0\/a∈Y++O:=by
 unfold qM at h;split at h
 ·cases h
 ·rename_i e
  split at h
  ·cases h
  ·rename_i J
   refine⟨by omega,λ a d=>?_⟩
   have:=ih.1 (gX.2 J) a d
   unfold yY at this
   by_cases b:a=0
   ·exact .inl b
   ·by_cases c:a∈Y++O
    ·exact .inr c
    ·simp only[bC,ga,decide_eq_false_iff_not]at this
     exact absurd ⟨b,c⟩ this
end
end I
namespace Go.Proofs.YteeliipnilghaaaGreat
open I
section
variable{F:Nat}{h:aR}{k:aP}{Y O:List Int}
theorem asn{out:List Int}{x:Int}(ap:out.length<=1000000):bD 8 out [x]=some (out++[x]):=by
 unfold bD;rw[if_pos (by simp only[je];omega)]
theorem afc(c:10000<F)(g:I.Good F h k Y O)(roots:List Int) :
 CH F h.Words h.av h.aL h.aU h.aT h.aS h.Next k.aY k.aW k.Fields k.Names k.aX roots=
  some (.inl (((),qM Y O roots,()),(h.Words,h.av,h.aL,h.aU,h.aT,h.aS,h.Next,k.aY,k.aW,k.Fields,k.Names,k.aX,Y,O,(),()),(Y++O).map (λ a=>(a,true)),())):=by
 have d:kC F (⟨h.Words,h.av,h.aL,h.aU,h.aT,h.aS,h.Next⟩:aR) (⟨k.aY,k.aW,k.Fields,k.Names,k.aX⟩:aP)=_:=g.open c
 have b:ER F (⟨⟨h.Words,h.av,h.aL,h.aU,h.aT,h.aS,h.Next⟩,⟨⟨k.aY,k.aW,k.Fields,k.Names,k.aX⟩⟩,Y,O,(Y++O).map λ a=>(a,true)⟩:bg) roots=_:=aGa c g roots
 unfold CH
 rw[d]
 dsimp only[jU,dj,view]
 rw[decide_eq_true (rfl:(0 :Int)=0),cond_true,b,ae]
theorem avU{roots:List Int}{r:Option bg×Int}(e:kC F h k=some r)(a:r.1=none)(J:r.2≠0) :
 CH F h.Words h.av h.aL h.aU h.aT h.aS h.Next k.aY k.aW k.Fields k.Names k.aX roots=some (.inr (((),r.2,()),())):=by
 have b:kC F (⟨h.Words,h.av,h.aL,h.aU,h.aT,h.aS,h.Next⟩:aR) (⟨k.aY,k.aW,k.Fields,k.Names,k.aX⟩:aP)=_:=e
 obtain⟨c,d⟩:=r
 obtain rfl:c=none:=a
 have J:d≠0:=J
 unfold CH
 rw[b]
 dsimp only[jU,dj]
 rw[decide_eq_false J,cond_false]
end
end Go.Proofs.YteeliipnilghaaaGreat
namespace Go.Proofs.YteeliipnilghaaaGreat
open I
def val(k:aP)(W o ns:List Int)(q i:Nat):Int:=if 3<=i/\gA k (wd W q) (i-3)=true then gl o ns (wd W (q+i))else wd W (q+i)
theorem xX{a b:Nat}(h:a+b<=100000):I.ar ((a:Int)+(b:Int))=((a+b:Nat):Int):=by rw[cQ (by omega) (by omega)];omega
theorem jq{a:Nat}(h:a<=100000):I.ar ((a:Int)+1)=((a+1 :Nat):Int):=by rw[cQ (by omega) (by omega)];omega
theorem Ec{x:Int}{n:Nat}(a:0<=x)(h:n=3+x.toNat)(b:n<=100000):I.ar (3+x)=(n:Int):=by rw[cQ (by omega) (by omega)];omega
theorem ak7{a:Nat}(h:a<=100000)(b:3<=a):I.ar ((a:Int)-3)=((a-3 :Nat):Int):=by rw[cQ (by omega) (by omega)];omega
section
variable{F:Nat}{k:aP}{y ol yt ot nx:Int}{W nt o ns:List Int}{u1 u2 u3 u4 u6:Int}{u5:List Int}
theorem aDB(B:10000<F)(C:fS k)(ap:o.length<=5000)(D:ns.length=o.length){q t n:Nat}(r:n=3+(wd W (q+1)).toNat)(P:q+n<=W.length)(Q:W.length<=5000)(E:fX k (wd W q)=true)(s:isLen k (wd W q) (wd W (q+1))=true) :
 ∀(d i f:Nat)(Z:List Int),i+d=n->d<f->Z.length<=5000 ->t+n<=Z.length ->
 ∃a,tm F f (q:Int) (t:Int) (i:Int) W y ol yt ot nt nx k.aY k.aW k.Fields k.Names k.aX o ns u1 u2 u3 u4 u5 u6 Z=some ((),(W,y,ol,yt,ot,nt,nx,()),(k.aY,k.aW,k.Fields,k.Names,k.aX,()),((),()),(o,()),((),()),ns,((),u1,u2,u3,u4,u5,u6,()),a,())/\
  a.length=Z.length/\ ∀p,wd a p=if t+i<=p/\p<t+n then val k W o ns q (p-t)else wd Z p:=by
 intro d
 have u:=(l3.1 s).1
 have G:q+1<W.length:=by omega
 have w:n<=100000:=by omega
 have H:q<=100000:=by omega
 have b:idx W (I.ar ((q:Int)+1))=some (wd W (q+1)):=by rw[jq H];exact fU G
 induction d with
 |zero=>
  intro i f Z h ad x z
  obtain⟨f,rfl⟩:∃g,f=g+1:=⟨f-1,by omega⟩
  have:i=n:=by omega
  subst this
  rw[tm,b,ae,Ec u.1 r w,bG,cond_false]
  refine⟨Z,rfl,rfl,λ p=>?_⟩
  rw[if_neg (by omega)]
 |succ d J=>
  intro i f Z h ad x z
  obtain⟨f,rfl⟩:∃g,f=g+1:=⟨f-1,by omega⟩
  have hi:i<n:=by omega
  have K:q+i<W.length:=by omega
  have L:q+i<=100000:=by omega
  have j:t+i<=100000:=by omega
  have e:i<=100000:=by omega
  have M:idx W (I.ar ((q:Int)+i))=some (wd W (q+i)):=by rw[xX L];exact fU K
  have l:idx Z ((t+i:Nat):Int)=some (wd Z (t+i)):=fU (by omega)
  have step:∀v:Int,v=val k W o ns q i-> ∃a,tm F f (q:Int) (t:Int) ((i+1 :Nat):Int) W y ol yt ot nt nx k.aY k.aW k.Fields k.Names k.aX o ns u1 u2 u3 u4 u5 u6 (Z.set (t+i) v)=some ((),(W,y,ol,yt,ot,nt,nx,()),(k.aY,k.aW,k.Fields,k.Names,k.aX,()),((),()),(o,()),((),()),ns,((),u1,u2,u3,u4,u5,u6,()),a,())/\
   a.length=Z.length/\ ∀p,wd a p=if t+i<=p/\p<t+n then val k W o ns q (p-t)else wd Z p:=λ v N=>by
   obtain⟨a,e1,e2,e3⟩:=J (i+1) f (Z.set (t+i) v) (by omega) (by omega) (by rw[iP];exact x) (by rw[iP];exact z)
   refine⟨a,e1,by rw[e2,iP],λ p=>?_⟩
   rw[e3 p]
   by_cases A:p=t+i
   ·subst A
    rw[if_neg (by omega),if_pos (by omega),Lf (by omega),if_pos rfl,N,show t+i-t=i by omega]
   ·by_cases c:t+(i+1)<=p/\p<t+n
    ·rw[if_pos c,if_pos (by omega)]
    ·rw[if_neg c,if_neg (by omega),Lf (by omega),if_neg A]
  rw[tm,b,ae,Ec u.1 r w,bH hi,cond_true,M,ae]
  by_cases m:3<=i
  ·rw[decide_eq_true (show(3 :Int)<=(i:Int) by omega),cond_true,fU (show q<W.length by omega),ae]
   have O:tl (aP.mk k.aY k.aW k.Fields k.Names k.aX) (wd W q) (I.ar ((i:Int)-3))=some (gA k (wd W q) (i-3)):=by
    rw[ak7 e m];exact ajD C E s (by omega)
   rw[O,ae]
   cases c:gA k (wd W q) (i-3)with
   |true=>
    rw[cond_true,akL ap B D,ae,xX j,l,ae,jq e,cN]
    exact step _ (by unfold val;rw[if_pos ⟨m,c⟩])
   |false=>
    rw[cond_false,xX j,l,ae,jq e,cN]
    exact step _ (by unfold val;rw[if_neg (λ h=>by rw[c]at h;cases h.2)])
  ·rw[decide_eq_false (show¬(3 :Int)<=(i:Int) by omega),cond_false,xX j,l,ae,jq e,cN]
   exact step _ (by unfold val;rw[if_neg (λ h=>m h.1)])
end
end Go.Proofs.YteeliipnilghaaaGreat
namespace Go.Proofs.YteeliipnilghaaaGreat
open I
section
variable{F:Nat}{k:aP}{y ol yt ot nx:Int}{W nt o ns:List Int}{u1 u2 u3 u4 u6:Int}{u5:List Int}
theorem put_eq(b:10000<F)(c:fS k)(ap:o.length<=5000)(d:ns.length=o.length){q t n:Nat}(e:n=3+(wd W (q+1)).toNat)(f:q+n<=W.length)(g:W.length<=5000)(h:fX k (wd W q)=true)(i:isLen k (wd W q) (wd W (q+1))=true)
 {Z:List Int}(j:Z.length<=5000)(l:t+n<=Z.length) :
 ∃a,Ia F (q:Int) (t:Int) W y ol yt ot nt nx k.aY k.aW k.Fields k.Names k.aX o ns u1 u2 u3 u4 u5 u6 Z=some ((),(W,y,ol,yt,ot,nt,nx,()),(k.aY,k.aW,k.Fields,k.Names,k.aX,()),((),()),(o,()),((),()),ns,((),u1,u2,u3,u4,u5,u6,()),a,())/\
  a.length=Z.length/\ ∀p,wd a p=if t<=p/\p<t+n then val k W o ns q (p-t)else wd Z p:=by
 obtain⟨a,e1,e2,e3⟩:=aDB (y:=y) (ol:=ol) (yt:=yt) (ot:=ot) (nx:=nx) (nt:=nt) (u1:=u1) (u2:=u2) (u3:=u3) (u4:=u4) (u5:=u5) (u6:=u6) (t:=t) b c ap d e f g h i n 0 F Z (by omega) (by omega) j l
 refine⟨a,?_,e2,λ p=>by rw[e3 p,lC]⟩
 unfold Ia
 have m:tm F F (q:Int) (t:Int) 0 W y ol yt ot nt nx k.aY k.aW k.Fields k.Names k.aX o ns u1 u2 u3 u4 u5 u6 Z=_:=e1
 rw[m,ae]
theorem aCt{c1:List ak}{c2:List Int}{c3:List (List I.Field)}{c4:List (List (List UInt8))}{c5:List (List I.Target)}{from_:Int}{roots e1 e6:List Int}{e2 e3 e4 e5 e7:Int}(ap:o.length<=5000)(D:W.length<=5000)
 (m:∀a∈o,1<=a/\a.toNat+3+(wd W (a.toNat+1)).toNat<=W.length/\0<=wd W (a.toNat+1)):∀(d i f t:Nat)(l:List Int),i+d=o.length->d<f->l.length=i->t+5000*d<=100000000 ->
 Ci F f from_ roots (t:Int) (i:Int) W y ol yt ot nt nx c1 c2 c3 c4 c5 o e1 e2 e3 e4 e5 e6 e7 l=some ((from_,roots,(),(),(),(),(),((dc W t (o.drop i):Nat):Int),()),(W,y,ol,yt,ot,nt,nx,()),(c1,c2,c3,c4,c5,()),(o,()),(e1,e2,e3,e4,e5,e6,e7,()),((),()),l++news W t (o.drop i),()):=by
 intro d
 induction d with
 |zero=>
  intro i f t l h ad e p
  obtain⟨f,rfl⟩:∃b,f=b+1:=⟨f-1,by omega⟩
  have:i=o.length:=by omega
  subst this
  rw[Ci,bG,cond_false,hV]
  simp[dc,news]
 |succ d r=>
  intro i f t l h ad e p
  obtain⟨f,rfl⟩:∃b,f=b+1:=⟨f-1,by omega⟩
  have hi:i<o.length:=by omega
  have s:o[i]? =some o[i]:=aH hi
  obtain⟨E,u,a3⟩:=m _ (hC hi)
  have v:bD 8 l [(t:Int)]=some (l++[(t:Int)]):=by
   unfold bD;rw[if_pos (by simp only[je];omega)]
  obtain⟨q,c⟩:∃q:Nat,o[i]=(q:Int):=⟨o[i].toNat,by omega⟩
  rw[c,cN]at u a3
  have w:q<=100000:=by omega
  have x:q+1<W.length:=by omega
  obtain⟨n,g⟩:∃n,n=3+(wd W (q+1)).toNat:=⟨_,rfl⟩
  have z:n<=100000:=by omega
  have A:i<=100000:=by omega
  have B:sz W o[i]=n:=by rw[c];unfold sz;rw[cN,g]
  have C:t+n+5000*d<=100000000:=by omega
  have j:I.ar ((t:Int)+(n:Int))=((t+n:Nat):Int):=by rw[cQ (by omega) (by omega)];omega
  rw[Ci,bH hi,cond_true,v,ae,bq s,ae,c,jq w,fU x,ae,Ec a3 g z,j,jq A]
  clear j
  refine(r (i+1) f (t+n) (l++[(t:Int)]) (by omega) (by omega) (by simp[e]) C).trans ?_
  rw[cw hi,news,dc,B,gT,j1]
end
end Go.Proofs.YteeliipnilghaaaGreat
namespace Go.Proofs.YteeliipnilghaaaGreat
open I
section
variable{F:Nat}{k:aP}{y ol yt ot nx:Int}{W nt o ns:List Int}{u1 u2 u3 u4 u6:Int}{u5:List Int}{e1 e6:List Int}{e2 e3 e4 e5 e7:Int}{roots:List Int}
theorem aC7(w:10000<F)(x:fS k)(ap:o.length<=5000)(z:ns.length=o.length)(A:W.length<=5000){to:Nat}(R:to<=W.length){q:Nat}{L:List Int}(h:I.fk k W to q L):∀(f:Nat)(Z:List Int),to-q<f->Z.length=W.length ->
 ∃b,Fc F f (to:Int) roots (q:Int) W y ol yt ot nt nx o e1 e2 e3 e4 e5 e6 e7 ns u1 u2 u3 u4 u5 u6 Z k.aY k.aW k.Fields k.Names k.aX=some ((roots,(),(),(),(),(),((),(),(),(),()),()),(W,y,ol,yt,ot,nt,nx,()),(o,()),(e1,e2,e3,e4,e5,e6,e7,()),((),()),ns,((),()),((),u1,u2,u3,u4,u5,u6,()),b,(k.aY,k.aW,k.Fields,k.Names,k.aX,()),())/\
  b.length=W.length/\(∀a∈L,∀i,i<sz W a->wd b (a.toNat+i)=val k W o ns a.toNat i)/\ ∀p,p<q\/to<=p->wd b p=wd Z p:=by
 induction h with
 |nil=>
  intro f Z ad c
  obtain⟨f,rfl⟩:∃d,f=d+1:=⟨f-1,by omega⟩
  refine⟨Z,?_,c,λ a ax=>by simp at ax,λ p _=>rfl⟩
  rw[Fc,bG,cond_false]
 | @cons q r B m S C s=>
   intro f Z ad c
   obtain⟨f,rfl⟩:∃d,f=d+1:=⟨f-1,by omega⟩
   have e:=C.le
   obtain⟨n,g⟩:∃n,n=3+(wd W (q+1)).toNat:=⟨_,rfl⟩
   have D:=(l3.1 m).1.1
   have E:q<to:=by omega
   obtain⟨G,H,J,u⟩:=put_eq (y:=y) (ol:=ol) (yt:=yt) (ot:=ot) (nx:=nx) (nt:=nt) (u1:=u1) (u2:=u2) (u3:=u3) (u4:=u4) (u5:=u5) (u6:=u6) (t:=q) w x ap z g (by omega) A B m (Z:=Z) (by omega) (by omega)
   have j:q+3+(wd W (q+1)).toNat=q+n:=by omega
   rw[j]at s e
   obtain⟨b,K,M,N,v⟩:=s f G (by omega) (by rw[J,c])
   have O:q<=100000:=by omega
   have P:q+1<W.length:=by omega
   have Q:n<=100000:=by omega
   have l:q+n<=100000:=by omega
   have wR:sz W (q:Int)=n:=by unfold sz;rw[cN,g]
   refine⟨b,?_,M,λ a ax i hi=>?_,λ p T=>?_⟩
   ·rw[Fc,bH E,cond_true,H,ae]
    dsimp only
    rw[jq O,fU P,ae,Ec D g Q,xX l]
    exact K
   ·rcases cm.1 ax with rfl |ax
    ·rw[wR]at hi
     rw[cN,v _ (by omega),u,if_pos (by omega),show q+i-q=i by omega]
    ·exact N a ax i hi
   ·rw[v p (by omega),u,if_neg (by omega)]
end
end Go.Proofs.YteeliipnilghaaaGreat
namespace Go.Proofs.YteeliipnilghaaaGreat
open I
def laid(k:aP)(W o ns Z:List Int):Nat->List Int->Prop
 |_,[]=>True
 |t,a::r=>(∀m,m<sz W a->wd Z (t+m)=val k W o ns a.toNat m)/\laid k W o ns Z (t+sz W a) r
section
variable{F:Nat}{k:aP}{y ol yt ot nx:Int}{W nt o ns:List Int}{u1 u2 u3 u4 u6:Int}{u5:List Int}{e1 e6:List Int}{e2 e3 e4 e5 e7:Int}{roots:List Int}
theorem aCr(w:10000<F)(x:fS k)(ap:o.length<=5000)(z:ns.length=o.length)(A:W.length<=5000)
 (B:∀a∈o,1<=a/\a.toNat+3+(wd W (a.toNat+1)).toNat<=W.length/\fX k (wd W a.toNat)=true/\isLen k (wd W a.toNat) (wd W (a.toNat+1))=true):∀(d i f t:Nat)(Z:List Int),i+d=o.length->d<f->ns.drop i=news W t (o.drop i)->dc W t (o.drop i)<=W.length->Z.length=W.length ->
 ∃b,Cj F f roots (i:Int) o e1 e2 e3 e4 e5 e6 e7 ns u1 u2 u3 u4 u5 u6 Z W y ol yt ot nt nx k.aY k.aW k.Fields k.Names k.aX=some ((roots,(),(),(),()),(o,()),(e1,e2,e3,e4,e5,e6,e7,()),((),()),ns,((),()),((),u1,u2,u3,u4,u5,u6,()),b,(W,y,ol,yt,ot,nt,nx,()),(k.aY,k.aW,k.Fields,k.Names,k.aX,()),())/\
  b.length=W.length/\laid k W o ns b t (o.drop i)/\ ∀p,p<t\/dc W t (o.drop i)<=p->wd b p=wd Z p:=by
 intro d
 induction d with
 |zero=>
  intro i f t Z h ad c e j
  obtain⟨f,rfl⟩:∃l,f=l+1:=⟨f-1,by omega⟩
  have:i=o.length:=by omega
  subst this
  refine⟨Z,?_,j,by rw[hV];trivial,λ p _=>rfl⟩
  rw[Cj,bG,cond_false]
 |succ d C=>
  intro i f t Z h ad c e j
  obtain⟨f,rfl⟩:∃l,f=l+1:=⟨f-1,by omega⟩
  have hi:i<o.length:=by omega
  have D:o[i]? =some o[i]:=aH hi
  have r:i<ns.length:=by omega
  have E:ns[i]? =some ns[i]:=aH r
  rw[cw hi,cw r,news]at c
  rw[cw hi,dc]at e
  have G:ns[i]=(t:Int):=(ei c).1
  have C4:=(ei c).2
  obtain⟨R,H,a3,a4⟩:=B _ (hC hi)
  obtain⟨q,g⟩:∃q:Nat,o[i]=(q:Int):=⟨o[i].toNat,by omega⟩
  rw[g,cN]at H a3 a4
  obtain⟨n,s⟩:∃n,n=3+(wd W (q+1)).toNat:=⟨_,rfl⟩
  have wR:sz W o[i]=n:=by rw[g];unfold sz;rw[cN,s]
  rw[wR]at C4 e
  have I:=ZW (W:=W) (o:=o.drop (i+1)) (t:=t+n)
  have J:i<=100000:=by omega
  obtain⟨K,L,M,u⟩:=put_eq (y:=y) (ol:=ol) (yt:=yt) (ot:=ot) (nx:=nx) (nt:=nt) (u1:=u1) (u2:=u2) (u3:=u3) (u4:=u4) (u5:=u5) (u6:=u6) (t:=t) w x ap z s (by omega) A a3 a4 (Z:=Z) (by omega) (by omega)
  obtain⟨b,N,O,P,v⟩:=C (i+1) f (t+n) K (by omega) (by omega) C4 e (by rw[M,j])
  refine⟨b,?_,O,?_,λ p Q=>?_⟩
  ·rw[Cj,bH hi,cond_true,bq D,ae,bq E,ae,g,G,L,ae]
   dsimp only
   rw[jq J]
   exact N
  ·rw[cw hi,laid,wR]
   refine⟨λ m S=>?_,P⟩
   rw[v _ (by omega),u,if_pos (by omega),g,cN,show t+m-t=m by omega]
  ·rw[cw hi,dc,wR]at Q
   rw[v p (by omega),u,if_neg (by omega)]
theorem aF_(c:10000<F)(ap:o.length<=5000)(e:ns.length=o.length)(p:roots.length<=5000):∀(d i f:Nat)(l Z:List Int),i+d=roots.length->d<f->l.length=i ->
 Ck F f roots (i:Int) e1 e2 e3 e4 e5 e6 e7 o ns u1 u2 u3 u4 u5 u6 Z l=some (((),(),(),()),(e1,e2,e3,e4,e5,e6,e7,()),((),()),(o,()),((),()),ns,((),u1,u2,u3,u4,u5,u6,()),Z,l++(roots.drop i).map (gl o ns),()):=by
 intro d
 induction d with
 |zero=>
  intro i f l Z h ad b
  obtain⟨f,rfl⟩:∃a,f=a+1:=⟨f-1,by omega⟩
  have:i=roots.length:=by omega
  subst this
  rw[Ck,bG,cond_false,hV,hK,gL]
 |succ d g=>
  intro i f l Z h ad b
  obtain⟨f,rfl⟩:∃a,f=a+1:=⟨f-1,by omega⟩
  have hi:i<roots.length:=by omega
  have j:roots[i]? =some roots[i]:=aH hi
  have m:i<=100000:=by omega
  have n:bD 8 l [gl o ns roots[i]]=some (l++[gl o ns roots[i]]):=by
   unfold bD;rw[if_pos (by simp only[je];omega)]
  rw[Ck,bH hi,cond_true,bq j,ae,akL ap c e,ae]
  dsimp only
  rw[n,ae,jq m]
  refine(g (i+1) f (l++[gl o ns roots[i]]) Z (by omega) (by omega) (by simp[b])).trans ?_
  rw[cw hi,eu,gT,j1]
end
end Go.Proofs.YteeliipnilghaaaGreat
namespace Go.Proofs.YteeliipnilghaaaGreat
open I
theorem ah4:∀ {o ns:List Int}{v:Int},ns.length=o.length->cF (o.zip ns) v=(match pos o v with|some j=>ns[j]? |none=>none)
 |[],ns,v,_=>rfl
 |b::r,[],v,h=>by simp at h
 |b::r,n::ns,v,h=>by
  rw[List.zip_cons_cons,cF,pos];by_cases e:b=v
  ·rw[if_pos e,if_pos e]
   rfl
  ·rw[if_neg e,if_neg e,ah4 (by simpa using h)]
   cases pos r v<;>rfl
def base(W:List Int):Nat->List Int->Nat->Int
 |_,[],_=>0
 |t,a::r,p=>if t<=p/\p<t+sz W a then wd W (a.toNat+(p-t))else base W (t+sz W a) r p
end Go.Proofs.YteeliipnilghaaaGreat
namespace Go.Proofs.YteeliipnilghaaaGreat
open I
def ic(n:Nat):List Int:=(dy n).map λ(x:Nat)=>(x:Int)
theorem ZZ{n:Nat}:(ic n).length=n:=by simp[ic]
theorem akX{n i:Nat}(h:i<n):(ic n)[i]? =some (i:Int):=by
 unfold ic;rw[iT,kW h];rfl
theorem aDt{n:Nat}(g:n<=5000):∀(d i f:Nat),i+d=n->d<f->I.s3 (n:Int) f (ic i) (i:Int)=some (ic n):=by
 intro d;induction d with
 |zero=>
  intro i f h ad
  obtain⟨f,rfl⟩:∃a,f=a+1:=⟨f-1,by omega⟩
  have:i=n:=by omega
  subst this
  rw[I.s3,bG,cond_false]
 |succ d b=>
  intro i f h ad
  obtain⟨f,rfl⟩:∃a,f=a+1:=⟨f-1,by omega⟩
  have hi:i<n:=by omega
  have c:i<=100000:=by omega
  have e:bD 8 (ic i) [(i:Int)]=some (ic (i+1)):=by
   unfold bD;rw[if_pos (by rw[ZZ];simp only[je];omega)];unfold ic;rw[List.range_succ,jz];rfl
  rw[I.s3,bH hi,cond_true,e,ae,jq c]
  exact b (i+1) f (by omega) (by omega)
theorem aDs{F n:Nat}(a:n<=5000)(b:10000<F):I.s0 F (n:Int)=some (ic n):=aDt a n 0 F (by omega) (by omega)
end Go.Proofs.YteeliipnilghaaaGreat
namespace Go.Proofs.YteeliipnilghaaaGreat
open I
theorem aHM{l m:List Int}(b:l.length=m.length)(h:∀p,p<l.length->wd l p=wd m p):l=m:=by
 refine List.ext_getElem b λ i a J=>?_;have:=h i a;rwa [pz (aH a),pz (aH J)]at this
theorem akK{W:List Int}:∀ {o:List Int}{t p:Nat},t<=p->p<dc W t o-> ∃j,∃aA:j<o.length,∃i,i<sz W o[j]/\p=dc W t (o.take j)+i
 |[],t,p,b,J=>by rw[dc]at J;omega
 |a::r,t,p,b,J=>by
  by_cases hc:p<t+sz W a
  ·exact⟨0,by simp,p-t,by simpa using(by omega:p-t<sz W a),by simp[dc];omega⟩
  ·obtain⟨j,aA,i,c,d⟩:=akK (o:=r) (t:=t+sz W a) (p:=p) (by omega) J
   exact⟨j+1,by simpa using aA,i,by simpa using c,by simpa[dc]using d⟩
theorem ahF{k:aP}{W o ns Z:List Int}:∀ {l:List Int}{t j m:Nat}(aA:j<l.length),laid k W o ns Z t l->m<sz W l[j]->wd Z (dc W t (l.take j)+m)=val k W o ns l[j].toNat m
 |[],t,j,m,aA,_,_=>by simp at aA
 |a::r,t,0,m,aA,b,c=>b.1 m c
 |a::r,t,j+1,m,aA,b,c=>by
  have d:j<r.length:=by simpa using aA
  exact ahF (l:=r) d b.2 c
end Go.Proofs.YteeliipnilghaaaGreat
namespace Go.Proofs.YteeliipnilghaaaGreat
open I
structure rj (h:aR) (k:aP) (L:List Int) (x:aR):Prop where
 og:L.Nodup
 cl:∀a∈L,∀v∈hB k h.Words a,v=0\/v∈L
 len:x.Words.length=h.Words.length
 y:x.av=h.av
 o:x.aL=h.aL
 yt:x.aU=1
 ot:x.aT=((dc h.Words (h.av+1).toNat L:Nat):Int)
 nt:x.aS=[]
 nx:x.Next=h.Next
 room:dc h.Words (h.av+1).toNat L<=h.Words.length
 QE:∀j (aA:j<L.length),∀i,i<sz h.Words L[j]->wd x.Words (dc h.Words (h.av+1).toNat (L.take j)+i)=val k h.Words L (news h.Words (h.av+1).toNat L) L[j].toNat i
 fr:∀p,p<h.Words.length->(p<(h.av+1).toNat\/dc h.Words (h.av+1).toNat L<=p)->wd x.Words p=0
theorem pos_at:∀ {L:List Int}{j:Nat}(aA:j<L.length),L.Nodup->pos L L[j]=some j
 |[],j,aA,_=>by simp at aA
 |a::r,0,_,_=>by show pos (a::r) a=some 0;rw[pos,if_pos rfl]
 |a::r,j+1,aA,d=>by
  have b:j<r.length:=by simpa using aA
  have c:=iO.1 d;show pos (a::r) r[j]=some (j+1)
  rw[pos,if_neg (λ e=>c.1 (by rw[e];exact hC b)),pos_at b c.2];rfl
section
variable{F:Nat}{h x:aR}{k:aP}{Y O L:List Int}
abbrev tn(h:aR)(L:List Int)(v:Int):Int:=gl L (news h.Words (h.av+1).toNat L) v
theorem aHp{W o ns:List Int}{q i:Nat}(hi:i<3):val k W o ns q i=wd W (q+i):=by
 unfold val;rw[if_neg (by omega)]
theorem rj.lo(c:rj h k L x){j:Nat}(aA:j<L.length){i:Nat}(hi:i<3):wd x.Words (dc h.Words (h.av+1).toNat (L.take j)+i)=wd h.Words (L[j].toNat+i):=by
 rw[c.QE j aA i (by unfold sz;omega),aHp hi]
theorem rj.hi(c:rj h k L x){j:Nat}(aA:j<L.length){i:Nat}(hi:i<(wd h.Words (L[j].toNat+1)).toNat):wd x.Words (dc h.Words (h.av+1).toNat (L.take j)+3+i)=if gA k (wd h.Words L[j].toNat) i=true then tn h L (wd h.Words (L[j].toNat+3+i))else wd h.Words (L[j].toNat+3+i):=by
 rw[show dc h.Words (h.av+1).toNat (L.take j)+3+i=dc h.Words (h.av+1).toNat (L.take j)+(3+i) by omega,c.QE j aA (3+i) (by unfold sz;omega)];unfold val;rw[show 3+i-3=i by omega,show L[j].toNat+(3+i)=L[j].toNat+3+i by omega];by_cases a:gA k (wd h.Words L[j].toNat) i=true
 ·rw[if_pos ⟨by omega,a⟩,if_pos a]
 ·rw[if_neg (λ e=>a e.2),if_neg a]
end
end Go.Proofs.YteeliipnilghaaaGreat
namespace Go.Proofs.YteeliipnilghaaaGreat
open I
section
variable{F:Nat}{k:aP}{y ol yt ot nx tp:Int}{W nt o ns pl rv:List Int}{M:List (Int×Int)}{c1:List ak}{c2:List Int}{c3:List (List I.Field)}{c4:List (List (List UInt8))}{c5:List (List I.Target)}
theorem Gx{x v:Int}:∀ {M:List (Int×Int)},x∉M.map ke->gC M x v=M++[(x,v)]
 |[],_=>rfl
 |p::r,h=>by
  simp only[eu,cm,not_or]at h;rw[gC,if_neg (λ e=>h.1 e.symm),Gx h.2];rfl
theorem av4(ap:o.length<=5000)(H:W.length<=5000)
 (s:∀a∈o,1<=a/\a.toNat+3+(wd W (a.toNat+1)).toNat<=W.length/\0<=wd W (a.toNat+1))(u:o.Nodup):∀(d i f t:Nat)(M:List (Int×Int)),i+d=o.length->d<f->t+5000*d<=100000000 ->(∀a∈o.drop i,a∉M.map ke) ->
 CD F f pl o (t:Int) o (o.length:Int) (i:Int) rv W y ol yt ot nt nx c1 c2 c3 c4 c5 M=some ((pl,(),(),o,(),((dc W t (o.drop i):Nat):Int),()),rv,((),()),(W,y,ol,yt,ot,nt,nx,()),(c1,c2,c3,c4,c5,()),M++(o.drop i).zip (news W t (o.drop i)),()):=by
 intro d
 induction d with
 |zero=>
  intro i f t M h ad v g
  obtain⟨f,rfl⟩:∃j,f=j+1:=⟨f-1,by omega⟩
  have:i=o.length:=by omega
  subst this
  rw[CD,bG,cond_false,hV]
  simp[dc,news]
 |succ d w=>
  intro i f t M h ad v g
  obtain⟨f,rfl⟩:∃j,f=j+1:=⟨f-1,by omega⟩
  have hi:i<o.length:=by omega
  have x:o[i]? =some o[i]:=aH hi
  obtain⟨J,z,a3⟩:=s _ (hC hi)
  have c:=cw hi
  have e:(o.drop i).Nodup:=u.sublist (List.drop_sublist i o)
  rw[c]at g e
  obtain⟨q,b⟩:∃q:Nat,o[i]=(q:Int):=⟨o[i].toNat,by omega⟩
  rw[b,cN]at z a3
  have A:q<=100000:=by omega
  have B:q+1<W.length:=by omega
  obtain⟨n,l⟩:∃n,n=3+(wd W (q+1)).toNat:=⟨_,rfl⟩
  have C:n<=100000:=by omega
  have D:i<=100000:=by omega
  have E:sz W o[i]=n:=by rw[b];unfold sz;rw[cN,l]
  have G:t+n+5000*d<=100000000:=by omega
  have m:I.ar ((t:Int)+(n:Int))=((t+n:Nat):Int):=by rw[cQ (by omega) (by omega)];omega
  have p:gC M o[i] (t:Int)=M++[(o[i],(t:Int))]:=Gx (g _ jX)
  rw[b]at p
  rw[CD,bH hi,cond_true,bq x,ae,b,jq A,fU B,ae,Ec a3 l C,m,jq D,p]
  clear m
  refine(w (i+1) f (t+n) (M++[((q:Int),(t:Int))]) (by omega) (by omega) G (λ a r=>?_)).trans ?_
  ·rw[jz,b3,not_or]
   refine⟨g a (ez _ r),λ hc=>?_⟩
   have hc:a=(q:Int):=by simpa using hc
   exact(iO.1 e).1 (by rw[b,<-hc];exact r)
  ·rw[c,news,dc,E,b,List.zip_cons_cons,gT,j1]
theorem av6(z:fS k){q t n:Nat}(A:∀v∈hB k W (q:Int),(cF M v).getD 0=gl o ns v)(e:(cF M (q:Int)).getD 0=(t:Int))(J:n=3+(wd W (q+1)).toNat)(K:q+n<=W.length)(L:W.length<=5000)(B:fX k (wd W q)=true)(s:isLen k (wd W q) (wd W (q+1))=true){od:List Int}{ln oi:Int} :
 ∀(d i f:Nat)(Z:List Int),i+d=n->d<f->Z.length<=5000 ->t+n<=Z.length ->
 ∃a,tE F f pl tp (q:Int) od ln oi (n:Int) (i:Int) rv W y ol yt ot nt nx k.aY k.aW k.Fields k.Names k.aX M Z=some ((pl,(),(),(),tp,(),od,ln,oi,()),rv,((),()),(W,y,ol,yt,ot,nt,nx,()),(k.aY,k.aW,k.Fields,k.Names,k.aX,()),M,a,())/\
  a.length=Z.length/\ ∀p,wd a p=if t+i<=p/\p<t+n then val k W o ns q (p-t)else wd Z p:=by
 intro d
 have N:=(l3.1 s).1
 have O:n<=100000:=by omega
 have P:q<=100000:=by omega
 induction d with
 |zero=>
  intro i f Z h ad u w
  obtain⟨f,rfl⟩:∃g,f=g+1:=⟨f-1,by omega⟩
  have:i=n:=by omega
  subst this
  rw[tE,bG,cond_false]
  refine⟨Z,rfl,rfl,λ p=>?_⟩
  rw[if_neg (by omega)]
 |succ d C=>
  intro i f Z h ad u w
  obtain⟨f,rfl⟩:∃g,f=g+1:=⟨f-1,by omega⟩
  have hi:i<n:=by omega
  have D:q+i<W.length:=by omega
  have E:q+i<=100000:=by omega
  have j:t+i<=100000:=by omega
  have c:i<=100000:=by omega
  have G:idx W (I.ar ((q:Int)+i))=some (wd W (q+i)):=by rw[xX E];exact fU D
  have l:idx Z ((t+i:Nat):Int)=some (wd Z (t+i)):=fU (by omega)
  have step:∀v:Int,v=val k W o ns q i-> ∃a,tE F f pl tp (q:Int) od ln oi (n:Int) ((i+1 :Nat):Int) rv W y ol yt ot nt nx k.aY k.aW k.Fields k.Names k.aX M (Z.set (t+i) v)=some ((pl,(),(),(),tp,(),od,ln,oi,()),rv,((),()),(W,y,ol,yt,ot,nt,nx,()),(k.aY,k.aW,k.Fields,k.Names,k.aX,()),M,a,())/\
   a.length=Z.length/\ ∀p,wd a p=if t+i<=p/\p<t+n then val k W o ns q (p-t)else wd Z p:=λ v m=>by
   obtain⟨a,e1,e2,e3⟩:=C (i+1) f (Z.set (t+i) v) (by omega) (by omega) (by rw[iP];exact u) (by rw[iP];exact w)
   refine⟨a,e1,by rw[e2,iP],λ p=>?_⟩
   rw[e3 p]
   by_cases x:p=t+i
   ·subst x
    rw[if_neg (by omega),if_pos (by omega),Lf (by omega),if_pos rfl,m,show t+i-t=i by omega]
   ·by_cases b:t+(i+1)<=p/\p<t+n
    ·rw[if_pos b,if_pos (by omega)]
    ·rw[if_neg b,if_neg (by omega),Lf (by omega),if_neg x]
  rw[tE,bH hi,cond_true,G,ae]
  by_cases r:3<=i
  ·rw[decide_eq_true (show(3 :Int)<=(i:Int) by omega),cond_true,fU (show q<W.length by omega),ae]
   have H:rY (b4.mk (aP.mk k.aY k.aW k.Fields k.Names k.aX)) (wd W q) (I.ar ((i:Int)-3))=some (gA k (wd W q) (i-3)):=by
    rw[ak7 c r];exact ZD z B s (by omega)
   rw[H,ae]
   cases b:gA k (wd W q) (i-3)with
   |true=>
    have m:wd W (q+i)∈hB k W (q:Int):=jv.2 ⟨((q+i:Nat):Int),by
     rw[cN];exact J9.2 ⟨i-3,by omega,b,by omega⟩,by rw[cN]⟩
    rw[cond_true,e,xX j,l,ae,jq c,cN]
    exact step _ (by rw[A _ m];unfold val;rw[if_pos ⟨r,b⟩])
   |false=>
    rw[cond_false,e,xX j,l,ae,jq c,cN]
    exact step _ (by unfold val;rw[if_neg (λ h=>by rw[b]at h;cases h.2)])
  ·rw[decide_eq_false (show¬(3 :Int)<=(i:Int) by omega),cond_false,e,xX j,l,ae,jq c,cN]
   exact step _ (by unfold val;rw[if_neg (λ h=>r h.1)])
theorem av5(ay:10000<F)(E:fS k)(ap:o.length<=5000)(iG:ns.length=o.length)(G:W.length<=5000)(H:∀a∈o,∀v∈hB k W a,(cF M v).getD 0=gl o ns v)(J:∀(j:Nat)(a:Int),o[j]? =some a->some ((cF M a).getD 0)=ns[j]?)
 (K:∀a∈o,1<=a/\a.toNat+3+(wd W (a.toNat+1)).toNat<=W.length/\fX k (wd W a.toNat)=true/\isLen k (wd W a.toNat) (wd W (a.toNat+1))=true):∀(d i f t:Nat)(Z:List Int),i+d=o.length->d<f->ns.drop i=news W t (o.drop i)->dc W t (o.drop i)<=W.length->Z.length=W.length ->
 ∃b,CE F f pl tp o (o.length:Int) (i:Int) rv W y ol yt ot nt nx k.aY k.aW k.Fields k.Names k.aX M Z=some ((pl,(),(),tp,(),()),rv,((),()),(W,y,ol,yt,ot,nt,nx,()),(k.aY,k.aW,k.Fields,k.Names,k.aX,()),M,b,())/\
  b.length=W.length/\laid k W o ns b t (o.drop i)/\ ∀p,p<t\/dc W t (o.drop i)<=p->wd b p=wd Z p:=by
 intro d
 induction d with
 |zero=>
  intro i f t Z h ad l r s
  obtain⟨f,rfl⟩:∃u,f=u+1:=⟨f-1,by omega⟩
  have:i=o.length:=by omega
  subst this
  refine⟨Z,?_,s,by rw[hV];trivial,λ p _=>rfl⟩
  rw[CE,bG,cond_false]
 |succ d L=>
  intro i f t Z h ad l r s
  obtain⟨f,rfl⟩:∃u,f=u+1:=⟨f-1,by omega⟩
  have hi:i<o.length:=by omega
  have z:o[i]? =some o[i]:=aH hi
  have A:i<ns.length:=by omega
  have N:ns[i]? =some ns[i]:=aH A
  rw[cw hi,cw A,news]at l
  rw[cw hi,dc]at r
  have O:ns[i]=(t:Int):=(ei l).1
  have C4:=(ei l).2
  have B:=hC hi
  obtain⟨b_,P,a3,a4⟩:=K _ B
  have c:=H _ B
  have e:=J i _ z
  rw[N,O]at e
  have e:=dT e
  obtain⟨q,g⟩:∃q:Nat,o[i]=(q:Int):=⟨o[i].toNat,by omega⟩
  rw[g,cN]at P a3 a4
  rw[g]at c e
  obtain⟨n,w⟩:∃n,n=3+(wd W (q+1)).toNat:=⟨_,rfl⟩
  have wR:sz W o[i]=n:=by rw[g];unfold sz;rw[cN,w]
  rw[wR]at C4 r
  have Q:=ZW (W:=W) (o:=o.drop (i+1)) (t:=t+n)
  have R:i<=100000:=by omega
  have S:q<=100000:=by omega
  have T:q+1<W.length:=by omega
  have U:n<=100000:=by omega
  have V:=(l3.1 a4).1.1
  obtain⟨X,Y,dX,C⟩:=av6 (F:=F) (pl:=pl) (tp:=tp) (rv:=rv) (y:=y) (ol:=ol) (yt:=yt) (ot:=ot) (nx:=nx) (nt:=nt) (od:=o) (ln:=(o.length:Int)) (oi:=(i:Int)) E c e w (by omega) G a3 a4 n 0 F Z (by omega) (by omega) (by omega) (by omega)
  have x:tE F F pl tp (q:Int) o (o.length:Int) (i:Int) (n:Int) 0 rv W y ol yt ot nt nx k.aY k.aW k.Fields k.Names k.aX M Z=_:=Y
  obtain⟨b,i1,i2,i3,D⟩:=L (i+1) f (t+n) X (by omega) (by omega) C4 r (by rw[dX,s])
  refine⟨b,?_,i2,?_,λ p aE=>?_⟩
  ·rw[CE,bH hi,cond_true,bq z,ae,g,jq S,fU T,ae,Ec V w U,x,ae]
   dsimp only
   rw[jq R]
   exact i1
  ·rw[cw hi,laid,wR]
   refine⟨λ m hm=>?_,i3⟩
   rw[D _ (by omega),C,if_pos (by omega),g,cN,show t+m-t=m by omega]
  ·rw[cw hi,dc,wR]at aE
   rw[D p (by omega),C,if_neg (by omega)]
theorem av7{Z:List Int}{roots:List Int}(n:roots.length<=5000)(g:∀v∈roots,(cF M v).getD 0=gl o ns v):∀(d i f:Nat)(rs:List Int),i+d=roots.length->d<f->rs=(roots.take i).map (gl o ns)++roots.drop i ->
 CF F f tp Z (ic roots.length) (roots.length:Int) (i:Int) W y ol yt ot nt nx M rs=some (((),tp,Z,()),((),()),(W,y,ol,yt,ot,nt,nx,()),M,roots.map (gl o ns),()):=by
 intro d
 induction d with
 |zero=>
  intro i f rs h ad b
  obtain⟨f,rfl⟩:∃c,f=c+1:=⟨f-1,by omega⟩
  have:i=roots.length:=by omega
  subst this
  rw[CF,bG,cond_false,b,hV,jP,gL]
 |succ d j=>
  intro i f rs h ad b
  obtain⟨f,rfl⟩:∃c,f=c+1:=⟨f-1,by omega⟩
  have a:i<roots.length:=by omega
  have l:i<=100000:=by omega
  have e:((roots.take i).map (gl o ns)).length=i:=by simp;omega
  have m:rs[i]? =some roots[i]:=by
   rw[b,fs (by omega),e,Nat.sub_self,cw a];rfl
  rw[CF,bH a,cond_true,bq (akX a),ae,bq m,ae,jq l,cN,g _ (hC a)]
  refine j (i+1) f _ (by omega) (by omega) ?_
  rw[b,List.set_append_right _ _ (by omega),e,Nat.sub_self,cw a,List.set_cons_zero,List.take_succ_eq_append_getElem a,jz,gT]
  rfl
end
end Go.Proofs.YteeliipnilghaaaGreat
namespace Go.Proofs.YteeliipnilghaaaGreat
open I a8
theorem QD{k:aP}{W:List Int}{to q:Nat}{L:List Int}(h:I.fk k W to q L):(∀a∈L,(q:Int)<=a)/\L.Pairwise (·< ·):=by
 induction h with
 |nil=>exact⟨λ a ax=>by simp at ax,List.Pairwise.nil⟩
 | @cons q r c J d e b=>
   refine⟨λ a ax=>?_,List.Pairwise.cons (λ a ax=>?_) b.2⟩
   ·rcases cm.1 ax with rfl |ax
    ·exact kj _
    ·have:=b.1 a ax;omega
   ·have:=b.1 a ax;omega
def wZ(Y O A:List Int):List Int:=O.filter (λ a=>decide (a∈A))++Y.filter (λ a=>decide (a∈A))
section
variable{F:Nat}{h:aR}{k:aP}{Y O A roots:List Int}
theorem JN(b:∀a∈A,a∈Y++O){a:Int}:a∈wZ Y O A↔a∈A:=by
 unfold wZ;rw[b3,iA,iA,decide_eq_true_eq];constructor
 ·rintro(h |h)<;>exact h.2
 ·intro h
  rcases b3.1 (b a h)with e |e
  ·exact .inr ⟨e,h⟩
  ·exact .inl ⟨e,h⟩
theorem abW(g:I.Good F h k Y O):(∀a∈Y,a<=h.av)/\ ∀a∈O,h.av+1<=a/\a<=h.av+h.aL:=by
 obtain⟨⟨⟨bO,d⟩,gd,e⟩,f,⟨i,j⟩,⟨rB,l⟩,m⟩:=id g.s;refine⟨λ a b=>?_,λ a b=>?_⟩
 ·have c:=g.l.HJ g.s a b
  omega
 ·have c:=g.l.qC g.s a b
  omega
theorem agN(g:I.Good F h k Y O)(d:∀a∈A,a∈Y++O):Ord (Y++O) (wZ Y O A):=by
 obtain⟨f,J⟩:=abW g;refine⟨?_,λ a c=>d a ((JN d).1 c)⟩;refine eK.2 ⟨((QD g.l.o).2.imp λ h=>by omega).filter _,((QD g.l.y).2.imp λ h=>by omega).filter _,λ a c b af e=>?_⟩;have i:=J a (iA.1 c).1;have j:=f b (iA.1 af).1;omega
theorem aGS(g:I.Good F h k Y O)(q:A.Nodup)(l:∀a∈A,a∈Y++O):kP h.av h.aL A=wZ Y O A:=by
 obtain⟨⟨⟨bO,u⟩,gd,v⟩,w,⟨x,y⟩,⟨rB,z⟩,B⟩:=id g.s;obtain⟨n,J⟩:=abW g;have f:∀a∈Y,1<=a:=λ a d=>(g.l.fit g.s a (j3 O d)).1;have r:∀a b c:Int,kM h.av h.aL a b=true->kM h.av h.aL b c=true->kM h.av h.aL a c=true:=λ a b c n J=>by
  simp only[kM,decide_eq_true_eq]at *;omega
 have s:∀a b:Int,(kM h.av h.aL a b||kM h.av h.aL b a)=true:=λ a b=>by
  simp only[kM,hM,decide_eq_true_eq];omega
 have o:∀a∈Y,eS h.av h.aL a=a+h.av+h.aL:=λ a d=>by
  unfold eS;rw[if_neg (by have:=n a d;omega)]
 have fG:∀a∈O,eS h.av h.aL a=a:=λ a d=>by
  unfold eS;rw[if_pos (by have:=J a d;omega)]
 have p:∀a∈Y++O,1<=a/\a<=h.av+h.aL:=λ a d=>by
  rcases b3.1 d with e |e
  ·have:=n a e;have:=f a e;omega
  ·have:=J a e;omega
 unfold kP;refine List.Perm.eq_of_pairwise (le:=λ a b=>kM h.av h.aL a b=true) (λ a b d af i j=>?_) (lp r s A) ?_ ((kd A _).trans ((kf q (agN g l).og).2 λ a=>(JN l).symm))
 ·have d:=p a (l a ((kd A _).mem_iff.1 d))
  have af:=p b (l b ((JN l).1 af))
  have i:eS h.av h.aL a<=eS h.av h.aL b:=of_decide_eq_true i
  have j:eS h.av h.aL b<=eS h.av h.aL a:=of_decide_eq_true j
  unfold eS at i j
  by_cases f:h.av<a<;>by_cases m:h.av<b
  ·rw[if_pos f,if_pos m]at i j;omega
  ·rw[if_pos f,if_neg m]at i;omega
  ·rw[if_neg f,if_pos m]at i j;omega
  ·rw[if_neg f,if_neg m]at i j;omega
 ·unfold wZ
  refine List.pairwise_append.2 ⟨lb (λ{a b} d af t=>?_) ((QD g.l.o).2.filter _),lb (λ{a b} d af t=>?_) ((QD g.l.y).2.filter _),λ a d b af=>?_⟩
  ·have d:=(iA.1 d).1
   have af:=(iA.1 af).1
   exact decide_eq_true (by rw[fG a d,fG b af];omega)
  ·have d:=(iA.1 d).1
   have af:=(iA.1 af).1
   exact decide_eq_true (by rw[o a d,o b af];omega)
  ·have d:=(iA.1 d).1
   have af:=(iA.1 af).1
   have:=J a d
   have:=f b af
   exact decide_eq_true (by rw[fG a d,o b af];omega)
theorem rj.uQ{x d:aR}{L:List Int}(c:rj h k L x)(a:rj h k L d):x.Words=d.Words:=by
 refine aHM (by rw[c.len,a.len]) λ p b=>?_;rw[c.len]at b;by_cases e:p<(h.av+1).toNat\/dc h.Words (h.av+1).toNat L<=p
 ·rw[c.fr p b e,a.fr p b e]
 ·obtain⟨j,aA,i,J,rfl⟩:=akK (W:=h.Words) (o:=L) (t:=(h.av+1).toNat) (p:=p) (by omega) (by omega)
  rw[c.QE j aA i J,a.QE j aA i J]
theorem adi{o Z:List Int}(ap:Ord (Y++O) o)(b:∀a∈o,∀v∈hB k h.Words a,v=0\/v∈o)(c:dc h.Words (h.av+1).toNat o<=h.Words.length)(d:Z.length=h.Words.length)
 (J:laid k h.Words o (news h.Words (h.av+1).toNat o) Z (h.av+1).toNat o)(e:∀p,(p<(h.av+1).toNat\/dc h.Words (h.av+1).toNat o<=p)->wd Z p=0) :
 rj h k o ⟨Z,h.av,h.aL,1,((dc h.Words (h.av+1).toNat o:Nat):Int),[],h.Next⟩:=
 ⟨ap.og,b,d,rfl,rfl,rfl,rfl,rfl,rfl,c,λ _ aA _ hi=>ahF aA J hi,λ p _ f=>e p f⟩
theorem alf{n p:Nat}:wd (eH n 0) p=0:=by
 unfold wd;rcases fN p n with C7 |C7
 ·simp[C7]
 ·rw[gz (by simpa using C7)];rfl
theorem aF0(d:10000<F)(g:I.Good F h k Y O){o:List Int}(ap:Ord (Y++O) o)(x:roots.length<=5000)(m:dc h.Words (h.av+1).toNat o<=h.Words.length) :
 ∃Z,Fb F h.Words h.av h.aL h.aU h.aT h.aS h.Next k.aY k.aW k.Fields k.Names k.aX o (I.ar (h.av+1)) roots=some (((Z,h.av,h.aL,1,((dc h.Words (h.av+1).toNat o:Nat):Int),[],h.Next,()),roots.map (gl o (news h.Words (h.av+1).toNat o)),()),())/\
  Z.length=h.Words.length/\laid k h.Words o (news h.Words (h.av+1).toNat o) Z (h.av+1).toNat o/\ ∀p,(p<(h.av+1).toNat\/dc h.Words (h.av+1).toNat o<=p)->wd Z p=0:=by
 have M:=Cx g
 have C5:=ap.len
 have z:=g.s.fq
 obtain⟨⟨⟨bO,N⟩,gd,P⟩,B,⟨Q,R⟩,⟨rB,S⟩,T⟩:=g.s
 unfold okB at B
 obtain⟨t,C⟩:∃t:Nat,(h.av+1).toNat=t:=⟨_,rfl⟩
 have e:I.ar (h.av+1)=(t:Int):=by rw[cQ (by omega) (by omega)];omega
 rw[C]at m⊢
 have f:(news h.Words t o).length=o.length:=Xy
 have c:∀a∈o,1<=a/\a.toNat+3+(wd h.Words (a.toNat+1)).toNat<=h.Words.length/\fX k (wd h.Words a.toNat)=true/\isLen k (wd h.Words a.toNat) (wd h.Words (a.toNat+1))=true:=λ a b=>by
  have n:a∈Y++O:=ap.sub a b;have q:=g.l.fit g.s a n;have J:=g.l.K' a n;exact⟨q.1,q.2.1,J.1,J.2⟩
 rw[e]
 unfold Fb
 have i:=aCt (F:=F) (y:=h.av) (ol:=h.aL) (yt:=h.aU) (ot:=h.aT) (nx:=h.Next) (W:=h.Words) (nt:=h.aS) (c1:=k.aY) (c2:=k.aW) (c3:=k.Fields) (c4:=k.Names) (c5:=k.aX) (o:=o) (from_:=(t:Int)) (roots:=roots) (e1:=[]) (e2:=0) (e3:=0) (e4:=0) (e5:=0) (e6:=[]) (e7:=0) (by omega) (by omega) (λ a b=>⟨(c a b).1,(c a b).2.1,(l3.1 (c a b).2.2.2).1.1⟩) o.length 0 F t [] (by omega) (by omega) rfl (by omega)
 rw[fK,jy]at i
 have Fz:Ci F F (t:Int) roots (t:Int) 0 h.Words h.av h.aL h.aU h.aT h.aS h.Next k.aY k.aW k.Fields k.Names k.aX o [] 0 0 0 0 [] 0 []=_:=i
 rw[Fz,ae]
 dsimp only
 have r:ui (0 :Int) 8 ((h4 h.Words:Nat):Int)=some (eH h.Words.length 0):=by
  unfold ui;rw[if_pos (by omega),cN]
 rw[r,ae,e]
 clear e i Fz r
 obtain⟨s,D,E,U,G⟩:=aC7 (W:=h.Words) (y:=h.av) (ol:=h.aL) (yt:=h.aU) (ot:=h.aT) (nx:=h.Next) (nt:=h.aS) (u1:=h.av) (u2:=h.aL) (u3:=1) (u4:=((dc h.Words t o:Nat):Int)) (u5:=[]) (u6:=h.Next) (e1:=[]) (e2:=0) (e3:=0) (e4:=0) (e5:=0) (e6:=[]) (e7:=0) (roots:=roots) d g.pv (by omega) f (by omega) (to:=t) (by omega) I.fk.nil F (eH h.Words.length 0) (by omega) (by simp)
 rw[D,ae]
 dsimp only
 obtain⟨j,H,K,u,v⟩:=aCr (y:=h.av) (ol:=h.aL) (yt:=h.aU) (ot:=h.aT) (nx:=h.Next) (nt:=h.aS) (u1:=h.av) (u2:=h.aL) (u3:=1) (u4:=((dc h.Words t o:Nat):Int)) (u5:=[]) (u6:=h.Next) (e1:=[]) (e2:=0) (e3:=0) (e4:=0) (e5:=0) (e6:=[]) (e7:=0) (roots:=roots) d g.pv (by omega) f (by omega) c o.length 0 F t s (by omega) (by omega) (by rw[fK,fK]) (by rw[fK];exact m) E
 rw[fK]at u v
 have L:Cj F F roots 0 o [] 0 0 0 0 [] 0 (news h.Words t o) h.av h.aL 1 ((dc h.Words t o:Nat):Int) [] h.Next s h.Words h.av h.aL h.aU h.aT h.aS h.Next k.aY k.aW k.Fields k.Names k.aX=_:=H
 rw[L,ae]
 dsimp only
 have w:=aF_ (e1:=[]) (e2:=0) (e3:=0) (e4:=0) (e5:=0) (e6:=[]) (e7:=0) (u1:=h.av) (u2:=h.aL) (u3:=1) (u4:=((dc h.Words t o:Nat):Int)) (u5:=[]) (u6:=h.Next) d (o:=o) (ns:=news h.Words t o) (by omega) f x roots.length 0 F [] j (by omega) (by omega) rfl
 rw[fK,jy]at w
 have l:Ck F F roots 0 [] 0 0 0 0 [] 0 o (news h.Words t o) h.av h.aL 1 ((dc h.Words t o:Nat):Int) [] h.Next j []=_:=w
 rw[l,ae]
 refine⟨j,rfl,K,u,λ p V=>?_⟩
 rw[v p (by omega),G p (by omega)]
 exact alf
theorem akz{W:List Int}:∀ {l:List Int}{n:Nat},(∀a∈l,1<=a/\a.toNat+3+(wd W (a.toNat+1)).toNat<=W.length/\0<=wd W (a.toNat+1))->W.length<=5000 ->n+10000*l.length<=1000000000 ->iM W l (n:Int)=some ((n+gk W [] l:Nat):Int)
 |[],n,_,_,_=>rfl
 |a::r,n,h,e,f=>by
  obtain⟨o,g,a3⟩:=h a (by simp);obtain⟨q,rfl⟩:∃q:Nat,a=(q:Int):=⟨a.toNat,by omega⟩
  rw[cN]at g a3;rw[cV]at f;obtain⟨m,d⟩:∃m,m=3+(wd W (q+1)).toNat:=⟨_,rfl⟩
  have i:q<=100000:=by omega
  have c:m<=100000:=by omega
  have j:I.ar ((n:Int)+(m:Int))=((n+m:Nat):Int):=by rw[cQ (by omega) (by omega)];omega
  rw[iM,jq i,fU (by omega),ae,Ec a3 d c,j,akz (l:=r) (λ b af=>h b (by simp[af])) e (by omega)];rw[gk,if_neg (by simp),sz,cN,<-d,jK]
end
end Go.Proofs.YteeliipnilghaaaGreat
namespace Go.Proofs.YteeliipnilghaaaGreat
open I
section
variable{F:Nat}{k:aP}{h:aR}{Y O:List Int}
theorem aDi(g:I.Good F h k Y O):nY h=some h:=by
 have a:=g.aiv;have J:=g.s.fq;unfold nY Qb;rw[h3 (by simp;omega),ae,h3 (by simp;omega)];rfl
end
end Go.Proofs.YteeliipnilghaaaGreat
