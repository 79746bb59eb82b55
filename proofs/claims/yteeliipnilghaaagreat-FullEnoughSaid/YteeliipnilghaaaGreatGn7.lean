/- Part 7 of the proof that is ended in the last text: small logic, what the functions compute, walks, plain laws. -/
import Derived.Test.YteeliipnilghaaaGreatGn6
import Derived.KernelRfl
open Bool renaming and_eq_false_iff->mG,and_eq_true->cd,and_false->mT,eq_false_iff->gQ,eq_iff_iff->iy,false_eq_true->hM,false_ne_true->kW,false_or->iu,not_eq_true'->hh,not_false->ib,not_true->dS,or_eq_false_iff->ik,or_eq_true->h3,true_and->j7
open Classical renaming byContradiction->lm
open Int renaming toNat_natCast->bV
open List renaming any_eq_false->iY,any_eq_true->il,append_assoc->fA,append_nil->hv,cons_append->ih,drop_eq_getElem_cons->de,drop_length->hW,drop_zero->hf,eq_nil_of_length_eq_zero->hD,exists_of_findSome?_eq_some->eE,ext_getElem?->kX,findSome?_cons->iU,findSome?_eq_none_iff->gS,flatMap_cons->h7,flatten_cons->mq,foldl_cons->jn,getElem?_append_left->er,getElem?_append_right->eS,getElem?_drop->iF,getElem?_eq_getElem->aN,getElem?_eq_none->gH,getElem?_eq_some_iff->aR,getElem?_map->jv,getElem?_range->lZ,getElem?_take->hx,getElem_map->kA,getElem_mem->hj,getElem_of_mem->ie,length_append->dM,length_cons->di,length_drop->j6,length_erase_of_mem->mb,length_map->hd,length_nil->gR,length_range->iC,length_reverse->lE,length_set->hg,length_singleton->j4,length_take->gl,map_append->jM,map_congr_left->j1,map_cons->ez,map_map->me,map_singleton->lJ,mem_append->cf,mem_append_left->e8,mem_append_right->fe,mem_cons->cH,mem_cons_of_mem->d_,mem_cons_self->hZ,mem_erase_of_ne->mS,mem_flatMap->hN,mem_iff_getElem->iZ,mem_iff_getElem?->mH,mem_map->hQ,mem_of_getElem?->bH,mem_of_mem_drop->lW,mem_range->kF,mem_singleton->dV,nil_append->jI,nodup_append->fx,nodup_cons->h4,nodup_nil->mg,pairwise_iff_getElem->i_,perm_ext_iff_of_nodup->ke,range->ef,singleton_append->k9,sum_cons->mr,take->mB,take_add_one->lg,take_length->jy,take_of_length_le->hS,take_succ_eq_append_getElem->kC
open Nat renaming beq->cj,eq_of_beq_eq_true->bd,eq_zero_or_pos->lI,le_mul_of_pos_right->mm,le_refl->cP,le_trans->hl,lt_or_ge->gI,sub_self->l4,zero_add->jO,zero_le->gY
open Option renaming bind->ej,bind_some->ae,getD_none->jN,isSome_none->l7,map_eq_some_iff->cA,map_none->je,map_some->fY,some.inj->eD,some.injEq->aF
open Prod renaming fst->k1,mk.injEq->cB
noncomputable section
namespace I
theorem P4{cS β:Type} [DecidableEq cS]{k:cS}{v:β}:∀m:List (cS×β),(gy m k v).length=if(cE m k).isSome then m.length else m.length+1
 |[]=>rfl
 |p::r=>by simp only[gy,cE];by_cases h:p.1=k;simp[h];simp only[nc h,di,P4 r];split<;>rfl
theorem Lh{cS β:Type} [DecidableEq cS]{k s:cS}{v:β}:∀m:List (cS×β),(cE (gy m k v) s).isSome=true↔s=k\/(cE m s).isSome=true
 |[]=>by simp only[gy,cE];by_cases h:k=s;simp[h];simp[h];exact λ e=>h e.symm
 |p::r=>by have a:=Lh (k:=k) (s:=s) (v:=v) r;simp only[gy];by_cases h:p.1=k;rw[nf h];simp only[cE];by_cases e:k=s;simp[e];have ao: ¬p.1=s:=λ x=>e (h.symm.trans x);rw[nc e,nc ao];constructor;exact λ x=>.inr x;rintro(x |x);exact absurd x.symm e;exact x;rw[nc h];simp only[cE];by_cases e:p.1=s;simp[e];rw[nc e,nc e];exact a
def wZ(ns:List (List UInt8)):Option Int:=if ns.Nodup then none else some 6
section
variable{F:Nat}{l:List aq}
theorem ana(r:1100<F){ns:List (List UInt8)}(t:ns.length<=1000):Hs F ns=some (decide (¬ns.Nodup)):=by
 have key:∀(d i k:Nat)(m:List (List UInt8×Bool)),i+d=ns.length->d<k->(∀s,(cE m s).isSome=true↔s∈ns.take i)->m.length<=i->(m.length=i↔(ns.take i).Nodup) ->
  ∃g,AU ns k m (i:Int)=some g/\g.length<=ns.length/\(g.length=ns.length↔ns.Nodup):=by
  intro d
  induction d with
  |zero=>
   intro i k m hi p f J c;obtain⟨k,rfl⟩:∃k',k=k'+1:=⟨k-1,by omega⟩
   have:i=ns.length:=by omega
   subst this;rw[jy]at c;exact⟨m,by rw[AU,bL];rfl,J,c⟩
  |succ d q=>
   intro i k m hi p f J c;obtain⟨k,rfl⟩:∃k',k=k'+1:=⟨k-1,by omega⟩
   have j:i<ns.length:=by omega
   have o:ns.take (i+1)=ns.take i++[ns[i]]:=by rw[lg,aN j];rfl
   rw[AU,bM j,ng,bu (aN j),ae,eO j (by omega)];refine q (i+1) k _ (by omega) (by omega) (λ s=>?_) ?_ ?_;rw[Lh,f,o,cf,dV];constructor;rintro(h |h);exact .inr h;exact .inl h;rintro(h |h);exact .inr h;exact .inl h;rw[P4];split<;>omega;rw[P4,o,fx];by_cases n:(cE m ns[i]).isSome=true;rw[nf n];have:=(f ns[i]).1 n;constructor;intro h;omega;rintro⟨_,_,h⟩;exact absurd rfl (h _ this _ (by simp));rw[nc n];have:ns[i]∉ns.take i:=λ h=>n ((f ns[i]).2 h);constructor;intro h;exact⟨c.1 (by omega),by simp,λ a ap b ag e=>by rw[dV]at ag;subst ag;exact this (e▸ap)⟩;rintro⟨h,_,_⟩;have:=c.2 h;omega
 obtain⟨g,f,J,c⟩:=key ns.length 0 F [] (by omega) (by omega) (λ s=>by simp[cE]) (by simp) (by simp);unfold Hs;rw[show(0 :Int)=((0 :Nat):Int) from rfl,f,ae];congr 1;by_cases aJ:ns.Nodup;have:=c.2 aJ;rw[mV (by omega),mV (by simp[aJ])];have:g.length≠ns.length:=λ e=>aJ (c.1 e);rw[mU (by omega),mU aJ]
def Ur{α:Type}(nm:α->List UInt8)(r:List α):Option Int:=(ef r.length).findSome? λ k=>(ef k).findSome? λ j=>if(r[j]?).map nm=(r[k]?).map nm then some 6 else none
theorem afr{α:Type}(nm:α->List UInt8)(r:List α):Ur nm r=wZ (r.map nm):=by have c:Ur nm r=none\/Ur nm r=some 6:=uX (λ k=>uX (λ j=>by split<;>simp) _) _;unfold wZ;by_cases aJ:(r.map nm).Nodup;rw[nf aJ];rcases c with h |h;exact h;exfalso;obtain⟨k,a,b⟩:=eE h;obtain⟨j,aA,J⟩:=eE b;simp only[kF]at a aA;split at J;rename_i e;have:=i_.1 aJ j k (by simp;omega) (by simpa using a) aA;apply this;rw[aN (by omega),aN a]at e;simpa using e;cases J;rw[nc aJ];rcases c with h |h;exfalso;apply aJ;refine i_.2 λ j k aA a d e=>?_;have b:=gS.1 h k (by simpa using a);have J:=gS.1 b j (by simpa using d);simp only[hd]at aA a;rw[aN aA,aN a]at J;simp only[kA]at e;rw[nf (by simp[e])]at J;cases J;exact h
theorem awn(b:1100<F)(r:List Field)(c:r.length<=1000):CG F r F 0=some (cC (wZ (r.map (·.Name)))):=by
 rw[<-afr];exact lh _ (by omega) (λ k i hi=>by
  have a:CH r (i:Int) F 0=some (cC ((ef i).findSome? λ j=>if(r[j]?).map (·.Name)=(r[i]?).map (·.Name)then some 6 else none)):=lh _ (by omega) (λ k j aA=>by
   rw[CH,bM aA,ng,bu (aN (show j<r.length by omega)),ae,bu (aN hi),ae,aN (show j<r.length by omega),aN hi];simp only[fY,aF];by_cases e:r[j].Name=r[i].Name;rw[mU e,nf e];rfl
   ·rw[mV e,nc e];rfl) (λ k=>by rw[CH,bL];rfl) (by omega)
  rw[CG,bM hi,ng,a,pv,r4,pt]) (λ k=>by rw[CG,bL];rfl) (by omega)
theorem awo(b:1100<F)(c:aq)(d:c.bp.length<=1000):uG F c F 0=some (cC (wZ (c.bp.map (·.Name)))):=by
 rw[<-afr];exact lh _ (by omega) (λ k i hi=>by
  have a:uH c (i:Int) F 0=some (cC ((ef i).findSome? λ j=>if(c.bp[j]?).map (·.Name)=(c.bp[i]?).map (·.Name)then some 6 else none)):=lh _ (by omega) (λ k j aA=>by
   rw[uH,bM aA,ng,bu (aN (show j<c.bp.length by omega)),ae,bu (aN hi),ae,aN (show j<c.bp.length by omega),aN hi];simp only[fY,aF];by_cases e:c.bp[j].Name=c.bp[i].Name;rw[mU e,nf e];rfl
   ·rw[mV e,nc e];rfl) (λ k=>by rw[uH,bL];rfl) (by omega)
  rw[uG,bM hi,ng,a,pv,r4,pt]) (λ k=>by rw[uG,bL];rfl) (by omega)
def Bj(l:List aq)(i:Nat):Option Int:=(wZ ((fS l i).map (·.Name))).or (wZ ((e7 l i).map (·.Name)))
theorem agW(h:iz l){n:Int}(a:0<=n)(b:n<l.length):(fS l n).length<=60:=by obtain⟨_,c,_⟩:=h.chain a b;have:=Vd h.right (dI l n).reverse;unfold fS;simp only[lE]at this;omega
theorem afs{ns:List (List UInt8)}{Y:Option (Way Int Unit)}:cond (decide (¬ns.Nodup)) (some (.out 6)) Y=ht (wZ ns) Y:=by unfold wZ;by_cases h:ns.Nodup;rw[nf h,mV (by simp[h])];rfl;rw[nc h,mU h];rfl
theorem aj9{i:Nat}{c:aq}(h:l[i]? =some c):e7 l (i:Int)=c.bp:=by unfold e7;rw[bu h];rfl
theorem aF_(a:1100<F)(h:iz l):CQ F l F 0=some (cC ((ef l.length).findSome? (Bj l))):=by
 have d:=h.right.len;exact lh _ (by omega) (λ k i hi=>by
  obtain⟨c,b⟩:∃x,l[i]? =some x:=⟨l[i],aN hi⟩
  have f:=h.right.methods c (bH b);have e:=agW h (n:=(i:Int)) (by omega) (by omega);rw[CQ,bM hi,ng,h.aaP a (by omega) (by omega),ae,awn a _ (by omega),pv,bu b,ae,awo a c (by omega),pv,Mv,r4,pt];unfold Bj;rw[aj9 b]) (λ k=>by rw[CQ,bL];rfl) (by omega)
theorem aF9(b:1100<F)(h:iz l)(m:List (List UInt8×Int)):K9 F ⟨l,m,dv l⟩=some (((ef l.length).findSome? (Bj l)).getD 0):=by
 have g:=h.right.len;have:=lh (n:=l.length) (L:=AO F ⟨l,m,dv l⟩) (Bj l) (by omega) (λ k i hi=>by
  obtain⟨c,a⟩:∃x,l[i]? =some x:=⟨l[i],aN hi⟩
  have u:=h.right.methods c (bH a);have o:=agW h (n:=(i:Int)) (by omega) (by omega);have p:x6 (fS l i) F [] 0=some ((fS l i).map (·.Name)):=by
   have:=wM (l:=fS l i) (λ k acc i'=>x6 (fS l i) k acc (i':Int)) (λ f=>[f.Name]) 1 3000 (λ f _=>by simp) (λ k j x acc a q=>by have aA:=(aR.1 a).1;rw[x6,bM aA,ng,bu a,ae,jf (by simp only[di,gR];omega),ae,eO aA (by omega)]) (λ k acc=>by rw[x6,bL];rfl) (F:=F) (by omega) (acc:=[]) (by simp;omega);rw[show(0 :Int)=((0 :Nat):Int) from rfl,this];congr 1;rw[jI];induction fS l i with
   |nil=>rfl
   |cons x r d=>rw[h7,d];rfl
  have s:tw c F [] 0=some (c.bp.map (·.Name)):=by
   have:=wM (l:=c.bp) (λ k acc i'=>tw c k acc (i':Int)) (λ f=>[f.Name]) 1 3000 (λ f _=>by simp) (λ k j x acc a q=>by have aA:=(aR.1 a).1;rw[tw,bM aA,ng,bu a,ae,jf (by simp only[di,gR];omega),ae,eO aA (by omega)]) (λ k acc=>by rw[tw,bL];rfl) (F:=F) (by omega) (acc:=[]) (by simp;omega);rw[show(0 :Int)=((0 :Nat):Int) from rfl,this];congr 1;rw[jI];induction c.bp with
   |nil=>rfl
   |cons x r d=>rw[h7,d];rfl
  rw[AO];have t:decide ((i:Int)<((⟨l,m,dv l⟩:bt).l.length:Int))=true:=bM (n:=l.length) hi;have e:=h.Yv b m (n:=(i:Int)) (by omega) (by omega);rw[t,ng];show df (α:=Unit) ((idx l (i:Int)).bind λ v=>(vu F ⟨l,m,dv l⟩ (i:Int)).bind λ w=>_) _=_
  rw[bu a,ae,e,ae,p,ae,s,ae,ana b (by simp;omega),ae,ana b (by simp;omega),ae,afs,afs,Mv,r4,pt];unfold Bj;rw[aj9 a]) (λ k=>by
   rw[AO];show cond (decide ((l.length:Int)<(l.length:Int))) _ _=_
   rw[bL];rfl) (F:=F) (by omega)
 unfold K9;rw[this];cases(ef l.length).findSome? (Bj l)<;>rfl
theorem amp{a b:List Kind}(ap:a.length<=1000)(ag:b.length<=1000)(g:1100<F):wL F a b=some (decide (a=b)):=by
 unfold wL;by_cases d:a.length=b.length
 ·rw[mU (show(a.length:Int)=(b.length:Int) by omega)];simp only[dS,nh]
  have l1:q5 a b F 0=some (cC ((ef a.length).findSome? λ i=>if a[i]? =b[i]? then none else some false)):=lh _ (by omega) (λ k i hi=>by
   rw[q5,bM hi,ng,bu (aN hi),ae,bu (aN (show i<b.length by omega)),ae,aN hi,aN (show i<b.length by omega)];simp only[aF];by_cases e:a[i]=b[i];rw[mU e,nf e];rfl
   ·rw[mV e,nc e];rfl) (λ k=>by rw[q5,bL];rfl) (by omega)
  rw[l1,kz];cases ad:(ef a.length).findSome? λ i=>if a[i]? =b[i]? then none else some false with
  |some e=>obtain⟨i,hi,c⟩:=eE ad;split at c;cases c;rename_i f;injection c with c;subst c;rw[mV (λ e=>f (by rw[e]))];rfl
  |none=>rw[mU];rfl;apply kX;intro i;by_cases hi:i<a.length;have:=gS.1 ad i (by simpa using hi);split at this;assumption;cases this;rw[gH (by omega),gH (by omega)]
 ·rw[mV (show¬(a.length:Int)=(b.length:Int) by omega),mV (λ e=>d (by rw[e]))];rfl
theorem axL{a b:List Kind}(ap:a.length<=1000)(ag:b.length<=1000)(c:1100<F):Md F a b=some (decide (a=b)):=by
 rw[<-amp ap ag c];unfold Md wL;have e:∀k n,E4 a b k n=q5 a b k n:=by
  intro k;induction k with
  |zero=>intro n;rfl
  |succ k d=>intro n;rw[E4,q5];simp only[d]
 rw[e]
def Uh(a b:Method):Bool:=decide (a.Name=b.Name)&&(a.Static||b.Static|| !decide (a.cF=b.cF)|| !decide (a.Returns=b.Returns))
def rf(a b:Method):Option Int:=if Uh a b then some 4 else none
def wX(l:List aq)(c:aq)(u:Int):Option Int:=c.bp.findSome? λ a=>(e7 l u).findSome? (rf a)
def Hw(l:List aq)(c:aq)(i:Nat):Option Int:=(dI l i).tail.findSome? (wX l c)
theorem avQ(a b:Method):rf a b=none\/rf a b=some 4:=by unfold rf;split<;>simp
theorem aeU(c:aq)(u:Int):wX l c u=none\/wX l c u=some 4:=uX (λ _=>uX (λ _=>avQ _ _) _) _
theorem ayL{α:Type}{g:α->Option Int}{e:Int}(b:∀x,g x=none\/g x=some e)(r:List α):r.reverse.findSome? g=r.findSome? g:=by rcases uX b r with h |h;rw[h,gS];intro x a;exact gS.1 h x (by simpa using a);rw[h];rcases uX b r.reverse with J |J;obtain⟨x,a,c⟩:=eE h;have:=gS.1 J x (by simpa using a);rw[c]at this;cases this;exact J
theorem aEY(o:1100<F)(h:iz l)(m:List (List UInt8×Int)):K8 F ⟨l,m,dv l⟩=some (((ef l.length).findSome? λ i=>(l[i]?).bind λ c=>Hw l c i).getD 0):=by
 have p:=h.right.len;have:=lh (n:=l.length) (L:=AL F ⟨l,m,dv l⟩) (λ i=>(l[i]?).bind λ c=>Hw l c i) (by omega) (λ k i hi=>by
  obtain⟨c,e⟩:∃x,l[i]? =some x:=⟨l[i],aN hi⟩
  have q:=bH e;have M:=h.right.methods c q;obtain⟨v,N,w⟩:=h.chain (n:=(i:Int)) (by omega) (by omega);obtain⟨r,s⟩:=abF v (by omega);have y:∀(a:Method),a∈c.bp->∀(u:aq),u∈l->tu F a u F 0=some (cC (u.bp.findSome? (rf a))):=λ a ap u d=>each (rf a) (by have:=h.right.methods u d;omega) (λ k j b ag=>by
   have DL:=bH ag;have z:=h.right.method c q a ap;have O:=h.right.method u d b DL;rw[tu,bM (aR.1 ag).1,ng,bu ag,ae];unfold PP;simp only;rw[axL (by omega) (by omega) o];unfold rf Uh;show cond _ (ej (cond _ (ej _ λ r=>cond r (some (decide (a.Returns=b.Returns))) _) _) _) _=_
   by_cases t:a.Name=b.Name;rw[mU t];simp only[ae,ng,j7];cases a.Static<;>cases b.Static<;>cases decide (a.cF=b.cF)<;>cases decide (a.Returns=b.Returns)<;>rfl
   ·rw[mV t];rfl) (λ k=>by rw[tu,bL];rfl) (by have:=h.right.methods u d;omega)
  have A:∀(x:Int),0<=x->x<l.length->AN F ⟨l,m,dv l⟩ c x F 0=some (cC (wX l c x)):=λ x B C=>each (λ a=>(e7 l x).findSome? (rf a)) (by omega) (λ k j a ap=>by
   obtain⟨u,d,_⟩:=yB (l:=l) B C;have D:u∈l:=by obtain⟨_,_,J⟩:=l9 d;exact bH J
   have E:e7 l x=u.bp:=by unfold e7;rw[d];rfl
   rw[AN,bM (aR.1 ap).1,ng,bu ap,ae];show df (α:=Unit) ((idx l x).bind λ P=>_) _=_
   rw[d,ae,y a (bH ap) u D,pv,r4,pt,E]) (λ k=>by rw[AN,bL];rfl) (by omega)
  have G:AM F ⟨l,m,dv l⟩ c (dI l i).tail F 0=some (cC ((dI l i).tail.findSome? (wX l c))):=each (wX l c) (by simp;omega) (λ k j x f=>by have ag:=w x (List.mem_of_mem_tail (bH f));rw[AM,bM (aR.1 f).1,ng,bu f,ae,A x ag.1 ag.2,pv,r4,pt]) (λ k=>by rw[AM,bL];rfl) (by simp;omega);rw[AL];have H:decide ((i:Int)<((⟨l,m,dv l⟩:bt).l.length:Int))=true:=bM (n:=l.length) hi;have g:=h.Yu o m (n:=(i:Int)) (by omega) (by omega);rw[H,ng];show df (α:=Unit) ((idx l (i:Int)).bind λ Q=>(ts F ⟨l,m,dv l⟩ (i:Int)).bind λ I=>_) _=_
  have K:cut (dI l i) 1 ((dI l i).length:Int)=some (dI l i).tail:=by unfold cut;rw[nf (by rw[s];simp only[di];omega)];rw[s];simp
  rw[bu e,ae,g,ae,K,ae,G,pv,r4,pt,e];rfl) (λ k=>by
   rw[AL];show cond (decide ((l.length:Int)<(l.length:Int))) _ _=_
   rw[bL];rfl) (F:=F) (by omega)
 unfold K8;rw[this];cases(ef l.length).findSome? (λ i=>(l[i]?).bind λ c=>Hw l c i)<;>rfl
theorem aEZ(y:1100<F)(h:iz l):CI F l F 0=some (cC ((ef l.length).findSome? λ i=>(l[i]?).bind λ c=>Hw l c i)):=by
 have z:=h.right.len;exact lh _ (by omega) (λ k i hi=>by
  obtain⟨c,d⟩:∃x,l[i]? =some x:=⟨l[i],aN hi⟩
  have A:=bH d;have M:=h.right.methods c A;obtain⟨G,N,H⟩:=h.chain (n:=(i:Int)) (by omega) (by omega);obtain⟨r,B⟩:=abF G (by omega);have g:(dI l i).reverse=(dI l i).tail.reverse++[(i:Int)]:=by rw[B];simp
  have m:CJ F l (i:Int) (dI l i).reverse F 0=some (cC ((dI l i).tail.reverse.findSome? (wX l c))):=each (l:=(dI l i).tail.reverse) (wX l c) (by simp;omega) (λ k u x o=>by
   have C:=(aR.1 o).1;have ag:=H x (List.mem_of_mem_tail (by simpa using bH o));obtain⟨w,f,_⟩:=yB (l:=l) ag.1 ag.2;have D:w∈l:=by obtain⟨_,_,J⟩:=l9 f;exact bH J
   have I:=h.right.methods w D;have K:e7 l x=w.bp:=by unfold e7;rw[f];rfl
   have e:(dI l i).reverse[u]? =some x:=by rw[g,er C];exact o
   have p:CK F l (i:Int) (dI l i).reverse (u:Int) F 0=some (cC (wX l c x)):=each (l:=c.bp) (λ a=>(e7 l x).findSome? (rf a)) (by omega) (λ k j a ap=>by
    have s:=bH ap;have t:zr F l (i:Int) (dI l i).reverse (u:Int) (j:Int) F 0=some (cC (w.bp.findSome? (rf a))):=each (l:=w.bp) (rf a) (by omega) (λ k q b ag=>by
     have DL:=bH ag;have L:=h.right.method c A a s;have O:=h.right.method w D b DL;rw[zr];simp only[bu e,ae,f,bM (aR.1 ag).1,ng,bu d,bu ap,bu ag];rw[amp (by omega) (by omega) y];unfold rf Uh;show cond _ (cond _ _ (ej _ λ r=>cond (!r) _ (cond (!decide (a.Returns=b.Returns)) _ _))) _=_
     by_cases E:a.Name=b.Name;rw[mU E];simp only[ae,ng,j7];cases a.Static<;>cases b.Static<;>cases decide (a.cF=b.cF)<;>cases decide (a.Returns=b.Returns)<;>rfl
     ·rw[mV E];rfl) (λ k=>by rw[zr];simp only[bu e,ae,f,bL];rfl) (by omega)
    rw[CK,bu d,ae,bM (aR.1 ap).1,ng,t,pv,r4,pt,K]) (λ k=>by rw[CK,bu d,ae,bL];rfl) (by omega)
   have v:decide ((u:Int)<aw (((dI l i).reverse.length:Int)-1))=true:=by rw[cg (by omega) (by simp;omega)];simp only[lE,List.length_tail]at C;exact mU (by simp only[lE];omega)
   rw[CJ,v,ng,p,pv,r4,pt]) (λ k=>by
    have v:decide (((dI l i).tail.reverse.length:Int)<aw (((dI l i).reverse.length:Int)-1))=false:=by rw[cg (by omega) (by simp;omega)];exact mV (by rw[B];simp)
    rw[CJ,v];rfl) (by simp;omega)
  rw[CI,bM hi,ng,RK y h.right (by omega),ae,m,pv,r4,pt,d,ayL (aeU c)];rfl) (λ k=>by rw[CI,bL];rfl) (by omega)
end
def wd(W:List Int)(i:Nat):Int:=(W[i]?).getD 0
def iW(k:aP)(t:Int):List Field:=(k.Fields[(t-3).toNat]?).getD []
def eY(k:aP)(t:Int):Bool:=decide (1<=t)&&decide (t<=2+k.a1.length)
def isLen(k:aP)(t n:Int):Bool:=decide (0<=n)&&decide (n<=500)&&(decide (t<3)||decide (n=(iW k t).length))
def en(k:aP)(t:Int)(j:Nat):Bool:=decide (t=2)||(decide (3<=t)&&((iW k t)[j]?.map λ f=>!decide (f.Kind.Kind=1)).getD false)
structure gA (k:aP):Prop where
 cl:k.a1.length<=1000
 oU:k.Fields.length=k.a1.length
theorem fh{W:List Int}{i:Nat}(h:i<W.length):idx W (i:Int)=some (wd W i):=by rw[bu (aN h)];unfold wd;rw[aN h];rfl
theorem jl{W:List Int}{a:Int}{i:Nat}(e:a=(i:Int))(h:i<W.length):idx W a=some (wd W i):=by rw[e];exact fh h
theorem aCt{k:aP}{t:Int}:eY k t=true↔1<=t/\t<=2+k.a1.length:=by simp[eY]
theorem iE{k:aP}{t n:Int}:isLen k t n=true↔(0<=n/\n<=500)/\(t<3\/n=(iW k t).length):=by simp[isLen]
section
variable{k:aP}
theorem abb(h:gA k)(t:Int):s6 ⟨k⟩ t=some (eY k t):=by
 have hc:=h.cl;unfold s6 p5 eY;have e:aw (aw (3+(k.a1.length:Int))-1)=2+k.a1.length:=by rw[cg (n:=3+(k.a1.length:Int)) (by omega) (by omega),cg (by omega) (by omega)];omega
 simp only[e,ae];by_cases a:t=1;subst a;simp;omega;by_cases J:t=2;subst J;simp;omega;rw[show((decide (t=1))||(decide (t=2)))=false by simp[a,J],nh,aF,iy];simp;omega
theorem Rx(h:gA k){t:Int}(a:eY k t=true)(b: ¬t<3):idx k.Fields (aw (t-3))=some (iW k t):=by
 obtain⟨c,J⟩:=aCt.1 a;have hc:=h.cl;have ad:=h.oU;rw[cg (by omega) (by omega)];unfold idx iW;rw[nf (by omega)];have:(t-3).toNat<k.Fields.length:=by omega
 rw[aN this];rfl
theorem abd(h:gA k){t:Int}(b:eY k t=true)(n:Int):s7 ⟨k⟩ t n=some (isLen k t n):=by
 unfold s7 p5 isLen;simp only[ae];cases ag:(decide (0<=n)&&decide (n<=500))with
 |false=>simp
 |true=>by_cases a:t<3;simp[a];rw[Rx h b a];simp[a]
theorem Rk(h:gA k){t:Int}(d:eY k t=true){n:Int}(e:isLen k t n=true){j:Nat}(aA:(j:Int)<n):rr ⟨k⟩ t (j:Int)=some (en k t j):=by
 unfold rr en;obtain⟨_,a⟩:=iE.1 e;by_cases J:t=2;simp[J];by_cases b:t<3
 ·have: ¬3<=t:=by omega
  simp[J,this]
 ·have a:=a.resolve_left b;have f:3<=t:=by omega
  have c:j<(iW k t).length:=by omega
  rw[Rx h d b,ae,bu (aN c),aN c];simp[J,f]
inductive eB (k:aP) (W:List Int) (to:Nat):Nat->List Int->Prop
 |nil:eB k W to to []
 |cons {q:Nat} {r:List Int}:eY k (wd W q)=true->isLen k (wd W q) (wd W (q+1))=true->q+3+(wd W (q+1)).toNat<=to->eB k W to (q+3+(wd W (q+1)).toNat) r->eB k W to q ((q:Int)::r)
theorem eB.inv{W:List Int}{to q:Nat}{L:List Int}(h:eB k W to q L)(d:q<to):∃r,L=(q:Int)::r/\eY k (wd W q)=true/\isLen k (wd W q) (wd W (q+1))=true/\q+3+(wd W (q+1)).toNat<=to/\eB k W to (q+3+(wd W (q+1)).toNat) r:=by
 cases h with
 |nil=>omega
 |cons a J b c=>exact⟨_,rfl,a,J,b,c⟩
theorem aKf(v:bk)(aj:gA v.S.K){to:Nat}(A:to<=v.H.Words.length)(e6:v.H.Words.length<=5000):∀(f q:Nat)(acc:List Int)(m:List (Int×Bool)),q<=to->to-q<f->acc.length+(to-q)<=5000 ->(∀p∈m,p.1<(q:Int)) ->
 (∃L,eB v.S.K v.H.Words to q L/\p4 (to:Int) v f acc m (q:Int)=some (.go (acc++L,m++L.map λ a=>(a,true))))\/
 ((∀L,¬eB v.S.K v.H.Words to q L)/\∃g,p4 (to:Int) v f acc m (q:Int)=some (.out ([],false,{ v with dQ:=g }))):=by
 intro f
 induction f with
 |zero=>intro q acc m _ h;omega
 |succ f d=>
  intro q acc m B ad C j;rw[p4];by_cases c:q<to
  case neg=>
   have:q=to:=by omega
   subst this
   refine .inl ⟨[],.nil,?_⟩
   rw[bL];simp
  rw[bM c,ng,cg (n:=(q:Int)+3) (by omega) (by omega)];by_cases s:(to:Int)<(q:Int)+3;rw[mU s];refine .inr ⟨λ L b=>?_,m,rfl⟩;obtain⟨_,_,_,_,h,_⟩:=b.inv c;omega;rw[mV s,nh,fh (by omega),ae,cg (n:=(q:Int)+1) (by omega) (by omega),jl (i:=q+1) (by omega) (by omega),ae];have t:s6 (⟨(⟨v.S.K.a1,v.S.K.aY,v.S.K.Fields,v.S.K.Names,v.S.K.aZ⟩:aP)⟩:b9) (wd v.H.Words q)=some (eY v.S.K (wd v.H.Words q)):=abb aj _;rw[t,ae];cases l:eY v.S.K (wd v.H.Words q)with
  |false=>refine .inr ⟨λ L b=>?_,m,rfl⟩;obtain⟨_,_,h,_⟩:=b.inv c;rw[l]at h;cases h
  |true=>
   have ao:s7 (⟨(⟨v.S.K.a1,v.S.K.aY,v.S.K.Fields,v.S.K.Names,v.S.K.aZ⟩:aP)⟩:b9) (wd v.H.Words q) (wd v.H.Words (q+1))=some (isLen v.S.K (wd v.H.Words q) (wd v.H.Words (q+1))):=abd aj l _;rw[ao,ae,dS,nh];cases o:isLen v.S.K (wd v.H.Words q) (wd v.H.Words (q+1))with
   |false=>refine .inr ⟨λ L b=>?_,m,rfl⟩;obtain⟨_,_,_,h,_⟩:=b.inv c;rw[o]at h;cases h
   |true=>
    obtain⟨⟨l0,l1⟩,_⟩:=iE.1 o;rw[dS,iu,cg (n:=(q:Int)+3+wd v.H.Words (q+1)) (by omega) (by omega)];by_cases u:(to:Int)<(q:Int)+3+wd v.H.Words (q+1);rw[mU u];refine .inr ⟨λ L b=>?_,m,rfl⟩;obtain⟨_,_,_,_,h,_⟩:=b.inv c;omega;rw[mV u,nh,jf (by simp;omega),ae,cg (n:=3+wd v.H.Words (q+1)) (by omega) (by omega),cg (n:=(q:Int)+(3+wd v.H.Words (q+1))) (by omega) (by omega)];have w:cE m (q:Int)=none:=by
     clear d t ao;induction m with
     |nil=>rfl
     |cons p r d=>have aD:=j p hZ;rw[cE,nc (by omega)];exact d (λ x y=>j x (d_ _ y))
    rw[Hz w,show(q:Int)+(3+wd v.H.Words (q+1))=((q+3+(wd v.H.Words (q+1)).toNat:Nat):Int) by omega];rcases d (q+3+(wd v.H.Words (q+1)).toNat) (acc++[(q:Int)]) (m++[((q:Int),true)]) (by omega) (by omega) (by simp;omega) (λ p aD=>by
     rcases cf.1 aD with aD |aD;have:=j p aD;omega
     ·simp at aD;subst aD;simp;omega)with⟨L,b,e⟩|⟨z,g,e⟩
    ·refine .inl ⟨(q:Int)::L,.cons l o (by omega) b,?_⟩;rw[e];simp
    ·refine .inr ⟨λ L b=>?_,g,e⟩;obtain⟨r,_,_,_,_,h⟩:=b.inv c;exact z r h
theorem am2{F:Nat}(i:6000<F)(v:bk)(aj:gA v.S.K){q to:Nat}(c:q<=to)(d:to<=v.H.Words.length)(e6:v.H.Words.length<=5000)(f:∀p∈v.dQ,p.1<(q:Int)) :
 (∃L,eB v.S.K v.H.Words to q L/\nJ F v (q:Int) (to:Int)=some (L,true,{ v with dQ:=v.dQ++L.map λ a=>(a,true) }))\/
 ((∀L,¬eB v.S.K v.H.Words to q L)/\∃b,nJ F v (q:Int) (to:Int)=some ([],false,{ v with dQ:=b })):=by
 unfold nJ
 rcases aKf v aj d e6 F q [] v.dQ c (by omega) (by simp;omega) f with⟨L,g,e⟩|⟨h,b,e⟩
 ·exact .inl ⟨L,g,by rw[e,r3];simp⟩
 ·exact .inr ⟨h,b,by rw[e,amz]⟩
end
def refs(k:aP)(W:List Int)(q:Nat):List Int:=(ef (wd W (q+1)).toNat).flatMap λ j=>if en k (wd W q) j then[((q+3+j:Nat):Int)]else[]
theorem qj{k:aP}{W:List Int}{q:Nat}{x:Int}:x∈refs k W q↔∃j,j<(wd W (q+1)).toNat/\en k (wd W q) j=true/\x=((q+3+j:Nat):Int):=by unfold refs;rw[hN];constructor;rintro⟨j,aA,a⟩;split at a;rename_i h;exact⟨j,by simpa using aA,h,by simpa using a⟩;cases a;rintro⟨j,aA,h,e⟩;exact⟨j,by simpa using aA,by rw[nf h,e];simp⟩
section
variable{F:Nat}{k:aP}
theorem aI6(o:6000<F)(v:bk)(aj:gA v.S.K){q:Nat}(d:q+3+(wd v.H.Words (q+1)).toNat<=v.H.Words.length)(e6:v.H.Words.length<=5000)(e:eY v.S.K (wd v.H.Words q)=true)(b:isLen v.S.K (wd v.H.Words q) (wd v.H.Words (q+1))=true) :
 ru F v (q:Int)=some (refs v.S.K v.H.Words q):=by
 obtain⟨⟨l0,l1⟩,_⟩:=iE.1 b
 unfold ru
 rw[cg (n:=(q:Int)+1) (by omega) (by omega),jl (i:=q+1) (by omega) (by omega),ae]
 generalize g:(wd v.H.Words (q+1)).toNat=n at d
 have h:wd v.H.Words (q+1)=(n:Int):=by omega
 have c:=b
 rw[h]at c⊢
 have l1:=wM (l:=ef n) (λ k acc i=>xp (q:Int) v (n:Int) k acc (i:Int)) (λ j=>if en v.S.K (wd v.H.Words q) j then[((q+3+j:Nat):Int)]else[]) 1 5000 (λ x _=>by split<;>simp) (λ f i x acc a ap=>by
  have hi:i<n:=by have:=(aR.1 a).1;simpa using this
  rw[lZ hi]at a;simp only[aF]at a;subst a;rw[xp,bM hi,ng,fh (by omega),ae];have m:rr (⟨(⟨v.S.K.a1,v.S.K.aY,v.S.K.Fields,v.S.K.Names,v.S.K.aZ⟩:aP)⟩:b9) (wd v.H.Words q) (i:Int)=some (en v.S.K (wd v.H.Words q) i):=Rk aj e c (by omega);rw[m,ae];show _=xp (q:Int) v (n:Int) f _ _
  cases en v.S.K (wd v.H.Words q) i with
  |true=>rw[ng,cg (n:=(q:Int)+3) (by omega) (by omega),cg (n:=(q:Int)+3+i) (by omega) (by omega),jf (by simp;omega),ae,ae,eO hi (by omega),nf rfl];congr 2
  |false=>rw[nh,ae,eO hi (by omega),nc (by decide),hv]) (λ f acc=>by
  rw[iC,xp,bL];rfl) (F:=F) (by simp;omega) (acc:=[]) (by simp;omega)
 have l1:xp (q:Int) v (n:Int) F [] 0=_:=l1
 rw[l1,ae,jI,refs,g]
theorem aeX(o:10000<F){ls:List (List Int)}(p:ls.length<=10)(J:ls.flatten.length<=10000):Ia F ls=some ls.flatten:=by
 unfold Ia;have c:∀(d i f:Nat)(n:Int),i+d=ls.length->d<f->0<=n->n+(ls.drop i).flatten.length<=10000 ->yx ls f n (i:Int)=some (n+(ls.drop i).flatten.length):=by
  intro d;induction d with
  |zero=>
   intro i f n h ad m _;obtain⟨f,rfl⟩:∃a,f=a+1:=⟨f-1,by omega⟩
   have:i=ls.length:=by omega
   subst this;rw[yx,bL];simp
  |succ d e=>
   intro i f n h ad m ag;obtain⟨f,rfl⟩:∃a,f=a+1:=⟨f-1,by omega⟩
   have hi:i<ls.length:=by omega
   rw[de hi]at ag;simp only[mq,dM]at ag;rw[yx,bM hi,ng,bu (aN hi),ae,cg (n:=n+((ls[i]).length:Int)) (by omega) (by omega),show decide (n+((ls[i]).length:Int)<0)=false from mV (by omega),nh,ae,eO hi (by omega),e (i+1) f _ (by omega) (by omega) (by omega) (by omega),de hi];simp only[mq,dM];congr 1;omega
 have g:=c ls.length 0 F 0 (by omega) (by omega) (by omega) (by simp at J⊢;omega);have g:yx ls F 0 0=some (0+((ls.drop 0).flatten.length:Int)):=g;rw[g,ae,hf,Int.zero_add];have b:Rp (ls.flatten.length:Int)=some []:=by unfold Rp;rw[show decide ((ls.flatten.length:Int)<0)=false from mV (by omega),nh,ae,cg (n:=(ls.flatten.length:Int)-0) (by omega) (by omega),Int.sub_zero];by_cases j:(0 :Int)<(ls.flatten.length:Int);rw[mU j,ng];unfold Jo;rw[nf ⟨j,by omega⟩];rfl;rw[mV j];rfl
 rw[b,ae];have l:∀(d i f:Nat)(acc:List Int),i+d=ls.length->d<f->acc.length+(ls.drop i).flatten.length<=10000 ->yy ls f acc (i:Int)=some (acc++(ls.drop i).flatten):=by
  intro d;induction d with
  |zero=>
   intro i f n h ad m;obtain⟨f,rfl⟩:∃a,f=a+1:=⟨f-1,by omega⟩
   have:i=ls.length:=by omega
   subst this;rw[yy,bL];simp
  |succ d e=>
   intro i f acc h ad ag;obtain⟨f,rfl⟩:∃a,f=a+1:=⟨f-1,by omega⟩
   have hi:i<ls.length:=by omega
   rw[de hi]at ag;simp only[mq,dM]at ag;rw[yy,bM hi,ng,bu (aN hi),ae,jf (by omega),ae,eO hi (by omega),e (i+1) f _ (by omega) (by omega) (by simp only[dM];omega),de hi,mq,fA]
 have b:=l ls.length 0 F [] (by omega) (by omega) (by simp at J⊢;omega);have b:yy ls F [] 0=some ([]++(ls.drop 0).flatten):=b;rw[b];simp
theorem all_eq(a:10000<F)(v:bk)(h:v.ak.length+v.aK.length<=10000):An F v=some (v.ak++v.aK):=by unfold An;rw[aeX a (by simp) (by simp;omega)];simp
def aj(W:List Int)(a:Int):Int:=wd W (a.toNat+2)
def Bo(l:List Int)(m:List (Int×Bool)):List (Int×Bool):=l.foldl (λ m x=>gy m x true) m
theorem alq:∀(l:List Int)(m:List (Int×Bool)),(Bo l m).length<=m.length+l.length/\((Bo l m).length=m.length+l.length↔l.Nodup/\∀x∈l,(cE m x).isSome=false)
 |[],m=>by simp[Bo]
 |x::r,m=>by
  have d:=alq r (gy m x true);have e:Bo (x::r) m=Bo r (gy m x true):=rfl;rw[e];have b:=P4 (k:=x) (v:=true) m;rw[di];cases c:(cE m x).isSome with
  |true=>rw[c,nf rfl]at b;rw[b]at d;refine⟨by omega,⟨λ h=>by omega,λ h=>?_⟩⟩;have:=h.2 x hZ;rw[c]at this;cases this
  |false=>
   rw[c,nc (by decide)]at b;rw[b]at d;refine⟨by omega,?_⟩;rw[show m.length+(r.length+1)=m.length+1+r.length by omega,d.2,h4];constructor
   ·rintro⟨f,J⟩;refine⟨⟨λ i=>?_,f⟩,λ y hy=>?_⟩;have:=J x i;have a:=(Lh (k:=x) (s:=x) (v:=true) m).2 (.inl rfl);rw[this]at a;cases a
    ·rcases cH.1 hy with rfl |hy;exact c
     ·cases g:(cE m y).isSome with
      |false=>rfl
      |true=>have a:=(Lh (k:=x) (s:=y) (v:=true) m).2 (.inr g);rw[J y hy]at a;cases a
   ·rintro⟨⟨f,J⟩,a⟩;refine⟨J,λ y hy=>?_⟩;cases g:(cE (gy m x true) y).isSome with
    |false=>rfl
    |true=>rcases(Lh (k:=x) (s:=y) (v:=true) m).1 g with e |e;subst e;exact absurd hy f;rw[a y (d_ _ hy)]at e;cases e
def mJ(v:bk)(a:Int):Bool:=decide (aj v.H.Words a<1)||decide (v.H.Next<=aj v.H.Words a)
theorem azJ(v:bk)(r:List Int)(e:r.length<=10000)(ag:∀a∈r,0<=a/\a.toNat+3<=v.H.Words.length)(e6:v.H.Words.length<=5000):∀(d i f:Nat)(m:List (Int×Bool)),i+d=r.length->d<f ->
 xq v r f m (i:Int)=if(r.drop i).any (mJ v)then some (.out 3)else some (.go (Bo ((r.drop i).map (aj v.H.Words)) m)):=by
 intro d
 induction d with
 |zero=>
  intro i f m h ad;obtain⟨f,rfl⟩:∃b,f=b+1:=⟨f-1,by omega⟩
  have:i=r.length:=by omega
  subst this;rw[xq,bL];simp[Bo]
 |succ d c=>
  intro i f m h ad;obtain⟨f,rfl⟩:∃b,f=b+1:=⟨f-1,by omega⟩
  have hi:i<r.length:=by omega
  obtain⟨g,j⟩:=ag r[i] (hj hi);rw[xq,bM hi,ng,bu (aN hi),ae,cg (n:=r[i]+2) (by omega) (by omega),jl (i:=(r[i]).toNat+2) (by omega) (by omega),ae,de hi,List.any_cons];show cond (mJ v r[i]) _ _=_
  cases mJ v r[i]with
  |true=>rfl
  |false=>rw[nh,eO hi (by omega),c (i+1) f _ (by omega) (by omega),iu];rfl
theorem azI(f:10000<F)(v:bk)(h:v.ak.length+v.aK.length<=5000)(ag:∀a∈v.ak++v.aK,0<=a/\a.toNat+3<=v.H.Words.length)(e6:v.H.Words.length<=5000)(b:v.dQ.length=(v.ak++v.aK).length) :
 GX F v=some (if(v.ak++v.aK).any (mJ v)then 3 else if((v.ak++v.aK).map (aj v.H.Words)).Nodup then 0 else 6):=by
 unfold GX
 have e:An F (⟨(⟨v.H.Words,v.H.ak,v.H.aK,v.H.aO,v.H.aM,v.H.aU,v.H.Next⟩:aV),(⟨(⟨v.S.K.a1,v.S.K.aY,v.S.K.Fields,v.S.K.Names,v.S.K.aZ⟩:aP)⟩:b9),v.ak,v.aK,v.dQ⟩:bk)=some (v.ak++v.aK):=all_eq f v (by omega)
 rw[e,ae]
 have l1:=azJ v (v.ak++v.aK) (by simp;omega) ag e6 (v.ak++v.aK).length 0 F [] (by omega) (by simp;omega)
 have l1:xq v (v.ak++v.aK) F [] 0=_:=l1
 rw[l1,hf]
 cases(v.ak++v.aK).any (mJ v)with
 |true=>rfl
 |false=>rw[nc (by decide),nc (by decide),r3];obtain⟨g,d⟩:=alq ((v.ak++v.aK).map (aj v.H.Words)) [];rw[hd,gR,jO]at g d;by_cases c:((v.ak++v.aK).map (aj v.H.Words)).Nodup;rw[nf c];have:=d.2 ⟨c,λ _ _=>rfl⟩;rw[mV (by rw[this,b];omega)];rfl;rw[nc c];have:(Bo ((v.ak++v.aK).map (aj v.H.Words)) []).length≠(v.ak++v.aK).length:=λ e=>c (d.1 e).1;rw[mU (by rw[b];omega)];rfl
end
def zD(l:List Int):Prop:=∀a b,a<b->b<l.length->wd l a<wd l b
theorem abm{l:List Int}(h:∀i,i+1<l.length->wd l i<wd l (i+1)):zD l:=by
 intro a b d;induction b with
 |zero=>omega
 |succ b c=>intro ag;by_cases e:a=b;subst e;exact h a ag;exact Int.lt_trans (c (by omega) (by omega)) (h b ag)
theorem abO{l:List Int}{i:Nat}(h:i<l.length):wd l i∈l:=by unfold wd;rw[aN h];exact hj h
theorem n4{l:List Int}{i:Nat}{x:Int}(h:l[i]? =some x):wd l i=x:=by unfold wd;rw[h];rfl
theorem YE{l:List Int}{x:Int}(h:x∈l):∃i,i<l.length/\wd l i=x:=by obtain⟨i,hi,e⟩:=ie h;exact⟨i,hi,n4 (by rw[aN hi,e])⟩
theorem ak'{α:Type}{p:α->Bool}:∀ {l:List α},(eI p l).isSome=l.any p
 |[]=>rfl
 |x::r=>by
  rw[eI,List.any_cons];cases h:p x with
  |true=>rfl
  |false=>simp only[hM,if_false,iu];rw[<-ak' (l:=r)];cases eI p r<;>rfl
theorem U'{α:Type}{l:List α}{L:Nat->Int->Option (Way Int Unit)}(p:α->Bool)(a:l.length<=140737488355328)
 (aj:∀k (i:Nat) x,l[i]? =some x->L (k+1) (i:Int)=cond (p x) (some (.out (i:Int))) (L k (aw ((i:Int)+1))))
 (b:∀k,L (k+1) (l.length:Int)=some (.go ())){F:Nat}(c:l.length<F):((cr (α:=Unit) (L F 0) λ(_:Unit)=>some (-1)).bind λ r=>some (decide ((0 :Int)<=r)))=some (l.any p):=by
 rw[Va p (λ n:Nat=>(n:Int)) a aj b c,<-ak']
 cases eI p l with
 |none=>rfl
 |some i=>
  show some (decide ((0 :Int)<=(i:Int)))=_
  rw[mU (by omega)];rfl
section
variable{F:Nat}
theorem aJR{l:List Int}(g:l.length<=10000)(t:Int):∀(f i j:Nat),i<=j->j<=l.length->j-i<f->(∀a,a<i->wd l a<t)->(∀a,j<=a->a<l.length->t<=wd l a)->zD l ->
 ∃p:Nat,vS t l f (i:Int) (j:Int)=some (p:Int)/\p<=l.length/\(∀a,a<p->wd l a<t)/\(∀a,p<=a->a<l.length->t<=wd l a):=by
 intro f
 induction f with
 |zero=>intro i j _ _ h;omega
 |succ f b=>
  intro i j k aA ad c J aj;rw[vS];by_cases h:i<j
  case neg=>
   have:i=j:=by omega
   subst this
   rw[bL]
   exact⟨i,rfl,aA,c,J⟩
  have d:aw (yw (Io (aw ((i:Int)+(j:Int)))) 1)=(((i+j) / 2 :Nat):Int):=by rw[cg (n:=(i:Int)+j) (by omega) (by omega)];unfold Io yw;rw[cg (by omega) (by omega)];omega
  have m:(i+j) / 2<j:=by omega
  have o:i<=(i+j) / 2:=by omega
  rw[bM h,ng,d,fh (by omega),ae];unfold cmp_Less_int cmp_isNaN_int;rw[ae,show(!decide (wd l ((i+j) / 2)=wd l ((i+j) / 2)))=false by simp,nh,ae];by_cases hc:wd l ((i+j) / 2)<t
  ·rw[mU hc,ng,ae];show∃p:Nat,vS t l f (aw ((((i+j) / 2 :Nat):Int)+1)) (j:Int)=_/\_
   rw[cg (n:=(((i+j) / 2 :Nat):Int)+1) (by omega) (by omega),show(((i+j) / 2 :Nat):Int)+1=(((i+j) / 2+1 :Nat):Int) by omega];refine b ((i+j) / 2+1) j (by omega) aA (by omega) (λ a ap=>?_) J aj;by_cases e:a=(i+j) / 2;subst e;exact hc;exact Int.lt_trans (aj a ((i+j) / 2) (by omega) (by omega)) hc
  ·rw[mV hc,nh,ae];show∃p:Nat,vS t l f (i:Int) (((i+j) / 2 :Nat):Int)=_/\_
   refine b i ((i+j) / 2) (by omega) (by omega) (by omega) c (λ a ap ag=>?_) aj;by_cases e:a=(i+j) / 2;subst e;omega;have:=aj ((i+j) / 2) a (by omega) ag;omega
theorem aJQ(m:10000<F){l:List Int}(i:l.length<=10000)(aj:zD l)(t:Int) :
 ∃p:Nat,L9 F l t=some ((p:Int),decide (t∈l))/\p<=l.length/\(∀a,a<p->wd l a<t)/\(∀a,p<=a->a<l.length->t<=wd l a):=by
 obtain⟨p,e,j,d,J⟩:=aJR i t F 0 l.length (by omega) (cP _) (by omega) (λ a ap=>by omega) (λ a ap ag=>by omega) aj
 refine⟨p,?_,j,d,J⟩
 unfold L9
 have e:vS t l F 0 (l.length:Int)=some (p:Int):=e
 rw[e,ae]
 by_cases b:p<l.length
 ·rw[bM b,ng,fh b,ae];by_cases c:wd l p=t;rw[mU c,ng,mU (c▸abO b)]
  ·have f: ¬t∈l:=λ g=>by
    obtain⟨a,ap,h⟩:=YE g;by_cases k:a<p
    ·have:=d a k;omega
    ·have n:=J p (cP _) b;by_cases e:a=p;subst e;exact c h;have:=aj p a (by omega) ap;omega
   rw[mV c,nh,ae,mV f];unfold Rt;rw[ae,show(!decide (wd l p=wd l p))=false by simp,nh]
 ·have:p=l.length:=by omega
  subst this;have f: ¬t∈l:=λ g=>by obtain⟨a,ap,h⟩:=YE g;have:=d a ap;omega
  rw[bL,nh,mV f]
structure sE (v:bk) (a:Int):Prop where
 pos:0<=a
 fit:a.toNat+3+(wd v.H.Words (a.toNat+1)).toNat<=v.H.Words.length
 tag:eY v.S.K (wd v.H.Words a.toNat)=true
 len:isLen v.S.K (wd v.H.Words a.toNat) (wd v.H.Words (a.toNat+1))=true
structure pS (v:bk):Prop where
 fM:gA v.S.K
 e1:v.H.Words.length<=4900
 oK:v.ak.length+v.aK.length<=5000
 tY:∀a∈v.ak++v.aK,sE v a
 dQ:∀x,(cE v.dQ x).getD false=decide (x∈v.ak++v.aK)
theorem sE.aaU{v:bk}{a:Int}(b:pS v)(h:sE v a)(c:6000<F):ru F v a=some (refs v.S.K v.H.Words a.toNat):=by have:=aI6 c v b.fM h.fit (by have:=b.e1;omega) h.tag h.len;rwa [show((a.toNat:Nat):Int)=a by have:=h.pos;omega]at this
theorem sE.Q4{v:bk}{a w:Int}(h:sE v a)(b:w∈refs v.S.K v.H.Words a.toNat):idx v.H.Words w=some (wd v.H.Words w.toNat):=by obtain⟨j,aA,_,e⟩:=qj.1 b;have:=h.fit;subst e;exact fh (by omega)
theorem Q5{v:bk}{a:Int}(b:pS v)(h:sE v a):(refs v.S.K v.H.Words a.toNat).length<=5000:=by
 have:(refs v.S.K v.H.Words a.toNat).length<=1*(ef (wd v.H.Words (a.toNat+1)).toNat).length:=z1 λ x _=>by split<;>simp
 have c:=h.fit;have J:=b.e1;rw[iC]at this;omega
def vX(v:bk)(w:Int):Bool:=!decide (wd v.H.Words w.toNat=0)&& !decide (wd v.H.Words w.toNat∈v.ak++v.aK)
def pn(v:bk)(a:Int):Bool:=(refs v.S.K v.H.Words a.toNat).any (vX v)
def free(h:aV):List Int:=h.Words.take 1++((h.Words.take (h.ak+1).toNat).drop h.aO.toNat++h.Words.drop h.aM.toNat)
theorem oX{α:Type}{p:α->Bool}{e:Int}:∀l:List α,l.findSome? (λ x=>if p x then some e else none)=if l.any p then some e else none
 |[]=>rfl
 |x::r=>by
  rw[iU,List.any_cons];cases p x with
  |true=>rfl
  |false=>simp only[hM,if_false,iu];exact oX r
theorem aLf(g:10000<F){v:bk}(b:pS v)(q:0<=v.H.ak)(r:0<=v.H.aO/\v.H.aO<=v.H.ak+1/\v.H.ak+1<=v.H.Words.length)(J:0<=v.H.aM/\v.H.aM<=v.H.Words.length) :
 GZ F v=some (if(v.ak++v.aK).any (pn v)then 5 else if(free v.H).any (λ x=>!decide (x=0))then 1 else 0):=by
 have hc:=b.oK;have s:=b.e1
 unfold GZ
 have e:An F (⟨(⟨v.H.Words,v.H.ak,v.H.aK,v.H.aO,v.H.aM,v.H.aU,v.H.Next⟩:aV),(⟨(⟨v.S.K.a1,v.S.K.aY,v.S.K.Fields,v.S.K.Names,v.S.K.aZ⟩:aP)⟩:b9),v.ak,v.aK,v.dQ⟩:bk)=some (v.ak++v.aK):=all_eq g v (by omega)
 rw[e,ae]
 have l1:Ao F v (v.ak++v.aK) F 0=some (cC ((v.ak++v.aK).findSome? λ a=>if pn v a then some 5 else none)):=each _ (by simp;omega) (λ f i a ap=>by
  have j:=bH ap;have c:=b.tY a j;rw[Ao,bM (aR.1 ap).1,ng,bu ap,ae];have ao:ru F (⟨(⟨v.H.Words,v.H.ak,v.H.aK,v.H.aO,v.H.aM,v.H.aU,v.H.Next⟩:aV),(⟨(⟨v.S.K.a1,v.S.K.aY,v.S.K.Fields,v.S.K.Names,v.S.K.aZ⟩:aP)⟩:b9),v.ak,v.aK,v.dQ⟩:bk) a=some (refs v.S.K v.H.Words a.toNat):=c.aaU b (by omega);have t:=Q5 b c;rw[ao,ae];have k:xt v (refs v.S.K v.H.Words a.toNat) F 0=some (cC ((refs v.S.K v.H.Words a.toNat).findSome? λ w=>if vX v w then some 5 else none)):=each _ (by omega) (λ m i' w d=>by have n:=bH d;rw[xt,bM (aR.1 d).1,ng,bu d,ae,c.Q4 n,ae,b.dQ];unfold vX;cases decide (wd v.H.Words w.toNat=0)<;>cases decide (wd v.H.Words w.toNat∈v.ak++v.aK)<;>rfl) (λ m=>by rw[xt,bL];rfl) (by omega);rw[k,oX];show _=ht (if(refs v.S.K v.H.Words a.toNat).any (vX v)then some 5 else none) _
  cases(refs v.S.K v.H.Words a.toNat).any (vX v)<;>rfl) (λ f=>by rw[Ao,bL];rfl) (by simp;omega)
 rw[l1,oX]
 cases(v.ak++v.aK).any (pn v)with
 |true=>rfl
 |false=>
  simp only[hM,if_false,cC,r3];have c1:cut v.H.Words 0 1=some (v.H.Words.take 1):=by unfold cut;rw[nf ⟨by omega,by omega,by omega⟩];rfl
  have c2:cut v.H.Words v.H.aO (aw (v.H.ak+1))=some ((v.H.Words.take (v.H.ak+1).toNat).drop v.H.aO.toNat):=by rw[cg (by omega) (by omega)];unfold cut;rw[nf ⟨by omega,by omega,by omega⟩]
  have c3:cut v.H.Words v.H.aM (v.H.Words.length:Int)=some (v.H.Words.drop v.H.aM.toNat):=by unfold cut;rw[nf ⟨by omega,by omega,by omega⟩,bV,jy]
  have o:(free v.H).length<=10000:=by unfold free;simp;omega
  rw[c1,c2,c3,ae,ae,ae,aeX g (by simp) (by simp;omega),ae];have p:[v.H.Words.take 1,(v.H.Words.take (v.H.ak+1).toNat).drop v.H.aO.toNat,v.H.Words.drop v.H.aM.toNat].flatten=free v.H:=by simp[free]
  rw[p];unfold Rn Rr;rw[U' (l:=free v.H) (L:=BF (free v.H)) (λ x=>!decide (x=0)) (by omega) (λ f i x h=>by rw[BF,bM (aR.1 h).1,ng,bu h,ae];rfl) (λ f=>by rw[BF,bL];rfl) (by omega),ae];cases(free v.H).any (λ x=>!decide (x=0))<;>rfl
def kY(v:bk)(x:Int):Bool:=decide (0<x)&&decide (x<=v.H.ak)
def tH(v:bk)(x:Int):Bool:=!decide (x∈v.ak++v.aK)||kY v x||(refs v.S.K v.H.Words x.toNat).isEmpty
def h0(v:bk)(i:Nat):Bool:=(decide (0<i)&&decide (wd v.H.aU i<=wd v.H.aU (i-1)))||tH v (wd v.H.aU i)
def qW(v:bk)(x:Int):Bool:=!decide (x∈v.H.aU)&&(refs v.S.K v.H.Words x.toNat).any λ w=>kY v (wd v.H.Words w.toNat)
theorem aFY(f:10000<F){v:bk}(b:pS v)(x:Int)(Y:Option (Way Int Unit)):(cond (!((cE v.dQ x).getD false)) (some (.out 4)) ((GV v x).bind λ c=>
 cond (c) (some (.out 4)) ((ru F v x).bind λ d=>
 cond (decide ((d.length:Int)=0)) (some (.out 4)) Y)))=ht (if tH v x then some 4 else none) Y:=by
 rw[b.dQ]
 unfold tH
 by_cases e:x∈v.ak++v.aK
 ·rw[mU e,(b.tY x e).aaU b (by omega)];show cond (kY v x) _ ((some _).bind _)=_
  cases kY v x with
  |true=>rfl
  |false=>
   rw[nh,ae];cases refs v.S.K v.H.Words x.toNat with
   |nil=>rfl
   |cons a r=>rw[mV (by simp;omega)];rfl
 ·rw[mV e];rfl
theorem aFX(k:10000<F){v:bk}(a:pS v)(s:v.H.aU.length<=140737488355328)(t:v.H.aU.length<F)(c:(∀i,i<v.H.aU.length->h0 v i=false)->v.H.aU.length<=10000) :
 GY F v=some (if(ef v.H.aU.length).any (h0 v)||v.aK.any (qW v)then 4 else 0):=by
 have hc:=a.oK;have B:=a.e1
 unfold GY
 have l1:u' F v F 0=some (cC ((ef v.H.aU.length).findSome? λ i=>if h0 v i then some 4 else none)):=lh _ s (λ f i hi=>by
  have m:=aFY k a (wd v.H.aU i) (u' F v f (aw ((i:Int)+1)));rw[u',bM hi,ng,fh hi,ae];unfold h0;by_cases o:0<i
  ·rw[show decide ((0 :Int)<(i:Int))=true from mU (by omega),ng,cg (n:=(i:Int)-1) (by omega) (by omega),jl (i:=i-1) (by omega) (by omega),ae,mU o,j7];cases decide (wd v.H.aU i<=wd v.H.aU (i-1))with
   |true=>rfl
   |false=>exact m
  ·rw[show decide ((0 :Int)<(i:Int))=false from mV (by omega),nh,mV o,Bool.false_and,iu]
   exact m) (λ f=>by rw[u',bL];rfl) t
 rw[l1,oX]
 cases ag:(ef v.H.aU.length).any (h0 v)with
 |true=>rfl
 |false=>
  have q:∀i,i<v.H.aU.length->h0 v i=false:=λ i hi=>by rw[iY]at ag;simpa using ag i (by simpa using hi)
  have b:=c q;have d:zD v.H.aU:=abm λ i hi=>by have:=q (i+1) hi;unfold h0 at this;simp only[ik,mG,decide_eq_false_iff_not,Nat.add_sub_cancel]at this;rcases this.1 with h |h<;>omega
  simp only[hM,if_false,cC,r3,iu];have u:xr F v F 0=some (cC (v.aK.findSome? λ x=>if qW v x then some 4 else none)):=each _ (by omega) (λ f i x e=>by
   have y:x∈v.ak++v.aK:=fe _ (bH e);have g:=a.tY x y;obtain⟨p,z,_⟩:=aJQ k b d x;rw[xr,bM (aR.1 e).1,ng,bu e,ae,z,ae];unfold qW;by_cases r:x∈v.H.aU;rw[mU r];rfl
   ·rw[mV r];have ao:ru F (⟨(⟨v.H.Words,v.H.ak,v.H.aK,v.H.aO,v.H.aM,v.H.aU,v.H.Next⟩:aV),(⟨(⟨v.S.K.a1,v.S.K.aY,v.S.K.Fields,v.S.K.Names,v.S.K.aZ⟩:aP)⟩:b9),v.ak,v.aK,v.dQ⟩:bk) x=some (refs v.S.K v.H.Words x.toNat):=g.aaU a (by omega);have C:=Q5 a g;simp only[ib,ng,j7];rw[ao,ae];unfold Rm Rq;rw[U' (l:=refs v.S.K v.H.Words x.toNat) (L:=BE (refs v.S.K v.H.Words x.toNat) v) (λ w=>kY v (wd v.H.Words w.toNat)) (by omega) (λ A i' w j=>by rw[BE,bM (aR.1 j).1,ng,bu j,ae];unfold OZ;rw[g.Q4 (bH j)];rfl) (λ A=>by rw[BE,bL];rfl) (by omega),ae]
    cases(refs v.S.K v.H.Words x.toNat).any (λ w=>kY v (wd v.H.Words w.toNat))<;>rfl) (λ f=>by rw[xr,bL];rfl) (by omega)
  rw[u,oX];cases v.aK.any (qW v)<;>rfl
end
def Qr:aP:=⟨[],[],[],[],[]⟩
def rows{β:Type}(f:Int->β)(i:Nat):List β:=(ef i).map λ j:Nat=>f (j:Int)
theorem H6{β:Type}(f:Int->β)(i:Nat):rows f (i+1)=rows f i++[f (i:Int)]:=by simp[rows,List.range_succ]
def linked(l:List aq):aP:=⟨l,dv l,rows (fS l) l.length,rows (λ i=>(hK l i).1) l.length,rows (λ i=>(hK l i).2) l.length⟩
def Gj(l:List aq)(i:Nat):Option (aP×Int):=if 12<(fS l i).length\/16<(hK l i).1.length then some (Qr,2)else none
section
variable{F:Nat}{l:List aq}
theorem aer(x y:Nat):((decide ((12 :Int)<(x:Int)))||(decide ((16 :Int)<(y:Int))))=decide (12<x\/16<y):=by rw[iy];simp;omega
theorem aEv(c:1100<F)(h:iz l)(a b:Int×bt)(e:a.2.b4=e9 0 l)(f:b.2.dB=dv l) :
 pb F l a b F [] [] [] 0=some (Fb ((ef l.length).findSome? (Gj l)) (rows (λ i=>(hK l i).2) l.length,rows (λ i=>(hK l i).1) l.length,rows (fS l) l.length)):=by
 have d:=h.right.len
 refine TW (n:=l.length) (λ k i=>pb F l a b k (rows (λ i=>(hK l i).2) i) (rows (λ i=>(hK l i).1) i) (rows (fS l) i) (i:Int)) _ _ (λ k i hi=>?_) (λ k=>?_) (F:=F) (by omega)
 ·show pb F l a b (k+1) (rows (λ i=>(hK l i).2) i) (rows (λ i=>(hK l i).1) i) (rows (fS l) i) (i:Int)=_
  rw[pb,bM hi,ng,e,f,h.aEw c (e9 0 l) (by omega) (by omega),ae,h.Yv c (e9 0 l) (by omega) (by omega),ae,
   jf (by simp only[rows,hd,iC,di,gR];omega),ae,jf (by simp only[rows,hd,iC,di,gR];omega),ae,
   jf (by simp only[rows,hd,iC,di,gR];omega),ae,bu (i:=i) (x:=fS l i) (by simp[rows]),ae,aer,eO hi (by omega),<-H6 (fS l),<-H6 (λ i=>(hK l i).1),<-H6 (λ i=>(hK l i).2)]
  unfold Gj;by_cases ag:12<(fS l i).length\/16<(hK l i).1.length;rw[mU ag,nf ag];rfl;rw[mV ag,nc ag];rfl
 ·show pb F l a b (k+1) (rows (λ i=>(hK l i).2) l.length) (rows (λ i=>(hK l i).1) l.length) (rows (fS l) l.length) (l.length:Int)=_
  rw[pb,bL];rfl
theorem aI4(a:1100<F)(h:iz l) :
 sy F l F [] [] [] [] 0=some (Fb ((ef l.length).findSome? (Gj l)) (rows (λ i=>(hK l i).2) l.length,rows (λ i=>(hK l i).1) l.length,rows (fS l) l.length,dv l)):=by
 have b:=h.right.len
 refine TW (n:=l.length) (λ k i=>sy F l k (rows (λ i=>(hK l i).2) i) (rows (λ i=>(hK l i).1) i) (rows (fS l) i) ((dv l).take i) (i:Int)) _ _ (λ k i hi=>?_) (λ k=>?_) (F:=F) (by omega)
 ·obtain⟨x,c⟩:∃x,l[i]? =some x:=⟨l[i],aN hi⟩
  have aW:(dv l).take i++[cX l x.dc]=(dv l).take (i+1):=by rw[lg,abp c];rfl
  show sy F l (k+1) (rows (λ i=>(hK l i).2) i) (rows (λ i=>(hK l i).1) i) (rows (fS l) i) ((dv l).take i) (i:Int)=_
  rw[sy,bM hi,ng,h.aaP a (by omega) (by omega),ae,h.aI5 a (by omega) (by omega),ae,aer,bu c,ae,zv ⟨by omega,by omega⟩,ae,
   jf (by simp only[gl,Ic,di,gR];omega),ae,
   jf (by simp only[rows,hd,iC,di,gR];omega),ae,jf (by simp only[rows,hd,iC,di,gR];omega),ae,
   jf (by simp only[rows,hd,iC,di,gR];omega),ae,eO hi (by omega),<-H6 (fS l),<-H6 (λ i=>(hK l i).1),<-H6 (λ i=>(hK l i).2),aW]
  unfold Gj;by_cases ag:12<(fS l i).length\/16<(hK l i).1.length;rw[mU ag,nf ag];rfl;rw[mV ag,nc ag];rfl
 ·show sy F l (k+1) (rows (λ i=>(hK l i).2) l.length) (rows (λ i=>(hK l i).1) l.length) (rows (fS l) l.length) ((dv l).take l.length) (l.length:Int)=_
  rw[sy,bL,hS (by rw[Ic];omega)];rfl
theorem tI{α:Type}{e:Int}(h:e≠0){x y:α}:cond (!decide (e=0)) x y=x:=by rw[mV h];rfl
theorem sM{α:Type}{x y:α}:cond (!decide ((0 :Int)=0)) x y=y:=rfl
theorem aKp{e:Int}(h:l.findSome? vW=some e):e=4:=by obtain⟨x,_,a⟩:=eE h;unfold vW at a;split at a;cases a;injection a with a;exact a.symm
theorem aE2{e:Int}(h:l.findSome? (rO l)=some e):e=5:=by obtain⟨x,_,a⟩:=eE h;unfold rO at a;split at a;cases a;injection a with a;exact a.symm
theorem awf{e:Int}(h:(ef l.length).findSome? (wY l)=some e):e=4:=by obtain⟨x,_,a⟩:=eE h;unfold wY at a;split at a;cases a;injection a with a;exact a.symm
theorem aKF{nm:List UInt8}(h:0<=cX l nm):(cE (e9 0 l) nm).getD 0=cX l nm:=by
 rw[HD];unfold cX at h⊢;cases a:eI (gB nm) l with
 |none=>rw[a]at h;simp at h
 |some i=>simp
theorem avK(g:1100<F)(ad:Fits F l):∃e,Jc F l=some e/\
 ((e≠0/\Ez F l=some (Qr,e))\/
  (e=0/\iz l/\∃B p:Int×bt,B.2.b4=e9 0 l/\p.2.dB=dv l/\
   Ez F l=cr (α:=(List (List Target))×(List (List (List UInt8)))×(List (List Field))) (pb F l B p F [] [] [] 0) λ((H,I,K):(List (List Target))×(List (List (List UInt8)))×(List (List Field)))=>some ((⟨l,p.2.dB,K,I,H⟩:aP),0))):=by
 unfold Jc Ez
 rw[auU ad,aCc ad,ae,ae]
 by_cases k:pX l=0
 case neg=>exact⟨pX l,by rw[tI k],.inl ⟨k,by rw[tI k];rfl⟩⟩
 rw[k,sM,sM]
 have f:=avN k
 have C:=f.len
 rw[aGf (by omega) f,ae]
 rcases aFq (F:=F) (by omega) f with⟨L,q,t⟩|⟨_,⟨m,q⟩,t⟩
 case inr=>
  unfold Hq
  simp only
  rw[q,t]
  exact⟨6,rfl,.inl ⟨by decide,rfl⟩⟩
 rw[t,r3,zv ⟨by omega,by omega⟩,ae,zv ⟨by omega,by omega⟩,ae]
 have u:Hq F ⟨l,[],[]⟩=some (cond (decide (0<=cX l [79,98,106,101,99,116])&&decide (0<=cX l [69,114,114,111,114])) 0 5,⟨l,e9 0 l,[]⟩):=by unfold Hq;simp only;rw[q,r3,Y5,Y5];cases decide (0<=cX l [79,98,106,101,99,116])<;>cases decide (0<=cX l [69,114,114,111,114])<;>rfl
 rw[u,ae]
 by_cases v:0<=cX l [79,98,106,101,99,116]
 case neg=>
  rw[mU (show cX l [79,98,106,101,99,116]<0 by omega),mV v]
  exact⟨5,rfl,.inl ⟨by decide,rfl⟩⟩
 rw[mV (show¬cX l [79,98,106,101,99,116]<0 by omega),mU v,nh]
 by_cases j:0<=cX l [69,114,114,111,114]
 case neg=>
  rw[mU (show cX l [69,114,114,111,114]<0 by omega),mV j]
  exact⟨5,rfl,.inl ⟨by decide,rfl⟩⟩
 rw[mV (show¬cX l [69,114,114,111,114]<0 by omega),mU j,nh,Bool.and_self,ng]
 simp only[ae,decide_true,dS,nh]
 unfold PQ
 simp only
 rw[aKn (by omega) f,aKo (by omega) f,kz,kz]
 cases D:l.findSome? vW with
 |some e=>have:=aKp D;subst this;exact⟨4,rfl,.inl ⟨by decide,rfl⟩⟩
 |none=>
 simp only[je,qn]
 obtain⟨o,n,M⟩:=aE0 (F:=F) (by omega) f
 rw[aE1 (by omega) f,kz,M,<-n]
 cases o with
 |some r=>simp only[fY]at n;have:=aE2 n.symm;refine⟨5,by simp only[fY,qn];rw[this],.inl ⟨by decide,?_⟩⟩;obtain⟨a,b⟩:=r;simp only at this;subst this;rfl
 |none=>
 simp only[je,qn,Fb,r3]
 simp only[je]at n
 rw[awe g f,kz,awd g f,kz]
 cases hc:(ef l.length).findSome? (wY l)with
 |some e=>have:=awf hc;subst this;exact⟨4,rfl,.inl ⟨by decide,rfl⟩⟩
 |none=>
 simp only[je,qn,ae,decide_true,dS,nh]
 have w:∀c∈l,c.dc=[]\/0<=cX l c.dc:=λ c y=>by have:=gS.1 n.symm c y;unfold rO at this;split at this;assumption;cases this
 have z:∀i,i<l.length->∃c,dE (dv l) l.length (i:Int)=some c:=λ i hi=>by have:=gS.1 hc i (by simpa using hi);unfold wY at this;split at this;rename_i d;exact Option.isSome_iff_exists.1 d;cases this
 have h:iz l:=⟨f,L,w,z,λ c y=>gS.1 D c y,v⟩
 have A:cX l [69,114,114,111,114]<l.length:=Uf
 obtain⟨x,N,_⟩:=yB (l:=l) j A
 unfold PR
 simp only[aKF j]
 rw[h.aaP g j A,ae,h.Yv g (e9 0 l) j A,ae,N,ae,ae]
 by_cases aj:((!decide (x.dc=[79,98,106,101,99,116]))||(decide (((fS l (cX l [69,114,114,111,114])).length:Int)=0)))=true
 ·rw[aj];exact⟨4,rfl,.inl ⟨by decide,rfl⟩⟩
 rw[gQ.2 aj,nh,nh]
 have O:0<(fS l (cX l [69,114,114,111,114])).length:=by simp only[h3,decide_eq_true_eq,not_or]at aj;omega
 have P:idx (fS l (cX l [69,114,114,111,114])) 0=some ((fS l (cX l [69,114,114,111,114]))[0]):=by have:=bu (l:=fS l (cX l [69,114,114,111,114])) (i:=0) (aN O);exact this
 rw[P,ae,ae]
 by_cases E:((fS l (cX l [69,114,114,111,114]))[0]).Kind.Kind=1
 case neg=>
  rw[mV E]
  exact⟨4,rfl,.inl ⟨by decide,rfl⟩⟩
 rw[mU E]
 simp only[dS,nh,ae,decide_true]
 rw[aKl g f,kz,aKk g f,ae]
 cases Q:(t_ l).findSome? (kB l)with
 |some e=>
  have:e=5:=by obtain⟨s,_,d⟩:=eE Q;rcases am6 (l:=l) (s:=s)with J |J;rw[J]at d;cases d;rw[J]at d;injection d with d;exact d.symm
  subst this;exact⟨5,rfl,.inl ⟨by decide,rfl⟩⟩
 |none=>
 simp only[qn,jN,decide_true,dS,nh]
 rw[aF_ g h,kz,aF9 g h,ae]
 cases R:(ef l.length).findSome? (Bj l)with
 |some e=>
  have:e=6:=by obtain⟨s,_,d⟩:=eE R;unfold Bj wZ at d;split at d;split at d;cases d;simp at d;exact d.symm;simp at d;exact d.symm
  subst this;exact⟨6,rfl,.inl ⟨by decide,rfl⟩⟩
 |none=>
 simp only[qn,jN,decide_true,dS,nh]
 rw[aEZ g h,kz,aEY g h,ae]
 cases S:(ef l.length).findSome? (λ i=>(l[i]?).bind λ c=>Hw l c i)with
 |some e=>
  have:e=4:=by
   obtain⟨i,_,d⟩:=eE S;cases G:l[i]? with
   |none=>rw[G]at d;cases d
   |some c=>rw[G,ae]at d;unfold Hw at d;rcases uX (aeU (l:=l) c) (dI l i).tail with J |J;rw[J]at d;cases d;rw[J]at d;injection d with d;exact d.symm
  subst this;exact⟨4,rfl,.inl ⟨by decide,rfl⟩⟩
 |none=>
 simp only[qn,jN,decide_true,dS,nh]
 exact⟨0,rfl,.inr ⟨rfl,h,(0,⟨l,e9 0 l,[]⟩),(0,⟨l,e9 0 l,dv l⟩),rfl,rfl,rfl⟩⟩
theorem aEu(b:1100<F)(ad:Fits F l):∃r:aP×Int,Ez F l=some r/\Jg F l=some r/\(r.2=0 ->iz l/\r.1=linked l)/\(r.2≠0 ->r.1=Qr):=by
 obtain⟨e,a,J⟩:=avK b ad;unfold Jg;rw[a,ae];rcases J with⟨f,J⟩|⟨rfl,c,g,j,k,d,J⟩;exact⟨_,J,by rw[tI f];rfl,λ h=>absurd h f,λ _=>rfl⟩
 ·rw[sM,J,aEv b c g j k d,aI4 b c];cases ag:(ef l.length).findSome? (Gj l)with
  |some r=>
   have:r=(Qr,2):=by obtain⟨i,_,a⟩:=eE ag;unfold Gj at a;split at a;injection a with a;exact a.symm;cases a
   subst this;exact⟨_,rfl,rfl,λ h=>absurd h (by decide),λ _=>rfl⟩
  |none=>refine⟨_,rfl,?_,λ _=>⟨c,?_⟩,λ h=>absurd rfl h⟩;simp only[Fb,r3,d];simp only[d];rfl
end
theorem nB{α:Type} [DecidableEq α]{F:Nat}{a b:List α}(j:a.length=b.length){L:Nat->Int->Option (Way Bool Unit)}(d:a.length<=140737488355328)
 (aj:∀k (i:Nat) x y,a[i]? =some x->b[i]? =some y->L (k+1) (i:Int)=cond (!decide (x=y)) (some (.out false)) (L k (aw ((i:Int)+1))))(f:∀k,L (k+1) (a.length:Int)=some (.go ()))(g:a.length<F) :
 L F 0=some (if a=b then .go ()else .out false):=by
 have l1:L F 0=some (cC ((ef a.length).findSome? λ i=>if a[i]? =b[i]? then none else some false)):=lh _ d (λ k i hi=>by
  rw[aj k i a[i] (b[i]'(by omega)) (aN hi) (aN (show i<b.length by omega)),aN hi,aN (show i<b.length by omega)];simp only[aF];by_cases e:a[i]=b[i]'(by omega);rw[mU e,nf e];rfl
  ·rw[mV e,nc e];rfl) f g
 rw[l1]
 cases ad:(ef a.length).findSome? λ i=>if a[i]? =b[i]? then none else some false with
 |some e=>obtain⟨i,hi,c⟩:=eE ad;split at c;cases c;rename_i h;injection c with c;subst c;rw[nc (λ e=>h (by rw[e]))];rfl
 |none=>rw[nf];rfl;apply kX;intro i;by_cases hi:i<a.length;have:=gS.1 ad i (by simpa using hi);split at this;assumption;cases this;rw[gH (by omega),gH (by omega)]
theorem Vm{α β:Type}(l:List α):l.findSome? (λ _=>(none:Option β))=none:=by rw[gS];intro _ _;rfl
theorem pY{p:Prop} [Decidable p]{Y:Option Bool}:cr (α:=Unit) (some (if p then(.go ():Way Bool Unit)else .out false)) (λ _=>Y)=if p then Y else some false:=by by_cases h:p<;>simp[h]
theorem aeV{p:Prop} [Decidable p]{Y:Option (Way Bool Unit)}:df (α:=Unit) (some (if p then(.go ():Way Bool Unit)else .out false)) (λ _=>Y)=if p then Y else some (.out false):=by by_cases h:p<;>simp[h]
theorem nU{α:Type}{a b:List α}:decide ((a.length:Int)=(b.length:Int))=decide (a.length=b.length):=by rw[iy];simp;omega
theorem sN{α:Type} [DecidableEq α]{a b:List α}(h:a.length≠b.length):decide (a=b)=false:=mV (λ e=>h (by rw[e]))
section
variable{F:Nat}
theorem amo{a b:List Field}(ap:Small F a.length):Ga F a b=some (decide (a=b)):=by unfold Ga;rw[nU];by_cases c:a.length=b.length;rw[mU c];simp only[dS,nh];rw[nB c ap.1 (L:=C5 a b) (λ k i x y d hy=>by rw[C5,bM (aR.1 d).1,ng,bu d,ae,bu hy,ae]) (λ k=>by rw[C5,bL];rfl) ap.2,pY];by_cases h:a=b<;>simp[h];rw[mV c,sN c];rfl
theorem aJJ{a b:List Kind}(ap:Small F a.length):wL F a b=some (decide (a=b)):=by unfold wL;rw[nU];by_cases c:a.length=b.length;rw[mU c];simp only[dS,nh];rw[nB c ap.1 (L:=q5 a b) (λ k i x y d hy=>by rw[q5,bM (aR.1 d).1,ng,bu d,ae,bu hy,ae]) (λ k=>by rw[q5,bL];rfl) ap.2,pY];by_cases h:a=b<;>simp[h];rw[mV c,sN c];rfl
theorem aJN{l:List aq}(h:Fits F l):F_ F l l=some true:=by unfold F_;rw[mU rfl];simp only[dS,nh];have l1:C2 F l l F 0=some (cC (l.findSome? λ _=>(none:Option Bool))):=each (λ _=>none) h.1.1 (λ k i c a=>by have hc:=h.2 c (bH a);have e:C3 F c c F 0=some (cC (c.bp.findSome? λ _=>(none:Option Bool))):=each (λ _=>none) hc.methods.1 (λ k i m hy=>by have b:=hc.method m (bH hy);have f:C4 m m F 0=some (cC (m.cL.findSome? λ _=>(none:Option Bool))):=each (λ _=>none) b.Ai.1 (λ k i x d=>by rw[C4,bM (aR.1 d).1,ng,bu d,ae,ae,mU rfl];rfl) (λ k=>by rw[C4,bL];rfl) b.Ai.2;rw[C3,bM (aR.1 hy).1,ng,bu hy,ae,ae,aJJ b.args,ae,f,Vm];simp;rfl) (λ k=>by rw[C3,bL];rfl) hc.methods.2;rw[C2,bM (aR.1 a).1,ng,bu a,ae,ae,amo hc.fields,ae,e,Vm];simp;rfl) (λ k=>by rw[C2,bL];rfl) h.1.2;rw[l1,Vm];rfl
structure Ni (F:Nat) (k:aP):Prop where
 dB:Small F k.aY.length
 fields:Small F k.Fields.length
 field:∀x∈k.Fields,Small F x.length
 names:Small F k.Names.length
 name:∀x∈k.Names,Small F x.length
 targets:Small F k.aZ.length
 target:∀x∈k.aZ,Small F x.length
instance:DecidableEq (List (List Field)):=inferInstance
theorem aJK{a b:aP}(ap:Ni F a)(hc:F_ F a.a1 b.a1=some true) :
 Gb F a b=some (decide (a.aY=b.aY/\a.Fields=b.Fields/\a.Names=b.Names/\a.aZ=b.aZ)):=by
 unfold Gb
 rw[hc,ae,nU,nU,nU,nU]
 have aJ:∀(_: ¬(a.aY=b.aY/\a.Fields=b.Fields/\a.Names=b.Names/\a.aZ=b.aZ)),decide (a.aY=b.aY/\a.Fields=b.Fields/\a.Names=b.Names/\a.aZ=b.aZ)=false:=λ h=>mV h
 by_cases f:b.aY.length=a.aY.length
 case neg=>rw[aJ (λ e=>f (by rw[e.1])),mV f];rfl
 by_cases J:a.Fields.length=b.Fields.length
 case neg=>rw[aJ (λ e=>J (by rw[e.2.1])),mU f,mV J];rfl
 by_cases g:a.Names.length=b.Names.length
 case neg=>rw[aJ (λ e=>g (by rw[e.2.2.1])),mU f,mU J,mV g];rfl
 by_cases n:a.aZ.length=b.aZ.length
 case neg=>rw[aJ (λ e=>n (by rw[e.2.2.2])),mU f,mU J,mU g,mV n];rfl
 rw[mU f,mU J,mU g,mU n]
 simp only[dS,Bool.or_self,nh]
 have l1:=nB (F:=F) f.symm ap.dB.1 (L:=zy a b) (λ k i x y c hy=>by rw[zy,bM (aR.1 c).1,ng,bu c,ae,bu hy,ae]) (λ k=>by rw[zy,bL];rfl) ap.dB.2
 have q:=nB (F:=F) J ap.fields.1 (L:=C6 F a b) (λ k i x y c hy=>by rw[C6,bM (aR.1 c).1,ng,bu c,ae,bu hy,ae,amo (ap.field x (bH c)),ae]) (λ k=>by rw[C6,bL];rfl) ap.fields.2
 have r:=nB (F:=F) g ap.names.1 (L:=C7 F a b) (λ k i x y c hy=>by
  have l:=ap.name x (bH c);rw[C7,bM (aR.1 c).1,ng,bu c,ae,bu hy,ae,nU];by_cases d:x.length=y.length;rw[mU d];simp only[dS,nh];rw[nB (F:=F) d l.1 (L:=C8 a b i) (λ k j u v m o=>by rw[C8,bu c,ae,bM (aR.1 m).1,ng,ae,bu m,ae,bu hy,ae,bu o,ae]) (λ k=>by rw[C8,bu c,ae,bL];rfl) l.2,aeV];by_cases h:x=y;rw[nf h,mU h];rfl;rw[nc h,mV h];rfl
  ·rw[mV d,sN d];rfl) (λ k=>by rw[C7,bL];rfl) ap.names.2
 have s:=nB (F:=F) n ap.targets.1 (L:=C9 F a b) (λ k i x y c hy=>by
  have l:=ap.target x (bH c);rw[C9,bM (aR.1 c).1,ng,bu c,ae,bu hy,ae,nU];by_cases d:x.length=y.length;rw[mU d];simp only[dS,nh];rw[nB (F:=F) d l.1 (L:=C_ a b i) (λ k j u v m o=>by rw[C_,bu c,ae,bM (aR.1 m).1,ng,ae,bu m,ae,bu hy,ae,bu o,ae]) (λ k=>by rw[C_,bu c,ae,bL];rfl) l.2,aeV];by_cases h:x=y;rw[nf h,mU h];rfl;rw[nc h,mV h];rfl
  ·rw[mV d,sN d];rfl) (λ k=>by rw[C9,bL];rfl) ap.targets.2
 rw[l1,q,r,s,pY,pY,pY,pY]
 by_cases p:a.aY=b.aY
 ·by_cases ao:a.Fields=b.Fields;by_cases aW:a.Names=b.Names;by_cases bR:a.aZ=b.aZ<;>simp[p,ao,aW,bR];simp[aW];simp[ao]
 ·simp[p]
end
section
variable{F:Nat}{l:List aq}
theorem aJh{β:Type}{f:Int->β}{n:Nat}:(rows f n).length=n:=by simp[rows]
end
section
variable{F:Nat}
theorem axy{a b:List (Int)}(ap:Small F a.length):Mg F a b=some (decide (a=b)):=by unfold Mg;rw[nU];by_cases c:a.length=b.length;rw[mU c];simp only[dS,nh];rw[nB c ap.1 (L:=BC a b) (λ k i x y d hy=>by rw[BC,bM (aR.1 d).1,ng,bu d,ae,bu hy,ae]) (λ k=>by rw[BC,bL];rfl) ap.2,pY];by_cases h:a=b<;>simp[h];rw[mV c,sN c];rfl
theorem axw{a b:List (Field)}(ap:Small F a.length):Mc F a b=some (decide (a=b)):=by unfold Mc;rw[nU];by_cases c:a.length=b.length;rw[mU c];simp only[dS,nh];rw[nB c ap.1 (L:=BA a b) (λ k i x y d hy=>by rw[BA,bM (aR.1 d).1,ng,bu d,ae,bu hy,ae]) (λ k=>by rw[BA,bL];rfl) ap.2,pY];by_cases h:a=b<;>simp[h];rw[mV c,sN c];rfl
theorem axz{a b:List (List UInt8)}(ap:Small F a.length):Mh F a b=some (decide (a=b)):=by unfold Mh;rw[nU];by_cases c:a.length=b.length;rw[mU c];simp only[dS,nh];rw[nB c ap.1 (L:=BD a b) (λ k i x y d hy=>by rw[BD,bM (aR.1 d).1,ng,bu d,ae,bu hy,ae]) (λ k=>by rw[BD,bL];rfl) ap.2,pY];by_cases h:a=b<;>simp[h];rw[mV c,sN c];rfl
theorem axB{a b:List (Target)}(ap:Small F a.length):Mf F a b=some (decide (a=b)):=by unfold Mf;rw[nU];by_cases c:a.length=b.length;rw[mU c];simp only[dS,nh];rw[nB c ap.1 (L:=BB a b) (λ k i x y d hy=>by rw[BB,bM (aR.1 d).1,ng,bu d,ae,bu hy,ae]) (λ k=>by rw[BB,bL];rfl) ap.2,pY];by_cases h:a=b<;>simp[h];rw[mV c,sN c];rfl
theorem axx{a b:List (List Field)}(ap:Small F a.length)(e:∀x∈a,Small F x.length):L_ F a b=some (decide (a=b)):=by unfold L_;rw[nU];by_cases c:a.length=b.length;rw[mU c];simp only[dS,nh];rw[nB c ap.1 (L:=Bx F a b) (λ k i x y d J=>by rw[Bx,bM (aR.1 d).1,ng,bu d,ae,bu J,ae,axw (e x (bH d)),ae]) (λ k=>by rw[Bx,bL];rfl) ap.2,pY];by_cases h:a=b<;>simp[h];rw[mV c,sN c];rfl
theorem axA{a b:List (List (List UInt8))}(ap:Small F a.length)(e:∀x∈a,Small F x.length):Mb F a b=some (decide (a=b)):=by unfold Mb;rw[nU];by_cases c:a.length=b.length;rw[mU c];simp only[dS,nh];rw[nB c ap.1 (L:=Bz F a b) (λ k i x y d J=>by rw[Bz,bM (aR.1 d).1,ng,bu d,ae,bu J,ae,axz (e x (bH d)),ae]) (λ k=>by rw[Bz,bL];rfl) ap.2,pY];by_cases h:a=b<;>simp[h];rw[mV c,sN c];rfl
theorem axC{a b:List (List Target)}(ap:Small F a.length)(e:∀x∈a,Small F x.length):Ma F a b=some (decide (a=b)):=by unfold Ma;rw[nU];by_cases c:a.length=b.length;rw[mU c];simp only[dS,nh];rw[nB c ap.1 (L:=By F a b) (λ k i x y d J=>by rw[By,bM (aR.1 d).1,ng,bu d,ae,bu J,ae,axB (e x (bH d)),ae]) (λ k=>by rw[By,bL];rfl) ap.2,pY];by_cases h:a=b<;>simp[h];rw[mV c,sN c];rfl
theorem aJM{a b:aP}(ap:Ni F a):Hr F a b=some (decide (a.aY=b.aY/\a.Fields=b.Fields/\a.Names=b.Names/\a.aZ=b.aZ)):=by
 unfold Hr;rw[axy ap.dB,ae];by_cases c:a.aY=b.aY;case neg=>rw[mV c,mV (λ e=>c e.1)];rfl
 rw[mU c,ng,axx ap.fields ap.field,ae];by_cases ao:a.Fields=b.Fields;case neg=>rw[mV ao,mV (λ e=>ao e.2.1)];rfl
 rw[mU ao,ng,axA ap.names ap.name,ae];by_cases aW:a.Names=b.Names;case neg=>rw[mV aW,mV (λ e=>aW e.2.2.1)];rfl
 rw[mU aW,ng,axC ap.targets ap.target,ae];congr 1;rw[iy];simp[c,ao,aW]
theorem avL{k:aP}(j:1100<F)(hc:Fits F k.a1)(i:Ni F k):∃e,pa F k=some e/\uI F k=some e/\((e=4)\/(e=0/\iz k.a1/\k=linked k.a1)):=by
 obtain⟨r,l,J,m,q⟩:=aEu j hc;unfold pa uI;rw[l,J,ae,ae];by_cases g:r.2=0;case neg=>rw[tI g,tI g];exact⟨4,rfl,rfl,.inl rfl⟩
 obtain⟨n,e⟩:=m g;have o:Hr F (⟨k.a1,k.aY,k.Fields,k.Names,k.aZ⟩:aP) (⟨r.1.a1,r.1.aY,r.1.Fields,r.1.Names,r.1.aZ⟩:aP)=some (decide (k.aY=r.1.aY/\k.Fields=r.1.Fields/\k.Names=r.1.Names/\k.aZ=r.1.aZ)):=aJM (a:=k) (b:=r.1) i;have p:Gb F (⟨k.a1,k.aY,k.Fields,k.Names,k.aZ⟩:aP) (⟨r.1.a1,r.1.aY,r.1.Fields,r.1.Names,r.1.aZ⟩:aP)=some (decide (k.aY=r.1.aY/\k.Fields=r.1.Fields/\k.Names=r.1.Names/\k.aZ=r.1.aZ)):=aJK (a:=k) (b:=r.1) i (by rw[e];exact aJN hc);rw[o,p,g];simp only[sM,ae];by_cases aj:k.aY=r.1.aY/\k.Fields=r.1.Fields/\k.Names=r.1.Names/\k.aZ=r.1.aZ;rw[mU aj];refine⟨0,rfl,rfl,.inr ⟨rfl,n,?_⟩⟩;obtain⟨h,ao,aW,bR⟩:=aj;rw[e]at h ao aW bR;obtain⟨a,b,c,d,f⟩:=k;simp only at h ao aW bR;subst h ao aW bR;rfl;rw[mV aj];exact⟨4,rfl,rfl,.inl rfl⟩
end
def Bi(h:aV):Prop:=(3<=h.ak/\h.ak<=2000)/\(3<=h.aK/\h.aK<=2000)
def okB(h:aV):Prop:=(h.Words.length:Int)=1+h.ak+h.aK
def HG(h:aV):Prop:=(1<=h.aO/\h.aO<=h.ak+1)/\(h.ak+1<=h.aM/\h.aM<=h.ak+h.aK+1)/\1<=h.Next
instance (h:aV):Decidable (Bi h):=inferInstanceAs (Decidable ((3<=h.ak/\h.ak<=2000)/\(3<=h.aK/\h.aK<=2000)))
instance (h:aV):Decidable (okB h):=inferInstanceAs (Decidable ((h.Words.length:Int)=1+h.ak+h.aK))
instance (h:aV):Decidable (HG h):=inferInstanceAs (Decidable ((1<=h.aO/\h.aO<=h.ak+1)/\(h.ak+1<=h.aM/\h.aM<=h.ak+h.aK+1)/\1<=h.Next))
def n1(h:aV):Int:=if Bi h then(if okB h then(if HG h then 0 else 3)else 1)else 3
theorem aJ1(h:aV):G0 h=some (n1 h):=by
 unfold G0 p5 n1;simp only[ae];by_cases d:Bi h
 case neg=>
  rw[nc d]
  unfold Bi at d
  by_cases a:3<=h.ak/\h.ak<=2000
  ·have b: ¬(3<=h.aK/\h.aK<=2000):=λ b=>d ⟨a,b⟩;rw[show(decide (3<=h.ak)&&decide (h.ak<=2000))=true by simpa using a,show(decide (3<=h.aK)&&decide (h.aK<=2000))=false by rw[gQ];simpa using b];rfl
  ·rw[show(decide (3<=h.ak)&&decide (h.ak<=2000))=false by rw[gQ];simpa using a];rfl
 rw[nf d];unfold Bi at d;obtain⟨⟨g,i⟩,a3,a4⟩:=d
 rw[show(decide (3<=h.ak)&&decide (h.ak<=2000))=true by simp;omega,show(decide (3<=h.aK)&&decide (h.aK<=2000))=true by simp;omega,
  cg (n:=1+h.ak) (by omega) (by omega),cg (n:=1+h.ak+h.aK) (by omega) (by omega),cg (n:=h.ak+1) (by omega) (by omega),cg (n:=h.ak+h.aK) (by omega) (by omega),cg (n:=h.ak+h.aK+1) (by omega) (by omega)]
 simp only[dS,nh];by_cases e:okB h;case neg=>rw[nc e,show decide ((h.Words.length:Int)=1+h.ak+h.aK)=false from mV e];rfl
 rw[nf e,show decide ((h.Words.length:Int)=1+h.ak+h.aK)=true from mU e];simp only[dS,nh];by_cases f:HG h;rw[nf f];obtain⟨c1,c2,c3⟩:=f;rw[show(decide (1<=h.aO)&&decide (h.aO<=h.ak+1))=true by simpa using c1,show(decide (h.ak+1<=h.aM)&&decide (h.aM<=h.ak+h.aK+1))=true by simpa using c2,show decide (h.Next<1)=false from mV (by omega)];rfl
 ·rw[nc f];by_cases c1:1<=h.aO/\h.aO<=h.ak+1
  ·rw[show(decide (1<=h.aO)&&decide (h.aO<=h.ak+1))=true by simpa using c1];by_cases c2:h.ak+1<=h.aM/\h.aM<=h.ak+h.aK+1
   ·have c3:h.Next<1:=by
     rcases Int.lt_or_le h.Next 1 with c |c
     ·exact c
     ·exact absurd ⟨c1,c2,c⟩ f
    rw[mU c3,Bool.or_true];rfl
   ·rw[show(decide (h.ak+1<=h.aM)&&decide (h.aM<=h.ak+h.aK+1))=false by rw[gQ];simpa using c2];rfl
  ·rw[show(decide (1<=h.aO)&&decide (h.aO<=h.ak+1))=false by rw[gQ];simpa using c1];rfl
structure hI (h:aV):Prop where
 A:Bi h
 B:okB h
 C:HG h
theorem abf{h:aV}:n1 h=0↔hI h:=by unfold n1;constructor;intro e;split at e;split at e;split at e;exact⟨‹_›,‹_›,‹_›⟩;cases e;cases e;cases e;rintro⟨a,b,c⟩;rw[nf a,nf b,nf c]
section
variable{F:Nat}{k:aP}{W:List Int}
theorem eB.mem{to q:Nat}{L:List Int}(h:eB k W to q L):∀a∈L,∃n:Nat,a=(n:Int)/\q<=n/\n+3+(wd W (n+1)).toNat<=to/\eY k (wd W n)=true/\isLen k (wd W n) (wd W (n+1))=true:=by
 induction h with
 |nil=>intro a ap;cases ap
 |cons b J c _ d=>intro a ap;rcases cH.1 ap with rfl |ap;exact⟨_,rfl,cP _,c,b,J⟩;obtain⟨n,e,g,f⟩:=d a ap;exact⟨n,e,by omega,f⟩
theorem eB.yD{to q:Nat}{L L':List Int}(h:eB k W to q L)(h':eB k W to q L'):L=L':=by
 induction h generalizing L' with
 |nil=>
  cases h' with
  |nil=>rfl
  |cons _ _ _ _=>omega
 |cons _ _ c _ a=>
  cases h' with
  |nil=>omega
  |cons _ _ _ b=>rw[a b]
theorem eB.len{to q:Nat}{L:List Int}(h:eB k W to q L):3*L.length+q<=to:=by
 induction h with
 |nil=>simp
 |cons _ _ a _ b=>simp only[di];omega
theorem amS{l:List Int}{N:Nat}(h:zD l)(a:∀i,i<l.length->0<=wd l i/\wd l i<N):l.length<=N:=by
 have key:∀i,i<l.length->(i:Int)<=wd l i:=by
  intro i;induction i with
  |zero=>intro hi;exact(a 0 hi).1
  |succ i b=>intro hi;have:=h i (i+1) (by omega) hi;have:=b (by omega);omega
 rcases lI l.length with e |e;omega;have:=key (l.length-1) (by omega);have:=(a (l.length-1) (by omega)).2;omega
theorem P0(x:Int):∀A:List Int,(cE (A.map λ a=>(a,true)) x).getD false=decide (x∈A)
 |[]=>by simp[cE]
 |a::r=>by rw[ez,cE];by_cases e:a=x;simp[e];rw[nc e,P0 x r];have: ¬x=a:=λ h=>e h.symm;simp[this]
def view(h:aV)(k:aP)(Y O:List Int):bk:=⟨h,⟨k⟩,Y,O,(Y++O).map λ a=>(a,true)⟩
structure gU (h:aV) (k:aP) (Y O:List Int):Prop where
 y:eB k h.Words h.aO.toNat 1 Y
 o:eB k h.Words h.aM.toNat (h.ak+1).toNat O
theorem hI.e1{h:aV}(aj:hI h):h.Words.length<=4001:=by obtain⟨⟨⟨a,b⟩,c,d⟩,e,_⟩:=aj;unfold okB at e;omega
theorem gU.py{h:aV}{Y O:List Int}(f:gA k)(aj:hI h)(c:gU h k Y O):pS (view h k Y O):=by
 have i:=aj.e1;obtain⟨⟨⟨j,l⟩,a3,a4⟩,b,⟨c1,c2⟩,⟨c3,c4⟩,c5⟩:=aj;unfold okB at b;refine⟨f,by show h.Words.length<=4900;omega,?_,λ a ap=>?_,λ x=>P0 x _⟩
 ·have:=c.y.len;have:=c.o.len;show Y.length+O.length<=5000
  omega
 ·have ap:a∈Y++O:=ap;rcases cf.1 ap with ap |ap;obtain⟨n,rfl,g,J,d,e⟩:=c.y.mem a ap;exact⟨by omega,by show((n:Int).toNat)+3+(wd h.Words ((n:Int).toNat+1)).toNat<=h.Words.length;rw[bV];omega,by rw[bV];exact d,by rw[bV];exact e⟩;obtain⟨n,rfl,g,J,d,e⟩:=c.o.mem a ap;exact⟨by omega,by show((n:Int).toNat)+3+(wd h.Words ((n:Int).toNat+1)).toNat<=h.Words.length;rw[bV];omega,by rw[bV];exact d,by rw[bV];exact e⟩
def a8(v:bk):Int:=if(v.ak++v.aK).any (mJ v)then 3 else if((v.ak++v.aK).map (aj v.H.Words)).Nodup then 0 else 6
def lG(v:bk):Int:=if(v.ak++v.aK).any (pn v)then 5 else if(free v.H).any (λ x=>!decide (x=0))then 1 else 0
def Bd(v:bk):Int:=if(ef v.H.aU.length).any (h0 v)||v.aK.any (qW v)then 4 else 0
def px(v:bk):Int:=if a8 v=0 then(if lG v=0 then Bd v else lG v)else a8 v
inductive Spec (h:aV) (k:aP):Option bk×Int->Prop
 |size: ¬hI h->Spec h k (none,n1 h)
 |form:hI h->(∀Y O,¬gU h k Y O)->Spec h k (none,1)
 |rest {Y O:List Int}:hI h->gU h k Y O->Spec h k (if px (view h k Y O)=0 then some (view h k Y O)else none,px (view h k Y O))
theorem Zf(y:10000<F){h:aV}(s:gA k)(E:Small F h.aU.length):∃r,va F h k=some r/\Spec h k r:=by
 unfold va;have Q:G0 (⟨h.Words,h.ak,h.aK,h.aO,h.aM,h.aU,h.Next⟩:aV)=some (n1 h):=aJ1 h;rw[Q,ae];by_cases aj:hI h
 case neg=>
  rw[tI (λ e=>aj (abf.1 e))]
  exact⟨_,rfl,.size aj⟩
 rw[abf.2 aj,sM];have hw:=aj.e1;have l:=aj;obtain⟨⟨⟨cb,a2⟩,a3,a4⟩,b,⟨c1,c2⟩,⟨c3,c4⟩,c5⟩:=aj;unfold okB at b;have G:=am2 (F:=F) (by omega) (⟨h,⟨k⟩,[],[],[]⟩:bk) s (q:=1) (to:=h.aO.toNat) (by omega) (by show _<=h.Words.length;omega) (by show h.Words.length<=5000;omega) (λ p A=>by cases A);rw[show((h.aO.toNat:Nat):Int)=h.aO by omega]at G;rw[cg (n:=h.ak+1) (by omega) (by omega)];rcases G with⟨Y,H,d⟩|⟨B,g,d⟩
 case inr=>
  have d:nJ F (⟨(⟨h.Words,h.ak,h.aK,h.aO,h.aM,h.aU,h.Next⟩:aV),(⟨(⟨k.a1,k.aY,k.Fields,k.Names,k.aZ⟩:aP)⟩:b9),[],[],[]⟩:bk) 1 h.aO=some ([],false,(⟨h,⟨k⟩,[],[],g⟩:bk)):=d
  rw[d,ae]
  have v:∃r,nJ F (⟨(⟨h.Words,h.ak,h.aK,h.aO,h.aM,h.aU,h.Next⟩:aV),(⟨(⟨k.a1,k.aY,k.Fields,k.Names,k.aZ⟩:aP)⟩:b9),[],[],g⟩:bk) (h.ak+1) h.aM=some r:=by
   unfold nJ;have key:∀(f q:Nat)(acc:List Int)(m:List (Int×Bool)),q<=h.aM.toNat->h.aM.toNat-q<f->acc.length+(h.aM.toNat-q)<=5000->∃r,p4 h.aM (⟨h,⟨k⟩,[],[],g⟩:bk) f acc m (q:Int)=some r:=by
    intro f;induction f with
    |zero=>intro q acc m _ R;omega
    |succ f S=>
     intro q acc m R ad xg;rw[p4];by_cases I:(q:Int)<h.aM;case neg=>rw[mV I];exact⟨_,rfl⟩
     rw[mU I,ng,cg (n:=(q:Int)+3) (by omega) (by omega)];by_cases K:h.aM<(q:Int)+3;rw[mU K];exact⟨_,rfl⟩;rw[mV K,nh];show∃r,(idx h.Words (q:Int)).bind _=some r
     rw[fh (by omega),ae];show∃r,(idx h.Words (aw ((q:Int)+1))).bind _=some r
     rw[cg (n:=(q:Int)+1) (by omega) (by omega),jl (i:=q+1) (by omega) (by omega),ae];have d:s6 (⟨(⟨k.a1,k.aY,k.Fields,k.Names,k.aZ⟩:aP)⟩:b9) (wd h.Words q)=some (eY k (wd h.Words q)):=abb s _;show∃r,(s6 (⟨(⟨k.a1,k.aY,k.Fields,k.Names,k.aZ⟩:aP)⟩:b9) (wd h.Words q)).bind _=some r
     rw[d,ae];cases w:eY k (wd h.Words q)with
     |false=>exact⟨_,rfl⟩
     |true=>
      have ao:s7 (⟨(⟨k.a1,k.aY,k.Fields,k.Names,k.aZ⟩:aP)⟩:b9) (wd h.Words q) (wd h.Words (q+1))=some (isLen k (wd h.Words q) (wd h.Words (q+1))):=abd s w _;rw[dS,nh];show∃r,(s7 (⟨(⟨k.a1,k.aY,k.Fields,k.Names,k.aZ⟩:aP)⟩:b9) (wd h.Words q) (wd h.Words (q+1))).bind _=some r
      rw[ao,ae];cases c:isLen k (wd h.Words q) (wd h.Words (q+1))with
      |false=>exact⟨_,rfl⟩
      |true=>
       obtain⟨⟨l0,l1⟩,_⟩:=iE.1 c;rw[dS,iu,cg (n:=(q:Int)+3+wd h.Words (q+1)) (by omega) (by omega)];by_cases L:h.aM<(q:Int)+3+wd h.Words (q+1);rw[mU L];exact⟨_,rfl⟩
       rw[mV L,nh,jf (by simp;omega),ae,cg (n:=3+wd h.Words (q+1)) (by omega) (by omega),cg (n:=(q:Int)+(3+wd h.Words (q+1))) (by omega) (by omega),
        show(q:Int)+(3+wd h.Words (q+1))=((q+3+(wd h.Words (q+1)).toNat:Nat):Int) by omega]
       exact S _ _ _ (by omega) (by omega) (by simp;omega)
   obtain⟨r,x⟩:=key F (h.ak+1).toNat [] g (by omega) (by omega) (by simp;omega);rw[show(((h.ak+1).toNat:Nat):Int)=h.ak+1 by omega]at x;have x:p4 h.aM (⟨(⟨h.Words,h.ak,h.aK,h.aO,h.aM,h.aU,h.Next⟩:aV),(⟨(⟨k.a1,k.aY,k.Fields,k.Names,k.aZ⟩:aP)⟩:b9),[],[],g⟩:bk) F [] g (h.ak+1)=some r:=x;rw[x];cases r<;>exact⟨_,rfl⟩
  obtain⟨r,ao⟩:=v
  rw[ao,ae]
  exact⟨_,rfl,.form l (λ Y O c=>B Y c.y)⟩
 have d:nJ F (⟨(⟨h.Words,h.ak,h.aK,h.aO,h.aM,h.aU,h.Next⟩:aV),(⟨(⟨k.a1,k.aY,k.Fields,k.Names,k.aZ⟩:aP)⟩:b9),[],[],[]⟩:bk) 1 h.aO=some (Y,true,(⟨h,⟨k⟩,[],[],Y.map λ a=>(a,true)⟩:bk)):=d;rw[d,ae];have v:=am2 (F:=F) (by omega) (⟨h,⟨k⟩,[],[],Y.map λ a=>(a,true)⟩:bk) s (q:=(h.ak+1).toNat) (to:=h.aM.toNat) (by omega) (by show _<=h.Words.length;omega) (by show h.Words.length<=5000;omega) (λ p A=>by
  obtain⟨a,ap,rfl⟩:=hQ.1 A;have C:eB k h.Words h.aO.toNat 1 Y:=H;obtain⟨n,rfl,M,J,_⟩:=C.mem a ap;show(n:Int)<_
  omega)
 rw[show((h.aM.toNat:Nat):Int)=h.aM by omega,show(((h.ak+1).toNat:Nat):Int)=h.ak+1 by omega]at v;rcases v with⟨O,T,ao⟩|⟨B,g,ao⟩
 case inr=>
  have ao:nJ F (⟨(⟨h.Words,h.ak,h.aK,h.aO,h.aM,h.aU,h.Next⟩:aV),(⟨(⟨k.a1,k.aY,k.Fields,k.Names,k.aZ⟩:aP)⟩:b9),[],[],Y.map λ a=>(a,true)⟩:bk) (h.ak+1) h.aM=_:=ao
  show∃r,(nJ F (⟨(⟨h.Words,h.ak,h.aK,h.aO,h.aM,h.aU,h.Next⟩:aV),(⟨(⟨k.a1,k.aY,k.Fields,k.Names,k.aZ⟩:aP)⟩:b9),[],[],Y.map λ a=>(a,true)⟩:bk) (h.ak+1) h.aM).bind _=some r/\_
  rw[ao,ae]
  exact⟨_,rfl,.form l (λ Y' O' c=>B O' c.o)⟩
 have ao:nJ F (⟨(⟨h.Words,h.ak,h.aK,h.aO,h.aM,h.aU,h.Next⟩:aV),(⟨(⟨k.a1,k.aY,k.Fields,k.Names,k.aZ⟩:aP)⟩:b9),[],[],Y.map λ a=>(a,true)⟩:bk) (h.ak+1) h.aM=some (O,true,(⟨h,⟨k⟩,[],[],(Y.map λ a=>(a,true))++O.map λ a=>(a,true)⟩:bk)):=ao;show∃r,(nJ F (⟨(⟨h.Words,h.ak,h.aK,h.aO,h.aM,h.aU,h.Next⟩:aV),(⟨(⟨k.a1,k.aY,k.Fields,k.Names,k.aZ⟩:aP)⟩:b9),[],[],Y.map λ a=>(a,true)⟩:bk) (h.ak+1) h.aM).bind _=some r/\_
 rw[ao,ae,<-jM];have c:gU h k Y O:=⟨H,T⟩
 have j:=c.py s l;have U:GX F (⟨(⟨h.Words,h.ak,h.aK,h.aO,h.aM,h.aU,h.Next⟩:aV),(⟨(⟨k.a1,k.aY,k.Fields,k.Names,k.aZ⟩:aP)⟩:b9),Y,O,(Y++O).map λ a=>(a,true)⟩:bk)=some (a8 (view h k Y O)):=azI y (view h k Y O) j.oK (λ a ap=>⟨(j.tY a ap).pos,by have:=(j.tY a ap).fit;omega⟩) (by have:=j.e1;omega) (by simp[view]);have V:GZ F (⟨(⟨h.Words,h.ak,h.aK,h.aO,h.aM,h.aU,h.Next⟩:aV),(⟨(⟨k.a1,k.aY,k.Fields,k.Names,k.aZ⟩:aP)⟩:b9),Y,O,(Y++O).map λ a=>(a,true)⟩:bk)=some (lG (view h k Y O)):=aLf y j (by show 0<=h.ak;omega) ⟨by show 0<=h.aO;omega,by show h.aO<=h.ak+1;omega,by show h.ak+1<=h.Words.length;omega⟩ ⟨by show 0<=h.aM;omega,by show h.aM<=h.Words.length;omega⟩
 have X:GY F (⟨(⟨h.Words,h.ak,h.aK,h.aO,h.aM,h.aU,h.Next⟩:aV),(⟨(⟨k.a1,k.aY,k.Fields,k.Names,k.aZ⟩:aP)⟩:b9),Y,O,(Y++O).map λ a=>(a,true)⟩:bk)=some (Bd (view h k Y O)):=
  aFX y j E.1 E.2 (λ P=>by
   refine hl (amS (N:=5000) (abm λ i hi=>?_) (λ i hi=>?_)) (by omega);have:=P (i+1) hi;unfold h0 at this;simp only[ik,mG,decide_eq_false_iff_not,Nat.add_sub_cancel]at this;rcases this.1 with z |z;omega;have z: ¬wd h.aU (i+1)<=wd h.aU i:=z;show wd h.aU i<wd h.aU (i+1);omega
   ·have:=P i hi;unfold h0 tH at this;simp only[ik]at this;have Z:wd (view h k Y O).H.aU i∈(view h k Y O).ak++(view h k Y O).aK:=by have:=this.2.1.1;simp only[Bool.not_eq_false']at this;exact of_decide_eq_true this
    have w:=j.tY _ Z;have M:0<=wd h.aU i:=w.pos;have J:(wd h.aU i).toNat+3+(wd h.Words ((wd h.aU i).toNat+1)).toNat<=h.Words.length:=w.fit;exact⟨M,by show wd h.aU i<((5000 :Nat):Int);omega⟩)
 simp only[dS,Bool.or_self,nh];rw[U,ae];by_cases o:a8 (view h k Y O)=0
 case neg=>
  rw[tI o]
  have bZ:px (view h k Y O)=a8 (view h k Y O):=by unfold px;rw[nc o]
  have:=Spec.rest l c
  rw[bZ,nc o]at this
  exact⟨_,rfl,this⟩
 rw[o,sM,V,ae];by_cases t:lG (view h k Y O)=0
 case neg=>
  rw[tI t]
  have bZ:px (view h k Y O)=lG (view h k Y O):=by unfold px;rw[nf o,nc t]
  have:=Spec.rest l c
  rw[bZ,nc t]at this
  exact⟨_,rfl,this⟩
 rw[t,sM,X,ae];have bZ:px (view h k Y O)=Bd (view h k Y O):=by unfold px;rw[nf o,nf t]
 have u:=Spec.rest l c;rw[bZ]at u;by_cases D:Bd (view h k Y O)=0;rw[D]at u⊢;rw[sM];exact⟨_,rfl,u⟩;rw[tI D];rw[nc D]at u;exact⟨_,rfl,u⟩
end
theorem qB{W:List Int}{p j:Nat}{x:Int}(a:p<W.length):wd (W.set p x) j=if j=p then x else wd W j:=by unfold wd;rw[List.getElem?_set];by_cases e:j=p;subst e;simp[a];have: ¬p=j:=λ h=>e h.symm;simp[e,this]
theorem aj3{h:aV}{x:Int}(hy:0<=h.ak)(aa:x∈free h):∃i:Nat,i<h.Words.length/\(i=0\/(h.aO<=i/\(i:Int)<=h.ak)\/h.aM<=i)/\x=wd h.Words i:=by
 unfold free at aa;rw[cf,cf]at aa;rcases aa with aa |aa |aa
 ·obtain⟨i,hi,e⟩:=ie aa;have a:i<1/\i<h.Words.length:=by rw[gl]at hi;omega
  refine⟨i,a.2,.inl (by omega),?_⟩;rw[<-e,List.getElem_take];exact(n4 (aN a.2)).symm
 ·obtain⟨i,hi,e⟩:=ie aa;have a:i<min (h.ak+1).toNat h.Words.length-h.aO.toNat:=by simpa using hi
  have J:h.aO.toNat+i<h.Words.length:=by omega
  refine⟨h.aO.toNat+i,J,.inr (.inl ⟨by omega,by omega⟩),?_⟩;rw[<-e,List.getElem_drop,List.getElem_take];exact(n4 (aN J)).symm
 ·obtain⟨i,hi,e⟩:=ie aa;have a:i<h.Words.length-h.aM.toNat:=by simpa using hi
  have J:h.aM.toNat+i<h.Words.length:=by omega
  refine⟨h.aM.toNat+i,J,.inr (.inr (by omega)),?_⟩;rw[<-e,List.getElem_drop];exact(n4 (aN J)).symm
theorem ag2{h:aV}(a:0<=h.aO/\0<=h.aM){i:Nat}(hi:i<h.Words.length)(hc:i=0\/(h.aO<=i/\(i:Int)<=h.ak)\/h.aM<=i):wd h.Words i∈free h:=by have key:wd h.Words i=h.Words[i]:=n4 (aN hi);unfold free;rw[cf,cf,key];rcases hc with rfl |⟨h1,J⟩|h1;left;rw[mH];exact⟨0,by rw[hx,nf (by omega)];exact aN hi⟩;right;left;rw[mH];refine⟨i-h.aO.toNat,?_⟩;rw[iF,hx,nf (by omega),show h.aO.toNat+(i-h.aO.toNat)=i by omega];exact aN hi;right;right;rw[mH];refine⟨i-h.aM.toNat,?_⟩;rw[iF,show h.aM.toNat+(i-h.aM.toNat)=i by omega];exact aN hi
structure Ok (h:aV) (k:aP) (Y O:List Int):Prop where
 hash:∀a∈Y++O,1<=aj h.Words a/\aj h.Words a<h.Next
 nodup:((Y++O).map (aj h.Words)).Nodup
 ref:∀a∈Y++O,∀w∈refs k h.Words a.toNat,wd h.Words w.toNat=0\/wd h.Words w.toNat∈Y++O
 fr:∀i:Nat,i<h.Words.length->(i=0\/(h.aO<=i/\(i:Int)<=h.ak)\/h.aM<=i)->wd h.Words i=0
 Ib:zD h.aU
 nt:∀x∈h.aU,x∈O/\refs k h.Words x.toNat≠[]
 must:∀a∈O,¬a∈h.aU->∀w∈refs k h.Words a.toNat,¬(0<wd h.Words w.toNat/\wd h.Words w.toNat<=h.ak)
section
variable{F:Nat}{k:aP}{h:aV}{Y O:List Int}
theorem gU.FO(aj:hI h)(b:gU h k Y O):∀a∈Y,1<=a/\a.toNat+3+(wd h.Words (a.toNat+1)).toNat<=h.aO.toNat:=λ a ap=>by obtain⟨n,rfl,c,J,_⟩:=b.y.mem a ap;exact⟨by omega,by rw[bV];exact J⟩
theorem gU.cn(aj:hI h)(b:gU h k Y O):∀a∈O,h.ak+1<=a/\a.toNat+3+(wd h.Words (a.toNat+1)).toNat<=h.aM.toNat:=λ a ap=>by obtain⟨n,rfl,c,J,_⟩:=b.o.mem a ap;have:=aj.A.1.1;exact⟨by omega,by rw[bV];exact J⟩
theorem ans(v:gA k)(q:hI h)(s:gU h k Y O):px (view h k Y O)=0↔Ok h k Y O:=by
 have G:=s.py v q;obtain⟨⟨⟨H,I⟩,a3,a4⟩,b,⟨c1,c2⟩,⟨c3,c4⟩,c5⟩:=id q;have hy:=s.FO q;have y:=s.cn q;have A:a8 (view h k Y O)=0↔(∀a∈Y++O,mJ (view h k Y O) a=false)/\((Y++O).map (aj h.Words)).Nodup:=by
  unfold a8;show(if(Y++O).any (mJ (view h k Y O))then(3 :Int)else if((Y++O).map (aj h.Words)).Nodup then 0 else 6)=0↔_
  cases ag:(Y++O).any (mJ (view h k Y O))with
  |true=>rw[nf rfl];refine⟨λ e=>(by cases e),λ⟨e,_⟩=>?_⟩;obtain⟨x,c,ao⟩:=il.1 ag;rw[e x c]at ao;cases ao
  |false=>
   rw[nc (by decide)];rw[iY]at ag;have l:∀a∈Y++O,mJ (view h k Y O) a=false:=λ a ap=>by simpa using ag a ap
   split;rename_i d;exact⟨λ _=>⟨l,d⟩,λ _=>rfl⟩;rename_i d;exact⟨λ e=>(by cases e),λ e=>absurd e.2 d⟩
 have ao:lG (view h k Y O)=0↔(∀a∈Y++O,pn (view h k Y O) a=false)/\∀x∈free h,x=0:=by
  unfold lG;show(if(Y++O).any (pn (view h k Y O))then(5 :Int)else if(free h).any (λ x=>!decide (x=0))then 1 else 0)=0↔_
  cases ag:(Y++O).any (pn (view h k Y O))with
  |true=>rw[nf rfl];refine⟨λ e=>(by cases e),λ⟨e,_⟩=>?_⟩;obtain⟨x,c,ao⟩:=il.1 ag;rw[e x c]at ao;cases ao
  |false=>
   rw[nc (by decide)];rw[iY]at ag;have l:∀a∈Y++O,pn (view h k Y O) a=false:=λ a ap=>by simpa using ag a ap
   cases ad:(free h).any (λ x=>!decide (x=0))with
   |true=>rw[nf rfl];refine⟨λ e=>(by cases e),λ⟨_,e⟩=>?_⟩;obtain⟨x,c,ao⟩:=il.1 ad;rw[e x c]at ao;cases ao
   |false=>rw[nc (by decide)];rw[iY]at ad;exact⟨λ _=>⟨l,λ x c=>by simpa using ad x c⟩,λ _=>rfl⟩
 have aW:Bd (view h k Y O)=0↔(∀i,i<h.aU.length->h0 (view h k Y O) i=false)/\∀a∈O,qW (view h k Y O) a=false:=by
  unfold Bd;show(if(ef h.aU.length).any (h0 (view h k Y O))||O.any (qW (view h k Y O))then(4 :Int)else 0)=0↔_
  cases ag:(ef h.aU.length).any (h0 (view h k Y O))with
  |true=>rw[Bool.true_or,nf rfl];refine⟨λ e=>(by cases e),λ⟨e,_⟩=>?_⟩;obtain⟨x,c,ao⟩:=il.1 ag;rw[e x (by simpa using c)]at ao;cases ao
  |false=>
   rw[iu];rw[iY]at ag;have l:∀i,i<h.aU.length->h0 (view h k Y O) i=false:=λ i hi=>by simpa using ag i (by simpa using hi)
   cases ad:O.any (qW (view h k Y O))with
   |true=>rw[nf rfl];refine⟨λ e=>(by cases e),λ⟨_,e⟩=>?_⟩;obtain⟨x,c,ao⟩:=il.1 ad;rw[e x c]at ao;cases ao
   |false=>rw[nc (by decide)];rw[iY]at ad;exact⟨λ _=>⟨l,λ x c=>by simpa using ad x c⟩,λ _=>rfl⟩
 have bR:px (view h k Y O)=0↔a8 (view h k Y O)=0/\lG (view h k Y O)=0/\Bd (view h k Y O)=0:=by unfold px;by_cases m:a8 (view h k Y O)=0;rw[nf m];by_cases n:lG (view h k Y O)=0;rw[nf n];exact⟨λ e=>⟨m,n,e⟩,λ e=>e.2.2⟩;rw[nc n];exact⟨λ e=>absurd e n,λ e=>absurd e.2.1 n⟩;rw[nc m];exact⟨λ e=>absurd e m,λ e=>absurd e.1 m⟩
 rw[bR,A,ao,aW];have t:∀x,(tH (view h k Y O) x=false)↔x∈O/\refs k h.Words x.toNat≠[]:=λ x=>by
  unfold tH kY;show((!decide (x∈Y++O)||(decide (0<x)&&decide (x<=h.ak)))||(refs k h.Words x.toNat).isEmpty)=false↔_
  rw[ik,ik];constructor
  ·rintro⟨⟨f,J⟩,r⟩;have f:x∈Y++O:=by simp only[Bool.not_eq_false']at f;exact of_decide_eq_true f
   refine⟨?_,λ e=>by rw[e]at r;cases r⟩;rcases cf.1 f with a7 |a7;have:=hy x a7;rw[mU (by omega),mU (by omega)]at J;cases J;exact a7
  ·rintro⟨f,J⟩;have:=y x f;refine⟨⟨?_,?_⟩,?_⟩;rw[mU (fe _ f)];rfl;rw[mV (p:=x<=h.ak) (by omega),mT]
   ·cases e:refs k h.Words x.toNat with
    |nil=>exact absurd e J
    |cons _ _=>rfl
 constructor
 ·rintro⟨⟨f,J⟩,⟨r,a7⟩,u,B⟩;refine⟨λ a ap=>?_,J,λ a ap w j=>?_,λ i hi hc=>a7 _ (ag2 ⟨by omega,by omega⟩ hi hc),abm λ i hi=>?_,λ x c=>?_,λ a ap d w j=>?_⟩;have:=f a ap;unfold mJ at this;rw[ik,decide_eq_false_iff_not,decide_eq_false_iff_not]at this;have K: ¬aj h.Words a<1:=this.1;have L: ¬h.Next<=aj h.Words a:=this.2;omega
  ·have:=r a ap;unfold pn at this;rw[iY]at this;have o:=this w j;unfold vX at o;by_cases e:wd h.Words w.toNat=0;exact .inl e
   ·refine .inr ?_;by_cases ao:wd h.Words w.toNat∈Y++O;exact ao
    ·refine absurd ?_ o;show(!decide (wd h.Words w.toNat=0)&& !decide (wd h.Words w.toNat∈Y++O))=true
     rw[mV e,mV ao];rfl
  ·have:=u (i+1) hi;unfold h0 at this;simp only[ik,mG,decide_eq_false_iff_not,Nat.add_sub_cancel]at this;rcases this.1 with z |z;omega;have z: ¬wd h.aU (i+1)<=wd h.aU i:=z;omega
  ·obtain⟨i,hi,e⟩:=YE c;have:=u i hi;unfold h0 at this;rw[ik]at this;have o:tH (view h k Y O) (wd h.aU i)=false:=this.2;rw[e]at o;exact(t x).1 o
  ·rintro⟨C,D⟩;have:=B a ap;unfold qW at this;have this:(!decide (a∈h.aU)&&(refs k h.Words a.toNat).any λ w=>kY (view h k Y O) (wd h.Words w.toNat))=false:=this;rw[mV d,ib,j7,iY]at this;refine this w j ?_;show(decide (0<wd h.Words w.toNat)&&decide (wd h.Words w.toNat<=h.ak))=true
   rw[mU C,mU D];rfl
 ·intro g;refine⟨⟨λ a ap=>?_,g.nodup⟩,⟨λ a ap=>?_,λ x c=>?_⟩,λ i hi=>?_,λ a ap=>?_⟩
  ·have:=g.hash a ap;show(decide (aj h.Words a<1)||decide (h.Next<=aj h.Words a))=false
   rw[mV (by omega),mV (by omega)];rfl
  ·show((refs k h.Words a.toNat).any (vX (view h k Y O)))=false
   rw[iY];intro w j;show¬(!decide (wd h.Words w.toNat=0)&& !decide (wd h.Words w.toNat∈Y++O))=true
   rcases g.ref a ap w j with e |e;rw[mU e];simp;rw[mU e];simp
  ·obtain⟨i,hi,hc,e⟩:=aj3 (by omega) c;rw[e];exact g.fr i hi hc
  ·show((decide (0<i)&&decide (wd h.aU i<=wd h.aU (i-1)))||tH (view h k Y O) (wd h.aU i))=false
   rw[(t _).2 (g.nt _ (abO hi)),Bool.or_false];by_cases E:0<i;have:=g.Ib (i-1) i (by omega) hi;rw[mV (p:=wd h.aU i<=wd h.aU (i-1)) (by omega),mT];rw[mV E];rfl
  ·show(!decide (a∈h.aU)&&(refs k h.Words a.toNat).any λ w=>kY (view h k Y O) (wd h.Words w.toNat))=false
   by_cases d:a∈h.aU;rw[mU d];rfl;rw[mV d,ib,j7,iY];intro w j e;have e:(decide (0<wd h.Words w.toNat)&&decide (wd h.Words w.toNat<=h.ak))=true:=e;simp only[cd,decide_eq_true_eq]at e;exact g.must a ap d w j e
theorem eB.apart{W:List Int}{to q:Nat}{L:List Int}(h:eB k W to q L):∀a∈L,∀b∈L,a≠b->a.toNat+3+(wd W (a.toNat+1)).toNat<=b.toNat\/b.toNat+3+(wd W (b.toNat+1)).toNat<=a.toNat:=by
 induction h with
 |nil=>intro a ap;cases ap
 |cons g J i d f=>intro a ap b ag e;rcases cH.1 ap with rfl |ap;rcases cH.1 ag with rfl |ag;exact absurd rfl e;obtain⟨n,rfl,c,_⟩:=d.mem b ag;left;simp only[bV];exact c;rcases cH.1 ag with rfl |ag;obtain⟨n,rfl,c,_⟩:=d.mem a ap;right;simp only[bV];exact c;exact f a ap b ag e
theorem gU.apart(aj:hI h)(c:gU h k Y O):∀a∈Y++O,∀b∈Y++O,a≠b->a.toNat+3+(wd h.Words (a.toNat+1)).toNat<=b.toNat\/b.toNat+3+(wd h.Words (b.toNat+1)).toNat<=a.toNat:=by intro a ap b ag d;have hc:=aj.C.1.2;rcases cf.1 ap with ap |ap<;>rcases cf.1 ag with ag |ag;exact c.y.apart a ap b ag d;have:=c.FO aj a ap;have:=c.cn aj b ag;left;omega;have:=c.cn aj a ap;have:=c.FO aj b ag;right;omega;exact c.o.apart a ap b ag d
theorem eB.congr{W W':List Int}{to q:Nat}{L:List Int}(h:eB k W to q L)(b:∀a∈L,wd W' a.toNat=wd W a.toNat/\wd W' (a.toNat+1)=wd W (a.toNat+1)):eB k W' to q L:=by
 induction h with
 |nil=>exact .nil
 | @cons q r c J d g f=>obtain⟨e,ao⟩:=b _ hZ;simp only[bV]at e ao;have:=f (λ a ap=>b a (d_ _ ap));rw[<-ao]at this d J;rw[<-e]at c J;exact .cons c J d this
theorem eB.snoc{W W':List Int}{to q:Nat}{L:List Int}(h:eB k W to q L)(b:∀a∈L,wd W' a.toNat=wd W a.toNat/\wd W' (a.toNat+1)=wd W (a.toNat+1))(e:eY k (wd W' to)=true)(f:isLen k (wd W' to) (wd W' (to+1))=true) :
 eB k W' (to+3+(wd W' (to+1)).toNat) q (L++[(to:Int)]):=by
 induction h with
 |nil=>exact .cons e f (cP _) .nil
 | @cons q r c J g j i=>obtain⟨d,ao⟩:=b _ hZ;simp only[bV]at d ao;have:=i (λ a ap=>b a (d_ _ ap));rw[<-ao]at this g J;rw[<-d]at c J;exact .cons c J (by omega) this
theorem al4{W W':List Int}{q:Nat}(a:wd W' q=wd W q)(J:wd W' (q+1)=wd W (q+1)):refs k W' q=refs k W q:=by unfold refs;rw[a,J]
end
section
variable{F:Nat}{k:aP}
theorem aIn(h:gA k)(t:Int):F9 k t=some (eY k t):=by have hc:=h.cl;unfold F9 eY;rw[cg (by omega) (by omega),aF,iy];simp;omega
theorem aIk(h:gA k){t:Int}(b:eY k t=true)(n:Int):F8 k t n=some (isLen k t n):=by
 unfold F8 gp isLen;simp only[ae];cases ag:(decide (0<=n)&&decide (n<=500))with
 |false=>simp
 |true=>by_cases a:t<3;simp[a];rw[Rx h b a];simp[a]
theorem alQ(h:gA k){t:Int}(d:eY k t=true){n:Int}(e:isLen k t n=true){j:Nat}(aA:(j:Int)<n):uK k t (j:Int)=some (en k t j):=by
 unfold uK en;obtain⟨_,a⟩:=iE.1 e;by_cases J:t=2;simp[J];by_cases b:t<3
 ·have: ¬3<=t:=by omega
  simp[J,this]
 ·have a:=a.resolve_left b;have f:3<=t:=by omega
  have c:j<(iW k t).length:=by omega
  rw[Rx h d b,ae,bu (aN c),aN c];simp[J,f]
theorem eB.le{W:List Int}{to q:Nat}{L:List Int}(h:eB k W to q L):q<=to:=by
 cases h with
 |nil=>exact cP _
 |cons a J b c=>omega
theorem ayE(h:aV)(aj:gA k){to:Nat}(o:to<=h.Words.length)(e6:h.Words.length<=5000):∀(f q:Nat)(acc:List Int),to-q<f->q<=6000 ->acc.length+(to-q)<=6000 ->
 (∃L,eB k h.Words to q L/\zz h k (to:Int) f acc (q:Int)=some (.go (acc++L,(to:Int))))\/
 ((∀L,¬eB k h.Words to q L)/\(zz h k (to:Int) f acc (q:Int)=some (.out ([],false))\/∃x,zz h k (to:Int) f acc (q:Int)=some (.go x)/\x.2≠(to:Int))):=by
 intro f
 induction f with
 |zero=>intro q acc h;omega
 |succ f j=>
  intro q acc ad p s;rw[zz];by_cases b:q<to
  case neg=>
   by_cases e:q=to
   ·subst e;refine .inl ⟨[],.nil,?_⟩;rw[bL];simp
   ·rw[show decide ((q:Int)<(to:Int))=false from mV (by omega)];exact .inr ⟨λ L a=>by have:=a.le;omega,.inr ⟨(acc,(q:Int)),rfl,by show(q:Int)≠(to:Int);omega⟩⟩
  rw[bM b,ng,cg (n:=(q:Int)+3) (by omega) (by omega)];by_cases g:(to:Int)<(q:Int)+3;rw[mU g];refine .inr ⟨λ L a=>?_,.inl rfl⟩;obtain⟨_,_,_,_,h,_⟩:=a.inv b;omega;rw[mV g,nh,fh (by omega),ae];have l:F9 (⟨k.a1,k.aY,k.Fields,k.Names,k.aZ⟩:aP) (wd h.Words q)=some (eY k (wd h.Words q)):=aIn aj _;rw[l,ae];cases c:eY k (wd h.Words q)with
  |false=>refine .inr ⟨λ L a=>?_,.inl rfl⟩;obtain⟨_,_,h,_⟩:=a.inv b;rw[c]at h;cases h
  |true=>
   have ao:F8 (⟨k.a1,k.aY,k.Fields,k.Names,k.aZ⟩:aP) (wd h.Words q) (wd h.Words (q+1))=some (isLen k (wd h.Words q) (wd h.Words (q+1))):=aIk aj c _;rw[dS,nh,ae,cg (n:=(q:Int)+1) (by omega) (by omega),jl (i:=q+1) (by omega) (by omega),ae,ao,ae];cases d:isLen k (wd h.Words q) (wd h.Words (q+1))with
   |false=>refine .inr ⟨λ L a=>?_,.inl rfl⟩;obtain⟨_,_,_,h,_⟩:=a.inv b;rw[d]at h;cases h
   |true=>obtain⟨⟨l0,l1⟩,_⟩:=iE.1 d;rw[dS,nh,jf (by simp;omega),ae,ae,cg (n:=3+wd h.Words (q+1)) (by omega) (by omega),cg (n:=(q:Int)+(3+wd h.Words (q+1))) (by omega) (by omega)];rw[show(q:Int)+(3+wd h.Words (q+1))=((q+3+(wd h.Words (q+1)).toNat:Nat):Int) by omega];rcases j (q+3+(wd h.Words (q+1)).toNat) (acc++[(q:Int)]) (by omega) (by omega) (by simp;omega)with⟨L,a,e⟩|⟨m,e⟩;refine .inl ⟨(q:Int)::L,.cons c d a.le a,?_⟩;rw[e];simp;refine .inr ⟨λ L a=>?_,e⟩;obtain⟨r,_,_,_,_,h⟩:=a.inv b;exact m r h
theorem alO(f:6000<F)(h:aV)(aj:gA k){to q:Nat}(g:q<=5000)(b:to<=h.Words.length)(e6:h.Words.length<=5000) :
 (∃L,eB k h.Words to q L/\sB F h k (q:Int) (to:Int)=some (L,true))\/((∀L,¬eB k h.Words to q L)/\∃l,sB F h k (q:Int) (to:Int)=some (l,false)):=by
 unfold sB
 rcases ayE h aj b e6 F q [] (by omega) (by omega) (by simp;omega)with⟨L,c,e⟩|⟨a,e |⟨x,e,d⟩⟩
 ·exact .inl ⟨L,c,by rw[e,r3];simp⟩
 ·exact .inr ⟨a,[],by rw[e,amz]⟩
 ·exact .inr ⟨a,x.1,by rw[e,r3];show some (x.1,decide (x.2=(to:Int)))=_;rw[mV d]⟩
theorem Vl{α ρ:Type}{p:α->Bool}{e:ρ}:∀l:List α,l.findSome? (λ x=>if p x then some e else none)=if l.any p then some e else none
 |[]=>rfl
 |x::r=>by
  rw[iU,List.any_cons];cases p x with
  |true=>rfl
  |false=>simp only[iu];exact Vl r
theorem Bq{l:List Int}(b:Small F l.length)(n:Int):iL F l n=some (decide (n∈l)):=by unfold iL;have l1:CV l n F 0=some (cC (l.findSome? λ x=>if decide (x=n)then some true else none)):=each _ b.1 (λ f i x a=>by rw[CV,bM (aR.1 a).1,ng,bu a,ae];cases decide (x=n)<;>rfl) (λ f=>by rw[CV,bL];rfl) b.2;rw[l1,Vl];by_cases e:n∈l;rw[show(l.any λ x=>decide (x=n))=true from il.2 ⟨n,e,by simp⟩,mU e];rfl;rw[show(l.any λ x=>decide (x=n))=false from iY.2 λ x a=>by simp;rintro rfl;exact e a,mV e];rfl
theorem aIm(p:6000<F)(h:aV)(aj:gA k){q:Nat}(e:q+3+(wd h.Words (q+1)).toNat<=h.Words.length)(e6:h.Words.length<=5000)(g:eY k (wd h.Words q)=true)(c:isLen k (wd h.Words q) (wd h.Words (q+1))=true) :
 pQ F h k (q:Int)=some (refs k h.Words q):=by
 obtain⟨⟨l0,l1⟩,_⟩:=iE.1 c
 unfold pQ
 generalize m:(wd h.Words (q+1)).toNat=n at e
 have b:wd h.Words (q+1)=(n:Int):=by omega
 have d:=c
 rw[b]at d
 have l1:=wM (l:=ef n) (λ f acc i=>wI (q:Int) h k f acc (i:Int)) (λ j=>if en k (wd h.Words q) j then[((q+3+j:Nat):Int)]else[]) 1 5000 (λ x _=>by split<;>simp) (λ f i x acc a ap=>by
  have hi:i<n:=by have:=(aR.1 a).1;simpa using this
  rw[lZ hi]at a;simp only[aF]at a;subst a;rw[wI,cg (n:=(q:Int)+1) (by omega) (by omega),jl (i:=q+1) (by omega) (by omega),ae,b,bM hi,ng,fh (by omega),ae];have o:uK (⟨k.a1,k.aY,k.Fields,k.Names,k.aZ⟩:aP) (wd h.Words q) (i:Int)=some (en k (wd h.Words q) i):=alQ aj g d (by omega);rw[o,ae];show _=wI (q:Int) h k f _ _
  cases en k (wd h.Words q) i with
  |true=>rw[ng,cg (n:=(q:Int)+3) (by omega) (by omega),cg (n:=(q:Int)+3+i) (by omega) (by omega),jf (by simp;omega),ae,ae,eO hi (by omega),nf rfl];congr 2
  |false=>rw[nh,ae,eO hi (by omega),nc (by decide),hv]) (λ f acc=>by
  rw[iC,wI,cg (n:=(q:Int)+1) (by omega) (by omega),jl (i:=q+1) (by omega) (by omega),ae,b,bL];rfl) (F:=F) (by simp;omega) (acc:=[]) (by simp;omega)
 have l1:wI (q:Int) h k F [] 0=_:=l1
 rw[l1,ae,jI,refs,m]
theorem alP(a:6000<F){h:aV}(c:gA k)(aj:hI h):(∃Y O,gU h k Y O/\oH F h k=some (Y,O,true))\/((∀Y O,¬gU h k Y O)/\∃Y O,oH F h k=some (Y,O,false)):=by have s:=aj.e1;obtain⟨⟨⟨t,u⟩,a3,a4⟩,b,⟨c1,c2⟩,⟨c3,c4⟩,c5⟩:=id aj;unfold okB at b;unfold oH;have d:=alO (F:=F) a h c (q:=1) (to:=h.aO.toNat) (by omega) (by omega) (by omega);have f:=alO (F:=F) a h c (q:=(h.ak+1).toNat) (to:=h.aM.toNat) (by omega) (by omega) (by omega);rw[show((h.aO.toNat:Nat):Int)=h.aO by omega]at d;rw[show((h.aM.toNat:Nat):Int)=h.aM by omega,show(((h.ak+1).toNat:Nat):Int)=h.ak+1 by omega]at f;rw[cg (n:=h.ak+1) (by omega) (by omega)];have j:∀r,sB F h k 1 h.aO=some r->sB F (⟨h.Words,h.ak,h.aK,h.aO,h.aM,h.aU,h.Next⟩:aV) (⟨k.a1,k.aY,k.Fields,k.Names,k.aZ⟩:aP) 1 h.aO=some r:=λ r e=>e;have l:∀r,sB F h k (h.ak+1) h.aM=some r->sB F (⟨h.Words,h.ak,h.aK,h.aO,h.aM,h.aU,h.Next⟩:aV) (⟨k.a1,k.aY,k.Fields,k.Names,k.aZ⟩:aP) (h.ak+1) h.aM=some r:=λ r e=>e;rcases d with⟨Y,m,g⟩|⟨i,Y,g⟩<;>rcases f with⟨O,o,ao⟩|⟨p,O,ao⟩<;>rw[j _ g,ae,l _ ao,ae];exact .inl ⟨Y,O,⟨m,o⟩,rfl⟩;exact .inr ⟨λ Y O h=>p _ h.o,Y,O,rfl⟩;exact .inr ⟨λ Y O h=>i _ h.y,Y,O,rfl⟩;exact .inr ⟨λ Y O h=>i _ h.y,Y,O,rfl⟩
end
section
variable{F:Nat}{k:aP}{h:aV}{Y O:List Int}
theorem XY{b:Bool}{e:Int}{K:Option (Way Int Unit)}:ht (if b=true then some e else none) K=cond b (some (.out e)) K:=by cases b<;>rfl
theorem aIr(e:10000<F)(g:1<=h.Next)(j:h.Next<=9223372036854775807)(b:pS (view h k Y O)):CD h (Y++O) F 0=some (cC (if(Y++O).any (mJ (view h k Y O))then some 3 else none)):=by
 have hc:Y.length+O.length<=5000:=b.oK;have l:h.Words.length<=4900:=b.e1;rw[<-oX];exact each _ (by simp;omega) (λ f i a ap=>by
  have d:=bH ap;have c:sE (view h k Y O) a:=b.tY a d;have m:0<=a:=c.pos;have J:a.toNat+3+(wd h.Words (a.toNat+1)).toNat<=h.Words.length:=c.fit;rw[CD,bM (aR.1 ap).1,ng,bu ap,ae,cg (n:=a+2) (by omega) (by omega),jl (i:=a.toNat+2) (by omega) (by omega),ae];unfold gp;rw[ae,cg (n:=h.Next-1) (by omega) (by omega),XY];congr 1;show _=(decide (wd h.Words (a.toNat+2)<1)||decide (h.Next<=wd h.Words (a.toNat+2)))
  rw[iy];simp;omega) (λ f=>by rw[CD,bL];rfl) (by simp;omega)
theorem aFV{l:List Int}:(ef l.length).any (λ i=>(ef i).any λ j=>decide (wd l i=wd l j))= !decide l.Nodup:=by rw[iy,il];simp only[kF,il,decide_eq_true_eq,hh,decide_eq_false_iff_not];rw[List.Nodup,i_];constructor;rintro⟨i,hi,j,aA,e⟩ a;have:=a j i (by omega) hi aA;rw[n4 (aN hi),n4 (aN (by omega:j<l.length))]at e;exact this e.symm;intro a;apply lm;intro b;refine a λ j i aA hi c e=>b ⟨i,hi,j,c,?_⟩;rw[n4 (aN hi),n4 (aN aA)];exact e.symm
theorem aIs(m:10000<F)(a:pS (view h k Y O)):zp F h (Y++O) F 0=some (cC (if((Y++O).map (aj h.Words)).Nodup then none else some 6)):=by
 have hc:Y.length+O.length<=5000:=a.oK;have n:h.Words.length<=4900:=a.e1;have o:(Y++O).length<=5000:=by simp;omega
 have at_:∀i,i<(Y++O).length->idx (Y++O) (i:Int)=some (wd (Y++O) i)/\idx h.Words (aw (wd (Y++O) i+2))=some (wd ((Y++O).map (aj h.Words)) i):=λ i hi=>by have c:wd (Y++O) i=(Y++O)[i]:=n4 (aN hi);have b:sE (view h k Y O) (Y++O)[i]:=a.tY _ (hj hi);have p:0<=(Y++O)[i]:=b.pos;have J:(Y++O)[i].toNat+3+(wd h.Words ((Y++O)[i].toNat+1)).toNat<=h.Words.length:=b.fit;refine⟨fh hi,?_⟩;rw[c,cg (by omega) (by omega),jl (i:=(Y++O)[i].toNat+2) (by omega) (by omega)];refine congrArg some (n4 ?_).symm;rw[jv,aN hi];rfl
 have l1:zp F h (Y++O) F 0=some (cC ((ef (Y++O).length).findSome? λ i=>if(ef i).any (λ j=>decide (wd ((Y++O).map (aj h.Words)) i=wd ((Y++O).map (aj h.Words)) j))then some 6 else none)):=lh _ (by omega) (λ f i hi=>by rw[zp,bM hi,ng];have d:CE h (Y++O) (i:Int) F 0=some (cC ((ef i).findSome? λ j=>if decide (wd ((Y++O).map (aj h.Words)) i=wd ((Y++O).map (aj h.Words)) j)then some 6 else none)):=lh _ (by omega) (λ g j aA=>by rw[CE,bM aA,ng,(at_ i hi).1,ae,(at_ i hi).2,ae,(at_ j (by omega)).1,ae,(at_ j (by omega)).2,ae];cases decide (wd ((Y++O).map (aj h.Words)) i=wd ((Y++O).map (aj h.Words)) j)<;>rfl) (λ g=>by rw[CE,bL];rfl) (by omega);rw[d,oX];cases(ef i).any (λ j=>decide (wd ((Y++O).map (aj h.Words)) i=wd ((Y++O).map (aj h.Words)) j))<;>rfl) (λ f=>by rw[zp,bL];rfl) (by omega);rw[l1,oX];have e:=aFV (l:=(Y++O).map (aj h.Words));rw[hd]at e;rw[e];by_cases aJ:((Y++O).map (aj h.Words)).Nodup;rw[nf aJ,mU aJ];rfl;rw[nc aJ,mV aJ];rfl
theorem Rz(d:10000<F)(c:pS (view h k Y O)){a:Int}(ap:a∈Y++O):pQ F (⟨h.Words,h.ak,h.aK,h.aO,h.aM,h.aU,h.Next⟩:aV) (⟨k.a1,k.aY,k.Fields,k.Names,k.aZ⟩:aP) a=some (refs k h.Words a.toNat):=by have b:sE (view h k Y O) a:=c.tY a ap;have e:h.Words.length<=4900:=c.e1;have:=aIm (F:=F) (by omega) h c.fM (q:=a.toNat) b.fit (by omega) b.tag b.len;rwa [show((a.toNat:Nat):Int)=a by have:=b.pos;omega]at this
theorem aIt(j:10000<F)(b:pS (view h k Y O)):CF F h k (Y++O) F 0=some (cC (if(Y++O).any (pn (view h k Y O))then some 5 else none)):=by
 have hc:Y.length+O.length<=5000:=b.oK;have o:h.Words.length<=4900:=b.e1;rw[<-oX];exact each _ (by simp;omega) (λ f i a ap=>by
  have d:=bH ap;have e:sE (view h k Y O) a:=b.tY a d;have p:(refs k h.Words a.toNat).length<=5000:=Q5 b e;rw[CF,bM (aR.1 ap).1,ng,bu ap,ae,Rz j b d,ae];have l:zq F h (Y++O) (refs k h.Words a.toNat) F 0=some (cC ((refs k h.Words a.toNat).findSome? λ w=>if vX (view h k Y O) w then some 5 else none)):=each _ (by omega) (λ m i' w c=>by
   have n:=bH c;have g:idx h.Words w=some (wd h.Words w.toNat):=e.Q4 n;rw[zq,bM (aR.1 c).1,ng,bu c,ae,g,ae,ae,g,ae,Bq ⟨by simp;omega,by simp;omega⟩,ae];show _=ht (if(!decide (wd h.Words w.toNat=0)&& !decide (wd h.Words w.toNat∈Y++O))=true then some 5 else none) _
   cases decide (wd h.Words w.toNat=0)<;>cases decide (wd h.Words w.toNat∈Y++O)<;>rfl) (λ m=>by rw[zq,bL];rfl) (by omega)
  rw[l,oX];show _=ht (if(refs k h.Words a.toNat).any (vX (view h k Y O))then some 5 else none) _
  cases(refs k h.Words a.toNat).any (vX (view h k Y O))<;>rfl) (λ f=>by rw[CF,bL];rfl) (by simp;omega)
theorem aIu(d:10000<F)(a:hI h):wG h F 0=some (cC (if(free h).any (λ x=>!decide (x=0))then some 1 else none)):=by have g:=a.e1;obtain⟨⟨⟨j,l⟩,a3,a4⟩,b,⟨c1,c2⟩,⟨c3,c4⟩,c5⟩:=id a;have l1:wG h F 0=some (cC ((ef h.Words.length).findSome? λ i=>if(!decide (wd h.Words i=0)&&(decide ((i:Int)=0)||((decide (h.aO<=(i:Int))&&decide ((i:Int)<=h.ak))||decide (h.aM<=(i:Int)))))then some 1 else none)):=lh _ (by omega) (λ f i hi=>by rw[wG,bM hi,ng,fh hi,ae];unfold gp;rw[ae];cases decide (wd h.Words i=0)<;>cases decide ((i:Int)=0)<;>cases((decide (h.aO<=(i:Int))&&decide ((i:Int)<=h.ak))||decide (h.aM<=(i:Int)))<;>rfl) (λ f=>by rw[wG,bL];rfl) (by omega);rw[l1,oX];refine congrArg (λ b:Bool=>some (cC (if b=true then some 1 else none))) ?_;rw[iy,il,il];constructor;rintro⟨i,hi,e⟩;simp only[cd,h3,hh,decide_eq_false_iff_not,decide_eq_true_eq]at e;rw[kF]at hi;exact⟨wd h.Words i,ag2 ⟨by omega,by omega⟩ hi (by rcases e.2 with e |e |e;exact .inl (by omega);exact .inr (.inl e);exact .inr (.inr e)),by simpa using e.1⟩;rintro⟨x,c,e⟩;obtain⟨i,hi,hc,rfl⟩:=aj3 (by omega) c;refine⟨i,kF.2 hi,?_⟩;simp only[cd,h3,hh,decide_eq_false_iff_not,decide_eq_true_eq]at e⊢;exact⟨e,by rcases hc with e |e |e;exact .inl (by omega);exact .inr (.inl e);exact .inr (.inr e)⟩
theorem akJ(a:hI h)(c:gU h k Y O){x:Int}:x∈O↔x∈Y++O/\kY (view h k Y O) x=false:=by obtain⟨⟨⟨d,f⟩,a3,a4⟩,b,⟨c1,c2⟩,⟨c3,c4⟩,c5⟩:=id a;have e:kY (view h k Y O) x=(decide (0<x)&&decide (x<=h.ak)):=rfl;rw[e];constructor;intro aa;have:=c.cn a x aa;exact⟨cf.2 (.inr aa),by simp;omega⟩;rintro⟨aa,e⟩;rcases cf.1 aa with aa |aa;have:=c.FO a x aa;simp at e;omega;exact aa
theorem aIy(m:10000<F)(g:hI h)(i:gU h k Y O)(j:pS (view h k Y O))(x:Int)(Z:Option Int)(Ah:Z=some x)(K:Option (Way Int Unit)):((iL F O x).bind λ c=>
 cond (!c) (some (.out 4)) (Z.bind λ d=>
 (pQ F (⟨h.Words,h.ak,h.aK,h.aO,h.aM,h.aU,h.Next⟩:aV) (⟨k.a1,k.aY,k.Fields,k.Names,k.aZ⟩:aP) d).bind λ f=>
 cond (decide ((f.length:Int)=0)) (some (.out 4)) K))=ht (if tH (view h k Y O) x then some 4 else none) K:=by
 have hc:Y.length+O.length<=5000:=j.oK
 subst Ah
 rw[Bq ⟨by omega,by omega⟩,ae,XY]
 have e:tH (view h k Y O) x=(!decide (x∈Y++O)||kY (view h k Y O) x||(refs k h.Words x.toNat).isEmpty):=rfl
 rw[e]
 by_cases b:x∈O
 ·obtain⟨l,J⟩:=(akJ g i).1 b;rw[mU b,mU l,J,dS,nh,ae,Rz m j l,ae];cases refs k h.Words x.toNat with
  |nil=>rfl
  |cons a r=>rw[mV (by simp;omega)];rfl
 ·rw[mV b]
  have:(!decide (x∈Y++O)||kY (view h k Y O) x)=true:=by
   cases aJ:decide (x∈Y++O)with
   |false=>rfl
   |true=>
    cases hy:kY (view h k Y O) x with
    |true=>rfl
    |false=>exact absurd ((akJ g i).2 ⟨of_decide_eq_true aJ,hy⟩) b
  rw[this];rfl
theorem aIv(d:10000<F)(g:hI h)(j:gU h k Y O)(l:pS (view h k Y O))(a:Small F h.aU.length):q3 F h k (Y,O,true) F 0=some (cC (if(ef h.aU.length).any (h0 (view h k Y O))then some 4 else none)):=by
 rw[<-oX];exact lh _ a.1 (λ f i hi=>by
  rw[q3,bM hi,ng];have e:h0 (view h k Y O) i=((decide (0<i)&&decide (wd h.aU i<=wd h.aU (i-1)))||tH (view h k Y O) (wd h.aU i)):=rfl;have b:=aIy d g j l (wd h.aU i) (idx h.aU (i:Int)) (fh hi) (q3 F h k (Y,O,true) f (aw ((i:Int)+1)));rw[e];have m:=a.1;by_cases c:0<i
  ·rw[show decide ((0 :Int)<(i:Int))=true from mU (by omega),ng];rw[show∀K:Int->Option (Way Int Unit),(idx h.aU (i:Int)).bind K=K (wd h.aU i) from λ K=>by rw[fh hi];rfl];rw[cg (n:=(i:Int)-1) (by omega) (by omega),jl (i:=i-1) (by omega) (by omega),ae,mU c,j7];cases decide (wd h.aU i<=wd h.aU (i-1))with
   |true=>rfl
   |false=>rw[nh,iu,<-b];rw[fh hi];rfl
  ·rw[show decide ((0 :Int)<(i:Int))=false from mV (by omega),nh,mV c,Bool.false_and,iu,<-b]
   rw[fh hi];rfl) (λ f=>by rw[q3,bL];rfl) a.2
theorem aIw(j:10000<F)(b:pS (view h k Y O))(l:Small F h.aU.length):uF F h k (Y,O,true) F 0=some (cC (if O.any (qW (view h k Y O))then some 4 else none)):=by
 have hc:Y.length+O.length<=5000:=b.oK;rw[<-oX];exact each _ (by omega) (λ f i a ap=>by
  have d:=cf.2 (Or.inr (a:=a∈Y) (bH ap));have g:sE (view h k Y O) a:=b.tY a d;have q:(refs k h.Words a.toNat).length<=5000:=Q5 b g;rw[uF,bM (aR.1 ap).1,ng,bu ap,ae,Rz j b d,ae];have m:sx F h (Y,O,true) (i:Int) (refs k h.Words a.toNat) F 0=some (cC ((refs k h.Words a.toNat).findSome? λ w=>if(!decide (a∈h.aU)&&kY (view h k Y O) (wd h.Words w.toNat))then some 4 else none)):=each _ (by omega) (λ n i' w c=>by have o:=bH c;have p:idx h.Words w=some (wd h.Words w.toNat):=g.Q4 o;rw[sx,bM (aR.1 c).1,ng,bu c,ae,p,ae];unfold gp;rw[ae,bu ap,ae,Bq l,ae,XY];have e:kY (view h k Y O) (wd h.Words w.toNat)=(decide (1<=wd h.Words w.toNat)&&decide (wd h.Words w.toNat<=h.ak)):=rfl;rw[e];cases(decide (1<=wd h.Words w.toNat)&&decide (wd h.Words w.toNat<=h.ak))<;>cases decide (a∈h.aU)<;>rfl) (λ n=>by rw[sx,bL];rfl) (by omega);rw[m,oX];have e:qW (view h k Y O) a=((refs k h.Words a.toNat).any λ w=>!decide (a∈h.aU)&&kY (view h k Y O) (wd h.Words w.toNat)):=by
   show(!decide (a∈h.aU)&&(refs k h.Words a.toNat).any λ w=>kY (view h k Y O) (wd h.Words w.toNat))=_
   cases decide (a∈h.aU)with
   |true=>simp
   |false=>simp
  rw[e];cases(refs k h.Words a.toNat).any (λ w=>!decide (a∈h.aU)&&kY (view h k Y O) (wd h.Words w.toNat))<;>rfl) (λ f=>by rw[uF,bL];rfl) (by omega)
theorem aIx(c:10000<F)(m:gA k)(o:Small F h.aU.length)(hi:h.Next<=9223372036854775807):∃r,F7 F h k=some r.2/\Spec h k r:=by
 unfold F7;by_cases a:Bi h
 case neg=>
  refine⟨(none,n1 h),?_,.size λ s=>a s.A⟩
  show _=some (n1 h)
  unfold n1 gp
  rw[nc a,ae,ae]
  cases ag:(decide (3<=h.ak)&&decide (h.ak<=2000))with
  |false=>rfl
  |true=>
   cases j:(decide (3<=h.aK)&&decide (h.aK<=2000))with
   |false=>rfl
   |true=>exact absurd ⟨by simpa using ag,by simpa using j⟩ a
 obtain⟨⟨q,t⟩,a3,a4⟩:=id a;have bO:gp h.ak 3 2000=some true:=by unfold gp;rw[mU q,mU t];rfl
 have u:gp h.aK 3 2000=some true:=by unfold gp;rw[mU a3,mU a4];rfl
 rw[bO,u,ae,ae,dS,nh,nh,cg (n:=1+h.ak) (by omega) (by omega),cg (n:=1+h.ak+h.aK) (by omega) (by omega)];by_cases b:okB h
 case neg=>
  refine⟨(none,n1 h),?_,.size λ s=>b s.B⟩
  show _=some (n1 h)
  unfold n1
  rw[nf a,nc b]
  unfold okB at b
  rw[mV b];rfl
 have g:=b;unfold okB at g;rw[mU g,dS,nh,cg (n:=h.ak+1) (by omega) (by omega),cg (n:=h.ak+h.aK) (by omega) (by omega),cg (n:=h.ak+h.aK+1) (by omega) (by omega)];by_cases i:HG h
 case neg=>
  refine⟨(none,n1 h),?_,.size λ s=>i s.C⟩
  show _=some (n1 h)
  unfold n1 gp
  rw[nf a,nf b,nc i,ae,ae]
  cases ag:(decide (1<=h.aO)&&decide (h.aO<=h.ak+1))with
  |false=>rfl
  |true=>
   cases j:(decide (h.ak+1<=h.aM)&&decide (h.aM<=h.ak+h.aK+1))with
   |false=>rfl
   |true=>
    cases v:decide (h.Next<1)with
    |true=>rfl
    |false=>exact absurd ⟨by simpa using ag,by simpa using j,by simp at v;omega⟩ i
 have d:hI h:=⟨a,b,i⟩
 obtain⟨⟨c1,c2⟩,⟨c3,c4⟩,c5⟩:=id i;have e5:gp h.aO 1 (h.ak+1)=some true:=by unfold gp;rw[mU c1,mU c2];rfl
 have w:gp h.aM (h.ak+1) (h.ak+h.aK+1)=some true:=by unfold gp;rw[mU c3,mU c4];rfl
 rw[e5,w,ae,ae,dS,nh,mV (show¬h.Next<1 by omega),Bool.or_self,nh];have p:∀r,oH F h k=some r->oH F (⟨h.Words,h.ak,h.aK,h.aO,h.aM,h.aU,h.Next⟩:aV) (⟨k.a1,k.aY,k.Fields,k.Names,k.aZ⟩:aP)=some r:=λ r e=>e;rcases alP (F:=F) (by omega) m d with⟨Y,O,l,e⟩|⟨y,Y,O,e⟩
 case inr=>
  refine⟨(none,1),?_,.form d y⟩
  rw[p _ e];rfl
 have f:=l.py m d;have hc:Y.length+O.length<=5000:=f.oK;refine⟨_,?_,.rest d l⟩;show _=some (px (view h k Y O))
 have z:bI 8 ([]:List Int) Y=some Y:=by rw[jf (by simp;omega)];rfl
 have A:bI 8 Y O=some (Y++O):=jf (by omega);have l1:=aIr (k:=k) (Y:=Y) (O:=O) c c5 hi f;have B:=aIs (F:=F) c f;have C:=aIt (F:=F) c f;have D:=aIu (F:=F) c d;have E:=aIv c d l f o;have G:=aIw c f o;rw[p _ e,ae];show(bI 8 ([]:List Int) Y).bind _=_
 rw[z,ae];show(bI 8 Y O).bind _=_
 rw[A,ae,l1,kz];unfold px a8;show qn (if(Y++O).any (mJ (view h k Y O))=true then some 3 else none) _=some (if(if(Y++O).any (mJ (view h k Y O))=true then(3 :Int)else if((Y++O).map (aj h.Words)).Nodup then 0 else 6)=0 then _ else(if(Y++O).any (mJ (view h k Y O))=true then(3 :Int)else if((Y++O).map (aj h.Words)).Nodup then 0 else 6))
 cases(Y++O).any (mJ (view h k Y O))with
 |true=>rfl
 |false=>
  rw[nc kW,nc kW];show cr _ _=_
  rw[B,kz];by_cases aJ:((Y++O).map (aj h.Words)).Nodup;case neg=>rw[nc aJ,nc aJ];rfl
  rw[nf aJ,nf aJ,nf rfl];show cr _ _=_
  rw[C,kz];unfold lG;show qn (if(Y++O).any (pn (view h k Y O))=true then some 5 else none) _=some (if(if(Y++O).any (pn (view h k Y O))=true then(5 :Int)else if(free h).any (λ x=>!decide (x=0))=true then 1 else 0)=0 then _ else(if(Y++O).any (pn (view h k Y O))=true then(5 :Int)else if(free h).any (λ x=>!decide (x=0))=true then 1 else 0))
  cases(Y++O).any (pn (view h k Y O))with
  |true=>rfl
  |false=>
   rw[nc kW,nc kW];show cr _ _=_
   rw[D,kz];cases(free h).any (λ x=>!decide (x=0))with
   |true=>rfl
   |false=>
    rw[nc kW,nc kW,nf rfl];show cr _ _=_
    rw[E,kz];unfold Bd;show qn (if(ef h.aU.length).any (h0 (view h k Y O))=true then some 4 else none) _=some (if((ef h.aU.length).any (h0 (view h k Y O))||O.any (qW (view h k Y O)))=true then(4 :Int)else 0)
    cases(ef h.aU.length).any (h0 (view h k Y O))with
    |true=>rfl
    |false=>
     rw[nc kW,iu];show cr _ _=_
     rw[G,kz];cases O.any (qW (view h k Y O))<;>rfl
theorem Spec.yD{r e:Option bk×Int}(s:Spec h k r)(s':Spec h k e):r=e:=by
 cases s with
 |size b=>cases s' with
  |size _=>rfl
  |form a _=>exact absurd a b
  |rest a _=>exact absurd a b
 |form a d=>cases s' with
  |size b=>exact absurd a b
  |form _ _=>rfl
  |rest _ c=>exact absurd c (d _ _)
 |rest a c=>cases s' with
  |size b=>exact absurd a b
  |form _ d=>exact absurd c (d _ _)
  |rest _ f=>obtain rfl:=c.y.yD f.y;obtain rfl:=c.o.yD f.o;rfl
end
section
variable{k:aP}{h:aV}{Y O:List Int}
theorem gU.fit(b:hI h)(d:gU h k Y O):∀a∈Y++O,1<=a/\a.toNat+3+(wd h.Words (a.toNat+1)).toNat<=h.Words.length/\(a.toNat+3+(wd h.Words (a.toNat+1)).toNat<=h.aO.toNat\/(h.ak+1<=a/\a.toNat+3+(wd h.Words (a.toNat+1)).toNat<=h.aM.toNat)):=by intro a ap;have e:(h.Words.length:Int)=1+h.ak+h.aK:=b.B;obtain⟨⟨c1,c2⟩,⟨c3,c4⟩,_⟩:=b.C;obtain⟨⟨f,_⟩,a3,_⟩:=b.A;rcases cf.1 ap with ap |ap;obtain⟨c,J⟩:=d.FO b a ap;exact⟨c,by omega,.inl J⟩;obtain⟨c,J⟩:=d.cn b a ap;exact⟨by omega,by omega,.inr ⟨c,J⟩⟩
theorem gU.tW(c:gU h k Y O):∀a∈Y++O,eY k (wd h.Words a.toNat)=true/\isLen k (wd h.Words a.toNat) (wd h.Words (a.toNat+1))=true:=by intro a ap;rcases cf.1 ap with ap |ap;obtain⟨n,rfl,_,_,b⟩:=c.y.mem a ap;exact b;obtain⟨n,rfl,_,_,b⟩:=c.o.mem a ap;exact b
theorem Ok.set(d:hI h)(m:gU h k Y O)(g:Ok h k Y O){a:Int}(ap:a∈Y++O){n:Nat}(y:n<(wd h.Words (a.toNat+1)).toNat){value:Int}
 (z:en k (wd h.Words a.toNat) n=true->value=0\/value∈Y++O){nt:List Int}(A:zD nt)(J:∀x∈nt,x∈h.aU\/(x=a/\a∈O/\en k (wd h.Words a.toNat) n=true))(B:∀x∈h.aU,x∈nt)
 (C:en k (wd h.Words a.toNat) n=true->a∈O->0<value->value<=h.ak->a∈nt) :
 hI (⟨h.Words.set (a.toNat+3+n) value,h.ak,h.aK,h.aO,h.aM,nt,h.Next⟩:aV)/\gU (⟨h.Words.set (a.toNat+3+n) value,h.ak,h.aK,h.aO,h.aM,nt,h.Next⟩:aV) k Y O/\
 Ok (⟨h.Words.set (a.toNat+3+n) value,h.ak,h.aK,h.aO,h.aM,nt,h.Next⟩:aV) k Y O:=by
 obtain⟨L,M,N⟩:=m.fit d a ap
 have D:a.toNat+3+n<h.Words.length:=by omega
 have f:∀j,wd (h.Words.set (a.toNat+3+n) value) j=if j=a.toNat+3+n then value else wd h.Words j:=λ j=>qB D
 have head:∀b∈Y++O,wd (h.Words.set (a.toNat+3+n) value) b.toNat=wd h.Words b.toNat/\wd (h.Words.set (a.toNat+3+n) value) (b.toNat+1)=wd h.Words (b.toNat+1)/\wd (h.Words.set (a.toNat+3+n) value) (b.toNat+2)=wd h.Words (b.toNat+2):=by intro b ag;rw[f,f,f];by_cases e:b=a;subst e;rw[nc (by omega),nc (by omega),nc (by omega)];exact⟨rfl,rfl,rfl⟩;have:=m.apart d b ag a ap e;rw[nc (by omega),nc (by omega),nc (by omega)];exact⟨rfl,rfl,rfl⟩
 have E:(h.Words.length:Int)=1+h.ak+h.aK:=d.B
 obtain⟨⟨c1,c2⟩,⟨c3,c4⟩,c5⟩:=id d.C
 have p:∀b∈Y++O,refs k (h.Words.set (a.toNat+3+n) value) b.toNat=refs k h.Words b.toNat:=λ b ag=>al4 (head b ag).1 (head b ag).2.1
 have s:∀b∈Y++O,aj (h.Words.set (a.toNat+3+n) value) b=aj h.Words b:=λ b ag=>(head b ag).2.2
 have Pb:(Y++O).map (aj (h.Words.set (a.toNat+3+n) value))=(Y++O).map (aj h.Words):=j1 s
 have t:∀b∈Y++O,∀w∈refs k h.Words b.toNat,w.toNat=a.toNat+3+n->b=a/\en k (wd h.Words a.toNat) n=true:=by
  intro b ag w c e;obtain⟨j,aA,F,rfl⟩:=qj.1 c;simp only[bV]at e;have q:b=a:=by by_cases q:b=a;exact q;have:=m.apart d b ag a ap q;omega
  subst q;have:j=n:=by omega
  subst this;exact⟨rfl,F⟩
 refine⟨⟨d.A,?_,d.C⟩,⟨m.y.congr λ b ag=>?_,m.o.congr λ b ag=>?_⟩,⟨λ b ag=>?_,?_,λ b ag w c=>?_,λ i hi hc=>?_,A,λ x r=>?_,λ b ag u w c=>?_⟩⟩
 ·show((h.Words.set (a.toNat+3+n) value).length:Int)=_;rw[hg];exact E
 ·obtain⟨l,o,_⟩:=head b (e8 _ ag);exact⟨l,o⟩
 ·obtain⟨l,o,_⟩:=head b (fe _ ag);exact⟨l,o⟩
 ·show 1<=aj (h.Words.set (a.toNat+3+n) value) b/\aj (h.Words.set (a.toNat+3+n) value) b<h.Next
  rw[s b ag];exact g.hash b ag
 ·show((Y++O).map (aj (h.Words.set (a.toNat+3+n) value))).Nodup
  rw[Pb];exact g.nodup
 ·have c:w∈refs k (h.Words.set (a.toNat+3+n) value) b.toNat:=c;rw[p b ag]at c;show wd (h.Words.set (a.toNat+3+n) value) w.toNat=0\/wd (h.Words.set (a.toNat+3+n) value) w.toNat∈Y++O
  rw[f];by_cases e:w.toNat=a.toNat+3+n;rw[nf e];exact z (t b ag w c e).2;rw[nc e];exact g.ref b ag w c
 ·have hi:i<(h.Words.set (a.toNat+3+n) value).length:=hi;rw[hg]at hi;have hc:i=0\/(h.aO<=i/\(i:Int)<=h.ak)\/h.aM<=i:=hc;show wd (h.Words.set (a.toNat+3+n) value) i=0
  rw[f,nc (by omega)];exact g.fr i hi hc
 ·show x∈O/\refs k (h.Words.set (a.toNat+3+n) value) x.toNat≠[]
  rcases J x r with r |⟨rfl,G,aA⟩;obtain⟨l,o⟩:=g.nt x r;rw[p x (fe _ l)];exact⟨l,o⟩;refine⟨G,?_⟩;rw[p x ap];intro e;have:((x.toNat+3+n:Nat):Int)∈refs k h.Words x.toNat:=qj.2 ⟨n,y,aA,rfl⟩;rw[e]at this;cases this
 ·have v:b∈Y++O:=fe _ ag;have c:w∈refs k (h.Words.set (a.toNat+3+n) value) b.toNat:=c;rw[p b v]at c;show¬(0<wd (h.Words.set (a.toNat+3+n) value) w.toNat/\wd (h.Words.set (a.toNat+3+n) value) w.toNat<=h.ak)
  rw[f];by_cases e:w.toNat=a.toNat+3+n;rw[nf e];obtain⟨rfl,aA⟩:=t b v w c e;rintro⟨H,I⟩;exact u (C aA ag H I);rw[nc e];exact g.must b ag (λ K=>u (B b K)) w c
theorem ajZ(B:hI h)(I:gU h k Y O)(g:Ok h k Y O){t:Nat}{tag len:Int}(J:0<=len)(K:1<=t)(L:t+3+len.toNat<=h.Words.length)
 (s:∀b∈Y++O,b.toNat+3+(wd h.Words (b.toNat+1)).toNat<=t\/t+3+len.toNat<=b.toNat)(C:∀i,t<=i->i<t+3+len.toNat->wd h.Words i=0){Y' O':List Int}(u:(Y'++O').Perm ((t:Int)::(Y++O)))(D:∀x∈O,x∈O')(o:∀x∈O',x=(t:Int)\/x∈O)
 {yt ot:Int}(E:∀i:Nat,i<h.Words.length->(i=0\/(yt<=i/\(i:Int)<=h.ak)\/ot<=i)->(i=0\/(h.aO<=i/\(i:Int)<=h.ak)\/h.aM<=i)/\¬(t<=i/\i<=t+2)) :
 (∀b∈Y++O,wd (((h.Words.set t tag).set (t+1) len).set (t+2) h.Next) b.toNat=wd h.Words b.toNat/\wd (((h.Words.set t tag).set (t+1) len).set (t+2) h.Next) (b.toNat+1)=wd h.Words (b.toNat+1))/\
 wd (((h.Words.set t tag).set (t+1) len).set (t+2) h.Next) t=tag/\wd (((h.Words.set t tag).set (t+1) len).set (t+2) h.Next) (t+1)=len/\(∀j,j<len.toNat->wd (((h.Words.set t tag).set (t+1) len).set (t+2) h.Next) (t+3+j)=0)/\
 Ok (⟨((h.Words.set t tag).set (t+1) len).set (t+2) h.Next,h.ak,h.aK,yt,ot,h.aU,h.Next+1⟩:aV) k Y' O':=by
 have f:∀j,wd (((h.Words.set t tag).set (t+1) len).set (t+2) h.Next) j=if j=t+2 then h.Next else if j=t+1 then len else if j=t then tag else wd h.Words j:=λ j=>by rw[qB (by simp;omega),qB (by simp;omega),qB (by omega)]
 generalize e6:((h.Words.set t tag).set (t+1) len).set (t+2) h.Next=W' at f
 have l:W'.length=h.Words.length:=by rw[<-e6];simp
 have F:wd W' t=tag:=by rw[f,nc (by omega),nc (by omega),nf rfl]
 have v:wd W' (t+1)=len:=by rw[f,nc (by omega),nf rfl]
 have ao:wd W' (t+2)=h.Next:=by rw[f,nf rfl]
 have aW:∀j,¬(t<=j/\j<=t+2)->wd W' j=wd h.Words j:=λ j aA=>by rw[f,nc (by omega),nc (by omega),nc (by omega)]
 have aJ:∀b∈Y++O,wd W' b.toNat=wd h.Words b.toNat/\wd W' (b.toNat+1)=wd h.Words (b.toNat+1)/\aj W' b=aj h.Words b:=λ b ag=>by have:=s b ag;unfold aj;exact⟨aW _ (by omega),aW _ (by omega),aW _ (by omega)⟩
 have p:∀x,x∈Y'++O'↔x=(t:Int)\/x∈Y++O:=λ x=>by rw[u.mem_iff,cH]
 have d:∀j,j<len.toNat->wd W' (t+3+j)=0:=λ j aA=>by rw[aW _ (by omega)];exact C _ (by omega) (by omega)
 have m:∀w∈refs k W' t,wd W' w.toNat=0:=λ w c=>by obtain⟨j,aA,_,rfl⟩:=qj.1 c;rw[v]at aA;exact d j aA
 have q:∀b∈Y++O,refs k W' b.toNat=refs k h.Words b.toNat:=λ b ag=>al4 (aJ b ag).1 (aJ b ag).2.1
 have y:∀b∈Y++O,∀w∈refs k h.Words b.toNat,wd W' w.toNat=wd h.Words w.toNat:=λ b ag w c=>by obtain⟨j,aA,_,rfl⟩:=qj.1 c;have:=s b ag;exact aW _ (by simp only[bV];omega)
 have z:aj W' (t:Int)=h.Next:=ao
 refine⟨λ b ag=>⟨(aJ b ag).1,(aJ b ag).2.1⟩,F,v,d,⟨λ a ap=>?_,?_,λ a ap w c=>?_,λ i hi hc=>?_,g.Ib,λ x G=>?_,λ a ap H w c=>?_⟩⟩
 ·show 1<=aj W' a/\aj W' a<h.Next+1
  have M:=B.C.2.2;rcases(p a).1 ap with rfl |ap;rw[z];omega;rw[(aJ a ap).2.2];have:=g.hash a ap;omega
 ·show((Y'++O').map (aj W')).Nodup
  rw[(u.map _).nodup_iff,ez,j1 (λ b ag=>(aJ b ag).2.2),h4];refine⟨λ A=>?_,g.nodup⟩;rw[z]at A;obtain⟨b,ag,e⟩:=hQ.1 A;have:=(g.hash b ag).2;omega
 ·show wd W' w.toNat=0\/wd W' w.toNat∈Y'++O'
  rcases(p a).1 ap with rfl |ap;exact .inl (m w c);have c:w∈refs k W' a.toNat:=c;rw[q a ap]at c;rw[y a ap w c];rcases g.ref a ap w c with e |e;exact .inl e;exact .inr ((p _).2 (.inr e))
 ·have hi:i<W'.length:=hi;rw[l]at hi;obtain⟨n,r⟩:=E i hi hc;show wd W' i=0
  rw[aW i r];exact g.fr i hi n
 ·obtain⟨n,r⟩:=g.nt x G;show x∈O'/\refs k W' x.toNat≠[]
  rw[q x (fe _ n)];exact⟨D x n,r⟩
 ·show¬(0<wd W' w.toNat/\wd W' w.toNat<=h.ak)
  rcases o a ap with rfl |ap;rw[m w c];omega;have c:w∈refs k W' a.toNat:=c;rw[q a (fe _ ap)]at c;rw[y a (fe _ ap) w c];exact g.must a ap H w c
theorem aET(c:hI h)(d:gU h k Y O)(g:Ok h k Y O){tag len:Int}(p:eY k tag=true)(l:isLen k tag len=true)(q:h.aO+(3+len)<=h.ak+1) :
 hI (⟨((h.Words.set h.aO.toNat tag).set (h.aO.toNat+1) len).set (h.aO.toNat+2) h.Next,h.ak,h.aK,h.aO+(3+len),h.aM,h.aU,h.Next+1⟩:aV)/\
 gU (⟨((h.Words.set h.aO.toNat tag).set (h.aO.toNat+1) len).set (h.aO.toNat+2) h.Next,h.ak,h.aK,h.aO+(3+len),h.aM,h.aU,h.Next+1⟩:aV) k (Y++[h.aO]) O/\
 Ok (⟨((h.Words.set h.aO.toNat tag).set (h.aO.toNat+1) len).set (h.aO.toNat+2) h.Next,h.ak,h.aK,h.aO+(3+len),h.aM,h.aU,h.Next+1⟩:aV) k (Y++[h.aO]) O/\
 wd (((h.Words.set h.aO.toNat tag).set (h.aO.toNat+1) len).set (h.aO.toNat+2) h.Next) (h.aO.toNat+1)=len/\(∀j,j<len.toNat->wd (((h.Words.set h.aO.toNat tag).set (h.aO.toNat+1) len).set (h.aO.toNat+2) h.Next) (h.aO.toNat+3+j)=0):=by
 have r:(h.Words.length:Int)=1+h.ak+h.aK:=c.B
 obtain⟨⟨c1,c2⟩,⟨c3,c4⟩,c5⟩:=id c.C
 obtain⟨⟨v,w⟩,a3,a4⟩:=id c.A
 obtain⟨⟨l0,l1⟩,_⟩:=iE.1 l
 have m:((h.aO.toNat:Nat):Int)=h.aO:=by omega
 obtain⟨n,o,e,s,u⟩:=ajZ (t:=h.aO.toNat) (tag:=tag) (len:=len) (Y':=Y++[h.aO]) (O':=O) (yt:=h.aO+(3+len)) (ot:=h.aM) c d g l0 (by omega) (by omega) (λ b ag=>by obtain⟨_,_,ag⟩:=d.fit c b ag;omega) (λ i y J=>g.fr i (by omega) (.inr (.inl ⟨by omega,by omega⟩))) (by rw[m,fA,k9];exact List.perm_middle) (λ x f=>f) (λ x f=>.inr f) (λ i hi hc=>by omega)
 refine⟨⟨c.A,?_,⟨⟨by show 1<=h.aO+(3+len);omega,q⟩,⟨c3,c4⟩,by show 1<=h.Next+1;omega⟩⟩,⟨?_,?_⟩,u,e,s⟩
 ·show((((h.Words.set h.aO.toNat tag).set (h.aO.toNat+1) len).set (h.aO.toNat+2) h.Next).length:Int)=_
  simp only[hg];exact r
 ·have:=d.y.snoc (W':=((h.Words.set h.aO.toNat tag).set (h.aO.toNat+1) len).set (h.aO.toNat+2) h.Next) (λ a ap=>n a (e8 _ ap)) (by rw[o];exact p) (by rw[o,e];exact l);rw[e,m]at this;show eB k _ (h.aO+(3+len)).toNat 1 _
  rwa [show(h.aO+(3+len)).toNat=h.aO.toNat+3+len.toNat by omega]
 ·exact d.o.congr λ a ap=>n a (fe _ ap)
theorem aES(c:hI h)(d:gU h k Y O)(g:Ok h k Y O){tag len:Int}(o:eY k tag=true)(l:isLen k tag len=true)(s:h.aM+(3+len)<=h.ak+h.aK+1) :
 hI (⟨((h.Words.set h.aM.toNat tag).set (h.aM.toNat+1) len).set (h.aM.toNat+2) h.Next,h.ak,h.aK,h.aO,h.aM+(3+len),h.aU,h.Next+1⟩:aV)/\
 gU (⟨((h.Words.set h.aM.toNat tag).set (h.aM.toNat+1) len).set (h.aM.toNat+2) h.Next,h.ak,h.aK,h.aO,h.aM+(3+len),h.aU,h.Next+1⟩:aV) k Y (O++[h.aM])/\
 Ok (⟨((h.Words.set h.aM.toNat tag).set (h.aM.toNat+1) len).set (h.aM.toNat+2) h.Next,h.ak,h.aK,h.aO,h.aM+(3+len),h.aU,h.Next+1⟩:aV) k Y (O++[h.aM])/\
 wd (((h.Words.set h.aM.toNat tag).set (h.aM.toNat+1) len).set (h.aM.toNat+2) h.Next) (h.aM.toNat+1)=len/\(∀j,j<len.toNat->wd (((h.Words.set h.aM.toNat tag).set (h.aM.toNat+1) len).set (h.aM.toNat+2) h.Next) (h.aM.toNat+3+j)=0):=by
 have p:(h.Words.length:Int)=1+h.ak+h.aK:=c.B
 obtain⟨⟨c1,c2⟩,⟨c3,c4⟩,c5⟩:=id c.C
 obtain⟨⟨u,v⟩,a3,a4⟩:=id c.A
 obtain⟨⟨l0,l1⟩,_⟩:=iE.1 l
 have e:((h.aM.toNat:Nat):Int)=h.aM:=by omega
 obtain⟨m,n,f,q,r⟩:=ajZ (t:=h.aM.toNat) (tag:=tag) (len:=len) (Y':=Y) (O':=O++[h.aM]) (yt:=h.aO) (ot:=h.aM+(3+len)) c d g l0 (by omega) (by omega) (λ b ag=>by
  obtain⟨_,_,ag⟩:=d.fit c b ag;omega) (λ i w J=>g.fr i (by omega) (.inr (.inr (by omega)))) (by rw[e,<-fA];exact List.perm_append_comm) (λ x aa=>e8 _ aa) (λ x aa=>by
   rcases cf.1 aa with aa |aa;exact .inr aa
   ·rw[dV]at aa;exact .inl (by rw[aa,e])) (λ i hi hc=>by omega)
 refine⟨⟨c.A,?_,⟨⟨c1,c2⟩,⟨by show h.ak+1<=h.aM+(3+len);omega,by show h.aM+(3+len)<=h.ak+h.aK+1;omega⟩,by show 1<=h.Next+1;omega⟩⟩,⟨?_,?_⟩,r,f,q⟩
 ·show((((h.Words.set h.aM.toNat tag).set (h.aM.toNat+1) len).set (h.aM.toNat+2) h.Next).length:Int)=_
  simp only[hg];exact p
 ·exact d.y.congr λ a ap=>m a (e8 _ ap)
 ·have:=d.o.snoc (W':=((h.Words.set h.aM.toNat tag).set (h.aM.toNat+1) len).set (h.aM.toNat+2) h.Next) (λ a ap=>m a (fe _ ap)) (by rw[n];exact o) (by rw[n,f];exact l);rw[f,e]at this;show eB k _ (h.aM+(3+len)).toNat _ _
  rwa [show(h.aM+(3+len)).toNat=h.aM.toNat+3+len.toNat by omega]
end
structure Good (F:Nat) (h:aV) (k:aP) (Y O:List Int):Prop where
 pX:pa F k=some 0
 fM:gA k
 s:hI h
 l:gU h k Y O
 ok:Ok h k Y O
section
variable{F:Nat}{k:aP}{h:aV}{Y O:List Int}
theorem Good.Qs(g:Good F h k Y O):h.aU.length<=5000:=by refine amS (N:=5000) g.ok.Ib (λ i hi=>?_);obtain⟨a,_⟩:=g.ok.nt _ (abO hi);obtain⟨b,c,_⟩:=g.l.fit g.s _ (fe Y a);have:=g.s.e1;omega
theorem Good.open(b:10000<F)(g:Good F h k Y O):kQ F h k=some (some (view h k Y O),0):=by
 unfold kQ;have c:pa F (⟨k.a1,k.aY,k.Fields,k.Names,k.aZ⟩:aP)=some 0:=g.pX;have e:=g.Qs;obtain⟨r,ao,hq⟩:=Zf b g.fM (h:=h) ⟨by omega,by omega⟩;have ao:va F (⟨h.Words,h.ak,h.aK,h.aO,h.aM,h.aU,h.Next⟩:aV) (⟨k.a1,k.aY,k.Fields,k.Names,k.aZ⟩:aP)=some r:=ao;rw[c,ae,sM,ao,ae];cases hq with
 |size aj=>exact absurd g.s aj
 |form _ ad=>exact absurd g.l (ad Y O)
 | @rest Y' O' _ a=>have d:=a.y.yD g.l.y;have Ds:=a.o.yD g.l.o;subst d Ds;rw[(ans g.fM g.s g.l).2 g.ok];rfl
theorem aGc(g:10000<F)(i:∃e,pa F k=some e/\(e≠0\/(e=0/\gA k)))(j:Small F h.aU.length) :
 ∃r,kQ F h k=some r/\((r.2≠0/\r.1=none)\/∃Y O,Good F h k Y O/\r=(some (view h k Y O),0)):=by
 obtain⟨e,d,a⟩:=i
 unfold kQ
 have b:pa F (⟨k.a1,k.aY,k.Fields,k.Names,k.aZ⟩:aP)=some e:=d
 rw[b,ae]
 rcases a with a |⟨rfl,c⟩
 ·rw[tI a];exact⟨_,rfl,.inl ⟨a,rfl⟩⟩
 obtain⟨r,ao,hq⟩:=Zf g c j
 have ao:va F (⟨h.Words,h.ak,h.aK,h.aO,h.aM,h.aU,h.Next⟩:aV) (⟨k.a1,k.aY,k.Fields,k.Names,k.aZ⟩:aP)=some r:=ao
 rw[sM,ao,ae]
 refine⟨_,rfl,?_⟩
 cases hq with
 |size aj=>exact .inl ⟨λ e=>aj (abf.1 e),rfl⟩
 |form _ ad=>exact .inl ⟨by decide,rfl⟩
 | @rest Y' O' aj f=>by_cases q:px (view h k Y' O')=0;exact .inr ⟨Y',O',⟨d,c,aj,f,(ans c aj f).1 q⟩,by rw[q];rfl⟩;exact .inl ⟨q,by rw[nc q]⟩
theorem Good.dQ(_:Good F h k Y O)(a:Int):GU (view h k Y O) a=some (decide (a∈Y++O)):=by
 unfold GU;show some ((cE ((Y++O).map λ a=>(a,true)) a).getD false)=_
 rw[P0]
end
theorem aJI{F:Nat}{l:List Int}(h:Small F l.length):pR F l l=some true:=by
 unfold pR;have l1:=PV (n:=l.length) (λ k i=>wK l l k (i:Int)) (.go ()) (λ k i hi=>by
  obtain⟨x,a⟩:∃x,l[i]? =some x:=⟨l[i],aN hi⟩
  rw[wK,bM hi,ng,bu a,ae,ae,mU rfl];show wK l l k _=_
  rw[eO hi h.1]) (λ k=>by rw[wK,bL];rfl) h.2
 have l1:wK l l F 0=some (.go ()):=l1;rw[l1,mU rfl];rfl
open Go Go.Proofs.YteeliipnilghaaaGreat
theorem yz{n:Nat}(h:n<=reachBytes):Small 140737488356000 n:=by have:reachBytes=140737488351232:=rfl;unfold Small;omega
theorem qy{n:Nat}(k:Nat)(h:n*(k+1)<=reachBytes):Small 140737488356000 n:=yz (hl (mm n (Nat.succ_pos k)) h)
theorem ayl{m:Method}(h:Nl reachBytes m):m.Fits 140737488356000:=⟨yz h.1,qy 23 h.2.2.1.1,λ k a=>yz (h.2.2.1.2 k a).2,yz h.2.2.2.1.2,qy 39 h.2.2.2.2.2.2.2.1,λ x b=>yz (h.2.2.2.2.2.2.2.2 x b).2.2.2⟩
theorem ayk{c:aq}(h:I6 reachBytes c):c.Fits 140737488356000:=⟨yz h.1,yz h.2.1,qy 39 h.2.2.1.1,λ f ad=>⟨yz (h.2.2.1.2 f ad).1,yz (h.2.2.1.2 f ad).2.2⟩,qy 127 h.2.2.2.1,λ m a=>ayl (h.2.2.2.2 m a)⟩
theorem aym{l:List aq}(h:l.length*80<=reachBytes/\∀x∈l,I6 reachBytes x):Fits 140737488356000 l:=⟨qy 79 h.1,λ c hc=>ayk (h.2 c hc)⟩
theorem aEt{k:aP}(h:Nk reachBytes k):Ni 140737488356000 k:=⟨qy 7 h.2.1.1,qy 23 h.2.2.1.1,λ x a=>qy 39 (h.2.2.1.2 x a).1,qy 23 h.2.2.2.1.1,λ x a=>qy 15 (h.2.2.2.1.2 x a).1,qy 23 h.2.2.2.2.1,λ x a=>qy 15 (h.2.2.2.2.2 x a).1⟩
theorem aJZ{k:aP}(a:iz k.a1)(e:k=linked k.a1):gA k:=by have:=a.right.len;exact⟨by omega,by rw[e];exact aJh⟩
theorem avM{k:aP}(a:Go.Proofs.YteeliipnilghaaaGreat.Nk Go.reachBytes k):∃e,pa 140737488356000 k=some e/\uI 140737488356000 k=some e/\(e≠0\/(e=0/\gA k)):=by obtain⟨e,c1,c2,c3⟩:=avL (F:=140737488356000) (by omega) (aym a.1) (aEt a);refine⟨e,c1,c2,?_⟩;rcases c3 with rfl |⟨rfl,b,c⟩;exact .inl (by decide);exact .inr ⟨rfl,aJZ b c⟩
theorem akL{F:Nat}{h:aV}{k:aP}(b:10000<F)(l:∃e,pa F k=some e/\uI F k=some e/\(e≠0\/(e=0/\gA k)))(c:Small F h.aU.length)(hi:h.Next<=9223372036854775807) :
 ∃r,kQ F h k=some r/\zw F h k=some r.2/\((r.2≠0/\r.1=none)\/∃Y O,Good F h k Y O/\r=(some (view h k Y O),0)):=by
 obtain⟨e,c1,c2,c3⟩:=l
 obtain⟨r,a,m⟩:=aGc b ⟨e,c1,c3⟩ c
 refine⟨r,a,?_,m⟩
 have d:pa F (⟨k.a1,k.aY,k.Fields,k.Names,k.aZ⟩:aP)=some e:=c1
 have f:uI F (⟨k.a1,k.aY,k.Fields,k.Names,k.aZ⟩:aP)=some e:=c2
 unfold zw
 unfold kQ at a
 rw[d,ae]at a
 rw[f,ae]
 rcases c3 with c3 |⟨rfl,j⟩
 ·rw[tI c3]at a;obtain rfl:=eD a;rw[mV c3];rfl
 ·rw[sM]at a;obtain⟨n,g,o⟩:=Zf b j c;obtain⟨p,i,q⟩:=aIx b j c hi;have g:va F (⟨h.Words,h.ak,h.aK,h.aO,h.aM,h.aU,h.Next⟩:aV) (⟨k.a1,k.aY,k.Fields,k.Names,k.aZ⟩:aP)=some n:=g;have i:F7 F (⟨h.Words,h.ak,h.aK,h.aO,h.aM,h.aU,h.Next⟩:aV) (⟨k.a1,k.aY,k.Fields,k.Names,k.aZ⟩:aP)=some p.2:=i;obtain rfl:=o.yD q;rw[g,ae]at a;obtain rfl:=eD a;rw[show decide ((0 :Int)=0)=true from rfl,ng,i];rfl
end I
namespace Go.Proofs.YteeliipnilghaaaGreat
open I
def cV(y:Int)(o:List Int)(a:Int):List Int:=if(1<=a/\a<=y)/\a∉o then o++[a]else o
structure Ord (Y o:List Int):Prop where
 hG:o.Nodup
 sub:∀a∈o,a∈Y
theorem aki:∀ {o Y:List Int},o.Nodup->(∀a∈o,a∈Y)->o.length<=Y.length
 |[],Y,_,_=>gY _
 |a::r,Y,c,aj=>by have c:=h4.1 c;have ap:a∈Y:=aj a (by simp);have d:=aki (o:=r) (Y:=Y.erase a) c.2 λ b ag=>(mS λ e=>by subst e;exact c.1 ag).2 (aj b (by simp[ag]));rw[mb ap]at d;have:0<Y.length:=List.length_pos_of_mem ap;simp only[di];omega
theorem Ord.len{Y o:List Int}(h:Ord Y o):o.length<=Y.length:=aki h.hG h.sub
theorem Ord.nil{Y:List Int}:Ord Y []:=⟨mg,λ _ h=>by simp at h⟩
theorem Ord.cV{Y o:List Int}{y a:Int}(h:Ord Y o)(ap:1<=a->a<=y->a∈Y):Ord Y (cV y o a):=by unfold Go.Proofs.YteeliipnilghaaaGreat.cV;split;rename_i d;refine⟨fx.2 ⟨h.hG,by simp,λ b ag c hc e=>?_⟩,λ b ag=>?_⟩;cases dV.1 hc;subst e;exact d.2 ag;rcases cf.1 ag with ag |ag;exact h.sub b ag;cases dV.1 ag;exact ap d.1.1 d.1.2;exact h
theorem Ord.fold{Y:List Int}{y:Int}:∀ {l o:List Int},Ord Y o->(∀a∈l,1<=a->a<=y->a∈Y)->Ord Y (l.foldl (Go.Proofs.YteeliipnilghaaaGreat.cV y) o)
 |[],o,h,_=>h
 |a::r,o,h,ap=>Ord.fold (l:=r) (o:=Go.Proofs.YteeliipnilghaaaGreat.cV y o a) (h.cV (ap a (by simp))) λ b ag=>ap b (by simp[ag])
theorem aaI{y a:Int}{o:List Int}:∃t,cV y o a=o++t:=by unfold cV;split;exact⟨_,rfl⟩;exact⟨[],by simp⟩
theorem Dv{y:Int}:∀ {l o:List Int},∃t,l.foldl (cV y) o=o++t
 |[],o=>⟨[],by simp⟩
 |a::r,o=>by obtain⟨t,h⟩:=aaI (y:=y) (a:=a) (o:=o);obtain⟨u,J⟩:=Dv (y:=y) (l:=r) (o:=cV y o a);exact⟨t++u,by rw[jn,J,h,fA]⟩
def dq(k:aP)(W:List Int)(a:Int):List Int:=(refs k W a.toNat).map λ w=>wd W w.toNat
def scan(k:aP)(W:List Int)(y:Int):Nat->Nat->List Int->List Int
 |0,_,o=>o
 |d+1,i,o=>match o[i]? with
  |some a=>scan k W y d (i+1) ((dq k W a).foldl (cV y) o)
  |none=>o
section
variable{F:Nat}{h:aV}{k:aP}{Y O:List Int}{ai eV:List Int}{ao aW bR dx kP:Int}
theorem y4(g:I.Good F h k Y O){v:Int}(af:v=0\/v∈Y++O)(a:1<=v)(J:v<=h.ak):v∈Y:=by rcases af with af |af;omega;rcases cf.1 af with af |af;exact af;have:=(g.l.cn g.s v af).1;omega
theorem qx(g:I.Good F h k Y O){a:Int}(ap:a∈Y++O):∀v∈dq k h.Words a,v=0\/v∈Y++O:=λ v b=>by obtain⟨w,c,rfl⟩:=hQ.1 b;exact g.ok.ref a ap w c
theorem aI8(g:I.Good F h k Y O){a:Int}(ap:a∈Y++O):∀w∈refs k h.Words a.toNat,0<=w/\w.toNat<h.Words.length:=λ w b=>by obtain⟨j,aA,_,rfl⟩:=qj.1 b;have:=(g.l.fit g.s a ap).2.1;omega
theorem al6(g:I.Good F h k Y O){a:Int}(ap:a∈Y++O):(refs k h.Words a.toNat).length<=5000:=by
 have b:=(g.l.fit g.s a ap).2.1;have J:=g.s.e1;have:(refs k h.Words a.toNat).length<=(wd h.Words (a.toNat+1)).toNat:=by
  unfold refs;have key:∀n:Nat,((ef n).flatMap λ j=>if en k (wd h.Words a.toNat) j then[((a.toNat+3+j:Nat):Int)]else[]).length<=n:=by
   intro n;induction n with
   |zero=>simp
   |succ n c=>
    rw[List.range_succ,List.flatMap_append,dM];have:([n].flatMap λ j=>if en k (wd h.Words a.toNat) j then[((a.toNat+3+j:Nat):Int)]else[]).length<=1:=by simp only[h7,List.flatMap_nil,hv];split<;>simp
    omega
  exact key _
 omega
theorem aeW(a:gA k)(g:I.Good F h k Y O):Y.length<=5000:=by have:=(g.l.py a g.s).oK;have:Y.length+O.length<=5000:=this;omega
def order(k:aP)(h:aV)(Y roots:List Int):List Int:=scan k h.Words h.ak (Y.length+1) 0 ((h.aU.flatMap (dq k h.Words)).foldl (cV h.ak) (roots.foldl (cV h.ak) []))
theorem amv(g:I.Good F h k Y O):∀ {d i:Nat}{o:List Int},Ord Y o->Ord Y (scan k h.Words h.ak d i o)
 |0,i,o,b=>b
 |d+1,i,o,b=>by unfold scan;split;rename_i a ap;exact amv g (b.fold λ v c=>y4 g (qx g (e8 O (b.sub _ (bH ap))) v c));exact b
theorem akN(g:I.Good F h k Y O){roots:List Int}(b:∀a∈roots,a=0\/a∈Y++O):Ord Y (roots.foldl (cV h.ak) []):=Ord.nil.fold λ v c=>y4 g (b v c)
theorem Zi(g:I.Good F h k Y O){roots:List Int}(c:∀a∈roots,a=0\/a∈Y++O):Ord Y ((h.aU.flatMap (dq k h.Words)).foldl (cV h.ak) (roots.foldl (cV h.ak) [])):=(akN g c).fold λ v b=>by obtain⟨a,ap,b⟩:=hN.1 b;exact y4 g (qx g (fe Y (g.ok.nt a ap).1) v b)
theorem QB(g:I.Good F h k Y O){roots:List Int}(b:∀a∈roots,a=0\/a∈Y++O):Ord Y (order k h Y roots):=amv g (Zi g b)
end
def mt(o:List Int)(a:Int):List Int:=if a≠0/\a∉o then o++[a]else o
theorem Ord.mt{Y o:List Int}{a:Int}(h:Ord Y o)(ap:a=0\/a∈Y):Ord Y (mt o a):=by unfold Go.Proofs.YteeliipnilghaaaGreat.mt;split;rename_i d;refine⟨fx.2 ⟨h.hG,by simp,λ b ag c hc e=>?_⟩,λ b ag=>?_⟩;cases dV.1 hc;subst e;exact d.2 ag;rcases cf.1 ag with ag |ag;exact h.sub b ag;cases dV.1 ag;exact ap.resolve_left d.1;exact h
theorem Ord.EF{Y:List Int}:∀ {l o:List Int},Ord Y o->(∀a∈l,a=0\/a∈Y)->Ord Y (l.foldl Go.Proofs.YteeliipnilghaaaGreat.mt o)
 |[],o,h,_=>h
 |a::r,o,h,ap=>Ord.EF (l:=r) (o:=Go.Proofs.YteeliipnilghaaaGreat.mt o a) (h.mt (ap a (by simp))) λ b ag=>ap b (by simp[ag])
theorem aFa{a:Int}{o:List Int}:∃t,mt o a=o++t:=by unfold mt;split;exact⟨_,rfl⟩;exact⟨[],by simp⟩
theorem PZ:∀ {l o:List Int},∃t,l.foldl mt o=o++t
 |[],o=>⟨[],by simp⟩
 |a::r,o=>by obtain⟨t,h⟩:=aFa (a:=a) (o:=o);obtain⟨u,J⟩:=PZ (l:=r) (o:=mt o a);exact⟨t++u,by rw[jn,J,h,fA]⟩
theorem aE'{a:Int}{o:List Int}{v:Int}:v∈mt o a↔v∈o\/(v=a/\a≠0):=by unfold mt;split;rename_i h;rw[cf,dV];exact⟨λ b=>b.imp id λ J=>⟨J,h.1⟩,λ b=>b.imp id λ J=>J.1⟩;rename_i h;refine⟨.inl,λ b=>b.elim id λ J=>?_⟩;obtain⟨rfl,c⟩:=J;exact lm λ d=>h ⟨c,d⟩
theorem Hx{v:Int}:∀ {l o:List Int},v∈l.foldl mt o↔v∈o\/(v∈l/\v≠0)
 |[],o=>by simp
 |a::r,o=>by rw[jn,Hx (l:=r),aE'];constructor;rintro((h |⟨rfl,h⟩)|⟨h,b⟩);exact .inl h;exact .inr ⟨by simp,h⟩;exact .inr ⟨by simp[h],b⟩;rintro(h |⟨h,b⟩);exact .inl (.inl h);rcases cH.1 h with rfl |h;exact .inl (.inr ⟨rfl,b⟩);exact .inr ⟨h,b⟩
def na(k:aP)(W:List Int):Nat->Nat->List Int->List Int
 |0,_,o=>o
 |d+1,i,o=>match o[i]? with
  |some a=>na k W d (i+1) ((dq k W a).foldl mt o)
  |none=>o
section
variable{F:Nat}{h:aV}{k:aP}{Y O:List Int}
theorem aeA{a:Int}{o:List Int}(c:10000<F)(d:o.length<=5000):Jh F a o=some ((),((),()),mt o a,()):=by
 unfold Jh mt;by_cases b:a=0;rw[mU b,dS,nh,nc (λ h=>h.1 b)]
 ·rw[mV b,ib,ng,show iL F o a=some (decide (a∈o)) from Bq ⟨by omega,by omega⟩ a,ae];by_cases J:a∈o;rw[mU J,dS,nh,nc (λ h=>h.2 J)]
  ·rw[mV J,ib,ng,nf ⟨b,J⟩];have:bI 8 o [a]=some (o++[a]):=by unfold bI;rw[nf (by simp only[j4];omega)]
   rw[this,ae]
section
variable{S:List Int}{y ol yt ot nx:Int}{W nt:List Int}{c1:List aq}{c2:List Int}{c3:List (List I.Field)}{c4:List (List (List UInt8))}{c5:List (List I.Target)}
theorem avq(e:10000<F)(p:S.length<=5000){l:List Int}(g:l.length<=140737488355328)(j:∀a∈l,a=0\/a∈S):∀(d i f:Nat)(o:List Int),i+d=l.length->d<f->Ord S o ->
 CZ F f l (i:Int) W y ol yt ot nt nx c1 c2 c3 c4 c5 o=some (((),(),(),((),()),()),(W,y,ol,yt,ot,nt,nx,()),(c1,c2,c3,c4,c5,()),((),()),(l.drop i).foldl mt o,()):=by
 intro d
 induction d with
 |zero=>
  intro i f o h ad b;obtain⟨f,rfl⟩:∃c,f=c+1:=⟨f-1,by omega⟩
  have:i=l.length:=by omega
  subst this;rw[CZ,bL,nh,hW];rfl
 |succ d m=>
  intro i f o h ad b;obtain⟨f,rfl⟩:∃c,f=c+1:=⟨f-1,by omega⟩
  have hi:i<l.length:=by omega
  have n:l[i]? =some l[i]:=aN hi;rw[CZ,bM hi,ng,bu n,ae,aeA e (by have:=b.len;omega),ae,eO hi g];refine(m (i+1) f (mt o l[i]) (by omega) (by omega) (b.mt (j _ (hj hi)))).trans ?_;rw[de hi,jn]
theorem avs(e:10000<F)(s:S.length<=5000){l:List Int}{j:Int}(g:l.length<=140737488355328)(m:∀w∈l,0<=w/\w.toNat<W.length)(n:∀w∈l,wd W w.toNat=0\/wd W w.toNat∈S):∀(d i f:Nat)(o:List Int),i+d=l.length->d<f->Ord S o ->
 C1 F f j l (i:Int) W y ol yt ot nt nx c1 c2 c3 c4 c5 o=some (((),(),(),((),()),j,()),(W,y,ol,yt,ot,nt,nx,()),(c1,c2,c3,c4,c5,()),((),()),((l.drop i).map λ w=>wd W w.toNat).foldl mt o,()):=by
 intro d
 induction d with
 |zero=>
  intro i f o h ad a;obtain⟨f,rfl⟩:∃b,f=b+1:=⟨f-1,by omega⟩
  have:i=l.length:=by omega
  subst this;rw[C1,bL,nh,hW];rfl
 |succ d p=>
  intro i f o h ad a;obtain⟨f,rfl⟩:∃b,f=b+1:=⟨f-1,by omega⟩
  have hi:i<l.length:=by omega
  have q:l[i]? =some l[i]:=aN hi;have c:l[i]∈l:=hj hi;obtain⟨w0,r⟩:=m _ c;rw[C1,bM hi,ng,bu q,ae,jl (show l[i]=(l[i].toNat:Int) by omega) r,ae,aeA e (by have:=a.len;omega),ae,eO hi g];refine(p (i+1) f (mt o (wd W l[i].toNat)) (by omega) (by omega) (a.mt (n _ c))).trans ?_;rw[de hi,ez,jn]
end
theorem Jy(g:I.Good F h k Y O):(Y++O).length<=5000:=by have:=(g.l.py g.fM g.s).oK;have:Y.length+O.length<=5000:=this;rw[dM];omega
theorem avr(c:10000<F)(g:I.Good F h k Y O):∀(d i f:Nat)(o:List Int),(Y++O).length<i+d->d<f->i<=o.length->Ord (Y++O) o ->
 C0 F f (i:Int) h.Words h.ak h.aK h.aO h.aM h.aU h.Next k.a1 k.aY k.Fields k.Names k.aZ o=some (((),()),(h.Words,h.ak,h.aK,h.aO,h.aM,h.aU,h.Next,()),(k.a1,k.aY,k.Fields,k.Names,k.aZ,()),((),()),na k h.Words d i o,()):=by
 intro d
 have n:=Jy g
 induction d with
 |zero=>intro i f o hi ad p a;have:=a.len;omega
 |succ d q=>
  intro i f o aJ ad p a;obtain⟨f,rfl⟩:∃r,f=r+1:=⟨f-1,by omega⟩
  rcases gI i o.length with hi |hi;have e:o[i]? =some o[i]:=aN hi;have ap:o[i]∈Y++O:=a.sub _ (hj hi);have b:Ord (Y++O) ((dq k h.Words o[i]).foldl mt o):=a.EF λ v s=>qx g ap v s;rw[C0,bM hi,ng,bu e,ae,Rz c (g.l.py g.fM g.s) ap,ae];have m:=avs (S:=Y++O) (y:=h.ak) (ol:=h.aK) (yt:=h.aO) (ot:=h.aM) (nx:=h.Next) (W:=h.Words) (nt:=h.aU) (c1:=k.a1) (c2:=k.aY) (c3:=k.Fields) (c4:=k.Names) (c5:=k.aZ) c n (j:=(i:Int)) (by have:=al6 g ap;omega) (aI8 g ap) (λ w u=>g.ok.ref _ ap w u) (refs k h.Words o[i].toNat).length 0 F o (by omega) (by have:=al6 g ap;omega) a;rw[hf]at m;have x:C1 F F (i:Int) (refs k h.Words o[i].toNat) 0 h.Words h.ak h.aK h.aO h.aM h.aU h.Next k.a1 k.aY k.Fields k.Names k.aZ o=_:=m;rw[x,ae,eO hi (by have:=a.len;omega)];obtain⟨t,z⟩:=PZ (l:=dq k h.Words o[i]) (o:=o);refine(q (i+1) f ((dq k h.Words o[i]).foldl mt o) (by omega) (by omega) (by rw[z,dM];omega) b).trans ?_;rw[na,e]
  ·have:i=o.length:=by omega
   subst this;rw[C0,bL,nh,na,gH (cP _)]
def iV(k:aP)(h:aV)(Y O roots:List Int):List Int:=na k h.Words ((Y++O).length+1) 0 (roots.foldl mt [])
theorem aI3(b:10000<F)(g:I.Good F h k Y O){roots:List Int}(j:roots.length<=5000)(c:∀a∈roots,a=0\/a∈Y++O) :
 Nq F h.Words h.ak h.aK h.aO h.aM h.aU h.Next k.a1 k.aY k.Fields k.Names k.aZ roots=some ((iV k h Y O roots,()),()):=by
 have e:=Jy g
 unfold Nq
 have d:=avq (S:=Y++O) (y:=h.ak) (ol:=h.aK) (yt:=h.aO) (ot:=h.aM) (nx:=h.Next) (W:=h.Words) (nt:=h.aU) (c1:=k.a1) (c2:=k.aY) (c3:=k.Fields) (c4:=k.Names) (c5:=k.aZ) b e (l:=roots) (by omega) c roots.length 0 F [] (by omega) (by omega) Ord.nil
 rw[hf]at d
 have f:CZ F F roots 0 h.Words h.ak h.aK h.aO h.aM h.aU h.Next k.a1 k.aY k.Fields k.Names k.aZ []=_:=d
 rw[f,ae]
 have ao:=avr b g ((Y++O).length+1) 0 F (roots.foldl mt []) (by omega) (by omega) (gY _) (Ord.nil.EF c)
 dsimp only
 have i:C0 F F 0 h.Words h.ak h.aK h.aO h.aM h.aU h.Next k.a1 k.aY k.Fields k.Names k.aZ (roots.foldl mt [])=_:=ao
 rw[i,ae]
 rfl
theorem ams(g:I.Good F h k Y O):∀ {d i:Nat}{o:List Int},Ord (Y++O) o->Ord (Y++O) (na k h.Words d i o)
 |0,i,o,b=>b
 |d+1,i,o,b=>by unfold na;split;rename_i a ap;exact ams g (b.EF λ v c=>qx g (b.sub _ (bH ap)) v c);exact b
theorem tQ(g:I.Good F h k Y O){roots:List Int}(b:∀a∈roots,a=0\/a∈Y++O):Ord (Y++O) (iV k h Y O roots):=ams g (Ord.nil.EF b)
end
section
variable{F:Nat}{h:aV}{k:aP}{Y O:List Int}
theorem amt{W:List Int}:∀ {d i:Nat}{o:List Int},∃t,na k W d i o=o++t
 |0,i,o=>⟨[],by simp[na]⟩
 |d+1,i,o=>by unfold na;split;rename_i a _;obtain⟨t,b⟩:=PZ (l:=dq k W a) (o:=o);obtain⟨u,c⟩:=amt (W:=W) (d:=d) (i:=i+1) (o:=(dq k W a).foldl mt o);exact⟨t++u,by rw[c,b,fA]⟩;exact⟨[],by simp⟩
theorem amq(g:I.Good F h k Y O):∀ {d i:Nat}{o:List Int},(Y++O).length<i+d->Ord (Y++O) o->(∀j a,j<i->o[j]? =some a->∀v∈dq k h.Words a,v≠0 ->v∈o) ->
 ∀a∈na k h.Words d i o,∀v∈dq k h.Words a,v≠0 ->v∈na k h.Words d i o
 |0,i,o,aJ,m,hc=>λ a ap v f n=>by unfold na at ap⊢;obtain⟨j,aA,rfl⟩:=iZ.1 ap;have:=m.len;exact hc j _ (by omega) (aN aA) v f n
 |d+1,i,o,aJ,m,hc=>λ a ap v f n=>by
  unfold na at ap⊢;split at ap
  ·rename_i b ag;obtain⟨t,q⟩:=PZ (l:=dq k h.Words b) (o:=o);refine amq g (by omega) (m.EF λ v f=>qx g (m.sub _ (bH ag)) v f) (λ j c aA p u r s=>?_) a ap v f n;have hi:=(aR.1 ag).1;rcases gI j i with e |e;rw[q,er (by omega)]at p;exact Hx.2 (.inl (hc j c e p u r s))
   ·have:j=i:=by omega
    subst this;rw[q,er hi,ag]at p;cases p;exact Hx.2 (.inr ⟨r,s⟩)
  ·rename_i ag;obtain⟨j,aA,rfl⟩:=iZ.1 ap;have:=List.getElem?_eq_none_iff.1 ag;exact hc j _ (by omega) (aN aA) v f n
theorem amr{W:List Int}{P:Int->Prop}(e:∀a,P a->∀v∈dq k W a,v≠0 ->P v):∀ {d i:Nat}{o:List Int},(∀a∈o,P a)->∀a∈na k W d i o,P a
 |0,i,o,c=>c
 |d+1,i,o,c=>by unfold na;split;rename_i b ag;refine amr e λ a ap=>?_;rcases Hx.1 ap with h |⟨h,f⟩;exact c a h;exact e b (c b (bH ag)) a h f;exact c
structure Nd (k:aP) (W roots:List Int) (P:Int->Prop):Prop where
 rt:∀v∈roots,v≠0 ->P v
 hb:∀a,P a->∀v∈dq k W a,v≠0 ->P v
theorem Q1(g:I.Good F h k Y O){roots:List Int}(b:∀a∈roots,a=0\/a∈Y++O):Nd k h.Words roots (·∈iV k h Y O roots):=by refine⟨λ v c e=>?_,amq g (by omega) (Ord.nil.EF b) λ j a aA=>by omega⟩;obtain⟨t,f⟩:=amt (k:=k) (W:=h.Words) (d:=(Y++O).length+1) (i:=0) (o:=roots.foldl mt []);unfold iV;rw[f];exact e8 _ (Hx.2 (.inr ⟨c,e⟩))
theorem Q2{roots:List Int}{P:Int->Prop}(hc:Nd k h.Words roots P):∀a∈iV k h Y O roots,P a:=amr hc.hb λ a ap=>(Hx.1 ap).elim (λ h=>by simp at h) λ h=>hc.rt a h.1 h.2
end
def jT(k:aP)(W:List Int)(a n i:Nat):List Int:=((ef n).drop i).flatMap λ j=>if en k (wd W a) j then[wd W (a+3+j)]else[]
theorem al9{k:aP}{W:List Int}{a n:Nat}:jT k W a n n=[]:=by unfold jT;rw[List.drop_eq_nil_of_le (by simp)];rfl
theorem ama{k:aP}{W:List Int}{a n i:Nat}(h:i<n):jT k W a n i=(if en k (wd W a) i then[wd W (a+3+i)]else[])++jT k W a n (i+1):=by
 unfold jT;have hi:i<(ef n).length:=by simpa using h
 rw[de hi,h7,List.getElem_range]
theorem al'{k:aP}{W:List Int}{a:Int}:jT k W a.toNat (wd W (a.toNat+1)).toNat 0=dq k W a:=by unfold jT dq refs;rw[hf,List.map_flatMap];congr 1;funext j;split;rw[lJ,bV];rfl
theorem al_{k:aP}{W:List Int}{a n:Nat}:∀ {d i:Nat},i+d=n->(jT k W a n i).length<=d
 |0,i,h=>by
  have:i=n:=by omega
  subst this;rw[al9];simp
 |d+1,i,h=>by rw[ama (by omega),dM];have:=al_ (k:=k) (W:=W) (a:=a) (n:=n) (d:=d) (i:=i+1) (by omega);split<;>simp <;>omega
theorem aB'{W:List Int}{a:Int}{i:Nat}(ap:1<=a)(ag:a.toNat+3+i<W.length)(e6:W.length<=100000):idx W (aw (aw (a+3)+(i:Int)))=some (wd W (a.toNat+3+i)):=by
 have e:aw (aw (a+3)+(i:Int))=((a.toNat+3+i:Nat):Int):=by rw[cg (n:=a+3) (by omega) (by omega),cg (by omega) (by omega)];omega
 rw[e];exact fh ag
section
variable{F:Nat}{h:aV}{k:aP}{Y O:List Int}
theorem aEV(v:10000<F)(g:I.Good F h k Y O){a:Int}(ap:a∈Y++O){m:List (Int×Bool)}{n:Nat}(w:n=(wd h.Words (a.toNat+1)).toNat):∀(d i f:Nat)(hb:List Int),i+d=n->d<f->hb.length+d<=1000000 ->
 z' F f a (n:Int) (i:Int) k.a1 k.aY k.Fields k.Names k.aZ h.Words h.ak h.aK h.aO h.aM h.aU h.Next m hb=
  some (((),(),()),((),k.a1,k.aY,k.Fields,k.Names,k.aZ,(),()),(h.Words,h.ak,h.aK,h.aO,h.aM,h.aU,h.Next,()),m,hb++jT k h.Words a.toNat n i,()):=by
 obtain⟨o,x,y⟩:=g.l.fit g.s a ap
 have z:=g.s.e1
 have p:=g.l.tW a ap
 have c:a=(a.toNat:Int):=by omega
 obtain⟨q,j⟩:=p
 have r:wd h.Words (a.toNat+1)=(n:Int):=by have:=(iE.1 j).1.1;omega
 intro d
 induction d with
 |zero=>
  intro i f hb hi ad aj;obtain⟨f,rfl⟩:∃e,f=e+1:=⟨f-1,by omega⟩
  have:i=n:=by omega
  subst this;rw[z',bL,nh,al9,hv]
 |succ d l=>
  intro i f hb hi ad aj;obtain⟨f,rfl⟩:∃e,f=e+1:=⟨f-1,by omega⟩
  have b:i<n:=by omega
  have s:rr (b9.mk (aP.mk k.a1 k.aY k.Fields k.Names k.aZ)) (wd h.Words a.toNat) (i:Int)=some (en k (wd h.Words a.toNat) i):=Rk g.fM q j (by omega);rw[z',bM b,ng,jl c (by omega),ae,s,ae,ama b];cases A:en k (wd h.Words a.toNat) i with
  |false=>rw[nh,eO b (by omega)];exact(l (i+1) f hb (by omega) (by omega) (by omega)).trans (by simp)
  |true=>
   have t:idx h.Words (aw (aw (a+3)+(i:Int)))=some (wd h.Words (a.toNat+3+i)):=aB' o (by omega) (by omega);have u:bI 8 hb [wd h.Words (a.toNat+3+i)]=some (hb++[wd h.Words (a.toNat+3+i)]):=by unfold bI;rw[nf (by simp only[j4];omega)]
   rw[ng,t,ae,u,ae,eO b (by omega)];exact(l (i+1) f _ (by omega) (by omega) (by simp;omega)).trans (by simp)
end
def sz(W:List Int)(a:Int):Nat:=3+(wd W (a.toNat+1)).toNat
def news(W:List Int):Nat->List Int->List Int
 |_,[]=>[]
 |t,a::r=>(t:Int)::news W (t+sz W a) r
def bB(W:List Int):Nat->List Int->Nat
 |t,[]=>t
 |t,a::r=>bB W (t+sz W a) r
theorem yl{W:List Int}:∀ {o:List Int}{t:Nat},(news W t o).length=o.length
 |[],_=>rfl
 |a::r,t=>by simp[news,yl (o:=r)]
theorem Qn{W:List Int}{b:Int}:∀ {o:List Int}{t:Nat},news W t (o++[b])=news W t o++[(bB W t o:Int)]
 |[],t=>rfl
 |a::r,t=>by simp[news,bB,Qn (o:=r)]
theorem Ih{W:List Int}{b:Int}:∀ {o:List Int}{t:Nat},bB W t (o++[b])=bB W t o+sz W b
 |[],t=>rfl
 |a::r,t=>by simp[bB,Ih (o:=r)]
theorem lF{W:List Int}:∀ {o:List Int}{t:Nat},t<=bB W t o
 |[],t=>cP _
 |a::r,t=>hl (Nat.le_add_right _ _) (lF (o:=r))
theorem Ii{W:List Int}{p:List Int}:∀ {o:List Int}{t:Nat},bB W t (o++p)=bB W (bB W t o) p
 |[],t=>rfl
 |a::r,t=>by simp[bB,Ii (o:=r)]
def pos:List Int->Int->Option Nat
 |[],_=>none
 |b::r,a=>if b=a then some 0 else(pos r a).map (·+1)
theorem LF:∀ {o:List Int}{a:Int}{j:Nat},pos o a=some j->o[j]? =some a
 |[],a,j,h=>by simp[pos]at h
 |b::r,a,j,h=>by unfold pos at h;split at h;rename_i e;cases h;simp[e];obtain⟨i,c,rfl⟩:=cA.1 h;simpa using LF c
theorem tL:∀ {o:List Int}{a:Int},pos o a=none↔a∉o
 |[],a=>by simp[pos]
 |b::r,a=>by unfold pos;split;rename_i e;simp[e];rename_i e;rw[Option.map_eq_none_iff,tL];simp only[cH,not_or];exact⟨λ h=>⟨λ e'=>e e'.symm,h⟩,λ h=>h.2⟩
def dD(o ns:List Int)(a:Int):Int:=if a=0 then a else match pos o a with
 |some j=>(ns[j]?).getD 0
 |none=>a
section
variable{F:Nat}
theorem aGp{o:List Int}{a:Int}(c:o.length<=140737488355328):∀(d i f:Nat),i+d=o.length->d<f->CY F f o a (i:Int)=some (match pos (o.drop i) a with
 |some j=>.inl ((((i+j:Nat):Int),()),())
 |none=>.inr ((),())):=by
 intro d
 induction d with
 |zero=>
  intro i f h ad;obtain⟨f,rfl⟩:∃b,f=b+1:=⟨f-1,by omega⟩
  have:i=o.length:=by omega
  subst this;rw[CY,bL,nh,hW];rfl
 |succ d g=>
  intro i f h ad;obtain⟨f,rfl⟩:∃b,f=b+1:=⟨f-1,by omega⟩
  have hi:i<o.length:=by omega
  have k:o[i]? =some o[i]:=aN hi;rw[CY,bM hi,ng,bu k,ae,de hi];by_cases e:o[i]=a;rw[mU e,ng,pos,nf e];rfl
  ·rw[mV e,nh,eO hi c,g (i+1) f (by omega) (by omega),pos,nc e];cases pos (o.drop (i+1)) a with
   |none=>rfl
   |some j=>simp only[fY,aF,Sum.inl.injEq,cB,and_true];omega
theorem ak6{o:List Int}{a:Int}(b:o.length<=5000)(c:10000<F):zx F o a=some ((match pos o a with
 |some j=>(j:Int)
 |none=>-1,()),()):=by
 unfold zx
 have e:CY F F o a 0=_:=aGp (o:=o) (a:=a) (by omega) o.length 0 F (by omega) (by omega)
 rw[e,hf]
 cases pos o a with
 |none=>rfl
 |some j=>simp[cZ]
end
def jm(A:List Int):List (Int×Bool):=A.map λ a=>(a,true)
theorem ai_{x:Int}:∀ {A:List Int},x∉A->gy (jm A) x true=jm (A++[x])
 |[],_=>rfl
 |a::r,h=>by
  have b:a≠x:=λ e=>h (by simp[e]);have J:x∉r:=λ e=>h (by simp[e]);show gy ((a,true)::jm r) x true=(a,true)::jm (r++[x])
  rw[gy,nc b,ai_ J]
theorem aCX{x:Int}{A:List Int}:(cE (jm A) x).getD false=decide (x∈A):=P0 x A
def fB(W:List Int)(A:List Int):List Int->Nat
 |[]=>0
 |a::r=>(if a∈A then 0 else sz W a)+fB W A r
theorem akc{W A:List Int}{x:Int}:∀ {S:List Int},fB W (A++[x]) S<=fB W A S
 |[]=>cP _
 |a::r=>by have:=akc (W:=W) (A:=A) (x:=x) (S:=r);unfold fB;by_cases h:a∈A;rw[nf h,nf (by simp[h])];omega;rw[nc h];split<;>omega
theorem akd{W A:List Int}{x:Int}(b:x∉A):∀ {S:List Int},x∈S->fB W (A++[x]) S+sz W x<=fB W A S
 |[],h=>by simp at h
 |a::r,h=>by unfold fB;by_cases e:a=x;subst e;have:=akc (W:=W) (A:=A) (x:=a) (S:=r);rw[nf (by simp),nc b];omega;have J:x∈r:=(cH.1 h).resolve_left λ h=>e h.symm;have:=akd (W:=W) b J;by_cases ap:a∈A;rw[nf ap,nf (by simp[ap])];omega;rw[nc ap,nc (by simp[ap,e])];omega
theorem Li{W:List Int}:∀ {S:List Int}{t:Nat},bB W t S=t+fB W [] S
 |[],t=>rfl
 |a::r,t=>by unfold bB fB;rw[Li (S:=r),nc (by simp)];omega
structure auS (k:aP) (W S A hb cu:List Int):Prop where
 hG:cu.Nodup
 sub:∀a∈cu,a∈S
 cl:(∀a∈A,∀v∈dq k W a,v≠0 ->v∈A\/v∈hb)->(∀a∈cu,∀v∈dq k W a,v≠0 ->v∈cu)
 rt:(∀a∈A,a∈cu)/\∀v∈hb,v≠0 ->v∈cu
 gX:∀P:Int->Prop,(∀a,P a->∀v∈dq k W a,v≠0 ->P v)->(∀a∈A,P a)->(∀v∈hb,v≠0 ->P v)->∀a∈cu,P a
section
variable{F:Nat}{h:aV}{k:aP}{Y O:List Int}
theorem aJG{W:List Int}{a:Int}:(dq k W a).length+3<=sz W a:=by have:=al_ (k:=k) (W:=W) (a:=a.toNat) (n:=(wd W (a.toNat+1)).toNat) (d:=(wd W (a.toNat+1)).toNat) (i:=0) (by omega);rw[al']at this;unfold sz;omega
set_option maxHeartbeats 1000000
theorem aEU(M:10000<F)(g:I.Good F h k Y O):∀(N f:Nat)(A hb:List Int),hb.length+fB h.Words A (Y++O)<=N->N<f->N<=100000 ->A.Nodup->(∀a∈A,a∈Y++O)->(∀v∈hb,v=0\/v∈Y++O) ->
 ∃cu,w8 F f k.a1 k.aY k.Fields k.Names k.aZ h.Words h.ak h.aK h.aO h.aM h.aU h.Next (jm A) hb=
  some ((),((),k.a1,k.aY,k.Fields,k.Names,k.aZ,(),()),(h.Words,h.ak,h.aK,h.aO,h.aM,h.aU,h.Next,()),jm cu,[],())/\auS k h.Words (Y++O) A hb cu:=by
 intro N
 induction N with
 |zero=>
  intro f A hb y ad _ p aj s;obtain⟨f,rfl⟩:∃z,f=z+1:=⟨f-1,by omega⟩
  obtain rfl:hb=[]:=hD (by omega);exact⟨A,by rw[w8];rfl,p,aj,λ hc a ap v c i=>(hc a ap v c i).elim id λ h=>by simp at h,⟨λ a h=>h,λ v c=>by simp at c⟩,λ P _ J _=>J⟩
 |succ N K=>
  intro f A hb y ad Q p aj s;obtain⟨f,rfl⟩:∃z,f=z+1:=⟨f-1,by omega⟩
  rcases List.eq_nil_or_concat hb with rfl |⟨d,x,rfl⟩;exact⟨A,by rw[w8];rfl,p,aj,λ hc a ap v c i=>(hc a ap v c i).elim id λ h=>by simp at h,⟨λ a h=>h,λ v c=>by simp at c⟩,λ P _ J _=>J⟩
  ·have l:(d++[x]).length=d.length+1:=by simp
   rw[List.concat_eq_append]at y s⊢;rw[l]at y;have R:decide (0<(((d++[x]).length:Nat):Int))=true:=mU (by rw[l];omega);have ao:aw ((((d++[x]).length:Nat):Int)-1)=((d.length:Nat):Int):=by rw[l,cg (by omega) (by omega)];omega
   have S:(d++[x])[d.length]? =some x:=by simp
   have aW:(if(0 :Int)<=0/\0<=((d.length:Nat):Int)/\((d.length:Nat):Int)<=(((d++[x]).length:Nat):Int)then some ()else none)=some ():=nf ⟨by omega,by omega,by rw[l];omega⟩;have bR:mB (((d.length:Nat):Int)).toNat (d++[x])=d:=by rw[bV];simp
   have T:x=0\/x∈Y++O:=s x (by simp);have q:∀v∈d,v=0\/v∈Y++O:=λ v c=>s v (by simp[c]);rw[w8,R,ng,ao,bu S,ae,aW,ae,bR,aCX];clear ao;by_cases hc:x=0\/x∈A
   ·have:(decide (x=0)||decide (x∈A))=true:=by
     rcases hc with h |h
     ·rw[mU h];rfl
     ·rw[mU h,Bool.or_true]
    rw[this,ng];obtain⟨cu,B,j⟩:=K f A d (by omega) (by omega) (by omega) p aj q;refine⟨cu,B,j.hG,j.sub,λ C=>j.cl λ a ap v c i=>?_,⟨j.rt.1,λ v c i=>?_⟩,λ P t D u=>j.gX P t D λ v c=>u v (by simp[c])⟩
    ·rcases C a ap v c i with h |h;exact .inl h;rcases cf.1 h with h |h;exact .inr h;cases dV.1 h;exact .inl (hc.resolve_left i)
    ·rcases cf.1 c with h |h;exact j.rt.2 v h i;cases dV.1 h;exact j.rt.1 _ (hc.resolve_left i)
   ·have E:x≠0:=λ e=>hc (.inl e);have w:x∉A:=λ e=>hc (.inr e);have o:=T.resolve_left E;rw[mV E,mV w,Bool.or_self,nh,ai_ w];obtain⟨Z,f2,_⟩:=g.l.fit g.s x o;have p_:=g.s.e1;obtain⟨n,L⟩:∃n,n=(wd h.Words (x.toNat+1)).toNat:=⟨_,rfl⟩
    have G:wd h.Words (x.toNat+1)=(n:Int):=by have:=(iE.1 (g.l.tW x o).2).1.1;omega
    have H:idx h.Words (aw (x+1))=some (n:Int):=by
     have e:aw (x+1)=((x.toNat+1 :Nat):Int):=by rw[cg (by omega) (by omega)];omega
     rw[e,fh (by omega),G]
    rw[H,ae];have U:=aEV M g o (m:=jm (A++[x])) L n 0 F d (by omega) (by omega) (by omega);have V:z' F F x (n:Int) 0 k.a1 k.aY k.Fields k.Names k.aZ h.Words h.ak h.aK h.aO h.aM h.aU h.Next (jm (A++[x])) d=_:=U;rw[V,ae,L,al'];have X:=akd (W:=h.Words) w o;have Hc:=aJG (k:=k) (W:=h.Words) (a:=x)
    obtain⟨cu,B,j⟩:=K f (A++[x]) (d++dq k h.Words x) (by rw[dM];omega) (by omega) (by omega) (fx.2 ⟨p,by simp,λ a ap b ag e=>by cases dV.1 ag;exact w (e▸ap)⟩)
     (λ a ap=>(cf.1 ap).elim (aj a) λ h=>by cases dV.1 h;exact o)
     (λ v c=>(cf.1 c).elim (q v) λ h=>qx g o v h)
    refine⟨cu,B,j.hG,j.sub,λ C=>j.cl λ a ap v c i=>?_,⟨λ a ap=>j.rt.1 a (by simp[ap]),λ v c i=>?_⟩,λ P t D u=>?_⟩;rcases cf.1 ap with ap |ap;rcases C a ap v c i with h |h;exact .inl (by simp[h]);rcases cf.1 h with h |h;exact .inr (by simp[h]);exact .inl (by simp[dV.1 h]);cases dV.1 ap;exact .inr (by simp[c]);rcases cf.1 c with h |h;exact j.rt.2 v (by simp[h]) i;exact j.rt.1 v (by simp[dV.1 h]);have r:P x:=u x (by simp) E;refine j.gX P t (λ a ap=>?_) λ v c i=>?_;rcases cf.1 ap with h |h;exact D a h;cases dV.1 h;exact r;rcases cf.1 c with h |h;exact u v (by simp[h]) i;exact t x r v h i
end
open I ba
theorem akb{W A:List Int}:∀ {l m:List Int},fB W A (l++m)=fB W A l+fB W A m
 |[],m=>by simp[fB]
 |a::r,m=>by
  show(if a∈A then 0 else sz W a)+fB W A (r++m)=(if a∈A then 0 else sz W a)+fB W A r+fB W A m
  rw[akb (l:=r)];omega
theorem anA{k:aP}{W:List Int}{to q:Nat}{L:List Int}(h:I.eB k W to q L):bB W q L=to:=by
 induction h with
 |nil=>rfl
 | @cons q r _ _ _ _ a=>
   show bB W (q+sz W (q:Int)) r=to
   rw[show q+sz W (q:Int)=q+3+(wd W (q+1)).toNat by unfold sz;rw[bV];omega];exact a
theorem amV{W:List Int}:∀ {l:List Int}{n:Int},(∀a∈l,∃v,idx W (aw (a+1))=some v)->∃m,js W l n=some m
 |[],n,_=>⟨n,rfl⟩
 |a::r,n,h=>by obtain⟨v,c⟩:=h a (by simp);obtain⟨m,d⟩:=amV (l:=r) (n:=aw (n+aw (3+v))) λ b ag=>h b (by simp[ag]);exact⟨m,by rw[js,c,ae,d]⟩
section
variable{F:Nat}{h:aV}{k:aP}{Y O:List Int}
theorem aka(g:I.Good F h k Y O):fB h.Words [] (Y++O)<=4001:=by have a:=anA g.l.y;have J:=anA g.l.o;rw[Li]at a J;rw[akb];have b:(h.Words.length:Int)=1+h.ak+h.aK:=g.s.B;obtain⟨⟨c1,c2⟩,⟨c3,c4⟩,_⟩:=g.s.C;obtain⟨⟨c,_⟩,a3,_⟩:=g.s.A;have:=g.s.e1;omega
theorem aEW(e:10000<F)(g:I.Good F h k Y O){roots:List Int}(n:roots.length<=5000)(c:∀a∈roots,a=0\/a∈Y++O) :
 ∃A,A.Perm (iV k h Y O roots)/\A.Nodup/\(∀a∈A,a∈Y++O)/\Dx F roots k.a1 k.aY k.Fields k.Names k.aZ h.Words h.ak h.aK h.aO h.aM h.aU h.Next []=
  some ((),((),k.a1,k.aY,k.Fields,k.Names,k.aZ,(),()),(h.Words,h.ak,h.aK,h.aO,h.aM,h.aU,h.Next,()),jm A,()):=by
 have f:=aka g
 obtain⟨A,i,b⟩:=aEU e g (roots.length+4001) F [] roots (by omega) (by omega) (by omega) mg (λ a ap=>by simp at ap) c
 have d:=Q1 g c
 have j:=tQ g c
 refine⟨A,(ke b.hG j.hG).2 λ a=>⟨λ ap=>?_,λ ap=>?_⟩,b.hG,b.sub,?_⟩
 ·exact b.gX _ d.hb (λ a ap=>by simp at ap) d.rt a ap
 ·exact Q2 (P:=λ a=>a∈A) ⟨b.rt.2,b.cl λ a ap=>by simp at ap⟩ a ap
 ·unfold Dx;have l:bI 8 [] roots=some roots:=by unfold bI;rw[nf (by simp;omega)];rfl
  have m:w8 F F k.a1 k.aY k.Fields k.Names k.aZ h.Words h.ak h.aK h.aO h.aM h.aU h.Next [] roots=_:=i;rw[l,ae,m,ae]
theorem aB_(g:I.Good F h k Y O){a:Int}(ap:a∈Y++O):∃v,idx h.Words (aw (a+1))=some v:=by
 obtain⟨b,c,_⟩:=g.l.fit g.s a ap;have d:=g.s.e1;have e:aw (a+1)=((a.toNat+1 :Nat):Int):=by rw[cg (by omega) (by omega)];omega
 rw[e];exact⟨_,fh (by omega)⟩
theorem aEy{l:List Int}(c:l.length<=140737488355328):∀(d i f:Nat)(n:Int),i+d=l.length->d<f ->
 CX F f l n (i:Int) h.Words h.ak h.aK h.aO h.aM h.aU h.Next=(js h.Words (l.drop i) n).map λ m=>((m,()),(h.Words,h.ak,h.aK,h.aO,h.aM,h.aU,h.Next,()),()):=by
 intro d
 induction d with
 |zero=>
  intro i f n hi ad;obtain⟨f,rfl⟩:∃b,f=b+1:=⟨f-1,by omega⟩
  have:i=l.length:=by omega
  subst this;rw[CX,bL,nh,hW];rfl
 |succ d e=>
  intro i f n hi ad;obtain⟨f,rfl⟩:∃b,f=b+1:=⟨f-1,by omega⟩
  have a:i<l.length:=by omega
  have g:l[i]? =some l[i]:=aN a;rw[CX,bM a,ng,bu g,ae,de a,js];cases j:idx h.Words (aw (l[i]+1))with
  |none=>rfl
  |some v=>rw[ae,ae,eO a c];exact e (i+1) f _ (by omega) (by omega)
theorem aEz(d:10000<F)(g:I.Good F h k Y O){roots:List Int}(f:roots.length<=5000)(b:∀a∈roots,a=0\/a∈Y++O) :
 ∃m A,A.Perm (iV k h Y O roots)/\A.Nodup/\(∀a∈A,a∈Y++O)/\js h.Words A 0=some m/\
  Dx F roots k.a1 k.aY k.Fields k.Names k.aZ h.Words h.ak h.aK h.aO h.aM h.aU h.Next []=
   some ((),((),k.a1,k.aY,k.Fields,k.Names,k.aZ,(),()),(h.Words,h.ak,h.aK,h.aO,h.aM,h.aU,h.Next,()),jm A,())/\
  DB h.Words (jm A)=some m/\Np F h.Words h.ak h.aK h.aO h.aM h.aU h.Next k.a1 k.aY k.Fields k.Names k.aZ roots=some ((m,()),()):=by
 obtain⟨A,i,p,j,q⟩:=aEW d g f b
 obtain⟨m,c⟩:=amV (W:=h.Words) (l:=A) (n:=0) λ a ap=>aB_ g (j a ap)
 have r:js h.Words (iV k h Y O roots) 0=some m:=by rw[<-abo i];exact c
 refine⟨m,A,i,p,j,c,q,?_,?_⟩
 ·unfold DB jm;rw[me];have:(k1∘λ a:Int=>(a,true))=id:=rfl;rw[this,List.map_id];exact c
 ·unfold Np;rw[aI3 d g f b,ae];have o:=(tQ g b).len;have s:=Jy g;have e:=aEy (F:=F) (h:=h) (l:=iV k h Y O roots) (by omega) (iV k h Y O roots).length 0 F 0 (by omega) (by omega);rw[hf,r]at e;have e':CX F F (iV k h Y O roots) 0 0 h.Words h.ak h.aK h.aO h.aM h.aU h.Next=_:=e;dsimp only;rw[e'];rfl
end
end Go.Proofs.YteeliipnilghaaaGreat
namespace I
section
variable{F:Nat}{k:aP}{h:aV}{Y O:List Int}
theorem am3(c:10000<F)(g:Good F h k Y O):oH F h k=some (Y,O,true):=by rcases alP (F:=F) (by omega) g.fM g.s with⟨Y',O',a,e⟩|⟨b,_⟩;obtain rfl:=a.y.yD g.l.y;obtain rfl:=a.o.yD g.l.o;exact e;exact absurd g.l (b _ _)
def uN(Y O:List Int)(a:Int):Bool:=!decide (a=0)&& !decide (a∈Y++O)
def kv(Y O roots:List Int):Int:=if 1000<(roots.length:Int)then 2 else if roots.any (uN Y O)then 5 else 0
theorem aJd(d:10000<F)(g:Good F h k Y O)(roots:List Int):FQ F (view h k Y O) roots=some (kv Y O roots):=by
 unfold FQ kv;by_cases a:1000<(roots.length:Int);rw[mU a,nf a];rfl
 ·rw[mV a,nc a,nh];unfold Ro Rs
  have ad:=U' (l:=roots) (L:=BG roots (view h k Y O)) (uN Y O) (by omega) (λ f i x b=>by
   rw[BG,bM (aR.1 b).1,ng,bu b,ae];unfold S2 uN;by_cases c:x=0;rw[mU c];rfl
   ·rw[mV c,ib,ng,j7];show ej (ej (GU (view h k Y O) x) _) _=_
    rw[g.dQ x];rfl) (λ f=>by rw[BG,bL];rfl) (F:=F) (by omega)
  refine Eq.trans (congrArg (λ o=>ej o λ(r:Bool)=>cond r (some (5 :Int)) (some 0)) (ad:_)) ?_;rw[ae];cases roots.any (uN Y O)<;>rfl
theorem aJc(e:10000<F)(g:Good F h k Y O)(roots:List Int):zu F h k roots=some (kv Y O roots):=by
 have hc:Y.length+O.length<=5000:=(g.l.py g.fM g.s).oK;unfold zu kv;by_cases b:1000<(roots.length:Int);rw[mU b,nf b];rfl
 ·rw[mV b,nc b,nh];have j:oH F (⟨h.Words,h.ak,h.aK,h.aO,h.aM,h.aU,h.Next⟩:aV) (⟨k.a1,k.aY,k.Fields,k.Names,k.aZ⟩:aP)=_:=am3 e g;rw[j,ae]
  have m:q4 F roots (Y,O,true) F 0=some (cC (roots.findSome? λ a=>if uN Y O a then some 5 else none)):=each _ (by omega) (λ f i x c=>by
   rw[q4,bM (aR.1 c).1,ng,bu c,ae,ae];rw[show iL F (Y,O,true).1 x=some (decide (x∈Y)) from Bq (l:=Y) ⟨by omega,by omega⟩ x,ae,ae];rw[show iL F (Y,O,true).2.1 x=some (decide (x∈O)) from Bq (l:=O) ⟨by omega,by omega⟩ x,ae];unfold uN;by_cases d:x=0;rw[mU d];rfl
   ·by_cases hy:x∈Y<;>by_cases n:x∈O<;>simp[d,hy,n,ht]) (λ f=>by rw[q4,bL];rfl) (by omega)
  rw[m,Vl];cases roots.any (uN Y O)<;>rfl
theorem aa0{roots:List Int}(h:kv Y O roots=0):roots.length<=1000/\∀a∈roots,a=0\/a∈Y++O:=by unfold kv at h;split at h;cases h;rename_i d;split at h;cases h;rename_i J;refine⟨by omega,λ a ap=>?_⟩;have:=iY.1 (gQ.2 J) a ap;unfold uN at this;by_cases b:a=0;exact .inl b;by_cases c:a∈Y++O;exact .inr c;simp only[cd,hh,decide_eq_false_iff_not]at this;exact absurd ⟨b,c⟩ this
end
end I
namespace Go.Proofs.YteeliipnilghaaaGreat
open I
section
variable{F:Nat}{h:aV}{k:aP}{Y O:List Int}
theorem T2{out:List Int}{x:Int}(a:out.length<=1000000):bI 8 out [x]=some (out++[x]):=by unfold bI;rw[nf (by simp only[j4];omega)]
theorem aGs{l:List Int}(j:l.length<=5000):∀(d i f:Nat)(out:List Int),i+d=l.length->d<f->out.length=i ->
 FP F f l (l.length:Int) (i:Int) out=some (((),()),out++l.drop i,()):=by
 intro d
 induction d with
 |zero=>
  intro i f out hi ad c;obtain⟨f,rfl⟩:∃b,f=b+1:=⟨f-1,by omega⟩
  have:i=l.length:=by omega
  subst this;rw[FP,bL,nh,hW,hv]
 |succ d e=>
  intro i f out hi ad c;obtain⟨f,rfl⟩:∃b,f=b+1:=⟨f-1,by omega⟩
  have a:i<l.length:=by omega
  have g:l[i]? =some l[i]:=aN a;rw[FP,bM a,ng,bu g,ae,T2 (by omega),ae,eO a (by omega)];refine(e (i+1) f _ (by omega) (by omega) (by simp[c])).trans ?_;rw[de a,fA,k9]
theorem aGr(b:10000<F){l:List Int}(a:l.length<=5000):S1 F l=some ((l,()),()):=by unfold S1;have e:=aGs (F:=F) a l.length 0 F [] (by omega) (by omega) rfl;rw[hf,jI]at e;have e':FP F F l (l.length:Int) 0 []=_:=e;rw[e',ae]
theorem aKL{l:List Int}(j:l.length<=5000):∀(d i f:Nat)(out:List Int),i+d=l.length->d<f->out.length=i ->
 DA F f l (l.length:Int) (i:Int) out=some (((),()),out++l.drop i,()):=by
 intro d
 induction d with
 |zero=>
  intro i f out hi ad c;obtain⟨f,rfl⟩:∃b,f=b+1:=⟨f-1,by omega⟩
  have:i=l.length:=by omega
  subst this;rw[DA,bL,nh,hW,hv]
 |succ d e=>
  intro i f out hi ad c;obtain⟨f,rfl⟩:∃b,f=b+1:=⟨f-1,by omega⟩
  have a:i<l.length:=by omega
  have g:l[i]? =some l[i]:=aN a;rw[DA,bM a,ng,bu g,ae,T2 (by omega),ae,eO a (by omega)];refine(e (i+1) f _ (by omega) (by omega) (by simp[c])).trans ?_;rw[de a,fA,k9]
theorem aKM(b:10000<F){l:List Int}(a:l.length<=5000):Ow F l=some ((l,()),()):=by unfold Ow;have e:=aKL (F:=F) a l.length 0 F [] (by omega) (by omega) rfl;rw[hf,jI]at e;have e':DA F F l (l.length:Int) 0 []=_:=e;rw[e',ae]
theorem JP(b:10000<F)(g:I.Good F h k Y O)(roots:List Int) :
 Dy F h.Words h.ak h.aK h.aO h.aM h.aU h.Next k.a1 k.aY k.Fields k.Names k.aZ roots=
  some (.inl (((),kv Y O roots,()),(h.Words,h.ak,h.aK,h.aO,h.aM,h.aU,h.Next,k.a1,k.aY,k.Fields,k.Names,k.aZ,Y,O,(),()),(Y++O).map (λ a=>(a,true)),())):=by
 have Ds:kQ F (⟨h.Words,h.ak,h.aK,h.aO,h.aM,h.aU,h.Next⟩:aV) (⟨k.a1,k.aY,k.Fields,k.Names,k.aZ⟩:aP)=_:=g.open b
 have c:FQ F (⟨⟨h.Words,h.ak,h.aK,h.aO,h.aM,h.aU,h.Next⟩,⟨⟨k.a1,k.aY,k.Fields,k.Names,k.aZ⟩⟩,Y,O,(Y++O).map λ a=>(a,true)⟩:bk) roots=_:=aJd b g roots
 unfold Dy
 rw[Ds]
 dsimp only[kx,cZ,view]
 rw[mU (rfl:(0 :Int)=0),ng,c,ae]
theorem agY{roots:List Int}{r:Option bk×Int}(e:kQ F h k=some r)(a:r.1=none)(J:r.2≠0) :
 Dy F h.Words h.ak h.aK h.aO h.aM h.aU h.Next k.a1 k.aY k.Fields k.Names k.aZ roots=some (.inr (((),r.2,()),())):=by
 have Ds:kQ F (⟨h.Words,h.ak,h.aK,h.aO,h.aM,h.aU,h.Next⟩:aV) (⟨k.a1,k.aY,k.Fields,k.Names,k.aZ⟩:aP)=_:=e
 obtain⟨b,c⟩:=r
 obtain rfl:b=none:=a
 have J:c≠0:=J
 unfold Dy
 rw[Ds]
 dsimp only[kx,cZ]
 rw[mV J,nh]
theorem ayo{roots:List Int}{r:Option bk×Int}(e:kQ F h k=some r)(a:r.1=none)(J:r.2≠0) :
 z6 F h.Words h.ak h.aK h.aO h.aM h.aU h.Next k.a1 k.aY k.Fields k.Names k.aZ roots=some ((0,r.2,()),()):=by
 unfold z6
 rw[agY e a J]
 dsimp only[cZ]
 rw[mV J,ib,ng]
theorem ayq(a:10000<F)(g:I.Good F h k Y O){roots:List Int}(b:kv Y O roots≠0) :
 z6 F h.Words h.ak h.aK h.aO h.aM h.aU h.Next k.a1 k.aY k.Fields k.Names k.aZ roots=some ((0,kv Y O roots,()),()):=by
 unfold z6
 rw[JP a g]
 dsimp only[cZ]
 rw[mV b,ib,ng]
end
def val(k:aP)(W o ns:List Int)(q i:Nat):Int:=if 3<=i/\en k (wd W q) (i-3)=true then dD o ns (wd W (q+i))else wd W (q+i)
theorem mj{a b:Nat}(h:a+b<=100000):I.aw ((a:Int)+(b:Int))=((a+b:Nat):Int):=by rw[cg (by omega) (by omega)];omega
theorem iw{a:Nat}(h:a<=100000):I.aw ((a:Int)+1)=((a+1 :Nat):Int):=by rw[cg (by omega) (by omega)];omega
theorem RN{x:Int}{n:Nat}(a:0<=x)(h:n=3+x.toNat)(b:n<=100000):I.aw (3+x)=(n:Int):=by rw[cg (by omega) (by omega)];omega
theorem aKT{a:Nat}(h:a<=100000)(b:3<=a):I.aw ((a:Int)-3)=((a-3 :Nat):Int):=by rw[cg (by omega) (by omega)];omega
def laid(k:aP)(W o ns Z:List Int):Nat->List Int->Prop
 |_,[]=>True
 |t,a::r=>(∀m,m<sz W a->wd Z (t+m)=val k W o ns a.toNat m)/\laid k W o ns Z (t+sz W a) r
theorem abA{W:List Int}:∀ {o:List Int}{t:Nat},bB W t o=t+(o.map (sz W)).sum
 |[],t=>rfl
 |a::r,t=>by rw[bB,abA (o:=r),ez,mr];omega
theorem af7{f:Int->Nat}:∀ {Y:List Int}{a:Int},a∈Y->(Y.map f).sum=f a+((Y.erase a).map f).sum
 |[],a,h=>by simp at h
 |b::r,a,h=>by
  by_cases e:b=a;subst e;simp
  ·rw[List.erase_cons_tail (by simpa using e),ez,mr,ez,mr];have:a∈r:=by rcases cH.1 h with h |h;exact absurd h.symm e;exact h
   have:=af7 (f:=f) this;omega
theorem abn{f:Int->Nat}:∀ {o Y:List Int},o.Nodup->(∀a∈o,a∈Y)->(o.map f).sum<=(Y.map f).sum
 |[],Y,_,_=>gY _
 |a::r,Y,c,aj=>by have c:=h4.1 c;have ap:a∈Y:=aj a (by simp);have d:=abn (f:=f) (o:=r) (Y:=Y.erase a) c.2 λ b ag=>(mS λ e=>by subst e;exact c.1 ag).2 (aj b (by simp[ag]));rw[ez,mr,af7 ap];omega
theorem aK8{k:aP}{W:List Int}{to q:Nat}{L:List Int}(h:I.eB k W to q L):q+(L.map (sz W)).sum=to:=by
 induction h with
 |nil=>simp
 | @cons q r a J b c d=>
   rw[ez,mr];have:sz W (q:Int)=3+(wd W (q+1)).toNat:=by unfold sz;rw[bV]
   omega
theorem aJb{F:Nat}{h:aV}{k:aP}{Y O o:List Int}(g:I.Good F h k Y O)(a:Ord Y o)(c:0<=h.ak+h.aK+1-h.aM- (h.aO-1)):bB h.Words h.aM.toNat o<=h.Words.length:=by rw[abA];have d:=abn (f:=sz h.Words) a.hG a.sub;have J:=aK8 g.l.y;obtain⟨⟨⟨bO,e⟩,e5,i⟩,b,⟨j,l⟩,⟨kN,m⟩,n⟩:=g.s;unfold okB at b;omega
theorem anF{l ds:List Int}{p j:Nat}(h:p+ds.length<=l.length):wd (gf l p ds) j=if p<=j/\j<p+ds.length then wd ds (j-p)else wd l j:=by
 unfold wd gf;have a:(l.take p).length=p:=by rw[gl];omega
 by_cases b:j<p;rw[nc (by omega),fA,er (by omega),List.getElem?_take_of_lt b];by_cases J:j<p+ds.length;rw[nf (by omega),fA,eS (by omega),a,er (by omega)];rw[nc (by omega),eS (by rw[dM];omega),dM,a,iF];rw[show p+ds.length+(j- (p+ds.length))=j by omega]
section
variable{F:Nat}{c1:List aq}{c2:List Int}{c3:List (List I.Field)}{c4:List (List (List UInt8))}{c5:List (List I.Target)}{y ol yt nx:Int}{nt W:List Int}{m:List (Int×Int)}
theorem aE9{a ot:Int}(h:a=0\/y<a):wv F a c1 c2 c3 c4 c5 y ol yt ot nt nx W m=some ((a,()),((),c1,c2,c3,c4,c5,(),()),((),y,ol,yt,ot,nt,nx,()),W,m,()):=by
 unfold wv;have:(decide (a=0)||decide (y<a))=true:=by rcases h with h |h;rw[mU h,Bool.true_or];rw[mU h,Bool.or_true]
 rw[this,ng]
theorem aE7{a ot to:Int}(b:a≠0)(d:a<=y)(c:cE m a=some to):wv F a c1 c2 c3 c4 c5 y ol yt ot nt nx W m=some ((to,()),((),c1,c2,c3,c4,c5,(),()),((),y,ol,yt,ot,nt,nx,()),W,m,()):=by unfold wv;rw[mV b,mV (by omega),iu,nh,c];rfl
theorem aE8{q t n:Nat}(l:1<=q)(o:(q:Int)<=y)(d:cE m (q:Int)=none)(f:0<=wd W (q+1))(g:n=3+(wd W (q+1)).toNat)(r:q+n<=W.length)(s:t+n<=W.length)(e6:W.length<=5000) :
 ∃W',wv F (q:Int) c1 c2 c3 c4 c5 y ol yt (t:Int) nt nx W m=some (((t:Int),()),((),c1,c2,c3,c4,c5,(),()),((),y,ol,yt,((t+n:Nat):Int),nt,nx,()),W',gy m (q:Int) (t:Int),())/\
  W'.length=W.length/\∀p,wd W' p=if t<=p/\p<t+n then wd W (q+(p-t))else wd W p:=by
 have h:q<=100000:=by omega
 have i:n<=100000:=by omega
 have c:q+n<=100000:=by omega
 have j:t+n<=100000:=by omega
 have k:q+1<W.length:=by omega
 refine⟨gf W t ((W.take (q+n)).drop q),?_,?_,λ p=>?_⟩
 ·unfold wv;rw[mV (show¬(q:Int)=0 by omega),mV (show¬y<(q:Int) by omega),iu,nh,d];rw[l7,nh,iw h,fh k,ae,RN f g i,mj c,mj j];rw[nf (by omega),ae,nf (by omega),ae];unfold yk;rw[nf (mU (by omega)),ae,bV,bV,bV];have e:((W.take (q+n)).drop q).take ((W.length:Int)- (t:Int)).toNat=(W.take (q+n)).drop q:=by apply hS;rw[j6,gl];omega
  rw[e]
 ·apply HJ;rw[j6,gl];omega
 ·have a:((W.take (q+n)).drop q).length=n:=by rw[j6,gl];omega
  rw[anF (by omega),a];by_cases b:t<=p/\p<t+n;rw[nf b,nf b];unfold wd;rw[iF,List.getElem?_take_of_lt (by omega)];rw[nc b,nc b]
end
theorem P1:∀ {o ns:List Int}{v:Int},ns.length=o.length->cE (o.zip ns) v=(match pos o v with|some j=>ns[j]? |none=>none)
 |[],ns,v,_=>rfl
 |b::r,[],v,h=>by simp at h
 |b::r,n::ns,v,h=>by rw[List.zip_cons_cons,cE,pos];by_cases e:b=v;rw[nf e,nf e];rfl;rw[nc e,nc e,P1 (by simpa using h)];cases pos r v<;>rfl
theorem aj8:∀ {o ns:List Int}{b x:Int},ns.length=o.length->b∉o->gy (o.zip ns) b x=(o++[b]).zip (ns++[x])
 |[],[],b,x,_,_=>rfl
 |[],n::ns,b,x,h,_=>by simp at h
 |c::r,[],b,x,h,_=>by simp at h
 |c::r,n::ns,b,x,h,ag=>by simp only[cH,not_or]at ag;rw[List.zip_cons_cons,gy,nc (λ e=>ag.1 e.symm),aj8 (by simpa using h) ag.2];rfl
def base(W:List Int):Nat->List Int->Nat->Int
 |_,[],_=>0
 |t,a::r,p=>if t<=p/\p<t+sz W a then wd W (a.toNat+(p-t))else base W (t+sz W a) r p
def fQ(W:List Int)(t0:Nat)(o:List Int)(p:Nat):Int:=if p<t0 then wd W p else base W t0 o p
theorem T4{W:List Int}{b:Int}:∀ {o:List Int}{t p:Nat},t<=p->base W t (o++[b]) p=if bB W t o<=p/\p<bB W t o+sz W b then wd W (b.toNat+(p-bB W t o))else base W t o p
 |[],t,p,_=>rfl
 |a::r,t,p,h=>by have d:=lF (W:=W) (o:=r) (t:=t+sz W a);rw[ih,base,base,bB];by_cases c:t<=p/\p<t+sz W a;rw[nf c,nf c,nc (by omega)];rw[nc c,nc c,T4 (by omega)]
theorem aeo{W:List Int}:∀ {o:List Int}{t p:Nat},bB W t o<=p->base W t o p=0
 |[],t,p,_=>rfl
 |a::r,t,p,h=>by have b:=lF (W:=W) (o:=r) (t:=t+sz W a);rw[bB]at h;rw[base,nc (by omega),aeo h]
theorem aGx{o:List Int}{b v:Int}:∀ {j:Nat},pos o v=some j->pos (o++[b]) v=some j:=by
 induction o with
 |nil=>intro j h;simp[pos]at h
 |cons c r a=>intro j h;rw[ih,pos];rw[pos]at h;by_cases e:c=v;rw[nf e]at h⊢;exact h;rw[nc e]at h⊢;obtain⟨i,d,rfl⟩:=cA.1 h;rw[a d];rfl
theorem ala:∀ {o:List Int}{b:Int},b∉o->pos (o++[b]) b=some o.length
 |[],b,_=>by simp[pos]
 |c::r,b,h=>by simp only[cH,not_or]at h;rw[ih,pos,nc (λ e=>h.1 e.symm),ala h.2];rfl
theorem am9{o ns:List Int}{b x v:Int}(e:ns.length=o.length)(af:v=0\/v∈o\/v≠b):dD (o++[b]) (ns++[x]) v=dD o ns v:=by
 unfold dD;by_cases a:v=0;rw[nf a,nf a]
 ·rw[nc a,nc a];cases c:pos o v with
  |some j=>rw[aGx c];have:=(aR.1 (LF c)).1;dsimp only;rw[er (by omega)]
  |none=>
   have d:=tL.1 c;have:pos (o++[b]) v=none:=tL.2 (by
    simp only[cf,dV,not_or];refine⟨d,?_⟩;rcases af with af |af |af;exact absurd af a;exact absurd af d
    ·exact af)
   rw[this]
theorem aKy{o ns:List Int}{b x:Int}(a:ns.length=o.length)(ag:b≠0)(c:b∉o):dD (o++[b]) (ns++[x]) b=x:=by unfold dD;rw[nc ag,ala c];dsimp only;rw[eS (by omega),a,l4];rfl
theorem am_{o ns:List Int}{v:Int}(a:v∉o):dD o ns v=v:=by unfold dD;split;rfl;rw[tL.2 a]
structure Inv (W:List Int) (y:Int) (t0:Nat) (o:List Int) (D:Nat->Bool) (W':List Int):Prop where
 len:W'.length=W.length
 qC:∀p,p<W.length->wd W' p=if D p=true then dD o (news W t0 o) (fQ W t0 o p)else fQ W t0 o p
 Dp:∀p,D p=true->y<(p:Int)/\p<bB W t0 o/\(fQ W t0 o p=0\/y<fQ W t0 o p\/fQ W t0 o p∈o)
section
variable{F:Nat}{h:aV}{k:aP}{Y O:List Int}{c1:List aq}{c2:List Int}{c3:List (List I.Field)}{c4:List (List (List UInt8))}{c5:List (List I.Target)}{ol yt nx:Int}{nt:List Int}
theorem Co(g:I.Good F h k Y O){a:Int}(ap:a∈Y):1<=a/\a.toNat+sz h.Words a<=h.aO.toNat/\h.aO<=h.ak+1:=by have b:=g.l.FO g.s a ap;obtain⟨_,_,⟨_,c⟩,_⟩:=g.s;unfold sz;exact⟨b.1,by omega,c⟩
theorem aj7(g:I.Good F h k Y O){t0:Nat}(R:h.aM=(t0:Int)){o:List Int}{D:Nat->Bool}{W':List Int}(z:Ord Y o)(hi:Inv h.Words h.ak t0 o D W'){v:Int}(af:v=0\/v∈Y++O)(H:∀A,Ord Y A->bB h.Words t0 A<=h.Words.length) :
 ∃fF,wv F v c1 c2 c3 c4 c5 h.ak ol yt ((bB h.Words t0 o:Nat):Int) nt nx W' (o.zip (news h.Words t0 o))=some ((dD (cV h.ak o v) (news h.Words t0 (cV h.ak o v)) v,()),((),c1,c2,c3,c4,c5,(),()),((),h.ak,ol,yt,((bB h.Words t0 (cV h.ak o v):Nat):Int),nt,nx,()),fF,(cV h.ak o v).zip (news h.Words t0 (cV h.ak o v)),())/\Inv h.Words h.ak t0 (cV h.ak o v) D fF:=by
 have i:(news h.Words t0 o).length=o.length:=yl
 have S:=g.s.e1
 by_cases B:v=0\/h.ak<v
 ·have f:cV h.ak o v=o:=by
   unfold cV;rw[nc (by omega)]
  have u:dD o (news h.Words t0 o) v=v:=by
   by_cases e:v=0;unfold dD;rw[nf e]
   ·refine am_ λ c=>?_;have w:3<=sz h.Words v:=by unfold sz;omega
    have:=Co g (z.sub v c);omega
  rw[f,u];exact⟨W',aE9 B,hi⟩
 ·have m:v≠0:=λ e=>B (.inl e);have J:v<=h.ak:=by omega
  have w:1<=v:=by rcases af with af |af;exact absurd af m;exact(g.l.fit g.s v af).1
  have x:=y4 g af w J;by_cases c:v∈o
  ·have f:cV h.ak o v=o:=by
    unfold cV;rw[nc (λ e=>e.2 c)]
   obtain⟨j,aA⟩:∃j,pos o v=some j:=by
    cases b:pos o v with
    |none=>exact absurd c (tL.1 b)
    |some j=>exact⟨j,rfl⟩
   have T:=(aR.1 (LF aA)).1;have y:cE (o.zip (news h.Words t0 o)) v=some (news h.Words t0 o)[j]:=by rw[P1 i,aA];exact aN (by omega)
   have u:dD o (news h.Words t0 o) v=(news h.Words t0 o)[j]:=by unfold dD;rw[nc m,aA];dsimp only;rw[aN (by omega)];rfl
   rw[f,u];exact⟨W',aE7 m J y,hi⟩
  ·have f:cV h.ak o v=o++[v]:=by
    unfold cV;rw[nf ⟨⟨w,J⟩,c⟩]
   have K:Ord Y (o++[v]):=by rw[<-f];exact z.cV λ _ _=>x
   have C:=H _ K;rw[Ih]at C;obtain⟨q,rfl⟩:∃q:Nat,v=(q:Int):=⟨v.toNat,by omega⟩
   obtain⟨U,E,V⟩:=Co g x;rw[bV]at E;obtain⟨n,r⟩:∃n,n=sz h.Words (q:Int):=⟨_,rfl⟩
   have L:n=3+(wd h.Words (q+1)).toNat:=by rw[r];unfold sz;rw[bV]
   rw[<-r]at E C;obtain⟨_,_,⟨X,Z⟩,⟨kN,q_⟩,_⟩:=g.s;have c6:=lF (W:=h.Words) (o:=o) (t:=t0);have l:∀p,p<h.aO.toNat->wd W' p=wd h.Words p:=λ p b=>by rw[hi.qC p (by omega),nc (λ a=>by have:=(hi.Dp p a).1;omega)];unfold fQ;rw[nf (by omega)]
   have G:=l (q+1) (by omega);have d:=(iE.1 (g.l.tW _ (e8 O x)).2).1.1;rw[bV]at d;have y:cE (o.zip (news h.Words t0 o)) (q:Int)=none:=by rw[P1 i,tL.2 c]
   obtain⟨fF,M,ao,aW⟩:=aE8 (F:=F) (c1:=c1) (c2:=c2) (c3:=c3) (c4:=c4) (c5:=c5) (ol:=ol) (yt:=yt) (nt:=nt) (nx:=nx) (W:=W') (t:=bB h.Words t0 o) (n:=n) (by omega) J y (by rw[G];exact d) (by rw[G];exact L) (by rw[hi.len];omega) (by rw[hi.len];omega) (by rw[hi.len];omega);have N:cV h.ak o (q:Int)=o++[(q:Int)]:=f;rw[N,Qn,Ih,<-r,aKy i m c,<-aj8 i c];refine⟨fF,M,?_⟩;have sP:∀p,fQ h.Words t0 (o++[(q:Int)]) p=if bB h.Words t0 o<=p/\p<bB h.Words t0 o+n then wd h.Words (q+(p-bB h.Words t0 o))else fQ h.Words t0 o p:=λ p=>by unfold fQ;by_cases b:p<t0;rw[nf b,nf b,nc (by omega)];rw[nc b,nc b,T4 (by omega),<-r,bV]
   refine⟨by rw[ao,hi.len],λ p b=>?_,λ p a=>?_⟩
   ·rw[aW p,sP p,Qn];by_cases s:bB h.Words t0 o<=p/\p<bB h.Words t0 o+n;rw[nf s,nf s,nc (λ a=>by have:=(hi.Dp p a).2.1;omega),l _ (by omega)]
    ·rw[nc s,nc s,hi.qC p b];by_cases a:D p=true
     ·rw[nf a,nf a,am9 i (by
       rcases(hi.Dp p a).2.2 with e |e |e;exact .inl e;exact .inr (.inr (by omega))
       ·exact .inr (.inl e))]
     ·rw[nc a,nc a]
   ·obtain⟨P,d2,Q⟩:=hi.Dp p a;rw[sP p,nc (by omega),Ih];refine⟨P,by omega,?_⟩;rcases Q with e |e |e;exact .inl e;exact .inr (.inl e);exact .inr (.inr (e8 _ e))
end
theorem aJU{W:List Int}{y:Int}{t0:Nat}{o:List Int}{D:Nat->Bool}{W':List Int}(hi:Inv W y t0 o D W'){w:Nat}(a:w<W.length)(b:y<(w:Int))(J:w<bB W t0 o)(c:fQ W t0 o w=0\/y<fQ W t0 o w\/fQ W t0 o w∈o) :
 Inv W y t0 o (λ p=>D p||cj p w) (W'.set w (dD o (news W t0 o) (fQ W t0 o w))):=by
 refine⟨by rw[hg,hi.len],λ p d=>?_,λ p ep=>?_⟩
 ·rw[qB (by rw[hi.len];exact a)];by_cases e:p=w;subst e;rw[nf rfl,nf (by simp)]
  ·rw[nc e,hi.qC p d];have:cj p w=false:=by rw[gQ];intro ag;exact e (bd ag)
   simp only[this,Bool.or_false]
 ·simp only[h3]at ep;rcases ep with ep |ep;exact hi.Dp p ep;have:=bd ep;subst this;exact⟨b,J,c⟩
theorem aaH{y:Int}{o:List Int}{v:Int}(h:1<=v)(J:v<=y):v∈cV y o v:=by unfold cV;split;simp;rename_i b;by_cases a:v∈o;exact a;exact absurd ⟨⟨h,J⟩,a⟩ b
theorem agM{W:List Int}{t0:Nat}{o t:List Int}{p:Nat}(d:p<bB W t0 o):fQ W t0 (o++t) p=fQ W t0 o p:=by
 induction t generalizing o with
 |nil=>rw[hv]
 |cons b r a=>
  rw[show o++b::r=(o++[b])++r by simp];have c:p<bB W t0 (o++[b]):=by rw[Ih];omega
  rw[a c];unfold fQ;by_cases J:p<t0;rw[nf J,nf J];rw[nc J,nc J,T4 (by omega),nc (by omega)]
def qw(k:aP)(W:List Int)(a:Nat):Nat->Nat->List Int
 |_,0=>[]
 |j,d+1=>if en k (wd W a) j=true then wd W (a+3+j)::qw k W a (j+1) d else qw k W a (j+1) d
theorem aml{k:aP}{W:List Int}{a:Nat}:∀ {d j:Nat},qw k W a j d=((List.range' j d).flatMap λ i=>if en k (wd W a) i then[((a+3+i:Nat):Int)]else[]).map λ w=>wd W w.toNat
 |0,j=>rfl
 |d+1,j=>by rw[qw,List.range'_succ,h7,jM,<-aml];split;rfl;rfl
theorem aJF{k:aP}{W:List Int}{a:Nat}:qw k W a 0 (wd W (a+1)).toNat=dq k W (a:Int):=by rw[aml];unfold dq refs;rw[bV,List.range_eq_range']
def zf(k:aP)(tag:Int)(u:Nat):Nat->Nat->(Nat->Bool)->Nat->Bool
 |_,0,D=>D
 |j,d+1,D=>zf k tag u (j+1) d (if en k tag j=true then λ p=>D p||cj p (u+3+j)else D)
section
variable{F:Nat}{h:aV}{k:aP}{Y O:List Int}{ol yt nx:Int}{nt:List Int}
theorem aI7(g:I.Good F h k Y O){t0:Nat}(iS:h.aM=(t0:Int))(R:∀S,Ord Y S->bB h.Words t0 S<=h.Words.length){a u:Nat}(ap:(a:Int)∈Y++O)(hu:h.ak<(u:Int)){len:Nat}(l:wd h.Words (a+1)=(len:Int)) :
 ∀(d j f:Nat)(o:List Int)(D:Nat->Bool)(W':List Int),j+d=len->d<f->Ord Y o->Inv h.Words h.ak t0 o D W'->(∀i,i<3+len->fQ h.Words t0 o (u+i)=wd h.Words (a+i))->u+3+len<=bB h.Words t0 o->(∀i,i<3 ->D (u+i)=false)->(∀i,j<=i->i<len->D (u+3+i)=false) ->
 ∃fF,Cp F f (u:Int) (len:Int) (j:Int) k.a1 k.aY k.Fields k.Names k.aZ h.ak ol yt ((bB h.Words t0 o:Nat):Int) nt nx W' (o.zip (news h.Words t0 o))=some ((),((),k.a1,k.aY,k.Fields,k.Names,k.aZ,(),()),((),h.ak,ol,yt,((bB h.Words t0 ((qw k h.Words a j d).foldl (cV h.ak) o):Nat):Int),nt,nx,()),fF,((qw k h.Words a j d).foldl (cV h.ak) o).zip (news h.Words t0 ((qw k h.Words a j d).foldl (cV h.ak) o)),())/\
  Inv h.Words h.ak t0 ((qw k h.Words a j d).foldl (cV h.ak) o) (zf k (wd h.Words a) u j d D) fF:=by
 intro d
 have GM:=g.s.e1
 have T:=g.l.tW _ ap
 rw[bV]at T
 obtain⟨aG,U⟩:=T
 rw[l]at U
 induction d with
 |zero=>
  intro j f o D W' aA ad n hi ag V z A;obtain⟨f,rfl⟩:∃B,f=B+1:=⟨f-1,by omega⟩
  have:j=len:=by omega
  subst this;refine⟨W',?_,hi⟩;rw[Cp,bL,nh];rfl
 |succ d W=>
  intro j f o D W' aA ad n hi ag V z A;obtain⟨f,rfl⟩:∃B,f=B+1:=⟨f-1,by omega⟩
  have C:j<len:=by omega
  have aip:=R o n;have vk:u<W'.length:=by rw[hi.len];omega
  have Hd:wd W' u=wd h.Words a:=by have:=hi.qC u (by omega);rw[this,nc (by have:=z 0 (by omega);simpa using this)];simpa using ag 0 (by omega)
  have X:j<=100000:=by omega
  have q:u+3+j<W'.length:=by rw[hi.len];omega
  have E:wd W' (u+3+j)=wd h.Words (a+3+j):=by rw[hi.qC _ (by omega),nc (by rw[A j (by omega) C];simp)];have:=ag (3+j) (by omega);rw[show u+3+j=u+(3+j) by omega,this,show a+3+j=a+(3+j) by omega]
  have G:u+3<=100000:=by omega
  have H:u+3+j<=100000:=by omega
  have vj:rr (b9.mk (aP.mk k.a1 k.aY k.Fields k.Names k.aZ)) (wd h.Words a) (j:Int)=some (en k (wd h.Words a) j):=Rk g.fM aG U (by omega);rw[Cp,bM C,ng,fh vk,ae,Hd,vj,ae];cases r:en k (wd h.Words a) j with
  |false=>rw[nh,iw X];have:=W (j+1) f o D W' (by omega) (by omega) n hi ag V z (λ i s J=>A i (by omega) J);rw[qw,zf,r];simpa using this
  |true=>
   have ho:idx W' (I.aw (I.aw ((u:Int)+3)+(j:Int)))=some (wd W' (u+3+j)):=by rw[show I.aw ((u:Int)+3)=((u+3 :Nat):Int) from mj (b:=3) G,mj H];exact fh q
   obtain⟨v,t⟩:∃v,v=wd h.Words (a+3+j):=⟨_,rfl⟩
   have K:v=0\/v∈Y++O:=by have:=g.ok.ref _ ap ((a+3+j:Nat):Int) (qj.2 ⟨j,by rw[bV,l,bV];exact C,by rw[bV];exact r,by rw[bV]⟩);rw[bV,<-t]at this;exact this
   obtain⟨L,Z,M⟩:=aj7 (F:=F) (c1:=k.a1) (c2:=k.aY) (c3:=k.Fields) (c4:=k.Names) (c5:=k.aZ) (ol:=ol) (yt:=yt) (nx:=nx) (nt:=nt) g iS n hi K R;obtain⟨c,m⟩:∃c,c=cV h.ak o v:=⟨_,rfl⟩
   rw[<-m]at Z M;obtain⟨abv,N⟩:=aaI (y:=h.ak) (a:=v) (o:=o);rw[<-m]at N;have p0:Ord Y c:=by rw[m];exact n.cV (y4 g K)
   have aBH:bB h.Words t0 o<=bB h.Words t0 c:=by rw[N,Ii];exact lF
   have DO:∀p,p<bB h.Words t0 o->fQ h.Words t0 c p=fQ h.Words t0 o p:=λ p aD=>by rw[N];exact agM aD
   have x:fQ h.Words t0 c (u+3+j)=v:=by rw[DO _ (by omega),show u+3+j=u+(3+j) by omega,ag (3+j) (by omega),t,show a+3+j=a+(3+j) by omega]
   have aj:=aJU M (w:=u+3+j) (by rw[hi.len]at q;exact q) (by omega) (by omega) (by
    rw[x];rcases K with e |e;exact .inl e
    ·by_cases hy:h.ak<v;exact .inr (.inl hy)
     ·refine .inr (.inr ?_);rw[m]
      exact aaH (g.l.fit g.s v e).1 (by omega))
   rw[x]at aj;have P:idx L (I.aw (I.aw ((u:Int)+3)+(j:Int)))=some (wd L (u+3+j)):=by rw[show I.aw ((u:Int)+3)=((u+3 :Nat):Int) from mj (b:=3) G,mj H];exact fh (by rw[M.len];rw[hi.len]at q;exact q)
   obtain⟨q6,b',c'⟩:=W (j+1) f c (λ p=>D p||cj p (u+3+j)) (L.set (u+3+j) (dD c (news h.Words t0 c) v)) (by omega) (by omega) p0 aj (λ i s=>by rw[DO _ (by omega)];exact ag i s) (by omega)
    (λ i s=>by
     have:cj (u+i) (u+3+j)=false:=by rw[gQ];intro Q;have:=bd Q;omega
     simp[z i s,this])
    (λ i s J=>by
     have:cj (u+3+i) (u+3+j)=false:=by rw[gQ];intro Q;have:=bd Q;omega
     simp[A i (by omega) J,this])
   refine⟨q6,?_,?_⟩;rw[ng,ho,ae,E,<-t,Z,ae];dsimp only;rw[P,ae,show I.aw ((u:Int)+3)=((u+3 :Nat):Int) from mj (b:=3) G,mj H,iw X,bV,qw,nf r,jn,<-t,<-m];exact b';rw[qw,nf r,jn,<-t,<-m,zf,nf r];exact c'
end
theorem afp{k:aP}{tag:Int}{u:Nat}:∀ {d j:Nat}{D:Nat->Bool}{p:Nat},zf k tag u j d D p=true↔D p=true\/∃i,j<=i/\i<j+d/\en k tag i=true/\p=u+3+i
 |0,j,D,p=>by rw[zf];exact⟨.inl,λ h=>h.elim id λ⟨i,c,J,_⟩=>by omega⟩
 |d+1,j,D,p=>by
  rw[zf,afp];cases f:en k tag j with
  |true=>simp only[if_true,h3];constructor;rintro((h |h)|⟨i,c,J,a,b⟩);exact .inl h;exact .inr ⟨j,cP _,by omega,f,bd h⟩;exact .inr ⟨i,by omega,by omega,a,b⟩;rintro(h |⟨i,c,J,a,b⟩);exact .inl (.inl h);by_cases e:i=j;subst e;exact .inl (.inr (by rw[b];simp));exact .inr ⟨i,by omega,by omega,a,b⟩
  |false=>simp only[hM,if_false];constructor;rintro(h |⟨i,c,J,a,b⟩);exact .inl h;exact .inr ⟨i,by omega,by omega,a,b⟩;rintro(h |⟨i,c,J,a,b⟩);exact .inl h;by_cases e:i=j;subst e;rw[f]at a;cases a;exact .inr ⟨i,by omega,by omega,a,b⟩
def zg(k:aP)(W:List Int)(a u:Nat)(D:Nat->Bool):Nat->Bool:=zf k (wd W a) u 0 (wd W (a+1)).toNat D
theorem JC{k:aP}{W:List Int}{a u:Nat}{D:Nat->Bool}{p:Nat}:zg k W a u D p=true↔D p=true\/∃i,i<(wd W (a+1)).toNat/\en k (wd W a) i=true/\p=u+3+i:=by unfold zg;rw[afp];constructor;rintro(h |⟨i,_,J,b,c⟩);exact .inl h;exact .inr ⟨i,by omega,b,c⟩;rintro(h |⟨i,J,b,c⟩);exact .inl h;exact .inr ⟨i,gY _,by omega,b,c⟩
section
variable{F:Nat}{h:aV}{k:aP}{Y O:List Int}{ol yt nx:Int}{nt:List Int}
theorem al5(A:10000<F)(g:I.Good F h k Y O){t0:Nat}(q:h.aM=(t0:Int))(f:∀j,Ord Y j->bB h.Words t0 j<=h.Words.length){a u:Nat}(ap:(a:Int)∈Y++O)(r:h.ak<(u:Int)){o:List Int}{D:Nat->Bool}{W':List Int}(l:Ord Y o)(hi:Inv h.Words h.ak t0 o D W')
 (ag:∀i,i<sz h.Words (a:Int)->fQ h.Words t0 o (u+i)=wd h.Words (a+i))(s:u+sz h.Words (a:Int)<=bB h.Words t0 o)(c:∀i,i<sz h.Words (a:Int)->D (u+i)=false) :
 ∃fF,MZ F (u:Int) k.a1 k.aY k.Fields k.Names k.aZ h.ak ol yt ((bB h.Words t0 o:Nat):Int) nt nx W' (o.zip (news h.Words t0 o))=some ((),((),k.a1,k.aY,k.Fields,k.Names,k.aZ,(),()),((),h.ak,ol,yt,((bB h.Words t0 ((dq k h.Words (a:Int)).foldl (cV h.ak) o):Nat):Int),nt,nx,()),fF,((dq k h.Words (a:Int)).foldl (cV h.ak) o).zip (news h.Words t0 ((dq k h.Words (a:Int)).foldl (cV h.ak) o)),())/\
  Inv h.Words h.ak t0 ((dq k h.Words (a:Int)).foldl (cV h.ak) o) (zg k h.Words a u D) fF:=by
 have B:=g.s.e1
 have m:=g.l.tW _ ap
 rw[bV]at m
 have kT:=(iE.1 m.2).1
 obtain⟨len,b⟩:∃len:Nat,wd h.Words (a+1)=(len:Int):=⟨(wd h.Words (a+1)).toNat,by omega⟩
 have t:sz h.Words (a:Int)=3+len:=by unfold sz;rw[bV,b,bV]
 rw[t]at ag s c
 have v:=f o l
 obtain⟨w,n,p⟩:=aI7 (F:=F) (ol:=ol) (yt:=yt) (nx:=nx) (nt:=nt) g q f ap r b len 0 F o D W' (by omega) (by omega) l hi ag (by omega) (λ i C=>c i (by omega)) (λ i _ J=>by rw[show u+3+i=u+(3+i) by omega];exact c (3+i) (by omega))
 have e:qw k h.Words a 0 len=dq k h.Words (a:Int):=by rw[<-aJF,b,bV]
 rw[e]at n p
 refine⟨w,?_,by unfold zg;rw[b,bV];exact p⟩
 have x:u<=100000:=by omega
 have y:u+1<W'.length:=by rw[hi.len];omega
 have z:wd W' (u+1)=(len:Int):=by rw[hi.qC _ (by omega),nc (by rw[c 1 (by omega)];simp),ag 1 (by omega),b]
 unfold MZ
 rw[iw x,fh y,ae,z]
 have d:Cp F F (u:Int) (len:Int) 0 k.a1 k.aY k.Fields k.Names k.aZ h.ak ol yt ((bB h.Words t0 o:Nat):Int) nt nx W' (o.zip (news h.Words t0 o))=_:=n
 rw[d,ae]
end
def gj(n:Nat):List Int:=(ef n).map λ(x:Nat)=>(x:Int)
theorem RJ{n:Nat}:(gj n).length=n:=by simp[gj]
theorem abE{n i:Nat}(h:i<n):(gj n)[i]? =some (i:Int):=by unfold gj;rw[jv,lZ h];rfl
theorem aGu{n:Nat}(e:n<=5000):∀(d i f:Nat),i+d=n->d<f->I.uv (n:Int) f (gj i) (i:Int)=some (gj n):=by
 intro d;induction d with
 |zero=>
  intro i f h ad;obtain⟨f,rfl⟩:∃a,f=a+1:=⟨f-1,by omega⟩
  have:i=n:=by omega
  subst this;rw[I.uv,bL,nh]
 |succ d b=>
  intro i f h ad;obtain⟨f,rfl⟩:∃a,f=a+1:=⟨f-1,by omega⟩
  have hi:i<n:=by omega
  have kR:i<=100000:=by omega
  have c:bI 8 (gj i) [(i:Int)]=some (gj (i+1)):=by unfold bI;rw[nf (by rw[RJ];simp only[j4];omega)];unfold gj;rw[List.range_succ,jM];rfl
  rw[I.uv,bM hi,ng,c,ae,iw kR];exact b (i+1) f (by omega) (by omega)
theorem aGt{F n:Nat}(a:n<=5000)(b:10000<F):I.sp F (n:Int)=some (gj n):=aGu a n 0 F (by omega) (by omega)
theorem am'{W:List Int}{t0:Nat}{y v:Int}{o:List Int}(a:v=0\/v∈o\/y<v):∀ {t:List Int},(∀b∈t,b<=y)->dD (o++t) (news W t0 (o++t)) v=dD o (news W t0 o) v:=by
 intro t;induction t generalizing o with
 |nil=>intro _;rw[hv]
 |cons b r d=>
  intro ag;rw[show o++b::r=(o++[b])++r by simp];rw[d (o:=o++[b]) (by
   rcases a with e |e |e;exact .inl e;exact .inr (.inl (e8 _ e))
   ·exact .inr (.inr e)) (λ c hc=>ag c (by simp[hc]))]
  rw[Qn,am9 yl (by
   rcases a with e |e |e;exact .inl e;exact .inr (.inl e)
   ·have:=ag b (by simp);exact .inr (.inr (by omega)))]
section
variable{F:Nat}{h:aV}{k:aP}{Y O:List Int}{c1:List aq}{c2:List Int}{c3:List (List I.Field)}{c4:List (List (List UInt8))}{c5:List (List I.Target)}{ol yt nx bg:Int}{nt:List Int}
theorem aJu(g:I.Good F h k Y O){t0:Nat}(x:h.aM=(t0:Int))(z:∀t,Ord Y t->bB h.Words t0 t<=h.Words.length){D:Nat->Bool}{roots:List Int}(N:roots.length<=5000)(A:∀v∈roots,v=0\/v∈Y++O) :
 ∀(d i f:Nat)(o W' rs:List Int),i+d=roots.length->d<f->Ord Y o->Inv h.Words h.ak t0 o D W'->rs=(roots.take i).map (dD o (news h.Words t0 o))++roots.drop i->(∀v∈roots.take i,v=0\/v∈o\/h.ak<v) ->
 ∃fF,FR F f bg (gj roots.length) (roots.length:Int) (i:Int) h.ak ol yt ((bB h.Words t0 o:Nat):Int) nt nx W' c1 c2 c3 c4 c5 (o.zip (news h.Words t0 o)) rs=some (((),(),bg,()),((),h.ak,ol,yt,((bB h.Words t0 ((roots.drop i).foldl (cV h.ak) o):Nat):Int),nt,nx,()),fF,((),c1,c2,c3,c4,c5,(),()),((roots.drop i).foldl (cV h.ak) o).zip (news h.Words t0 ((roots.drop i).foldl (cV h.ak) o)),roots.map (dD ((roots.drop i).foldl (cV h.ak) o) (news h.Words t0 ((roots.drop i).foldl (cV h.ak) o))),())/\
  Inv h.Words h.ak t0 ((roots.drop i).foldl (cV h.ak) o) D fF:=by
 intro d
 induction d with
 |zero=>
  intro i f o W' rs aJ ad l hi j m;obtain⟨f,rfl⟩:∃n,f=n+1:=⟨f-1,by omega⟩
  have:i=roots.length:=by omega
  subst this;refine⟨W',?_,by rw[hW];exact hi⟩;rw[FR,bL,nh,j,hW,jy,hv];rfl
 |succ d B=>
  intro i f o W' rs aJ ad l hi j m;obtain⟨f,rfl⟩:∃n,f=n+1:=⟨f-1,by omega⟩
  have c:i<roots.length:=by omega
  have kR:i<=100000:=by omega
  have C:roots[i]∈roots:=hj c;have p:=A _ C;have u:((roots.take i).map (dD o (news h.Words t0 o))).length=i:=by simp;omega
  have E:rs[i]? =some roots[i]:=by rw[j,eS (by omega),u,l4,de c];rfl
  obtain⟨G,H,J⟩:=aj7 (F:=F) (c1:=c1) (c2:=c2) (c3:=c3) (c4:=c4) (c5:=c5) (ol:=ol) (yt:=yt) (nx:=nx) (nt:=nt) g x l hi p z;have w:Ord Y (cV h.ak o roots[i]):=l.cV (y4 g p);obtain⟨q,Xt⟩:=aaI (y:=h.ak) (a:=roots[i]) (o:=o);have r:∀b∈q,b<=h.ak:=λ b ag=>by
   have P:=Co g (w.sub b (by rw[Xt];exact fe _ ag));have Q:3<=sz h.Words b:=by unfold sz;omega
   omega
  have s:roots[i]=0\/roots[i]∈cV h.ak o roots[i]\/h.ak<roots[i]:=by rcases p with e |e;exact .inl e;by_cases hy:h.ak<roots[i];exact .inr (.inr hy);exact .inr (.inl (aaH (g.l.fit g.s _ e).1 (by omega)))
  obtain⟨K,L,M⟩:=B (i+1) f (cV h.ak o roots[i]) G (rs.set i (dD (cV h.ak o roots[i]) (news h.Words t0 (cV h.ak o roots[i])) roots[i])) (by omega) (by omega) w J (by
   rw[j,List.set_append_right _ _ (by omega),u,l4,de c,List.set_cons_zero,kC c,jM,fA];congr 1;refine j1 λ v ev=>?_;have:=am' (W:=h.Words) (t0:=t0) (o:=o) (m v ev) r;rw[Xt];exact this.symm) (λ v ev=>by
    rw[kC c]at ev;rcases cf.1 ev with ev |ev;rcases m v ev with e |e |e;exact .inl e;exact .inr (.inl (by rw[Xt];exact e8 _ e));exact .inr (.inr e)
    ·cases dV.1 ev;exact s)
  refine⟨K,?_,by rw[de c,jn];exact M⟩;rw[FR,bM c,ng,bu (abE c),ae,bu E,ae,H,ae];dsimp only;rw[iw kR,bV,de c,jn];exact L
end
section
variable{F:Nat}{h:aV}{k:aP}{Y O:List Int}{ol yt nx bg:Int}{nt:List Int}
theorem aJv(C:10000<F)(g:I.Good F h k Y O){t0:Nat}(E:h.aM=(t0:Int))(G:∀z,Ord Y z->bB h.Words t0 z<=h.Words.length){l:List Int}(aB:l.length<=5000)(A:∀x∈l,x∈O)(H:l.Nodup) :
 ∀(d i f:Nat)(o:List Int)(D:Nat->Bool)(W':List Int),i+d=l.length->d<f->Ord Y o->Inv h.Words h.ak t0 o D W'->(∀x∈l.drop i,∀m,m<sz h.Words x->D (x.toNat+m)=false) ->
 ∃fF,FT F f bg l (l.length:Int) (i:Int) h.ak ol yt ((bB h.Words t0 o:Nat):Int) nt nx W' k.a1 k.aY k.Fields k.Names k.aZ (o.zip (news h.Words t0 o))=some (((),(),bg,()),((),h.ak,ol,yt,((bB h.Words t0 (((l.drop i).flatMap (dq k h.Words)).foldl (cV h.ak) o):Nat):Int),nt,nx,()),fF,((),k.a1,k.aY,k.Fields,k.Names,k.aZ,(),()),(((l.drop i).flatMap (dq k h.Words)).foldl (cV h.ak) o).zip (news h.Words t0 (((l.drop i).flatMap (dq k h.Words)).foldl (cV h.ak) o)),())/\
  Inv h.Words h.ak t0 (((l.drop i).flatMap (dq k h.Words)).foldl (cV h.ak) o) ((l.drop i).foldl (λ D x=>zg k h.Words x.toNat x.toNat D) D) fF:=by
 intro d
 induction d with
 |zero=>
  intro i f o D W' aJ ad n hi p;obtain⟨f,rfl⟩:∃q,f=q+1:=⟨f-1,by omega⟩
  have:i=l.length:=by omega
  subst this;refine⟨W',?_,by rw[hW];exact hi⟩;rw[FT,bL,nh,hW];rfl
 |succ d K=>
  intro i f o D W' aJ ad n hi p;obtain⟨f,rfl⟩:∃q,f=q+1:=⟨f-1,by omega⟩
  have b:i<l.length:=by omega
  have kR:i<=100000:=by omega
  have L:l[i]∈l:=hj b;have B:=A _ L;have r:l[i]∈Y++O:=fe Y B;obtain⟨bq,M⟩:=g.l.cn g.s _ B;obtain⟨⟨⟨bO,dF⟩,e5,ff⟩,jH,⟨q9,oJ⟩,⟨kN,q_⟩,q8⟩:=g.s;obtain⟨a,ap⟩:∃a:Nat,l[i]=(a:Int):=⟨l[i].toNat,by omega⟩
  have s:∀m,m<sz h.Words (a:Int)->D (a+m)=false:=λ m c=>by have:=p l[i] (by rw[de b];exact hZ) m (by rw[ap];exact c);rwa [ap,bV]at this
  have c6:=lF (W:=h.Words) (o:=o) (t:=t0);have f_:a+sz h.Words (a:Int)<=t0:=by rw[ap,bV]at M;unfold sz;rw[bV];omega
  obtain⟨N,P,Q⟩:=al5 (ol:=ol) (yt:=yt) (nx:=nx) (nt:=nt) C g E G (a:=a) (u:=a) (by rw[<-ap];exact r) (by omega) n hi (λ m c=>by unfold fQ;rw[nf (by omega)]) (by omega) s;have R:Ord Y ((dq k h.Words (a:Int)).foldl (cV h.ak) o):=n.fold λ v S=>y4 g (qx g (by rw[<-ap];exact r) v S);obtain⟨T,U,V⟩:=K (i+1) f _ _ N (by omega) (by omega) R Q (λ x w m c=>by
   have X:x∈l:=lW w;have Z:l[i]≠x:=λ e=>by have y:(l.drop i).Nodup:=H.sublist (List.drop_sublist _ _);rw[de b]at y;exact(h4.1 y).1 (by rw[e];exact w)
   rw[gQ];intro hc;rcases JC.1 hc with hc |⟨j,y,J,ar⟩;have:=p x (by rw[de b];exact d_ _ w) m c;rw[this]at hc;cases hc
   ·have:=g.l.apart g.s _ r _ (fe Y (A _ X)) Z;rw[ap,bV]at this;unfold sz at c
    omega)
  refine⟨T,?_,?_⟩;rw[FT,bM b,ng,bu (aN b),ae,ap,P,ae];dsimp only;rw[iw kR,de b,h7,List.foldl_append,ap];exact U;rw[de b,h7,List.foldl_append,jn,ap,bV];exact V
end
end Go.Proofs.YteeliipnilghaaaGreat
