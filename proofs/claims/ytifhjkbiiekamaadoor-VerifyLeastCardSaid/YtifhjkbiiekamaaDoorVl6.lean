/- LAW: THE WALK AND THE PLAIN LAW, JOINED TO THE GIVEN STATEMENT: for every input that the row speaks of, the call returns true and what came in reads as it did. Made by program (liftgen2.py). -/
import Derived.Test.YtifhjkbiiekamaaDoorVl5
import Derived.Test.YtifhjkbiiekamaaDoorCards
import Derived.Test.YtifhjkbiiekamaaDoorTie
import Derived.WalkKit
import Derived.ProofKit
import Derived.OpenShut
import Derived.Deep.DeepHandedRow
open Bool renaming and_eq_true->bL,and_self->ld,eq_false_iff->hA,eq_iff_iff->iN,not_eq_true'->gI,not_false->ko,not_true->gZ,or_eq_false_iff->kc,or_eq_true->hZ,true_and->lc
open List renaming all_eq_true->jK,append_nil->iW,cons.inj->gW,exists_of_findSome?_eq_some->ee,ext_getElem?->jF,findSome?_eq_none_iff->fQ,flatMap_cons->iw,getElem?_append_left->eQ,getElem?_eq_getElem->bu,getElem?_eq_none->gV,getElem?_eq_some_iff->bb,length_append->fD,length_cons->df,length_map->iY,length_nil->gw,length_range->jD,length_reverse->jJ,length_take->gf,mem_append->de,mem_append_right->lu,mem_cons->dc,mem_cons_of_mem->fg,mem_cons_self->kL,mem_map->jP,mem_of_getElem?->cU,mem_singleton->fG,nil_append->lO,nodup_append->ft,pairwise_iff_getElem->jq,range->fC,take_add_one->j7,take_length->kg,take_of_length_le->hM
open Nat renaming le_mul_of_pos_right->k1,le_refl->da,le_trans->fo
open Option renaming bind->fs,bind_some->ae,getD_none->iT,map_none->iu,map_some->fU,some.inj->eR,some.injEq->aK
noncomputable section
namespace ad
theorem KS{b6 β:Type} [DecidableEq b6]{k:b6}{v:β}:∀m:List (b6×β),(k0 m k v).length=if(eU m k).isSome then m.length else m.length+1
 |[]=>rfl
 |p::r=>by simp only[k0,eU];by_cases h:p.1=k;simp[h];simp only[lW h,df,KS r];split<;>rfl
theorem TE{b6 β:Type} [DecidableEq b6]{k s:b6}{v:β}:∀m:List (b6×β),(eU (k0 m k v) s).isSome=true↔s=k\/(eU m s).isSome=true
 |[]=>by simp only[k0,eU];by_cases h:k=s;simp[h];simp[h];exact λ e=>h e.symm
 |p::r=>by have a:=TE (k:=k) (s:=s) (v:=v) r;simp only[k0];by_cases h:p.1=k;rw[lX h];simp only[eU];by_cases e:k=s;simp[e];have al: ¬p.1=s:=λ x=>e (h.symm.trans x);rw[lW e,lW al];constructor;exact λ x=>.inr x;rintro(x |x);exact absurd x.symm e;exact x;rw[lW h];simp only[eU];by_cases e:p.1=s;simp[e];rw[lW e,lW e];exact a
def pN(a:List (List UInt8)):Option Int:=if a.Nodup then none else some 6
section
variable{F:Nat}{l:List ap}
theorem Vt(t:1100<F){c:List (List UInt8)}(u:c.length<=1000):xd F c=some (decide (¬c.Nodup)):=by
 have key:∀(d i k:Nat)(m:List (List UInt8×Bool)),i+d=c.length->d<k->(∀s,(eU m s).isSome=true↔s∈c.take i)->m.length<=i->(m.length=i↔(c.take i).Nodup) ->
  ∃g,sx c k m (i:Int)=some g/\g.length<=c.length/\(g.length=c.length↔c.Nodup):=by
  intro d
  induction d with
  |zero=>
   intro i k m hi p I J f;obtain⟨k,rfl⟩:∃k',k=k'+1:=⟨k-1,by omega⟩
   have:i=c.length:=by omega
   subst this;rw[kg]at f;exact⟨m,by rw[sx,cb];rfl,J,f⟩
  |succ d q=>
   intro i k m hi p I J f;obtain⟨k,rfl⟩:∃k',k=k'+1:=⟨k-1,by omega⟩
   have j:i<c.length:=by omega
   have o:c.take (i+1)=c.take i++[c[i]]:=by rw[j7,bu j];rfl
   rw[sx,cc j,lY,bK (bu j),ae,gJ j (by omega)];refine q (i+1) k _ (by omega) (by omega) (λ s=>?_) ?_ ?_;rw[TE,I,o,de,fG];constructor;rintro(h |h);exact .inr h;exact .inl h;rintro(h |h);exact .inr h;exact .inl h;rw[KS];split<;>omega;rw[KS,o,ft];by_cases n:(eU m c[i]).isSome=true;rw[lX n];have:=(I c[i]).1 n;constructor;intro h;omega;rintro⟨_,_,h⟩;exact absurd rfl (h _ this _ (by simp));rw[lW n];have:c[i]∉c.take i:=λ h=>n ((I c[i]).2 h);constructor;intro h;exact⟨f.1 (by omega),by simp,λ a r b ag e=>by rw[fG]at ag;subst ag;exact this (e▸r)⟩;rintro⟨h,_,_⟩;have:=f.2 h;omega
 obtain⟨g,I,J,f⟩:=key c.length 0 F [] (by omega) (by omega) (λ s=>by simp[eU]) (by simp) (by simp);unfold xd;rw[show(0 :Int)=((0 :Nat):Int) from rfl,I,ae];congr 1;by_cases aE:c.Nodup;have:=f.2 aE;rw[lQ (by omega),lQ (by simp[aE])];have:g.length≠c.length:=λ e=>aE (f.1 e);rw[lP (by omega),lP aE]
def G2{α:Type}(nm:α->List UInt8)(r:List α):Option Int:=(fC r.length).findSome? λ k=>(fC k).findSome? λ j=>if(r[j]?).map nm=(r[k]?).map nm then some 6 else none
theorem PD{α:Type}(nm:α->List UInt8)(r:List α):G2 nm r=pN (r.map nm):=by have c:G2 nm r=none\/G2 nm r=some 6:=oz (λ k=>oz (λ j=>by split<;>simp) _) _;unfold pN;by_cases aE:(r.map nm).Nodup;rw[lX aE];rcases c with h |h;exact h;exfalso;obtain⟨k,a,I⟩:=ee h;obtain⟨j,b,J⟩:=ee I;simp only[List.mem_range]at a b;split at J;rename_i e;have:=jq.1 aE j k (by simp;omega) (by simpa using a) b;apply this;rw[bu (by omega),bu a]at e;simpa using e;cases J;rw[lW aE];rcases c with h |h;exfalso;apply aE;refine jq.2 λ j k b a d e=>?_;have I:=fQ.1 h k (by simpa using a);have J:=fQ.1 I j (by simpa using d);simp only[iY]at b a;rw[bu b,bu a]at J;simp only[List.getElem_map]at e;rw[lX (by simp[e])]at J;cases J;exact h
theorem ZR(c:1100<F)(r:List Field)(d:r.length<=1000):yw F r F 0=some (cP (pN (r.map (·.Name)))):=by
 rw[<-PD];exact lq _ (by omega) (λ k i hi=>by
  have a:yx r (i:Int) F 0=some (cP ((fC i).findSome? λ j=>if(r[j]?).map (·.Name)=(r[i]?).map (·.Name)then some 6 else none)):=lq _ (by omega) (λ k j b=>by
   rw[yx,cc b,lY,bK (bu (show j<r.length by omega)),ae,bK (bu hi),ae,bu (show j<r.length by omega),bu hi];simp only[fU,aK];by_cases e:r[j].Name=r[i].Name;rw[lP e,lX e];rfl
   ·rw[lQ e,lW e];rfl) (λ k=>by rw[yx,cb];rfl) (by omega)
  rw[yw,cc hi,lY,a,k8,mX,k6]) (λ k=>by rw[yw,cb];rfl) (by omega)
theorem ZS(d:1100<F)(c:ap)(f:c.a1.length<=1000):yy F c F 0=some (cP (pN (c.a1.map (·.Name)))):=by
 rw[<-PD];exact lq _ (by omega) (λ k i hi=>by
  have a:yz c (i:Int) F 0=some (cP ((fC i).findSome? λ j=>if(c.a1[j]?).map (·.Name)=(c.a1[i]?).map (·.Name)then some 6 else none)):=lq _ (by omega) (λ k j b=>by
   rw[yz,cc b,lY,bK (bu (show j<c.a1.length by omega)),ae,bK (bu hi),ae,bu (show j<c.a1.length by omega),bu hi];simp only[fU,aK];by_cases e:c.a1[j].Name=c.a1[i].Name;rw[lP e,lX e];rfl
   ·rw[lQ e,lW e];rfl) (λ k=>by rw[yz,cb];rfl) (by omega)
  rw[yy,cc hi,lY,a,k8,mX,k6]) (λ k=>by rw[yy,cb];rfl) (by omega)
def sU(l:List ap)(i:Nat):Option Int:=(pN ((et l i).map (·.Name))).or (pN ((dV l i).map (·.Name)))
theorem HY(h:cz l){n:Int}(a:0<=n)(I:n<l.length):(et l n).length<=60:=by obtain⟨_,b,_⟩:=h.chain a I;have:=HW h.right (bH l n).reverse;unfold et;simp only[jJ]at this;omega
theorem PE{a:List (List UInt8)}{Y:Option (Way Int Unit)}:cond (decide (¬a.Nodup)) (some (.out 6)) Y=hE (pN a) Y:=by unfold pN;by_cases h:a.Nodup;rw[lX h,lQ (by simp[h])];rfl;rw[lW h,lP h];rfl
theorem TG{i:Nat}{c:ap}(h:l[i]? =some c):dV l (i:Int)=c.a1:=by unfold dV;rw[bK h];rfl
theorem aic(a:1100<F)(h:cz l):yI F l F 0=some (cP ((fC l.length).findSome? (sU l))):=by
 have d:=h.right.len;exact lq _ (by omega) (λ k i hi=>by
  obtain⟨c,b⟩:∃x,l[i]? =some x:=⟨l[i],bu hi⟩
  have f:=h.right.methods c (cU b);have e:=HY h (n:=(i:Int)) (by omega) (by omega);rw[yI,cc hi,lY,h.Mv a (by omega) (by omega),ae,ZR a _ (by omega),k8,bK b,ae,ZS a c (by omega),k8,BG,mX,k6];unfold sU;rw[TG b]) (λ k=>by rw[yI,cb];rfl) (by omega)
theorem aib(d:1100<F)(h:cz l)(m:List (List UInt8×Int)):At F ⟨l,m,ct l⟩=some (((fC l.length).findSome? (sU l)).getD 0):=by
 have p:=h.right.len;have:=lq (n:=l.length) (L:=st F ⟨l,m,ct l⟩) (sU l) (by omega) (λ k i hi=>by
  obtain⟨c,a⟩:∃x,l[i]? =some x:=⟨l[i],bu hi⟩
  have w:=h.right.methods c (cU a);have q:=HY h (n:=(i:Int)) (by omega) (by omega);have s:qG (et l i) F [] 0=some ((et l i).map (·.Name)):=by
   have:=tT (l:=et l i) (λ k acc e=>qG (et l i) k acc (e:Int)) (λ f=>[f.Name]) 1 3000 (λ f _=>by simp) (λ k j x acc a t=>by have b:=(bb.1 a).1;rw[qG,cc b,lY,bK a,ae,ng (by simp only[df,gw];omega),ae,gJ b (by omega)]) (λ k acc=>by rw[qG,cb];rfl) (F:=F) (by omega) (acc:=[]) (by simp;omega);rw[show(0 :Int)=((0 :Nat):Int) from rfl,this];congr 1;rw[lO];induction et l i with
   |nil=>rfl
   |cons x r g=>rw[iw,g];rfl
  have u:nJ c F [] 0=some (c.a1.map (·.Name)):=by
   have:=tT (l:=c.a1) (λ k acc e=>nJ c k acc (e:Int)) (λ f=>[f.Name]) 1 3000 (λ f _=>by simp) (λ k j x acc a t=>by have b:=(bb.1 a).1;rw[nJ,cc b,lY,bK a,ae,ng (by simp only[df,gw];omega),ae,gJ b (by omega)]) (λ k acc=>by rw[nJ,cb];rfl) (F:=F) (by omega) (acc:=[]) (by simp;omega);rw[show(0 :Int)=((0 :Nat):Int) from rfl,this];congr 1;rw[lO];induction c.a1 with
   |nil=>rfl
   |cons x r g=>rw[iw,g];rfl
  rw[st];have v:decide ((i:Int)<((⟨l,m,ct l⟩:a4).l.length:Int))=true:=cc (n:=l.length) hi;have o:=h.KB d m (n:=(i:Int)) (by omega) (by omega);rw[v,lY];show dj (α:=Unit) ((idx l (i:Int)).bind λ y=>(oW F ⟨l,m,ct l⟩ (i:Int)).bind λ z=>_) _=_
  rw[bK a,ae,o,ae,s,ae,u,ae,Vt d (by simp;omega),ae,Vt d (by simp;omega),ae,PE,PE,BG,mX,k6];unfold sU;rw[TG a]) (λ k=>by
   rw[st];show cond (decide ((l.length:Int)<(l.length:Int))) _ _=_
   rw[cb];rfl) (F:=F) (by omega)
 unfold At;rw[this];cases(fC l.length).findSome? (sU l)<;>rfl
theorem U7{a b:List Kind}(g:a.length<=1000)(ag:b.length<=1000)(h:1100<F):Cs F a b=some (decide (a=b)):=by
 unfold Cs;by_cases d:a.length=b.length
 ·rw[lP (show(a.length:Int)=(b.length:Int) by omega)];simp only[gZ,l0]
  have l1:tK a b F 0=some (cP ((fC a.length).findSome? λ i=>if a[i]? =b[i]? then none else some false)):=lq _ (by omega) (λ k i hi=>by
   rw[tK,cc hi,lY,bK (bu hi),ae,bK (bu (show i<b.length by omega)),ae,bu hi,bu (show i<b.length by omega)];simp only[aK];by_cases e:a[i]=b[i];rw[lP e,lX e];rfl
   ·rw[lQ e,lW e];rfl) (λ k=>by rw[tK,cb];rfl) (by omega)
  rw[l1,kj];cases c:(fC a.length).findSome? λ i=>if a[i]? =b[i]? then none else some false with
  |some e=>obtain⟨i,hi,I⟩:=ee c;split at I;cases I;rename_i f;injection I with I;subst I;rw[lQ (λ e=>f (by rw[e]))];rfl
  |none=>rw[lP];rfl;apply jF;intro i;by_cases hi:i<a.length;have:=fQ.1 c i (by simpa using hi);split at this;assumption;cases this;rw[gV (by omega),gV (by omega)]
 ·rw[lQ (show¬(a.length:Int)=(b.length:Int) by omega),lQ (λ e=>d (by rw[e]))];rfl
theorem aa7{a b:List Kind}(c:a.length<=1000)(ag:b.length<=1000)(d:1100<F):Bl F a b=some (decide (a=b)):=by
 rw[<-U7 c ag d];unfold Bl Cs;have e:∀k n,vu a b k n=tK a b k n:=by
  intro k;induction k with
  |zero=>intro n;rfl
  |succ k f=>intro n;rw[vu,tK];simp only[f]
 rw[e]
def GM(a b:Method):Bool:=decide (a.Name=b.Name)&&(a.Static||b.Static|| !decide (a.b9=b.b9)|| !decide (a.Returns=b.Returns))
def mg(a b:Method):Option Int:=if GM a b then some 4 else none
def pL(l:List ap)(c:ap)(u:Int):Option Int:=c.a1.findSome? λ a=>(dV l u).findSome? (mg a)
def xi(l:List ap)(c:ap)(i:Nat):Option Int:=(bH l i).tail.findSome? (pL l c)
theorem Zq(a b:Method):mg a b=none\/mg a b=some 4:=by unfold mg;split<;>simp
theorem Pj(c:ap)(u:Int):pL l c u=none\/pL l c u=some 4:=oz (λ _=>oz (λ _=>Zq _ _) _) _
theorem abY{α:Type}{g:α->Option Int}{e:Int}(b:∀x,g x=none\/g x=some e)(r:List α):r.reverse.findSome? g=r.findSome? g:=by rcases oz b r with h |h;rw[h,fQ];intro x a;exact fQ.1 h x (by simpa using a);rw[h];rcases oz b r.reverse with J |J;obtain⟨x,a,c⟩:=ee h;have:=fQ.1 J x (by simpa using a);rw[c]at this;cases this;exact J
theorem ahh(p:1100<F)(h:cz l)(m:List (List UInt8×Int)):As F ⟨l,m,ct l⟩=some (((fC l.length).findSome? λ i=>(l[i]?).bind λ c=>xi l c i).getD 0):=by
 have q:=h.right.len;have:=lq (n:=l.length) (L:=sq F ⟨l,m,ct l⟩) (λ i=>(l[i]?).bind λ c=>xi l c i) (by omega) (λ k i hi=>by
  obtain⟨c,f⟩:∃x,l[i]? =some x:=⟨l[i],bu hi⟩
  have s:=cU f;have N:=h.right.methods c s;obtain⟨wS,O,w⟩:=h.chain (n:=(i:Int)) (by omega) (by omega);obtain⟨r,t⟩:=M3 wS (by omega);have y:∀(a:Method),a∈c.a1->∀(u:ap),u∈l->nI F a u F 0=some (cP (u.a1.findSome? (mg a))):=λ a e u d=>each (mg a) (by have:=h.right.methods u d;omega) (λ k j b ag=>by
   have z:=cU ag;have A:=h.right.method c s a e;have B:=h.right.method u d b z;rw[nI,cc (bb.1 ag).1,lY,bK ag,ae];unfold D3;simp only;rw[aa7 (by omega) (by omega) p];unfold mg GM;show cond _ (fs (cond _ (fs _ λ r=>cond r (some (decide (a.Returns=b.Returns))) _) _) _) _=_
   by_cases v:a.Name=b.Name;rw[lP v];simp only[ae,lY,lc];cases a.Static<;>cases b.Static<;>cases decide (a.b9=b.b9)<;>cases decide (a.Returns=b.Returns)<;>rfl
   ·rw[lQ v];rfl) (λ k=>by rw[nI,cb];rfl) (by have:=h.right.methods u d;omega)
  have C:∀(x:Int),0<=x->x<l.length->ss F ⟨l,m,ct l⟩ c x F 0=some (cP (pL l c x)):=λ x D I=>each (λ a=>(dV l x).findSome? (mg a)) (by omega) (λ k j a e=>by
   obtain⟨u,d,_⟩:=pb (l:=l) D I;have E:u∈l:=by obtain⟨_,_,J⟩:=hY d;exact cU J
   have G:dV l x=u.a1:=by unfold dV;rw[d];rfl
   rw[ss,cc (bb.1 e).1,lY,bK e,ae];show dj (α:=Unit) ((idx l x).bind λ P=>_) _=_
   rw[d,ae,y a (cU e) u E,k8,mX,k6,G]) (λ k=>by rw[ss,cb];rfl) (by omega)
  have H:sr F ⟨l,m,ct l⟩ c (bH l i).tail F 0=some (cP ((bH l i).tail.findSome? (pL l c))):=each (pL l c) (by simp;omega) (λ k j x g=>by have ag:=w x (List.mem_of_mem_tail (cU g));rw[sr,cc (bb.1 g).1,lY,bK g,ae,C x ag.1 ag.2,k8,mX,k6]) (λ k=>by rw[sr,cb];rfl) (by simp;omega);rw[sq];have K:decide ((i:Int)<((⟨l,m,ct l⟩:a4).l.length:Int))=true:=cc (n:=l.length) hi;have o:=h.KA p m (n:=(i:Int)) (by omega) (by omega);rw[K,lY];show dj (α:=Unit) ((idx l (i:Int)).bind λ Q=>(nG F ⟨l,m,ct l⟩ (i:Int)).bind λ R=>_) _=_
  have M:cut (bH l i) 1 ((bH l i).length:Int)=some (bH l i).tail:=by unfold cut;rw[lX (by rw[t];simp only[df];omega)];rw[t];simp
  rw[bK f,ae,o,ae,M,ae,H,k8,mX,k6,f];rfl) (λ k=>by
   rw[sq];show cond (decide ((l.length:Int)<(l.length:Int))) _ _=_
   rw[cb];rfl) (F:=F) (by omega)
 unfold As;rw[this];cases(fC l.length).findSome? (λ i=>(l[i]?).bind λ c=>xi l c i)<;>rfl
theorem ahi(y:1100<F)(h:cz l):yA F l F 0=some (cP ((fC l.length).findSome? λ i=>(l[i]?).bind λ c=>xi l c i)):=by
 have z:=h.right.len;exact lq _ (by omega) (λ k i hi=>by
  obtain⟨c,d⟩:∃x,l[i]? =some x:=⟨l[i],bu hi⟩
  have A:=cU d;have O:=h.right.methods c A;obtain⟨wS,P,H⟩:=h.chain (n:=(i:Int)) (by omega) (by omega);obtain⟨r,B⟩:=M3 wS (by omega);have f:(bH l i).reverse=(bH l i).tail.reverse++[(i:Int)]:=by rw[B];simp
  have g:yB F l (i:Int) (bH l i).reverse F 0=some (cP ((bH l i).tail.reverse.findSome? (pL l c))):=each (l:=(bH l i).tail.reverse) (pL l c) (by simp;omega) (λ k u x m=>by
   have C:=(bb.1 m).1;have ag:=H x (List.mem_of_mem_tail (by simpa using cU m));obtain⟨w,e,_⟩:=pb (l:=l) ag.1 ag.2;have D:w∈l:=by obtain⟨_,_,J⟩:=hY e;exact cU J
   have I:=h.right.methods w D;have K:dV l x=w.a1:=by unfold dV;rw[e];rfl
   have E:(bH l i).reverse[u]? =some x:=by rw[f,eQ C];exact m
   have o:yC F l (i:Int) (bH l i).reverse (u:Int) F 0=some (cP (pL l c x)):=each (l:=c.a1) (λ a=>(dV l x).findSome? (mg a)) (by omega) (λ k j a p=>by
    have s:=cU p;have t:v0 F l (i:Int) (bH l i).reverse (u:Int) (j:Int) F 0=some (cP (w.a1.findSome? (mg a))):=each (l:=w.a1) (mg a) (by omega) (λ k q b ag=>by
     have L:=cU ag;have M:=h.right.method c A a s;have N:=h.right.method w D b L;rw[v0];simp only[bK E,ae,e,cc (bb.1 ag).1,lY,bK d,bK p,bK ag];rw[U7 (by omega) (by omega) y];unfold mg GM;show cond _ (cond _ _ (fs _ λ r=>cond (!r) _ (cond (!decide (a.Returns=b.Returns)) _ _))) _=_
     by_cases G:a.Name=b.Name;rw[lP G];simp only[ae,lY,lc];cases a.Static<;>cases b.Static<;>cases decide (a.b9=b.b9)<;>cases decide (a.Returns=b.Returns)<;>rfl
     ·rw[lQ G];rfl) (λ k=>by rw[v0];simp only[bK E,ae,e,cb];rfl) (by omega)
    rw[yC,bK d,ae,cc (bb.1 p).1,lY,t,k8,mX,k6,K]) (λ k=>by rw[yC,bK d,ae,cb];rfl) (by omega)
   have v:decide ((u:Int)<bj (((bH l i).reverse.length:Int)-1))=true:=by rw[Na (by omega) (by simp;omega)];simp only[jJ,List.length_tail]at C;exact lP (by simp only[jJ];omega)
   rw[yB,v,lY,o,k8,mX,k6]) (λ k=>by
    have v:decide (((bH l i).tail.reverse.length:Int)<bj (((bH l i).reverse.length:Int)-1))=false:=by rw[Na (by omega) (by simp;omega)];exact lQ (by rw[B];simp)
    rw[yB,v];rfl) (by simp;omega)
  rw[yA,cc hi,lY,Fv y h.right (by omega),ae,g,k8,mX,k6,d,abY (Pj c)];rfl) (λ k=>by rw[yA,cb];rfl) (by omega)
end
def Ev:c4:=⟨[],[],[],[],[]⟩
def rows{β:Type}(f:Int->β)(i:Nat):List β:=(fC i).map λ j:Nat=>f (j:Int)
theorem xK{β:Type}(f:Int->β)(i:Nat):rows f (i+1)=rows f i++[f (i:Int)]:=by simp[rows,List.range_succ]
def linked(l:List ap):c4:=⟨l,ct l,rows (et l) l.length,rows (λ i=>(eK l i).1) l.length,rows (λ i=>(eK l i).2) l.length⟩
def wi(l:List ap)(i:Nat):Option (c4×Int):=if 12<(et l i).length\/16<(eK l i).1.length then some (Ev,2)else none
section
variable{F:Nat}{l:List ap}
theorem OO(x y:Nat):((decide ((12 :Int)<(x:Int)))||(decide ((16 :Int)<(y:Int))))=decide (12<x\/16<y):=by rw[iN];simp;omega
theorem agR(c:1100<F)(h:cz l)(a b:Int×a4)(e:a.2.bC=dZ 0 l)(f:b.2.cL=ct l) :
 kZ F l a b F [] [] [] 0=some (vF ((fC l.length).findSome? (wi l)) (rows (λ i=>(eK l i).2) l.length,rows (λ i=>(eK l i).1) l.length,rows (et l) l.length)):=by
 have d:=h.right.len
 refine Gu (n:=l.length) (λ k i=>kZ F l a b k (rows (λ i=>(eK l i).2) i) (rows (λ i=>(eK l i).1) i) (rows (et l) i) (i:Int)) _ _ (λ k i hi=>?_) (λ k=>?_) (F:=F) (by omega)
 ·show kZ F l a b (k+1) (rows (λ i=>(eK l i).2) i) (rows (λ i=>(eK l i).1) i) (rows (et l) i) (i:Int)=_
  rw[kZ,cc hi,lY,e,f,h.agS c (dZ 0 l) (by omega) (by omega),ae,h.KB c (dZ 0 l) (by omega) (by omega),ae,
   ng (by simp only[rows,iY,jD,df,gw];omega),ae,ng (by simp only[rows,iY,jD,df,gw];omega),ae,
   ng (by simp only[rows,iY,jD,df,gw];omega),ae,bK (i:=i) (x:=et l i) (by simp[rows]),ae,OO,gJ hi (by omega),<-xK (et l),<-xK (λ i=>(eK l i).1),<-xK (λ i=>(eK l i).2)]
  unfold wi;by_cases ag:12<(et l i).length\/16<(eK l i).1.length;rw[lP ag,lX ag];rfl;rw[lQ ag,lW ag];rfl
 ·show kZ F l a b (k+1) (rows (λ i=>(eK l i).2) l.length) (rows (λ i=>(eK l i).1) l.length) (rows (et l) l.length) (l.length:Int)=_
  rw[kZ,cb];rfl
theorem aj4(a:1100<F)(h:cz l) :
 rC F l F [] [] [] [] 0=some (vF ((fC l.length).findSome? (wi l)) (rows (λ i=>(eK l i).2) l.length,rows (λ i=>(eK l i).1) l.length,rows (et l) l.length,ct l)):=by
 have b:=h.right.len
 refine Gu (n:=l.length) (λ k i=>rC F l k (rows (λ i=>(eK l i).2) i) (rows (λ i=>(eK l i).1) i) (rows (et l) i) ((ct l).take i) (i:Int)) _ _ (λ k i hi=>?_) (λ k=>?_) (F:=F) (by omega)
 ·obtain⟨x,c⟩:∃x,l[i]? =some x:=⟨l[i],bu hi⟩
  have aL:(ct l).take i++[bt l x.b_]=(ct l).take (i+1):=by rw[j7,MU c];rfl
  show rC F l (k+1) (rows (λ i=>(eK l i).2) i) (rows (λ i=>(eK l i).1) i) (rows (et l) i) ((ct l).take i) (i:Int)=_
  rw[rC,cc hi,lY,h.Mv a (by omega) (by omega),ae,h.aj5 a (by omega) (by omega),ae,OO,bK c,ae,rA ⟨by omega,by omega⟩,ae,
   ng (by simp only[gf,vv,df,gw];omega),ae,
   ng (by simp only[rows,iY,jD,df,gw];omega),ae,ng (by simp only[rows,iY,jD,df,gw];omega),ae,
   ng (by simp only[rows,iY,jD,df,gw];omega),ae,gJ hi (by omega),<-xK (et l),<-xK (λ i=>(eK l i).1),<-xK (λ i=>(eK l i).2),aL]
  unfold wi;by_cases ag:12<(et l i).length\/16<(eK l i).1.length;rw[lP ag,lX ag];rfl;rw[lQ ag,lW ag];rfl
 ·show rC F l (k+1) (rows (λ i=>(eK l i).2) l.length) (rows (λ i=>(eK l i).1) l.length) (rows (et l) l.length) ((ct l).take l.length) (l.length:Int)=_
  rw[rC,cb,hM (by rw[vv];omega)];rfl
theorem Lb{α:Type}{e:Int}(h:e≠0){x y:α}:cond (!decide (e=0)) x y=x:=by rw[lQ h];rfl
theorem CW{α:Type}{x y:α}:cond (!decide ((0 :Int)=0)) x y=y:=rfl
theorem akV{e:Int}(h:l.findSome? n2=some e):e=4:=by obtain⟨x,_,a⟩:=ee h;unfold n2 at a;split at a;cases a;injection a with a;exact a.symm
theorem aho{e:Int}(h:l.findSome? (mL l)=some e):e=5:=by obtain⟨x,_,a⟩:=ee h;unfold mL at a;split at a;cases a;injection a with a;exact a.symm
theorem ZH{e:Int}(h:(fC l.length).findSome? (pM l)=some e):e=4:=by obtain⟨x,_,a⟩:=ee h;unfold pM at a;split at a;cases a;injection a with a;exact a.symm
theorem ak9{nm:List UInt8}(h:0<=bt l nm):(eU (dZ 0 l) nm).getD 0=bt l nm:=by
 rw[xl];unfold bt at h⊢;cases a:dH (gp nm) l with
 |none=>rw[a]at h;simp at h
 |some i=>simp
theorem Zk(d:1100<F)(z:Fits F l):∃e,Gm F l=some e/\
 ((e≠0/\oU F l=some (Ev,e))\/
  (e=0/\cz l/\∃A k:Int×a4,A.2.bC=dZ 0 l/\k.2.cL=ct l/\
   oU F l=cT (α:=(List (List Target))×(List (List (List UInt8)))×(List (List Field))) (kZ F l A k F [] [] [] 0) λ((G,H,K):(List (List Target))×(List (List (List UInt8)))×(List (List Field)))=>some ((⟨l,k.2.cL,K,H,G⟩:c4),0))):=by
 unfold Gm oU
 rw[YE z,afk z,ae,ae]
 by_cases h:rM l=0
 case neg=>exact⟨rM l,by rw[Lb h],.inl ⟨h,by rw[Lb h];rfl⟩⟩
 rw[h,CW,CW]
 have dg:=Zm h
 have B:=dg.len
 rw[aij (by omega) dg,ae]
 rcases ahA (F:=F) (by omega) dg with⟨L,n,p⟩|⟨_,⟨m,n⟩,p⟩
 case inr=>
  unfold xb
  simp only
  rw[n,p]
  exact⟨6,rfl,.inl ⟨by decide,rfl⟩⟩
 rw[p,xN,rA ⟨by omega,by omega⟩,ae,rA ⟨by omega,by omega⟩,ae]
 have q:xb F ⟨l,[],[]⟩=some (cond (decide (0<=bt l [79,98,106,101,99,116])&&decide (0<=bt l [69,114,114,111,114])) 0 5,⟨l,dZ 0 l,[]⟩):=by unfold xb;simp only;rw[n,xN,Ld,Ld];cases decide (0<=bt l [79,98,106,101,99,116])<;>cases decide (0<=bt l [69,114,114,111,114])<;>rfl
 rw[q,ae]
 by_cases t:0<=bt l [79,98,106,101,99,116]
 case neg=>
  rw[lP (show bt l [79,98,106,101,99,116]<0 by omega),lQ t]
  exact⟨5,rfl,.inl ⟨by decide,rfl⟩⟩
 rw[lQ (show¬bt l [79,98,106,101,99,116]<0 by omega),lP t,l0]
 by_cases g:0<=bt l [69,114,114,111,114]
 case neg=>
  rw[lP (show bt l [69,114,114,111,114]<0 by omega),lQ g]
  exact⟨5,rfl,.inl ⟨by decide,rfl⟩⟩
 rw[lQ (show¬bt l [69,114,114,111,114]<0 by omega),lP g,l0,ld,lY]
 simp only[ae,decide_true,gZ,l0]
 unfold D4
 simp only
 rw[akT (by omega) dg,akU (by omega) dg,kj,kj]
 cases C:l.findSome? n2 with
 |some e=>have:=akV C;subst this;exact⟨4,rfl,.inl ⟨by decide,rfl⟩⟩
 |none=>
 simp only[iu,o6]
 obtain⟨o,j,M⟩:=ahm (F:=F) (by omega) dg
 rw[ahn (by omega) dg,kj,M,<-j]
 cases o with
 |some r=>simp only[fU]at j;have:=aho j.symm;refine⟨5,by simp only[fU,o6];rw[this],.inl ⟨by decide,?_⟩⟩;obtain⟨a,b⟩:=r;simp only at this;subst this;rfl
 |none=>
 simp only[iu,o6,vF,xN]
 simp only[iu]at j
 rw[ZG d dg,kj,ZF d dg,kj]
 cases hc:(fC l.length).findSome? (pM l)with
 |some e=>have:=ZH hc;subst this;exact⟨4,rfl,.inl ⟨by decide,rfl⟩⟩
 |none=>
 simp only[iu,o6,ae,decide_true,gZ,l0]
 have u:∀c∈l,c.b_=[]\/0<=bt l c.b_:=λ c v=>by have:=fQ.1 j.symm c v;unfold mL at this;split at this;assumption;cases this
 have N:∀i,i<l.length->∃c,cC (ct l) l.length (i:Int)=some c:=λ i hi=>by have:=fQ.1 hc i (by simpa using hi);unfold pM at this;split at this;rename_i I;exact Option.isSome_iff_exists.1 I;cases this
 have f:cz l:=⟨dg,L,u,N,λ c v=>fQ.1 C c v,t⟩
 have w:bt l [69,114,114,111,114]<l.length:=hP
 obtain⟨x,O,_⟩:=pb (l:=l) g w
 unfold D5
 simp only[ak9 g]
 rw[f.Mv d g w,ae,f.KB d (dZ 0 l) g w,ae,O,ae,ae]
 by_cases y:((!decide (x.b_=[79,98,106,101,99,116]))||(decide (((et l (bt l [69,114,114,111,114])).length:Int)=0)))=true
 ·rw[y];exact⟨4,rfl,.inl ⟨by decide,rfl⟩⟩
 rw[hA.2 y,l0,l0]
 have P:0<(et l (bt l [69,114,114,111,114])).length:=by simp only[hZ,decide_eq_true_eq,not_or]at y;omega
 have Q:idx (et l (bt l [69,114,114,111,114])) 0=some ((et l (bt l [69,114,114,111,114]))[0]):=by have:=bK (l:=et l (bt l [69,114,114,111,114])) (i:=0) (bu P);exact this
 rw[Q,ae,ae]
 by_cases D:((et l (bt l [69,114,114,111,114]))[0]).Kind.Kind=1
 case neg=>
  rw[lQ D]
  exact⟨4,rfl,.inl ⟨by decide,rfl⟩⟩
 rw[lP D]
 simp only[gZ,l0,ae,decide_true]
 rw[akP d dg,kj,akO d dg,ae]
 cases R:(n1 l).findSome? (h5 l)with
 |some e=>
  have:e=5:=by obtain⟨s,_,I⟩:=ee R;rcases Vs (l:=l) (s:=s)with J |J;rw[J]at I;cases I;rw[J]at I;injection I with I;exact I.symm
  subst this;exact⟨5,rfl,.inl ⟨by decide,rfl⟩⟩
 |none=>
 simp only[o6,iT,decide_true,gZ,l0]
 rw[aic d f,kj,aib d f,ae]
 cases S:(fC l.length).findSome? (sU l)with
 |some e=>
  have:e=6:=by obtain⟨s,_,I⟩:=ee S;unfold sU pN at I;split at I;split at I;cases I;simp at I;exact I.symm;simp at I;exact I.symm
  subst this;exact⟨6,rfl,.inl ⟨by decide,rfl⟩⟩
 |none=>
 simp only[o6,iT,decide_true,gZ,l0]
 rw[ahi d f,kj,ahh d f,ae]
 cases T:(fC l.length).findSome? (λ i=>(l[i]?).bind λ c=>xi l c i)with
 |some e=>
  have:e=4:=by
   obtain⟨i,_,I⟩:=ee T;cases E:l[i]? with
   |none=>rw[E]at I;cases I
   |some c=>rw[E,ae]at I;unfold xi at I;rcases oz (Pj (l:=l) c) (bH l i).tail with J |J;rw[J]at I;cases I;rw[J]at I;injection I with I;exact I.symm
  subst this;exact⟨4,rfl,.inl ⟨by decide,rfl⟩⟩
 |none=>
 simp only[o6,iT,decide_true,gZ,l0]
 exact⟨0,rfl,.inr ⟨rfl,f,(0,⟨l,dZ 0 l,[]⟩),(0,⟨l,dZ 0 l,ct l⟩),rfl,rfl,rfl⟩⟩
theorem agQ(a:1100<F)(f:Fits F l):∃r:c4×Int,oU F l=some r/\Om F l=some r/\(r.2=0 ->cz l/\r.1=linked l)/\(r.2≠0 ->r.1=Ev):=by
 obtain⟨e,I,J⟩:=Zk a f;unfold Om;rw[I,ae];rcases J with⟨d,J⟩|⟨rfl,b,g,j,k,c,J⟩;exact⟨_,J,by rw[Lb d];rfl,λ h=>absurd h d,λ _=>rfl⟩
 ·rw[CW,J,agR a b g j k c,aj4 a b];cases ag:(fC l.length).findSome? (wi l)with
  |some r=>
   have:r=(Ev,2):=by obtain⟨i,_,I⟩:=ee ag;unfold wi at I;split at I;injection I with I;exact I.symm;cases I
   subst this;exact⟨_,rfl,rfl,λ h=>absurd h (by decide),λ _=>rfl⟩
  |none=>refine⟨_,rfl,?_,λ _=>⟨b,?_⟩,λ h=>absurd rfl h⟩;simp only[vF,xN,c];simp only[c];rfl
end
theorem tZ{α:Type} [DecidableEq α]{F:Nat}{a b:List α}(l:a.length=b.length){L:Nat->Int->Option (Way Bool Unit)}(d:a.length<=140737488355328)
 (f:∀k (i:Nat) x y,a[i]? =some x->b[i]? =some y->L (k+1) (i:Int)=cond (!decide (x=y)) (some (.out false)) (L k (bj ((i:Int)+1))))(g:∀k,L (k+1) (a.length:Int)=some (.go ()))(h:a.length<F) :
 L F 0=some (if a=b then .go ()else .out false):=by
 have l1:L F 0=some (cP ((fC a.length).findSome? λ i=>if a[i]? =b[i]? then none else some false)):=lq _ d (λ k i hi=>by
  rw[f k i a[i] (b[i]'(by omega)) (bu hi) (bu (show i<b.length by omega)),bu hi,bu (show i<b.length by omega)];simp only[aK];by_cases e:a[i]=b[i]'(by omega);rw[lP e,lX e];rfl
  ·rw[lQ e,lW e];rfl) g h
 rw[l1]
 cases c:(fC a.length).findSome? λ i=>if a[i]? =b[i]? then none else some false with
 |some e=>obtain⟨i,hi,I⟩:=ee c;split at I;cases I;rename_i j;injection I with I;subst I;rw[lW (λ e=>j (by rw[e]))];rfl
 |none=>rw[lX];rfl;apply jF;intro i;by_cases hi:i<a.length;have:=fQ.1 c i (by simpa using hi);split at this;assumption;cases this;rw[gV (by omega),gV (by omega)]
theorem t_{p:Prop} [Decidable p]{Y:Option Bool}:cT (α:=Unit) (some (if p then(.go ():Way Bool Unit)else .out false)) (λ _=>Y)=if p then Y else some false:=by by_cases h:p<;>simp[h]
theorem u1{α:Type}{a b:List α}:decide ((a.length:Int)=(b.length:Int))=decide (a.length=b.length):=by rw[iN];simp;omega
theorem uf{α:Type} [DecidableEq α]{a b:List α}(h:a.length≠b.length):decide (a=b)=false:=lQ (λ e=>h (by rw[e]))
section
variable{F:Nat}
structure Of (F:Nat) (k:c4):Prop where
 cL:Small F k.eh.length
 fields:Small F k.Fields.length
 field:∀x∈k.Fields,Small F x.length
 names:Small F k.Names.length
 name:∀x∈k.Names,Small F x.length
 targets:Small F k.eE.length
 target:∀x∈k.eE,Small F x.length
instance:DecidableEq (List (List Field)):=inferInstance
end
section
variable{F:Nat}{l:List ap}
theorem Oq(h:Right l):∀(r:List Int)(p:bA),p.1.length=p.2.length->(lj l r p).1.length=(lj l r p).2.length/\(lj l r p).1.length<=p.1.length+8*r.length
 |[],p,a=>⟨a,by simp[lj]⟩
 |x::r,p,a=>by obtain⟨I,J⟩:=Ct (ci:=x) (r:=dV l x) (k:=0) a;obtain⟨b,c⟩:=Oq h r _ I;have:=KU h x;exact⟨b,by simp only[lj,df];omega⟩
theorem Vk(h:cz l){n:Int}(a:0<=n)(I:n<l.length):(eK l n).1.length=(eK l n).2.length/\(eK l n).1.length<=80:=by obtain⟨_,d,_⟩:=h.chain a I;obtain⟨b,c⟩:=Oq h.right (bH l n).reverse ([],[]) rfl;refine⟨b,?_⟩;simp only[jJ,gw]at c;unfold eK;omega
theorem MF{β:Type}{f:Int->β}{n:Nat}{x:β}(h:x∈rows f n):∃i:Nat,i<n/\x=f (i:Int):=by simp only[rows,jP,List.mem_range]at h;obtain⟨i,I,J⟩:=h;exact⟨i,I,J.symm⟩
theorem akb{β:Type}{f:Int->β}{n:Nat}:(rows f n).length=n:=by simp[rows]
theorem agT(c:1100<F)(h:cz l):Of F (linked l):=by
 have b:=h.right.len;refine⟨⟨?_,?_⟩,⟨?_,?_⟩,λ x a=>?_,⟨?_,?_⟩,λ x a=>?_,⟨?_,?_⟩,λ x a=>?_⟩;any_goals (simp only[linked,akb,vv];omega)
 ·obtain⟨i,hi,rfl⟩:=MF (f:=et l) a;have:=HY h (n:=(i:Int)) (by omega) (by omega);exact⟨by omega,by omega⟩
 ·obtain⟨i,hi,rfl⟩:=MF (f:=λ i=>(eK l i).1) a;have:=Vk h (n:=(i:Int)) (by omega) (by omega);exact⟨by omega,by omega⟩
 ·obtain⟨i,hi,rfl⟩:=MF (f:=λ i=>(eK l i).2) a;have:=Vk h (n:=(i:Int)) (by omega) (by omega);exact⟨by omega,by omega⟩
end
section
variable{F:Nat}
theorem aaP{a b:List (Int)}(d:Small F a.length):Bn F a b=some (decide (a=b)):=by unfold Bn;rw[u1];by_cases c:a.length=b.length;rw[lP c];simp only[gZ,l0];rw[tZ c d.1 (L:=tf a b) (λ k i x y e hy=>by rw[tf,cc (bb.1 e).1,lY,bK e,ae,bK hy,ae]) (λ k=>by rw[tf,cb];rfl) d.2,t_];by_cases h:a=b<;>simp[h];rw[lQ c,uf c];rfl
theorem aaN{a b:List (Field)}(d:Small F a.length):Bk F a b=some (decide (a=b)):=by unfold Bk;rw[u1];by_cases c:a.length=b.length;rw[lP c];simp only[gZ,l0];rw[tZ c d.1 (L:=tc a b) (λ k i x y e hy=>by rw[tc,cc (bb.1 e).1,lY,bK e,ae,bK hy,ae]) (λ k=>by rw[tc,cb];rfl) d.2,t_];by_cases h:a=b<;>simp[h];rw[lQ c,uf c];rfl
theorem aaQ{a b:List (List UInt8)}(d:Small F a.length):Bo F a b=some (decide (a=b)):=by unfold Bo;rw[u1];by_cases c:a.length=b.length;rw[lP c];simp only[gZ,l0];rw[tZ c d.1 (L:=tg a b) (λ k i x y e hy=>by rw[tg,cc (bb.1 e).1,lY,bK e,ae,bK hy,ae]) (λ k=>by rw[tg,cb];rfl) d.2,t_];by_cases h:a=b<;>simp[h];rw[lQ c,uf c];rfl
theorem aaS{a b:List (Target)}(d:Small F a.length):Bm F a b=some (decide (a=b)):=by unfold Bm;rw[u1];by_cases c:a.length=b.length;rw[lP c];simp only[gZ,l0];rw[tZ c d.1 (L:=td a b) (λ k i x y e hy=>by rw[td,cc (bb.1 e).1,lY,bK e,ae,bK hy,ae]) (λ k=>by rw[td,cb];rfl) d.2,t_];by_cases h:a=b<;>simp[h];rw[lQ c,uf c];rfl
theorem aaO{a b:List (List Field)}(d:Small F a.length)(e:∀x∈a,Small F x.length):Bh F a b=some (decide (a=b)):=by unfold Bh;rw[u1];by_cases c:a.length=b.length;rw[lP c];simp only[gZ,l0];rw[tZ c d.1 (L:=s8 F a b) (λ k i x y I J=>by rw[s8,cc (bb.1 I).1,lY,bK I,ae,bK J,ae,aaN (e x (cU I)),ae]) (λ k=>by rw[s8,cb];rfl) d.2,t_];by_cases h:a=b<;>simp[h];rw[lQ c,uf c];rfl
theorem aaR{a b:List (List (List UInt8))}(d:Small F a.length)(e:∀x∈a,Small F x.length):Bj F a b=some (decide (a=b)):=by unfold Bj;rw[u1];by_cases c:a.length=b.length;rw[lP c];simp only[gZ,l0];rw[tZ c d.1 (L:=ta F a b) (λ k i x y I J=>by rw[ta,cc (bb.1 I).1,lY,bK I,ae,bK J,ae,aaQ (e x (cU I)),ae]) (λ k=>by rw[ta,cb];rfl) d.2,t_];by_cases h:a=b<;>simp[h];rw[lQ c,uf c];rfl
theorem aaT{a b:List (List Target)}(d:Small F a.length)(e:∀x∈a,Small F x.length):Bi F a b=some (decide (a=b)):=by unfold Bi;rw[u1];by_cases c:a.length=b.length;rw[lP c];simp only[gZ,l0];rw[tZ c d.1 (L:=s9 F a b) (λ k i x y I J=>by rw[s9,cc (bb.1 I).1,lY,bK I,ae,bK J,ae,aaS (e x (cU I)),ae]) (λ k=>by rw[s9,cb];rfl) d.2,t_];by_cases h:a=b<;>simp[h];rw[lQ c,uf c];rfl
theorem aky{a b:c4}(c:Of F a):xc F a b=some (decide (a.eh=b.eh/\a.Fields=b.Fields/\a.Names=b.Names/\a.eE=b.eE)):=by
 unfold xc;rw[aaP c.cL,ae];by_cases d:a.eh=b.eh;case neg=>rw[lQ d,lQ (λ e=>d e.1)];rfl
 rw[lP d,lY,aaO c.fields c.field,ae];by_cases al:a.Fields=b.Fields;case neg=>rw[lQ al,lQ (λ e=>al e.2.1)];rfl
 rw[lP al,lY,aaR c.names c.name,ae];by_cases aL:a.Names=b.Names;case neg=>rw[lQ aL,lQ (λ e=>aL e.2.2.1)];rfl
 rw[lP aL,lY,aaT c.targets c.target,ae];congr 1;rw[iN];simp[d,al,aL]
theorem Zl{l:List ap}(d:1100<F)(e:cz l)(h:oU F l=some (linked l,0)):sk F (linked l)=some 0:=by
 unfold sk;have h':oU F (linked l).gz=some (linked l,0):=h;rw[h',ae];have c:=aky (F:=F) (a:=linked l) (b:=linked l) (agT d e);rw[lP ⟨rfl,rfl,rfl,rfl⟩]at c;show cond (!decide ((0 :Int)=0)) _ ((xc F (linked l) (linked l)).bind _)=_
 rw[CW,c];rfl
end
section
variable{F:Nat}{l:List ap}
theorem VE{S:List Int}{n:Int}(h:n<0):∀k,cC S k n=some []
 |0=>by simp[cC,h]
 |k+1=>by simp[cC,h]
theorem wo{n:Int}(h:n<0):bH l n=[]:=by unfold bH;rw[VE h];rfl
theorem cz.step(h:cz l){n:Int}(b:0<=n)(I:n<l.length):∃x,idx l n=some x/\idx (ct l) n=some (bt l x.b_)/\bH l n=n::bH l (bt l x.b_):=by obtain⟨x,e,c⟩:=pb (l:=l) b I;refine⟨x,e,c,?_⟩;obtain⟨hc,_,_⟩:=h.chain b I;have a:=M5 hc;rw[cC,lW (by omega),c,ae]at a;by_cases d:bt l x.b_<0;rw[VE d]at a;rw[wo d];exact(eR a).symm;obtain⟨f,_,_⟩:=h.chain (n:=bt l x.b_) (by omega) hP;rw[f]at a;exact(eR a).symm
theorem cz.ind(h:cz l){P:Int->Prop}(c:∀n:Int,n<0 ->P n)(d:∀(n:Int) x,0<=n->n<l.length->idx l n=some x->idx (ct l) n=some (bt l x.b_)->bH l n=n::bH l (bt l x.b_)->P (bt l x.b_)->P n):∀n:Int,n<l.length->P n:=by
 have key:∀(k:Nat)(n:Int),(bH l n).length<=k->n<l.length->P n:=by
  intro k;induction k with
  |zero=>intro n a I;by_cases b:n<0;exact c n b;obtain⟨x,_,_,e⟩:=h.step (n:=n) (by omega) I;rw[e]at a;simp at a
  |succ k f=>intro n a I;by_cases b:n<0;exact c n b;obtain⟨x,g,i,e⟩:=h.step (n:=n) (by omega) I;rw[e]at a;exact d n x (by omega) I g i e (f _ (by simpa using a) hP)
 exact λ n I=>key _ n (da _) I
theorem cz.range(h:cz l){n x:Int}(I:n<l.length)(a:x∈bH l n):0<=x/\x<l.length:=by by_cases b:n<0;rw[wo b]at a;cases a;exact(h.chain (n:=n) (by omega) I).2.2 x a
theorem cz.split(h:cz l):∀n,n<(l.length:Int)->∀x∈bH l n,∃p,bH l n=p++bH l x:=h.ind (λ n a x aa=>by rw[wo a]at aa;cases aa) λ n c f I _ _ e b x aa=>by rw[e]at aa⊢;rcases dc.1 aa with rfl |aa;exact⟨[],by rw[<-e];rfl⟩;obtain⟨p,d⟩:=b x aa;exact⟨n::p,by rw[d];rfl⟩
theorem cz.trans(h:cz l){a b c:Int}(I:a<l.length)(ag:b∈bH l a)(hc:c∈bH l b):c∈bH l a:=by obtain⟨p,d⟩:=h.split a I b ag;rw[d];exact lu _ hc
theorem cz.YK(h:cz l){a b:Int}(f:0<=a)(I:a<l.length)(ag:b∈bH l a)(g:a∈bH l b):a=b:=by obtain⟨b0,d⟩:=h.range I ag;obtain⟨p,c⟩:=h.split a I b ag;obtain⟨q,i⟩:=h.split b d a g;have j:=congrArg List.length c;have al:=congrArg List.length i;simp only[fD]at j al;have:p=[]:=List.length_eq_zero_iff.1 (by omega);rw[this,lO]at c;obtain⟨x,_,_,e⟩:=h.step f I;obtain⟨y,_,_,e'⟩:=h.step b0 d;rw[e,e']at c;exact(gW c).1
def vx(l:List ap):Int:=bt l [79,98,106,101,99,116]
theorem cz.akR(h:cz l):∀n,n<(l.length:Int)->0<=n->(bH l n).getLast?=some (vx l):=by
 refine h.ind (λ n o f=>absurd f (by omega)) λ n c f I hc p e k _=>?_;obtain⟨_,_,g⟩:=hY hc;have i:=cU g;by_cases m:bt l c.b_<0
 ·have a:c.b_=[]:=by
   rcases h.ahl c i with e |e
   ·exact e
   ·omega
  have b:=h.top c i;unfold n2 at b;split at b
  ·rename_i j;rw[lP a]at j;have d:c.Name=[79,98,106,101,99,116]:=by simpa using j
   have:=Ln h.TZ g;rw[d]at this;rw[e,wo m];show some n=some (vx l)
   unfold vx;rw[this];congr 1;omega
  ·cases b
 ·have hi:=k (by omega);rw[e,List.getLast?_cons,hi];rfl
theorem cz.Fo(h:cz l){n:Int}(a:0<=n)(I:n<l.length):vx l∈bH l n:=List.mem_of_getLast? (h.akR n I a)
theorem cz.ak8(h:cz l)(b:Int):∀n,n<(l.length:Int)->∀f,(bH l n).length<f->sn b (linked l) f n=some (if b∈bH l n then .out true else .go ()):=by
 refine h.ind (λ n g f a=>?_) λ n c i I hc j e k f a=>?_
 ·obtain⟨f,rfl⟩:∃d,f=d+1:=⟨f-1,by omega⟩
  rw[sn,lQ (by omega),wo g];rfl
 ·obtain⟨f,rfl⟩:∃d,f=d+1:=⟨f-1,by omega⟩
  rw[sn,lP i,lY];rw[e]at a⊢;simp only[df]at a;by_cases ag:n=b;rw[lP ag,ag,lX kL];rfl
  ·rw[lQ ag,l0];show((idx (ct l) n).bind λ m=>sn b (linked l) f m)=_
   rw[j,ae,k f (by omega)];congr 1;have:b∈n::bH l (bt l c.b_)↔b∈bH l (bt l c.b_):=by simp[Ne.symm ag]
   simp only[this]
theorem cz.under(h:cz l)(d:1100<F){a:Int}(b:Int)(c:0<=a)(I:a<l.length):sm F (linked l) a b=some (decide (b∈bH l a)):=by obtain⟨_,e,_⟩:=h.chain c I;unfold sm;rw[h.ak8 b a I F (by omega)];by_cases ag:b∈bH l a<;>simp[ag]
def kv(l:List ap)(a b:Int):Int:=((bH l a).find? λ x=>decide (x∈bH l b)).getD (-1)
theorem HU{α:Type}{p:α->Bool}:∀ {r:List α}{x:α},r.find? p=some x->∃q s,r=q++x::s/\(∀y∈q,p y=false)/\p x=true
 |[],x,h=>by cases h
 |y::r,x,h=>by
  rw[List.find?_cons]at h;cases a:p y with
  |true=>rw[a]at h;injection h with h;subst h;exact⟨[],r,rfl,λ _ h=>(by cases h),a⟩
  |false=>rw[a]at h;obtain⟨q,s,I,J,b⟩:=HU h;refine⟨y::q,s,by rw[I];rfl,λ z ah=>?_,b⟩;rcases dc.1 ah with rfl |ah;exact a;exact J z ah
theorem cz.CO(h:cz l){a b:Int}(cF:0<=a)(d:a<l.length)(b0:0<=b)(f:b<l.length):kv l a b∈bH l a/\kv l a b∈bH l b/\(bH l a).find? (λ x=>decide (x∈bH l b))=some (kv l a b):=by
 unfold kv;cases c:(bH l a).find? λ x=>decide (x∈bH l b)with
 |none=>have:=List.find?_eq_none.1 c _ (h.Fo cF d);simp only[decide_eq_true_eq]at this;exact absurd (h.Fo b0 f) this
 |some x=>obtain⟨q,s,e,_,g⟩:=HU c;refine⟨by rw[e];simp,by simpa using g,rfl⟩
theorem cz.Zs(h:cz l){a b c:Int}(cF:0<=a)(g:a<l.length)(b0:0<=b)(w:b<l.length)(u:c∈bH l a)(A:c∈bH l b):c∈bH l (kv l a b):=by
 obtain⟨v,G,B⟩:=h.CO cF g b0 w;obtain⟨q,s,e,d,_⟩:=HU B;obtain⟨p,f⟩:=h.split a g _ v;obtain⟨i,C⟩:=h.range g v;obtain⟨x,_,_,ex⟩:=h.step i C;have aE:=M4 (h.chain cF g).1;rw[e]at u;rcases de.1 u with hc |hc;have:=d c hc;simp[A]at this
 ·have j:p++bH l (kv l a b)=q++kv l a b::s:=by rw[<-f,e]
  rw[f,ex]at aE;rw[ex]at j⊢;have k:kv l a b∉p:=λ n=>by have:=(ft.1 aE).2.2 _ n _ kL;exact this rfl
  have D:(q++kv l a b::s).Nodup:=by rw[<-j];exact aE
  have o:kv l a b∉q:=λ n=>by have:=(ft.1 D).2.2 _ n _ kL;exact this rfl
  have:∀(p q t s:List Int)(m:Int),m∉p->m∉q->p++m::t=q++m::s->t=s:=by
   intro p;induction p with
   |nil=>
    intro q t s m _ d h;cases q with
    |nil=>exact(gW h).2
    |cons y q=>exact absurd (dc.2 (.inl (gW h).1)) d
   |cons z p E=>
    intro q t s m f d h;cases q with
    |nil=>exact absurd (dc.2 (.inl (gW h).1.symm)) f
    |cons y q=>exact E q t s m (λ r=>f (fg _ r)) (λ r=>d (fg _ r)) (gW h).2
  rw[this _ _ _ _ _ k o j];exact hc
theorem cz.Zt(h:cz l)(g:1100<F){b:Int}(b0:0<=b)(i:b<l.length):∀n,n<(l.length:Int)->∀f m,(bH l n).length<f->(bH l n).find? (λ x=>decide (x∈bH l b))=some m->u2 F b (linked l) f n=some m:=by
 refine h.ind (λ n j f m d a=>?_) λ n c s I hc k e o f m d a=>?_;rw[wo j]at a;cases a
 ·obtain⟨f,rfl⟩:∃p,f=p+1:=⟨f-1,by omega⟩
  rw[u2];show((sm F (linked l) b n).bind λ q=>cond (!q) ((idx (ct l) n).bind λ r=>u2 F b (linked l) f r) (some n))=_
  rw[h.under g n b0 i,ae];rw[e]at d a;rw[List.find?_cons]at a;simp only[df]at d;by_cases ag:n∈bH l b;rw[lP ag]at a⊢;exact a;rw[lQ ag]at a⊢;rw[k];exact o f m (by omega) a
theorem cz.common(h:cz l)(e:1100<F){a b:Int}(cF:0<=a)(c:a<l.length)(b0:0<=b)(d:b<l.length):xa F (linked l) a b=some (kv l a b):=by obtain⟨_,f,_⟩:=h.chain cF c;unfold xa;rw[h.Zt e b0 d a c F _ (by omega) (h.CO cF c b0 d).2.2];rfl
end
section
variable{F:Nat}
theorem Lh{k:c4}(h:Small F k.gz.length)(nm:List UInt8):sl F k nm=some (bt k.gz nm,decide (0<=bt k.gz nm)):=by unfold sl Fh bt;have l1:th k.gz nm F 0=some (cP ((dH (gp nm) k.gz).map λ n:Nat=>(n:Int))):=HS (gp nm) _ h.1 (λ j i x a=>by rw[th,cc (bb.1 a).1,lY,bK a,ae];rfl) (λ j=>by rw[th,cb];rfl) h.2;rw[l1,kj];cases dH (gp nm) k.gz<;>rfl
end
end ad
namespace Go.Proofs.YtifhjkbiiekamaaDoor
open ad
def d_(l:List ap)(K:Int)(C:List UInt8):Int:=if(decide (K<1)||decide (6<K)|| !(decide (K=3)||decide (K=4))&& !decide (C=[]))=true then 7 else if(decide (K=3)||decide (K=4))=true then(if bt l C<0 then 5 else 0)else 0
section
variable{F:Nat}{l:List ap}{s:List Int}{f:List (List ad.Field)}{n:List (List (List UInt8))}{t:List (List ad.Target)}
theorem TD(h:Small F l.length)(K:Int)(C:List UInt8):Fz F l s f n t K C=some ((d_ l K C,()),()):=by
 unfold Fz d_;cases(decide (K<1)||decide (6<K)|| !(decide (K=3)||decide (K=4))&& !decide (C=[]))with
 |true=>rfl
 |false=>
  rw[l0];cases(decide (K=3)||decide (K=4))with
  |false=>rfl
  |true=>
   rw[lY,Lh (k:=c4.mk l s f n t) h,ae];by_cases hc:bt l C<0
   ·have:decide (0<=bt l C)=false:=lQ (by omega);show cond (!decide (0<=bt l C)) _ _=_
    rw[this,lX hc];rfl
   ·have:decide (0<=bt l C)=true:=lP (by omega);show cond (!decide (0<=bt l C)) _ _=_
    rw[this,lW hc];rfl
def hr(l:List ap)(K:Int)(C:List UInt8)(a:Int)(b:List UInt8):Int:=if d_ l K C=0 then d_ l a b else d_ l K C
theorem OM{m:Nat}(g:F=m+3)(h:Small F l.length){e:Int}(hc:sk F (c4.mk l s f n t)=some e)(K:Int)(C:List UInt8)(a:Int)(b:List UInt8) :
 BD F l s f n t [Kind.mk K C,Kind.mk a b]=some (((l,s,f,n,t,()),(if e=0 then hr l K C a b else e),()),()):=by
 unfold BD
 rw[hc,ae]
 by_cases c:e=0
 ·subst c;rw[lP (rfl:(0 :Int)=0),lX rfl];show dx (pg F F [Kind.mk K C,Kind.mk a b] 2 0 [] [] [] [] [] l s f n t) _ _=_
  have i:idx [Kind.mk K C,Kind.mk a b] 0=some (Kind.mk K C):=rfl;have j:idx [Kind.mk K C,Kind.mk a b] (bj (0+1))=some (Kind.mk a b):=rfl;have d:pg F (m+3) [Kind.mk K C,Kind.mk a b] 2 0 [] [] [] [] [] l s f n t=if d_ l K C=0 then(if d_ l a b=0 then some (.inr (((),(),()),([],[],[],[],[],()),(l,s,f,n,t,()),()))else some (.inl (((),d_ l a b,()),(l,s,f,n,t,()),(l,s,f,n,t,()),())))else some (.inl (((),d_ l K C,()),(l,s,f,n,t,()),(l,s,f,n,t,()),())):=by
   rw[pg,lP (by decide:(0 :Int)<2),lY,i,ae,TD h,ae];by_cases I:d_ l K C=0
   ·rw[lX I,I,lP (rfl:(0 :Int)=0)];show pg F (m+2) [Kind.mk K C,Kind.mk a b] 2 (bj (0+1)) [] [] [] [] [] l s f n t=_
    rw[pg,lP (by decide:bj (0+1)<2),lY,j,ae,TD h,ae];by_cases J:d_ l a b=0
    ·rw[lX J,J,lP (rfl:(0 :Int)=0)];show pg F (m+1) [Kind.mk K C,Kind.mk a b] 2 (bj (bj (0+1)+1)) [] [] [] [] [] l s f n t=_
     rw[pg,lQ (by decide: ¬bj (bj (0+1)+1)<2),l0]
    ·rw[lW J,lQ J];rfl
   ·rw[lW I,lQ I];rfl
  rw[<-g]at d;rw[d];unfold hr;by_cases I:d_ l K C=0;rw[lX I,lX I];by_cases J:d_ l a b=0;rw[lX J,J];rfl;rw[lW J];rfl;rw[lW I,lW I];rfl
 ·rw[lW c,lQ c];rfl
theorem ql{K:Int}{C:List UInt8}(h:d_ l K C=0):1<=K/\K<=6/\(K≠3 ->K≠4 ->C=[])/\(K=3\/K=4->0<=bt l C):=by
 unfold d_ at h;split at h;omega
 ·rename_i I;simp only[hZ,bL,gI,decide_eq_true_eq,not_or,not_and,kc,decide_eq_false_iff_not]at I;refine⟨by omega,by omega,λ b c=>?_,λ d=>?_⟩
  ·by_cases a:C=[]
   ·exact a
   ·exact absurd a (I.2 ⟨b,c⟩)
  ·split at h;split at h;omega;omega;rename_i J;simp only[hZ,decide_eq_true_eq,not_or]at J;omega
end
theorem ZO{K a:Int}{C b:List UInt8}:decide (Kind.mk K C=Kind.mk a b)=(decide (K=a)&&decide (C=b)):=by rw[iN];simp
section
variable{F:Nat}{l:List ap}
def fI(l:List ap)(K:Int)(C:List UInt8)(a:Int)(b:List UInt8):Bool:=if K=a/\C=b then true else if a=6 then true else if K=5 then !decide (a=1)else if K=3/\a=3 then decide (bt l b∈bH l (bt l C))else if a=3/\b=[79,98,106,101,99,116]then !decide (K=1)&& !decide (K=6)else false
theorem KP(g:1100<F)(h:cz l)(i:Small F l.length){K a:Int}{C b:List UInt8}(j:d_ l K C=0)(m:d_ l a b=0):tr F l (ad.linked l).eh (ad.linked l).Fields (ad.linked l).Names (ad.linked l).eE K C a b=some ((fI l K C a b,()),()):=by
 obtain⟨r,s,n,o⟩:=ql j;obtain⟨t,u,f,v⟩:=ql m;have num:∀nm,q5 F l (ad.linked l).eh (ad.linked l).Fields (ad.linked l).Names (ad.linked l).eE nm=some ((bt l nm,()),()):=λ nm=>by
  unfold q5;show(sl F (ad.linked l) nm).bind _=_
  rw[Lh (k:=ad.linked l) i];rfl
 unfold tr fI;simp only[ZO];by_cases d:K=a/\C=b;rw[lX d,lP d.1,lP d.2];rfl
 ·have p:(decide (K=a)&&decide (C=b))=false:=by
   rw[hA];intro c;simp only[bL,decide_eq_true_eq]at c;exact d c
  rw[lW d,p,l0];by_cases al:a=6
  ·rw[lX al,lP al,lP (f (by omega) (by omega))];rfl
  ·rw[lW al,lQ al];show cond false _ _=_
   rw[l0];by_cases aL:K=5;rw[lX aL,lP aL,lP (n (by omega) (by omega))];by_cases bB:a=1;rw[lP bB,lP (f (by omega) (by omega))];rfl;rw[lQ bB];rfl
   ·rw[lW aL,lQ aL];show cond false _ _=_
    rw[l0];by_cases ch:K=3/\a=3
    ·rw[lX ch,lP ch.1,lP ch.2,ld,lY,num,ae,num,ae];have:=h.under g (bt l b) (o (.inl ch.1)) (hP (nm:=C));show(sm F (ad.linked l) (bt l C) (bt l b)).bind _=_
     rw[this];rfl
    ·have q:(decide (K=3)&&decide (a=3))=false:=by
      rw[hA];intro c;simp only[bL,decide_eq_true_eq]at c;exact ch c
     rw[lW ch,q,l0];by_cases fH:a=3/\b=[79,98,106,101,99,116]
     ·rw[lX fH,lP fH.1,lP fH.2];rfl
     ·have e:(decide (a=3)&&decide (b=[79,98,106,101,99,116]))=false:=by
       rw[hA];intro c;simp only[bL,decide_eq_true_eq]at c;exact fH c
      rw[lW fH,e];rfl
def uP(l:List ap)(K:Int)(C:List UInt8)(a:Int)(b:List UInt8):Int×List UInt8:=if fI l a b K C=true then(K,C)else if fI l K C a b=true then(a,b)else if K=3/\a=3 then(3,((idx l (kv l (bt l C) (bt l b))).map ap.Name).getD [])else if(K≠1/\K≠6)/\(a≠1/\a≠6)then(3,[79,98,106,101,99,116])else(6,[])
theorem Pk(h:cz l){a b:Int}(cF:0<=a)(c:a<l.length)(b0:0<=b)(d:b<l.length):∃x,idx l (kv l a b)=some x:=by obtain⟨e,g,_⟩:=h.CO cF c b0 d;obtain⟨dS,f⟩:=h.range c e;exact⟨_,(h.step dS f).choose_spec.1⟩
theorem ahq(c:1100<F)(h:cz l)(d:Small F l.length){K a:Int}{C b:List UInt8}(e:d_ l K C=0)(f:d_ l a b=0):BE F l (ad.linked l).eh (ad.linked l).Fields (ad.linked l).Names (ad.linked l).eE K C a b=some ((((uP l K C a b).1,(uP l K C a b).2,()),()),()):=by
 obtain⟨q,r,s,i⟩:=ql e;obtain⟨t,u,v,j⟩:=ql f;have num:∀nm,q5 F l (ad.linked l).eh (ad.linked l).Fields (ad.linked l).Names (ad.linked l).eE nm=some ((bt l nm,()),()):=λ nm=>by
  unfold q5;show(sl F (ad.linked l) nm).bind _=_
  rw[Lh (k:=ad.linked l) d];rfl
 unfold BE uP;rw[KP c h d f e,ae];cases w:fI l a b K C with
 |true=>rfl
 |false=>
  rw[lW (by decide)];show(tr F l (ad.linked l).eh (ad.linked l).Fields (ad.linked l).Names (ad.linked l).eE K C a b).bind _=_
  rw[KP c h d e f,ae];cases y:fI l K C a b with
  |true=>rfl
  |false=>
   rw[lW (by decide)];show cond (decide (K=3)&&decide (a=3)) _ _=_
   by_cases ch:K=3/\a=3
   ·have cF:=i (.inl ch.1);have b0:=j (.inl ch.2);obtain⟨x,m⟩:=Pk h cF hP b0 (hP (nm:=b));rw[lX ch,lP ch.1,lP ch.2,ld,lY,num,ae,num,ae];show(xa F (ad.linked l) (bt l C) (bt l b)).bind _=_
    rw[h.common c cF hP b0 hP,ae,m];rfl
   ·have n:(decide (K=3)&&decide (a=3))=false:=by
     rw[hA];intro g;simp only[bL,decide_eq_true_eq]at g;exact ch g
    rw[lW ch,n,l0];exact refs
where
 refs {K a:Int}:cond (!decide (K=1)&& !decide (K=6)) (cond (!decide (a=1)&& !decide (a=6)) (some (((3,([79,98,106,101,99,116]:List UInt8),()),()),())) (some (((6,([]),()),()),()))) (some (((6,([]),()),()),()))=some ((((if(K≠1/\K≠6)/\(a≠1/\a≠6)then((3 :Int),([79,98,106,101,99,116]:List UInt8))else(6,[])).1,(if(K≠1/\K≠6)/\(a≠1/\a≠6)then((3 :Int),([79,98,106,101,99,116]:List UInt8))else(6,[])).2,()),()),()):=by by_cases I:K=1<;>by_cases J:K=6<;>by_cases o:a=1<;>by_cases p:a=6<;>simp[I,J,o,p]
end
section
variable{l:List ap}
theorem Pg{nm:List UInt8}(h:0<=bt l nm):∃x,idx l (bt l nm)=some x/\x.Name=nm:=by
 cases a:dH (gp nm) l with
 |none=>exact absurd (Ph.2 a) (by omega)
 |some i=>
  have e:bt l nm=(i:Int):=by unfold bt;rw[a];rfl
  obtain⟨x,b,c,_⟩:=xw a;exact⟨x,by rw[e];exact bK b,by simpa[gp]using c⟩
theorem Zn{a b:List UInt8}(h:0<=bt l a)(e:bt l a=bt l b):a=b:=by obtain⟨x,c,rfl⟩:=Pg h;obtain⟨y,hy,rfl⟩:=Pg (l:=l) (nm:=b) (by omega);rw[e,hy]at c;cases c;rfl
theorem akS(h:cz l){x:Int}(a:x∈bH l (vx l)):x=vx l:=by have I:vx l<l.length:=hP;obtain⟨b,c⟩:=h.range I a;exact(h.YK h.obj I a (h.Fo b c)).symm
theorem S6{C:List UInt8}(h:0<=bt l C):d_ l 3 C=0:=by unfold d_;rw[lW (by simp),lX (by simp),lW (by omega)]
theorem afQ:d_ l 6 []=0:=by unfold d_;rw[lW (by simp),lW (by simp)]
def Fit(l:List ap)(K:Int)(C:List UInt8)(a:Int)(b:List UInt8):Prop:=(K=a/\C=b)\/a=6\/(K=5/\a≠1)\/(K=3/\a=3/\bt l b∈bH l (bt l C))\/(a=3/\b=[79,98,106,101,99,116]/\K≠1/\K≠6)
theorem mm(h:cz l){K b:Int}{C c:List UInt8}(d:d_ l K C=0):fI l K C b c=true↔Fit l K C b c:=by
 unfold fI Fit;by_cases a:K=b/\C=c;rw[lX a];exact⟨λ _=>.inl a,λ _=>rfl⟩;rw[lW a];by_cases al:b=6;rw[lX al];exact⟨λ _=>.inr (.inl al),λ _=>rfl⟩;rw[lW al];by_cases aL:K=5;rw[lX aL];refine⟨λ q=>.inr (.inr (.inl ⟨aL,?_⟩)),λ q=>?_⟩;simpa using q;rcases q with q |q |q |q |q;exact absurd q a;exact absurd q al;simpa using q.2;omega;have:=q.1;simp[this];rw[lW aL];by_cases bB:K=3/\b=3;rw[lX bB];refine⟨λ q=>.inr (.inr (.inr (.inl ⟨bB.1,bB.2,by simpa using q⟩))),λ q=>?_⟩;have cF:=(ql d).2.2.2 (.inl bB.1);rcases q with q |q |q |q |q;exact absurd q a;exact absurd q al;exact absurd q.1 aL;simpa using q.2.2;rw[q.2.1];exact lP (h.Fo cF hP);rw[lW bB];by_cases ch:b=3/\c=[79,98,106,101,99,116]
 ·rw[lX ch];refine⟨λ q=>.inr (.inr (.inr (.inr ⟨ch.1,ch.2,by simpa using q⟩))),λ q=>?_⟩;rcases q with q |q |q |q |q;exact absurd q a;exact absurd q al;exact absurd q.1 aL;exact absurd ⟨q.1,q.2.1⟩ bB;simpa using q.2.2
 ·rw[lW ch];refine⟨λ q=>by simp at q,λ q=>?_⟩;rcases q with q |q |q |q |q;exact absurd q a;exact absurd q al;exact absurd q.1 aL;exact absurd ⟨q.1,q.2.1⟩ bB;exact absurd ⟨q.1,q.2.1⟩ ch
theorem Rb{K:Int}{C:List UInt8}:Fit l K C K C:=.inl ⟨rfl,rfl⟩
theorem abH(h:cz l){K m i:Int}{C n j:List UInt8}(o:d_ l K C=0)(p:d_ l i j=0)(f:Fit l K C m n)(g:Fit l m n i j):Fit l K C i j:=by have cF:=(ql o).2.2.2;have dS:=(ql p).2.2.2;rcases f with⟨rfl,rfl⟩|rfl |⟨a,c⟩|⟨a,c,b⟩|⟨a,c,b,k⟩;exact g;rcases g with⟨rfl,rfl⟩|g |g |g |g;exact .inr (.inl rfl);exact .inr (.inl g);omega;omega;omega;refine .inr (.inr (.inl ⟨a,?_⟩));rcases g with⟨rfl,rfl⟩|g |g |g |g<;>omega;rcases g with⟨rfl,rfl⟩|g |g |⟨_,d,e⟩|g;exact .inr (.inr (.inr (.inl ⟨a,c,b⟩)));exact .inr (.inl g);omega;exact .inr (.inr (.inr (.inl ⟨a,d,h.trans hP b e⟩)));exact .inr (.inr (.inr (.inr ⟨g.1,g.2.1,by omega,by omega⟩)));rcases g with⟨rfl,rfl⟩|g |g |⟨_,d,e⟩|g;exact .inr (.inr (.inr (.inr ⟨a,c,b,k⟩)));exact .inr (.inl g);omega;rw[c]at e;have:=Zn (dS (.inl d)) (akS h e);exact .inr (.inr (.inr (.inr ⟨d,this,b,k⟩)));exact .inr (.inr (.inr (.inr ⟨g.1,g.2.1,b,k⟩)))
theorem afD(h:cz l){K a:Int}{C b:List UInt8}(j:d_ l K C=0)(k:d_ l a b=0):∃f D,uP l K C a b=(f,D)/\d_ l f D=0/\Fit l K C f D/\Fit l a b f D/\
 ∀(c:Int)(d:List UInt8),Fit l K C c d->Fit l a b c d->Fit l f D c d:=by
 obtain⟨I,J,L,z⟩:=ql j
 obtain⟨M,N,O,A⟩:=ql k
 unfold uP
 by_cases m:fI l a b K C=true
 ·rw[lX m];exact⟨K,C,rfl,j,Rb,(mm h k).1 m,λ _ _ q _=>q⟩
 rw[lW m]
 by_cases n:fI l K C a b=true
 ·rw[lX n];exact⟨a,b,rfl,k,(mm h j).1 n,Rb,λ _ _ _ q=>q⟩
 rw[lW n]
 have g: ¬Fit l a b K C:=λ q=>m ((mm h k).2 q)
 have i: ¬Fit l K C a b:=λ q=>n ((mm h j).2 q)
 have P:K≠6:=λ q=>g (.inr (.inl q))
 have Q:a≠6:=λ q=>i (.inr (.inl q))
 by_cases aL:K=3/\a=3
 ·rw[lX aL];have cF:=z (.inl aL.1);have b0:=A (.inl aL.2);obtain⟨v,B,_⟩:=h.CO cF hP b0 hP;obtain⟨R,S⟩:=h.range hP v;obtain⟨x,w⟩:=Pk h cF hP b0 (hP (nm:=b));have s:bt l x.Name=kv l (bt l C) (bt l b):=by obtain⟨_,_,E⟩:=hY w;rw[Ln h.TZ E];omega
  rw[w];refine⟨3,x.Name,rfl,S6 (by omega),.inr (.inr (.inr (.inl ⟨aL.1,rfl,by rw[s];exact v⟩))),.inr (.inr (.inr (.inl ⟨aL.2,rfl,by rw[s];exact B⟩))),λ c d p q=>?_⟩;rcases p with⟨rfl,rfl⟩|p |p |⟨u,o,r⟩|p;exact absurd q g;exact .inr (.inl p);omega;rcases q with⟨rfl,rfl⟩|q |q |⟨F,G,y⟩|q;exact absurd (.inr (.inr (.inr (.inl ⟨u,o,r⟩)))) i;omega;omega;exact .inr (.inr (.inr (.inl ⟨rfl,o,by rw[s];exact h.Zs cF hP b0 hP r y⟩)));exact .inr (.inr (.inr (.inr ⟨q.1,q.2.1,by decide,by decide⟩)));exact .inr (.inr (.inr (.inr ⟨p.1,p.2.1,by decide,by decide⟩)))
 rw[lW aL]
 by_cases bB:(K≠1/\K≠6)/\(a≠1/\a≠6)
 ·rw[lX bB];refine⟨3,_,rfl,S6 h.obj,.inr (.inr (.inr (.inr ⟨rfl,rfl,bB.1⟩))),.inr (.inr (.inr (.inr ⟨rfl,rfl,bB.2⟩))),λ c d p q=>?_⟩;have T:K≠5:=λ e=>i (.inr (.inr (.inl ⟨e,bB.2.1⟩)));have H:a≠5:=λ e=>g (.inr (.inr (.inl ⟨e,bB.1.1⟩)));rcases p with⟨rfl,rfl⟩|p |p |⟨u,o,r⟩|p;exact absurd q g;exact .inr (.inl p);omega;rcases q with⟨rfl,rfl⟩|q |q |⟨F,G,y⟩|q;exact absurd (.inr (.inr (.inr (.inl ⟨u,o,r⟩)))) i;omega;omega;omega;exact .inr (.inr (.inr (.inr ⟨q.1,q.2.1,by decide,by decide⟩)));exact .inr (.inr (.inr (.inr ⟨p.1,p.2.1,by decide,by decide⟩)))
 ·rw[lW bB];refine⟨6,[],rfl,afQ,.inr (.inl rfl),.inr (.inl rfl),λ c d p q=>?_⟩;by_cases t:K=1;rcases p with⟨rfl,rfl⟩|p |p |p |p;exact absurd q g;exact .inr (.inl p);omega;omega;omega
  ·have t:a=1:=by omega
   rcases q with⟨rfl,rfl⟩|q |q |q |q;exact absurd p i;exact .inr (.inl q);omega;omega;omega
end
end Go.Proofs.YtifhjkbiiekamaaDoor
namespace ad
open Go Go.Proofs.YtifhjkbiiekamaaDoor
theorem q0{n:Nat}(h:n<=reachBytes):Small 140737488356000 n:=by have:reachBytes=140737488351232:=rfl;unfold Small;omega
theorem xQ{n:Nat}(k:Nat)(h:n*(k+1)<=reachBytes):Small 140737488356000 n:=q0 (fo (k1 n (Nat.succ_pos k)) h)
theorem abJ{m:Method}(h:Cp reachBytes m):m.Fits 140737488356000:=⟨q0 h.1,xQ 23 h.2.2.1.1,λ k a=>q0 (h.2.2.1.2 k a).2,q0 h.2.2.2.1.2,xQ 39 h.2.2.2.2.2.2.2.1,λ x b=>q0 (h.2.2.2.2.2.2.2.2 x b).2.2.2⟩
theorem abI{c:ap}(h:ym reachBytes c):c.Fits 140737488356000:=⟨q0 h.1,q0 h.2.1,xQ 39 h.2.2.1.1,λ f a=>⟨q0 (h.2.2.1.2 f a).1,q0 (h.2.2.1.2 f a).2.2⟩,xQ 127 h.2.2.2.1,λ m b=>abJ (h.2.2.2.2 m b)⟩
theorem abK{l:List ap}(h:l.length*80<=reachBytes/\∀x∈l,ym reachBytes x):Fits 140737488356000 l:=⟨xQ 79 h.1,λ c hc=>abI (h.2 c hc)⟩
end ad
namespace Go.Proofs.YtifhjkbiiekamaaDoor
open ad
section
variable{F:Nat}{l:List ap}
theorem Yy{m:Nat}(e:F=m+3)(g:1100<F)(h:cz l)(d:Small F l.length)(hc:sk F (ad.linked l)=some 0)(K:Int)(C:List UInt8)(a:Int)(b:List UInt8) :
 pf F l (ad.linked l).eh (ad.linked l).Fields (ad.linked l).Names (ad.linked l).eE K C a b=some ((if hr l K C a b=0 then(fI l K C a b,0,())else(false,hr l K C a b,())),()):=by
 unfold pf
 have ag:=OM (s:=(ad.linked l).eh) (f:=(ad.linked l).Fields) (n:=(ad.linked l).Names) (t:=(ad.linked l).eE) e d hc K C a b
 rw[ag,ae,lX rfl]
 by_cases k:hr l K C a b=0
 ·have c:d_ l K C=0:=by
   by_cases c:d_ l K C=0
   ·exact c
   ·unfold hr at k;rw[lW c]at k;exact absurd k c
  have i:d_ l a b=0:=by unfold hr at k;rw[lX c]at k;exact k
  rw[k,lX rfl];show(tr F l (ad.linked l).eh (ad.linked l).Fields (ad.linked l).Names (ad.linked l).eE K C a b).bind _=_
  rw[KP g h d c i,ae]
 ·rw[lW k];show cond (!decide (hr l K C a b=0)) _ _=_
  rw[lQ k];rfl
theorem YB{m:Nat}(e:F=m+3)(g:1100<F)(h:cz l)(d:Small F l.length)(hc:sk F (ad.linked l)=some 0)(K:Int)(C:List UInt8)(a:Int)(b:List UInt8) :
 BC F l (ad.linked l).eh (ad.linked l).Fields (ad.linked l).Names (ad.linked l).eE K C a b=some ((if hr l K C a b=0 then(((uP l K C a b).1,(uP l K C a b).2,()),0,())else((0,[],()),hr l K C a b,())),()):=by
 unfold BC
 have ag:=OM (s:=(ad.linked l).eh) (f:=(ad.linked l).Fields) (n:=(ad.linked l).Names) (t:=(ad.linked l).eE) e d hc K C a b
 rw[ag,ae,lX rfl]
 by_cases k:hr l K C a b=0
 ·have c:d_ l K C=0:=by
   by_cases c:d_ l K C=0
   ·exact c
   ·unfold hr at k;rw[lW c]at k;exact absurd k c
  have i:d_ l a b=0:=by unfold hr at k;rw[lX c]at k;exact k
  rw[k,lX rfl];show(BE F l (ad.linked l).eh (ad.linked l).Fields (ad.linked l).Names (ad.linked l).eE K C a b).bind _=_
  rw[ahq g h d c i,ae]
 ·rw[lW k];show cond (!decide (hr l K C a b=0)) _ _=_
  rw[lQ k];rfl
theorem uR{K:Int}{C:List UInt8}{a:Int}{b:List UInt8}:hr l K C a b=0↔d_ l K C=0/\d_ l a b=0:=by unfold hr;by_cases k:d_ l K C=0;rw[lX k];simp[k];rw[lW k];simp[k]
end
theorem aiq(l:List ap)(H:l.length*80<=Go.reachBytes/\∀x∈l,ym Go.reachBytes x)(a:Kind)(_:ry Go.reachBytes a)(b:Kind)(_:ry Go.reachBytes b)(c:Kind)(_:ry Go.reachBytes c) :
 ∃F,Co F l a.Kind a.ap b.Kind b.ap c.Kind c.ap=some ((true,()),()):=by
 refine⟨140737488355940+60,?_⟩
 have s:1100<140737488355940+60:=by omega
 obtain⟨r,I,_,J,_⟩:=agQ (F:=140737488355940+60) s (abK H)
 have w:Small (140737488355940+60) l.length:=xQ 79 H.1
 have t:∃m,(140737488355940+60 :Nat)=m+3:=⟨140737488355940+57,rfl⟩
 generalize(140737488355940+60 :Nat)=F at s I w t⊢
 obtain⟨m,t⟩:=t
 obtain⟨i,j⟩:=a
 obtain⟨g,h⟩:=b
 obtain⟨d,f⟩:=c
 unfold Co
 rw[I,ae]
 by_cases y:r.2=0
 case neg=>rw[lQ y];rfl
 obtain⟨n,e⟩:=J y
 obtain⟨k,K⟩:=r
 obtain rfl:k=ad.linked l:=e
 obtain rfl:K=0:=y
 have hc:=Zl s n I
 have p:=Yy t s n w hc
 have z:=YB t s n w hc
 have L:(ad.linked l).gz=l:=rfl
 dsimp only
 rw[L]
 show(BC F l (ad.linked l).eh (ad.linked l).Fields (ad.linked l).Names (ad.linked l).eE i j g h).bind _=_
 rw[z,ae,p i j g h,ae,p g h d f,ae,p i j d f,ae]
 by_cases ab:hr l i j g h=0
 case neg=>
  rw[lW ab]
  show cond (!decide (hr l i j g h=0)||_||_||_) _ _=_
  rw[lQ ab];rfl
 by_cases om:hr l g h d f=0
 case neg=>
  rw[lW om]
  show cond (_||_|| !decide (hr l g h d f=0)||_) _ _=_
  rw[lQ om,ko,Bool.or_true,Bool.true_or];rfl
 have o:=(uR.1 ab).1
 have u:=(uR.1 ab).2
 have A:=(uR.1 om).2
 have ac:hr l i j d f=0:=uR.2 ⟨o,A⟩
 obtain⟨q,D,Hd,v,B,C,least⟩:=afD n o u
 rw[lX ab,lX ab,lX om,lX ac,Hd]
 show((pf F l (ad.linked l).eh (ad.linked l).Fields (ad.linked l).Names (ad.linked l).eE i j q D).bind _=_)
 rw[p i j q D,ae,p g h q D,ae,p q D d f,ae]
 rw[lX (uR.2 ⟨o,v⟩),lX (uR.2 ⟨u,v⟩),lX (uR.2 ⟨v,A⟩),(mm n o).2 B,(mm n u).2 C]
 have M:(!fI l i j g h|| !fI l g h d f||fI l i j d f)=true:=by
  cases E:fI l i j g h with
  |false=>rfl
  |true=>
   cases G:fI l g h d f with
   |false=>rfl
   |true=>rw[(mm n o).2 (abH n o A ((mm n o).1 E) ((mm n u).1 G))];rfl
 have N:(!fI l i j d f|| !fI l g h d f||fI l q D d f)=true:=by
  cases E:fI l i j d f with
  |false=>rfl
  |true=>
   cases G:fI l g h d f with
   |false=>rfl
   |true=>rw[(mm n v).2 (least d f ((mm n o).1 E) ((mm n u).1 G))];rfl
 show some (((decide ((0 :Int)=0)&&decide ((0 :Int)=0)&&decide ((0 :Int)=0)&&true&&true&&(!fI l i j g h|| !fI l g h d f||fI l i j d f)&&(!fI l i j d f|| !fI l g h d f||fI l q D d f)),()),())=_
 rw[M,N];rfl
end Go.Proofs.YtifhjkbiiekamaaDoor
namespace Go.Proofs.YtifhjkbiiekamaaDoor.verifyLeast
open Go Go.ChangeShapes Go.WideShapes Go.ChangeAt Go.RowKit
theorem own:ownKnob Tryd.prog.godebug=none:=by kernel_rfl
set_option maxRecDepth 100000 in
theorem Zu(H:Type)(enc:TypeId×Value->H)(W:World)(base:Nat)(args:Array Value)(ds gs:List (DataW H))(before:List MemPlace)
 (g:∀(j:Nat) t v,Tryd.f4.params[j]? =some t->args[j]? =some v->Value.okWide Tryd.prog W .any base t v)
 (s:DataW.Whole enc Tryd.prog Tryd.f4.params.toList Rows.verifyLeastSpec.vars false W args.toList ds gs before)(DL:∀n∈DataW.weightsEach Tryd.prog Tryd.f4.params.toList ds,n<=reachBytes)(dU:laidMet Tryd.prog Tj W) :
 Calls Tryd.prog 4 args W λ e Y=>∃v,e= .returned v/\Rows.verifyLeastSpec.post enc Tryd.prog Tryd.f4 false true false false W args v Y:=by
 have u:=s
 have l:=s.lt
 obtain⟨p,q,w,mr,o,ms,mx⟩:=s
 have Z:DataW.TrodAll enc Tryd.prog W 0 (λ _=>true) true Tryd.f4.params.toList args.toList ds p:=w
 have h:=DL
 rw[Tryd.params4]at Z g h
 obtain⟨ba,aon,i,anH,ht,aoh,IZ,rfl,rfl,aJ,y⟩:=trodAll_cons Z
 obtain⟨v1,aoo,a,anI,c',a7,rfl,rfl,rfl,I,z⟩:=trodAll_cons y
 obtain⟨A,ale,b,anJ,fP,br,rfl,rfl,rfl,J,B⟩:=trodAll_cons z
 obtain⟨C,aop,c,anK,gb,bG,rfl,rfl,rfl,aw,D⟩:=trodAll_cons B
 obtain⟨rfl,rfl,rfl⟩:=trodAll_nil D
 obtain rfl:args= #[ba,v1,A,C]:=by cases args;simp_all
 obtain⟨rfl,rfl⟩:=trodVars_none mr
 have G:=ajW (enc:=enc) (N:=reachBytes)
 have K:=aA.Cy G aJ (λ x d=>l x (by subst o;simp[d]))
 have L:=K (λ m f=>h m (by simp only[DataW.weightsEach,de];simp[f]))
 obtain⟨i,hf,eG⟩:=L
 obtain⟨cF,lN,dS,rfl⟩:=okWide_slice Tryd.underlying22 (g 0 22 ba rfl rfl)
 obtain⟨rj,yf,cZ⟩:=aA.Bf hf
 obtain⟨rfl,rfl,rfl⟩:=Value.slice.inj (gW cZ).1
 have M:=xG (enc:=enc) (N:=reachBytes)
 have O:=aA.Cy M I (λ x d=>l x (by subst o;simp[d]))
 have P:=O (λ m f=>h m (by simp only[DataW.weightsEach,de];simp[f]))
 obtain⟨a,cB,aT⟩:=P
 obtain⟨v1,rfl,_⟩:=okWide_struct Tryd.underlying40 (g 1 40 v1 rfl rfl)
 have ak:=cB
 obtain rfl:=aA.Gx ak
 have Q:=xG (enc:=enc) (N:=reachBytes)
 have R:=aA.Cy Q J (λ x d=>l x (by subst o;simp[d]))
 have S:=R (λ m f=>h m (by simp only[DataW.weightsEach,de];simp[f]))
 obtain⟨b,dE,aV⟩:=S
 obtain⟨A,rfl,_⟩:=okWide_struct Tryd.underlying40 (g 2 40 A rfl rfl)
 have al:=dE
 obtain rfl:=aA.Gx al
 have T:=xG (enc:=enc) (N:=reachBytes)
 have U:=aA.Cy T aw (λ x d=>l x (by subst o;simp[d]))
 have V:=U (λ m f=>h m (by simp only[DataW.weightsEach,de];simp[f]))
 obtain⟨c,gG,bN⟩:=V
 obtain⟨C,rfl,_⟩:=okWide_struct Tryd.underlying40 (g 3 40 C rfl rfl)
 have aL:=gG
 obtain rfl:=aA.Gx aL
 obtain⟨F,aG⟩:=Go.Proofs.YtifhjkbiiekamaaDoor.aiq i eG a aT b aV c bN
 have X:∀k,aA.gL [] W k->k<W.heap.size/\W.heap[k]? =W.heap[k]? :=λ k aj=>⟨aj.2,rfl⟩
 have eF:((Kf F).run bd [.s 37 i,.a [.p (.int .i64 a.Kind),.p (aA.bQ a.ap)],.a [.p (.int .i64 b.Kind),.p (aA.bQ b.ap)],.a [.p (.int .i64 c.Kind),.p (aA.bQ c.ap)]] [])= .op (Co F i a.Kind a.ap b.Kind b.ap c.Kind c.ap) λ r=>.ok ⟨.ret (.p (.bool r.1.1)),[],[]⟩:=by kernel_rfl
 refine(a8.agJ (E:=bd) (ab' dU) (Y' F) (ys:=[.s 37 i,.a [.p (.int .i64 a.Kind),.p (aA.bQ a.ap)],.a [.p (.int .i64 b.Kind),.p (aA.bQ b.ap)],.a [.p (.int .i64 c.Kind),.p (aA.bQ c.ap)]]) (by rw[eF];exact⟨((true,()),()),aG,rfl⟩) ⟨_,_,rfl,a8.n0 (λ _ _=>ajO) ((aA.cM _).law X hf),_,_,rfl,⟨_,rfl,_,_,rfl,rfl,_,_,rfl,rfl,rfl⟩,_,_,rfl,⟨_,rfl,_,_,rfl,rfl,_,_,rfl,rfl,rfl⟩,_,_,rfl,⟨_,rfl,_,_,rfl,rfl,_,_,rfl,rfl,rfl⟩,rfl⟩).mono λ e Y ⟨he,ai⟩=>?_
 exact⟨_,he,aA.ais u (by kernel_rfl) (by kernel_rfl) rfl rfl Tryd.underlying4 rfl ai⟩
def setCells(cs:Array Value):Obj->Obj
 | .cells _ t frozen=>.cells cs t frozen
 |o=>o
def Ks(os:Os):World:={ World.holding Tryd.prog os ⟨#[],#[],[]⟩with heap:=(((((((World.holding Tryd.prog os ⟨#[],#[],[]⟩).heap).modify 0 (setCells #[.int .i64 0,.int .i64 1,.int .i64 0,.int .i64 3,.int .i64 3,.int .i64 0,.int .i64 0,.int .i64 0,.int .i64 0,.int .i64 0,.int .i64 0,.int .i64 0,.int .i64 0,.int .i64 2,.int .i64 2,.int .i64 2,.int .i64 2,.int .i64 2,.int .i64 3,.int .i64 4,.int .i64 4,.int .i64 0,.int .i64 3,.int .i64 0,.int .i64 0,.int .i64 0,.int .i64 4,.int .i64 0,.int .i64 0,.int .i64 3,.int .i64 3,.int .i64 0,.int .i64 0,.int .i64 0,.int .i64 4,.int .i64 0,.int .i64 0])).modify 1 (setCells #[.int .i64 3,aA.bQ [79,98,106,101,99,116]])).modify 2 (setCells #[.int .i64 6,aA.bQ []])).modify 3 (setCells #[.int .i64 5,aA.bQ []])).modify 4 (setCells #[.int .i64 1,aA.bQ []])).modify 5 (setCells #[.int .i64 2,aA.bQ []]) }
theorem agH(os:Os):laidMet Tryd.prog Rows.verifyLeastRow.laid ((Ks os).forCall (λ _ _=>0) ⟨#[],#[.slice none 0 0,.agg #[.int .i64 0,.string ⟨#[]⟩],.agg #[.int .i64 0,.string ⟨#[]⟩],.agg #[.int .i64 0,.string ⟨#[]⟩]],[]⟩).memory:=laidMet_of_run' 8 (by kernel_rfl) (by kernel_rfl)
theorem reads(os:Os){H:Type}(enc:TypeId×Value->H):∃places,DataW.whole enc Tryd.prog ((Ks os).forCall (λ _ _=>0) ⟨#[],#[.slice none 0 0,.agg #[.int .i64 0,.string ⟨#[]⟩],.agg #[.int .i64 0,.string ⟨#[]⟩],.agg #[.int .i64 0,.string ⟨#[]⟩]],[]⟩).memory Tryd.f4.params.toList Rows.verifyLeastSpec.vars false (#[.slice none 0 0,.agg #[.int .i64 0,.string ⟨#[]⟩],.agg #[.int .i64 0,.string ⟨#[]⟩],.agg #[.int .i64 0,.string ⟨#[]⟩]]:Array Value).toList 8=some ([.nil,.agg [.lit (.int .i64 0),.lit (.string [])],.agg [.lit (.int .i64 0),.lit (.string [])],.agg [.lit (.int .i64 0),.lit (.string [])]],[],places):=⟨[],by kernel_rfl⟩
set_option maxRecDepth 100000 in
theorem lifted(os:Os)(a:os.Started)(H:Type)(enc:TypeId×Value->H)(F:Stop.Interp) :
 ReturnsInHanded {} Tryd.checked os 4 .any ((OpenSpec.ofChange Rows.verifyLeastSpec).preRow enc Tryd.prog Tryd.f4 Rows.verifyLeastRow.domain false Rows.verifyLeastRow.laid) (((OpenSpec.ofChange Rows.verifyLeastSpec).at F).post enc Tryd.prog Tryd.f4 false true false false):=by
 obtain⟨places,e⟩:=reads os enc
 refine returnsInHanded_of_row (C:=Tryd.checked) (s:=OpenSpec.ofChange Rows.verifyLeastSpec) own a (by kernel_rfl) Tryd.func4
  (witness_row_at (enc:=enc) (C:=Tryd.checked) false (Ks os) #[.slice none 0 0,.agg #[.int .i64 0,.string ⟨#[]⟩],.agg #[.int .i64 0,.string ⟨#[]⟩],.agg #[.int .i64 0,.string ⟨#[]⟩]] rfl (by kernel_rfl) (by kernel_rfl) (by kernel_rfl)
   (OpenSpec.preRow_of_cond 8 e (by kernel_rfl) (λ k f=>by cases f) (by kernel_rfl) (agH os))) ?_
 intro W base args ds gs before g c _ h b i _ _
 exact Zu H enc W base args ds gs before g c (λ n j=>by obtain⟨_,_,_,l,_,_,_⟩:=c;obtain⟨rfl,_⟩:=trodVars_none l;have d:(DataW.weightsEach Tryd.prog (Tryd.f4.params.toList++[]) (ds++[])).all (·<=reachBytes)=true:=b;rw[iW,iW]at d;exact of_decide_eq_true (jK.1 d n j)) i
theorem said:Rows.VerifyLeastSaid:=
 OpenClaim.holds_of_cond 4 Tryd.f4 rfl rfl rfl rfl rfl rfl rfl ⟨rfl,rfl,rfl,rfl,rfl⟩ rfl rfl rfl rfl rfl (by kernel_rfl) Tryd.func4 (by kernel_rfl)
  (of_decide_eq_true (by kernel_rfl)) (by unfold Func.isWrapper;first |(rw[lX (by decide+kernel)];kernel_rfl)|(rw[lW (by decide+kernel)];exact⟨rfl,rfl⟩))
  (λ os a H enc _ F=>by rw[OpenClaim.pre_eq_preRow];exact lifted os a H enc F)
theorem plain(f:FuncId)(fn:Func)(b:Tryd.pinned.checked.prog.funcNamed "cinder/cinderlaw.VerifyLeast" =some f)(c:Tryd.pinned.checked.prog.funcs[f]? =some fn) :
 true=Tryd.pinned.checked.prog.looks []/\∀(j:Nat) t,fn.params[j]? =some t->Tryd.pinned.checked.prog.wantsStandIn t=false:=by
 obtain rfl:f=4:=eR ((show Tryd.prog.funcNamed "cinder/cinderlaw.VerifyLeast" =some 4 by kernel_rfl).symm.trans b) |>.symm
 obtain rfl:fn=Tryd.f4:=(eR (Tryd.func4.symm.trans c)).symm
 refine⟨by kernel_rfl,λ j t a=>?_⟩
 rw[Tryd.params4]at a
 have d:t∈([22,40,40,40]:List Nat):=by simpa using Array.mem_of_getElem? a
 have e:(([22,40,40,40]:List Nat).all λ t=>!Tryd.prog.wantsStandIn t)=true:=by kernel_rfl
 have J:=jK.1 e t d
 show Tryd.prog.wantsStandIn t=false
 simpa using J
theorem card:Rows.VerifyLeastCardSaid:=Claim7.holds_tied_plain_at .later [] _ _ _ _ said (λ _ h=>by cases h) (by kernel_rfl) (λ _ h=>by cases h) verifyLeast_row_tie rfl ⟨rfl,rfl⟩ (by kernel_rfl) rfl plain (by kernel_rfl)
end Go.Proofs.YtifhjkbiiekamaaDoor.verifyLeast
