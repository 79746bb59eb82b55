/- Part 2 of the proof that is ended in the last text: small logic, what the functions compute, walks, plain laws. -/
import Derived.Test.YteeliipnilghaaaGreatGs1
import Derived.Lib.AppendStr
import Derived.Lib.UnsafeStr
import Derived.Lib.Builder
import Derived.Laws.Externs
import Derived.LaidEql
import Derived.WalkSmall
import Derived.Laws.IdiomCopy
import Derived.Lib.SliceRun
open Array renaming getD_eq_getD_getElem?->eh,getElem?_eq_getElem->iU,getElem?_eq_none->hG,getElem?_eq_some_iff->fH,getElem?_modify->jr,getElem?_setIfInBounds->ff,getElem?_toList->ha
open Bool renaming and_eq_true->ca,eq_false_iff->fX,false_eq_true->gT,or_eq_false_iff->hY,or_eq_true->hA
open Int renaming eq_ofNat_of_zero_le->kl,le_refl->j6,toNat_natCast->bR
open List renaming all_eq_true->jM,append_assoc->eY,cons.injEq->hq,cons_append->hX,drop_zero->ei,eq_nil_of_length_eq_zero->gR,ext_getElem?->jZ,foldl_cons->hZ,getElem?_append->ll,getElem?_append_left->dS,getElem?_append_right->eA,getElem?_cons_zero->de,getElem?_drop->ia,getElem?_eq_getElem->aR,getElem?_eq_none->fk,getElem?_eq_some_iff->ba,getElem?_map->iY,getElem?_set_ne->iQ,getElem?_set_self->fE,getElem?_take->gK,length_append->dj,length_cons->cT,length_drop->jB,length_map->gJ,length_pos_iff->kA,length_replicate->js,length_set->gu,length_take->fe,map_append->ja,map_cons->ea,map_nil->hP,map_toArray->gN,mem_append->cg,mem_cons->cG,mem_cons_of_mem->eD,mem_flatMap->g_,mem_map->ho,mem_of_getElem?->b_,mem_singleton->dm,replicate->eF,set_getElem_self->kW,take_append->j4,take_append_drop->iJ,take_append_of_le_length->jt,take_length->iH,take_of_length_le->hp,take_succ_cons->jH
open Nat renaming add_assoc->jE,add_mul->jj,add_zero->jI,beq->cx,ble->iI,blt->eN,decEq->kr,eq_of_beq_eq_true->bF,eq_zero_or_pos->km,le_mul_of_pos_right->kL,le_of_ble_eq_true->cJ,le_refl->cP,le_trans->fR,lt_of_lt_of_le->ez,lt_or_ge->fO,lt_succ_self->ks,min_eq_left->kF,mul_le_mul_right->jG,mul_one->jl,sub_self->kG,zero_add->ji,zero_le->fY
open Option renaming bind_some->ae,getD_none->je,getD_some->ij,isSome_none->kH,map_eq_some_iff->cF,map_none->iE,map_some->fs,some.inj->ee,some.injEq->aM
open Prod renaming mk.injEq->cI
noncomputable section
namespace a7
open Go Go.RowKit aw I
inductive aL (El:Nat->Type):Type
 |p (v:Value)
 |b (i o:Nat)
 |x (t:Nat) (d:El t) (o:Nat)
 |s (t:Nat) (l:List (El t))
 |q (t:Nat) (l:List (El t))
 |r (i g:Nat)
 |v (i g:Nat) (lo hi:Int)
 |e (i g k t:Nat) (j:Int) (d:El t) (o:Nat)
 |w (i g o:Nat)
 |m (i:Nat)
 |n (kt vt:Nat) (d:List (El kt×El vt))
 |f (fn:Fn) (cs:List (aL El))
 |h (fn:Fn) (us:List (aL El))
 |a (l:List (aL El))
 |u (l:List (aL El))
 |i (t:Nat) (y:aL El)
 |pp (i g sz:Nat) (ed:List Int)
 |CI (i g sz:Nat) (q:Int)
inductive aG (El:Nat->Type):Type
 |c (ty:Nat) (cs:List (aL El))
 |r (t g k:Nat) (l:List (El t))
 |k (t sz g:Nat) (cs:List (aL El))
 |z (t g k:Nat) (l:List (El t))
 |m (kt vt:Nat) (d:List (El kt×El vt))
 |o (aac:Obj)
 |no (g:Nat)
structure jd (cU:Type) where
 dec:DecidableEq cU
 uw: @nQ cU dec
structure b3 (El:Nat->Type) (t:Nat) where
 ty:dt (El t)
 agg:Bool
 cs:El t->List (aL El)
 ix:List (aL El)->Option (El t)
 eq:Option (El t->El t->Bool)
 key:Option (jd (El t))
structure bQ where
 El:Nat->Type
 es:List (Σ t,b3 El t)
def aLD{α:Type}:dt α where
 size:=0
 rd _ _ _ _:=False
 len h:=h.elim
 one h:=h.elim
 law _ h:=h
def b3.no{El:Nat->Type}{t:Nat}:b3 El t:=⟨aLD,true,λ _=>[],λ _=>none,none,none⟩
def gf{El:Nat->Type}:List (Σ t,b3 El t)->(t:Nat)->b3 El t
 |[],_=>b3.no
 |e::r,t=>match kr e.1 t with
  |isTrue h=>h▸e.2
  |isFalse _=>gf r t
def bQ.e(T:bQ)(t:Nat):b3 T.El t:=gf T.es t
def bQ.ty(T:bQ)(t:Nat):dt (T.El t):=(T.e t).ty
def b1{El:Nat->Type}:Option (aG El)->Nat
 |some (.r _ g _ _)=>g
 |some (.k _ _ g _)=>g
 |some (.z _ g _ _)=>g
 |some (.no g)=>g
 |_=>0
def hU{El:Nat->Type}:Option (aG El)->Nat
 |some (.r _ _ k _)=>k
 |some (.z _ _ k _)=>k
 |_=>0
def ku{El:Nat->Type}:Option (aG El)->Option (Σ t,List (El t))
 |some (.r t _ _ l)=>some ⟨t,l⟩
 |some (.z t _ _ l)=>some ⟨t,l⟩
 |_=>none
def kv(T:bQ):Option (aG T.El)->Nat
 |some (.r t _ _ _)=>(T.ty t).size
 |some (.k _ sz _ _)=>sz
 |some (.z t _ _ _)=>(T.ty t).size
 |_=>0
def ms:Value->Prop
 | .slice _ _ _=>True
 |_=>False
def y0:Value->Prop
 | .pointer (some _)=>True
 |_=>False
def Cy(agg:Bool)(xs:List Value):Value:=match agg with
 |true=>.agg ⟨xs⟩
 |false=>xs.headD undef
section
variable(T:bQ)(F:Nat->Prop)(w:World)
def Ez(t:Nat)(d:T.El t)(v:Value):Prop:=∃xs,(T.ty t).rd F w xs d/\v=Cy (T.e t).agg xs
def kR{kt vt:Nat}(K:jd (T.El kt)):List MapEntry->List (T.El kt×T.El vt)->Prop
 |[],[]=>True
 |e::es,p::d=>e.key= @nQ.enc _ K.dec K.uw p.1/\Ez T F w vt p.2 e.val/\kR K es d
 |_,_=>False
def AC(kt vt r:Nat)(d:List (T.El kt×T.El vt)):Prop:=∃K,(T.e kt).key=some K/\∃es clock,w.heap[r]? =some (.map es clock)/\kR T F w K es.toList d/\(es.toList.map (·.born)).Pairwise (·< ·)/\∀e∈es.toList,e.born<clock
end
section
variable{T:bQ}{F F':Nat->Prop}{w w':World}
theorem kR.law(a:∀k,F k->F' k/\w'.heap[k]? =w.heap[k]?){kt vt:Nat}{K:jd (T.El kt)}:∀ {es:List MapEntry}{d:List (T.El kt×T.El vt)},kR T F w K es d->kR T F' w' K es d
 |[],[],_=>trivial
 |[],_::_,h=>h.elim
 |_::_,[],h=>h.elim
 |e::es,p::d,h=>by obtain⟨b,⟨xs,J,c⟩,f⟩:=h;exact⟨b,⟨xs,(T.ty vt).law a J,c⟩,kR.law a f⟩
theorem AC.law(a:∀k,F k->F' k/\w'.heap[k]? =w.heap[k]?){kt vt r:Nat}{d:List (T.El kt×T.El vt)}(aj:w'.heap[r]? =w.heap[r]?)(h:AC T F w kt vt r d):AC T F' w' kt vt r d:=by obtain⟨K,b,es,cl,J,c,e⟩:=h;exact⟨K,b,es,cl,aj.trans J,c.law a,e⟩
end
def xP{El:Nat->Type}(ρ:List Value)(bl:List (aG El))(i g sz:Nat)(q:Int)(v:Value):Prop:=y0 v/\∃h,ρ[i]? =some h/\g<=b1 bl[i]? /\(g=b1 bl[i]? ->∃A n c,h= .slice A n c/\0<=q/\q<n/\v= .pointer (some ⟨dD A,q.toNat*sz,none⟩))
def vE{El:Nat->Type}(ρ:List Value)(bl:List (aG El))(i g sz:Nat):List Int->List Value->Prop
 |[],vs=>vs=[]
 |q::r,vs=>∃u us,vs=u::us/\xP ρ bl i g sz q u/\vE ρ bl i g sz r us
section
variable(T:bQ)(F:Nat->Prop)(w:World)(ρ:List Value)(bl:List (aG T.El))
mutual
def av:aL T.El->Value->Prop
 | .p u,v=>v=u
 | .b i o,v=>∃g,ρ[i]? =some (.pointer (some ⟨g,0,none⟩))/\v= .pointer (some ⟨g,o,none⟩)
 | .x t d o,v=>∃a q cs,v= .pointer (some ⟨a,q+o,none⟩)/\F a/\(T.ty t).rd F w cs d/\fF w ⟨a,q,none⟩ cs
 | .s t l,v=>(b2 (T.ty t)).rd F w [v] l
 | .q t l,v=>(b2 (T.ty t)).rd F w [v] l/\∃A,v= .slice A l.length l.length
 | .r i g,v=>ms v/\∃h,ρ[i]? =some h/\g<=b1 bl[i]? /\(g=b1 bl[i]? ->v=h)
 | .v i g lo hi,v=>ms v/\∃h,ρ[i]? =some h/\g<=b1 bl[i]? /\(g=b1 bl[i]? ->∃A n c B,h= .slice A n c/\0<=lo/\lo<=hi/\hi<=n/\v= .slice B (hi.toNat-lo.toNat) (c-lo.toNat)/\(lo=0 ->B=A)/\(lo<hi->B=A.map (·.add (lo.toNat*kv T bl[i]?))))
 | .e i g k t j d o,v=>y0 v/\∃h,ρ[i]? =some h/\g<=b1 bl[i]? /\(g=b1 bl[i]? ->(∃A n c,h= .slice A n c/\0<=j/\j<n/\v= .pointer (some ⟨dD A,j.toNat*kv T bl[i]? +o,none⟩))/\k<=hU bl[i]? /\(k=hU bl[i]? ->∃l,ku bl[i]? =some ⟨t,l⟩/\idx l j=some d))
 | .w i g o,v=>y0 v/\∃h,ρ[i]? =some h/\g<=b1 bl[i]? /\(g=b1 bl[i]? ->∃A n c,h= .slice A n c/\0<n/\v= .pointer (some ⟨dD A,o,none⟩))
 | .m i,v=>∃r,ρ[i]? =some (.map (some r))/\v= .map (some r)
 | .n kt vt d,v=>∃r,v= .map (some r)/\F r/\AC T F w kt vt r d
 | .f fn cs,v=>∃vs,v= .func fn #[] ⟨vs⟩/\aZ cs vs
 | .h fn us,v=>∃vs,v= .func fn ⟨vs⟩ #[]/\aZ us vs
 | .a l,v=>∃vs,v= .agg ⟨vs⟩/\aZ l vs
 | .u l,v=>∃vs,v= .tuple ⟨vs⟩/\aZ l vs
 | .i t y,v=>∃u,v= .iface t u/\av y u
 | .pp i g sz ed,v=>∃A c,v= .slice A ed.length c/\ed.length<=c/\(A=none->c=0)/\(ed≠[]->A=some ⟨dD A,gB A,none⟩/\F (dD A)/\∃xs,vE ρ bl i g sz ed xs/\fF w ⟨dD A,gB A,none⟩ xs)
 | .CI i g sz q,v=>∃a o u,v= .pointer (some ⟨a,o,none⟩)/\F a/\xP ρ bl i g sz q u/\fF w ⟨a,o,none⟩ [u]
def aZ:List (aL T.El)->List Value->Prop
 |[],vs=>vs=[]
 |y::r,vs=>∃u us,vs=u::us/\av y u/\aZ r us
end
end
structure oK (T:bQ) (ρ ρ':List Value) (bl bl':List (aG T.El)):Prop where
 at_:∀(i:Nat)(h:Value),ρ[i]? =some h->∃h',ρ'[i]? =some h'/\(¬ms h->h'=h)/\b1 bl[i]? <=b1 bl'[i]? /\(b1 bl'[i]? =b1 bl[i]? ->h'=h/\kv T bl'[i]? =kv T bl[i]? /\hU bl[i]? <=hU bl'[i]? /\(hU bl'[i]? =hU bl[i]? ->ku bl'[i]? =ku bl[i]?))
theorem oK.refl{T:bQ}{ρ:List Value}{bl:List (aG T.El)}:oK T ρ ρ bl bl:=⟨λ i h hi=>⟨h,hi,λ _=>rfl,cP _,λ _=>⟨rfl,rfl,cP _,λ _=>rfl⟩⟩⟩
theorem oK.trans{T:bQ}{ρ ρ' f:List Value}{bl bl' c:List (aG T.El)}(h:oK T ρ ρ' bl bl')(k:oK T ρ' f bl' c):oK T ρ f bl c:=⟨λ i v hi=>by
 obtain⟨g,j,J,l,a⟩:=h.at_ i v hi;obtain⟨d,m,n,o,b⟩:=k.at_ i g j;refine⟨d,m,λ aj=>?_,fR l o,λ e=>?_⟩;have e1:=J aj;rw[n (by rw[e1];exact aj),e1]
 ·have e1:b1 bl'[i]? =b1 bl[i]? :=by omega
  have e2:b1 c[i]? =b1 bl'[i]? :=by omega
  refine⟨(b e2).1.trans (a e1).1,(b e2).2.1.trans (a e1).2.1,fR (a e1).2.2.1 (b e2).2.2.1,λ e3=>?_⟩;have p:=(a e1).2.2.1;have q:=(b e2).2.2.1;exact((b e2).2.2.2 (by omega)).trans ((a e1).2.2.2 (by omega))⟩
section
variable{T:bQ}{F F':Nat->Prop}{w w':World}{ρ ρ':List Value}{bl bl':List (aG T.El)}
theorem xP.later{i g sz:Nat}{q:Int}{v:Value}(a:oK T ρ ρ' bl bl')(h:xP ρ bl i g sz q v):xP ρ' bl' i g sz q v:=by
 obtain⟨b,u,c,J,d⟩:=h;obtain⟨f,j,_,k,l⟩:=a.at_ i _ c;refine⟨b,f,j,fR J k,λ e=>?_⟩;have e1:b1 bl'[i]? =b1 bl[i]? :=by omega
 rw[(l e1).1];exact d (by omega)
theorem vE.imp{El a:Nat->Type}{bl:List (aG El)}{bl':List (aG a)}{i g i' g' sz:Nat}(hi:∀q v,xP ρ bl i g sz q v->xP ρ' bl' i' g' sz q v):∀ {ed:List Int}{xs:List Value},vE ρ bl i g sz ed xs->vE ρ' bl' i' g' sz ed xs
 |[],_,h=>h
 |q::r,xs,h=>by obtain⟨u,us,rfl,b,J⟩:=h;exact⟨u,us,rfl,hi _ _ b,vE.imp hi J⟩
theorem vE.at_{i g sz:Nat}:∀ {ed:List Int}{xs:List Value}{m:Nat}{q:Int},vE ρ bl i g sz ed xs->ed[m]? =some q->∃u,xs[m]? =some u/\xP ρ bl i g sz q u
 |[],_,m,q,_,a=>by simp at a
 |p::r,xs,0,q,h,a=>by obtain⟨u,us,rfl,b,J⟩:=h;simp only[de,aM]at a;subst a;exact⟨u,rfl,b⟩
 |p::r,xs,m+1,q,h,a=>by obtain⟨u,us,rfl,b,J⟩:=h;simpa using vE.at_ J (by simpa using a)
mutual
theorem av.later(f:∀k,F k->F' k/\w'.heap[k]? =w.heap[k]?)(m:oK T ρ ρ' bl bl'):∀(y:aL T.El){v:Value},av T F w ρ bl y v->av T F' w' ρ' bl' y v
 | .p _,_,h=>by simpa only[av]using h
 | .b i o,v,h=>by simp only[av]at h⊢;obtain⟨g,b,J⟩:=h;obtain⟨h',n,C,_⟩:=m.at_ i _ b;exact⟨g,by rw[n,C (by simp[ms])],J⟩
 | .x t d o,v,h=>by simp only[av]at h⊢;obtain⟨a,q,cs,b,J,p,D⟩:=h;exact⟨a,q,cs,b,(f a J).1,(T.ty t).law f p,D.law (f a J).2⟩
 | .s t l,v,h=>by simp only[av]at h⊢;exact(b2 (T.ty t)).law f h
 | .q t l,v,h=>by simp only[av]at h⊢;exact⟨(b2 (T.ty t)).law f h.1,h.2⟩
 | .r i g,v,h=>by
   simp only[av]at h⊢;obtain⟨z,u,b,J,p⟩:=h;obtain⟨B,n,_,x,s⟩:=m.at_ i _ b;refine⟨z,B,n,fR J x,λ e=>?_⟩;have e1:b1 bl'[i]? =b1 bl[i]? :=by omega
   rw[(s e1).1];exact p (by omega)
 | .v i g lo hi,v,h=>by
   simp only[av]at h⊢;obtain⟨z,u,b,J,p⟩:=h;obtain⟨B,n,_,x,s⟩:=m.at_ i _ b;refine⟨z,B,n,fR J x,λ e=>?_⟩;have e1:b1 bl'[i]? =b1 bl[i]? :=by omega
   rw[(s e1).1,(s e1).2.1];exact p (by omega)
 | .e i g k t j d o,v,h=>by
   simp only[av]at h⊢;obtain⟨z,u,b,J,p⟩:=h;obtain⟨B,n,_,x,s⟩:=m.at_ i _ b;refine⟨z,B,n,fR J x,λ e=>?_⟩;have e1:b1 bl'[i]? =b1 bl[i]? :=by omega
   obtain⟨E,G,H,I⟩:=s e1;obtain⟨K,L,gD⟩:=p (by omega);rw[E,G];refine⟨K,fR L H,λ e=>?_⟩;rw[I (by omega)];exact gD (by omega)
 | .w i g o,v,h=>by
   simp only[av]at h⊢;obtain⟨z,u,b,J,p⟩:=h;obtain⟨B,n,_,x,s⟩:=m.at_ i _ b;refine⟨z,B,n,fR J x,λ e=>?_⟩;have e1:b1 bl'[i]? =b1 bl[i]? :=by omega
   rw[(s e1).1];exact p (by omega)
 | .m i,v,h=>by simp only[av]at h⊢;obtain⟨g,b,J⟩:=h;obtain⟨h',n,C,_⟩:=m.at_ i _ b;exact⟨g,by rw[n,C (by simp[ms])],J⟩
 | .n kt vt d,v,h=>by simp only[av]at h⊢;obtain⟨r,b,J,p⟩:=h;exact⟨r,b,(f r J).1,p.law f (f r J).2⟩
 | .f fn cs,v,h=>by simp only[av]at h⊢;obtain⟨vs,b,J⟩:=h;exact⟨vs,b,aZ.later f m cs J⟩
 | .h fn us,v,h=>by simp only[av]at h⊢;obtain⟨vs,b,J⟩:=h;exact⟨vs,b,aZ.later f m us J⟩
 | .a l,v,h=>by simp only[av]at h⊢;obtain⟨vs,b,J⟩:=h;exact⟨vs,b,aZ.later f m l J⟩
 | .u l,v,h=>by simp only[av]at h⊢;obtain⟨vs,b,J⟩:=h;exact⟨vs,b,aZ.later f m l J⟩
 | .i t y,v,h=>by simp only[av]at h⊢;obtain⟨u,b,J⟩:=h;exact⟨u,b,av.later f m y J⟩
 | .pp i g sz ed,v,h=>by simp only[av]at h⊢;obtain⟨A,c,e1,e2,e3,e4⟩:=h;refine⟨A,c,e1,e2,e3,λ M=>?_⟩;obtain⟨n,C,xs,x,s⟩:=e4 M;exact⟨n,(f _ C).1,xs,x.imp λ q v=>xP.later m,s.law (f _ C).2⟩
 | .CI i g sz q,v,h=>by simp only[av]at h⊢;obtain⟨a,o,u,e1,e2,e3,e4⟩:=h;exact⟨a,o,u,e1,(f _ e2).1,e3.later m,e4.law (f _ e2).2⟩
theorem aZ.later(a:∀k,F k->F' k/\w'.heap[k]? =w.heap[k]?)(b:oK T ρ ρ' bl bl'):∀(l:List (aL T.El)){vs:List Value},aZ T F w ρ bl l vs->aZ T F' w' ρ' bl' l vs
 |[],_,h=>by simpa only[aZ]using h
 |y::r,vs,h=>by simp only[aZ]at h⊢;obtain⟨u,us,c,J,d⟩:=h;exact⟨u,us,c,av.later a b y J,aZ.later a b r d⟩
end
theorem aZ.len:∀ {l:List (aL T.El)}{vs:List Value},aZ T F w ρ bl l vs->vs.length=l.length
 |[],_,h=>by simp only[aZ]at h;subst h;rfl
 |y::r,vs,h=>by simp only[aZ]at h;obtain⟨u,us,rfl,_,a⟩:=h;simp[aZ.len a]
theorem aZ.at_:∀ {l:List (aL T.El)}{vs:List Value}{i:Nat}{y:aL T.El},aZ T F w ρ bl l vs->l[i]? =some y->∃v,vs[i]? =some v/\av T F w ρ bl y v
 |[],_,i,y,_,hi=>by simp at hi
 |z::r,vs,0,y,h,hi=>by simp only[aZ]at h;obtain⟨u,us,rfl,J,_⟩:=h;simp only[de,aM]at hi;subst hi;exact⟨u,rfl,J⟩
 |z::r,vs,i+1,y,h,hi=>by simp only[aZ]at h;obtain⟨u,us,rfl,_,a⟩:=h;simpa using aZ.at_ a (by simpa using hi)
theorem aZ.bE:∀ {l l':List (aL T.El)}{vs a:List Value},aZ T F w ρ bl l vs->aZ T F w ρ bl l' a->aZ T F w ρ bl (l++l') (vs++a)
 |[],_,_,_,h,h'=>by simp only[aZ]at h;subst h;exact h'
 |y::r,l',vs,a,h,h'=>by simp only[aZ]at h;obtain⟨u,us,rfl,J,b⟩:=h;simp only[hX,aZ];exact⟨u,us++a,rfl,J,aZ.bE b h'⟩
theorem aZ.drop:∀ {l:List (aL T.El)}{vs:List Value}(n:Nat),aZ T F w ρ bl l vs->aZ T F w ρ bl (l.drop n) (vs.drop n)
 |l,vs,0,h=>by simpa using h
 |[],vs,n+1,h=>by simp only[aZ]at h;subst h;simp[aZ]
 |y::r,vs,n+1,h=>by simp only[aZ]at h;obtain⟨u,us,rfl,J,a⟩:=h;simpa using aZ.drop n a
theorem aZ.take:∀ {l:List (aL T.El)}{vs:List Value}(n:Nat),aZ T F w ρ bl l vs->aZ T F w ρ bl (l.take n) (vs.take n)
 |l,vs,0,h=>by simp[aZ]
 |[],vs,n+1,h=>by simp only[aZ]at h;subst h;simp[aZ]
 |y::r,vs,n+1,h=>by simp only[aZ]at h;obtain⟨u,us,rfl,J,a⟩:=h;simp only[jH,aZ];exact⟨u,us.take n,rfl,J,aZ.take n a⟩
end
end a7
namespace a7
open Go Go.RowKit aw I
def ag:Value->List Nat
 | .pointer (some a)=>[a.block]
 | .map (some r)=>[r]
 | .slice (some a) _ (_+1)=>[a.block]
 |_=>[]
def bD{El:Nat->Type}:aG El->Value->List Nat
 | .z _ _ _ _,_=>[]
 | .no _,_=>[]
 |_,h=>ag h
def r0{El:Nat->Type}(bl:List (aG El))(ρ:List Value)(k:Nat):Prop:=∃(i:Nat)(B:aG El)(h:Value),bl[i]? =some B/\ρ[i]? =some h/\k∈bD B h
def bi{El:Nat->Type}(X:Nat->Prop)(bl:List (aG El))(ρ:List Value)(w:World):Nat->Prop:=λ k=>¬X k/\¬r0 bl ρ k/\k<w.heap.size
def rowIs(w:World)(t sz:Nat)(h:Value)(n:Nat)(xs:List Value):Prop:=w.ownsRow 0 t sz h n xs\/(n=0/\xs=[]/\∃A,h= .slice A 0 0)
section
variable(T:bQ)(F:Nat->Prop)(w:World)
variable(ρ:List Value)(bl:List (aG T.El))
def kb:aG T.El->Value->Prop
 | .c ty cs,h=>∃g vs,h= .pointer (some ⟨g,0,none⟩)/\w.heap[g]? =some (.cells ⟨vs⟩ ty (0,0))/\aZ T F w ρ bl cs vs
 | .r t _ _ l,h=>∃A c xs,h= .slice A l.length c/\rowIs w t (T.ty t).size h l.length xs/\dN (T.ty t) F w xs l
 | .k t sz _ cs,h=>∃A n c xs,h= .slice A n c/\rowIs w t sz h n xs/\aZ T F w ρ bl cs xs
 | .z t _ _ l,h=>(b2 (T.ty t)).rd F w [h] l
 | .m kt vt d,h=>∃r,h= .map (some r)/\AC T F w kt vt r d
 | .o aac,h=>∃g,h= .pointer (some ⟨g,0,none⟩)/\w.heap[g]? =some aac
 | .no _,_=>True
end
section
variable{T:bQ}{F F':Nat->Prop}{w w':World}{ρ ρ':List Value}{bl bl':List (aG T.El)}
theorem rowIs.len{t sz n:Nat}{h:Value}{xs:List Value}(e:rowIs w t sz h n xs):xs.length=n*sz:=by rcases e with e |⟨rfl,rfl,_⟩;exact e.1;simp
theorem rowIs.own{t sz n:Nat}{h:Value}{xs:List Value}(e:rowIs w t sz h n xs)(a:0<n):w.ownsRow 0 t sz h n xs:=by rcases e with e |⟨rfl,_⟩;exact e;omega
theorem rowIs.cap{t sz n c:Nat}{A:Option Addr}{xs:List Value}(e:rowIs w t sz (.slice A n c) n xs):n<=c/\c<=maxLen/\(A=none->c=0)/\(0<c->∃g,A=some ⟨g,0,none⟩):=by rcases e with e |⟨rfl,_,ck,e⟩;rcases e.2 with⟨a,d⟩|⟨g,cap,cur,a,_,_,J,b,_⟩;simp only[Value.slice.injEq]at a;obtain⟨rfl,rfl,rfl⟩:=a;exact⟨cP _,fY _,λ _=>rfl,λ h=>by omega⟩;simp only[Value.slice.injEq]at a;obtain⟨rfl,_,rfl⟩:=a;exact⟨J,b,(λ h=>by cases h),λ _=>⟨g,rfl⟩⟩;simp only[Value.slice.injEq]at e;obtain⟨rfl,_,rfl⟩:=e;exact⟨cP _,fY _,λ _=>rfl,λ h=>by omega⟩
theorem rowIs.later{t sz n c:Nat}{A:Option Addr}{xs:List Value}(e:rowIs w t sz (.slice A n c) n xs)(aj:∀k∈ag (.slice A n c),w'.heap[k]? =w.heap[k]?):rowIs w' t sz (.slice A n c) n xs:=by
 cases c with
 |zero=>
  have f:=e.cap.1;have J:=e.len;have d:n=0:=by omega
  subst d;exact .inr ⟨rfl,gR (by rw[J];simp),A,rfl⟩
 |succ c=>rcases e with e |⟨rfl,_,ck,e⟩;left;have:=(a8.row t sz (.slice A n (c+1)) (eF n ()) xs).law w w' (λ k b=>aj k (by cases A with|none=>simp[a8.row,Value.ownBlock]at b |some a=>simpa[ag,a8.row,Value.ownBlock]using b));simpa[a8.row]using this (by simpa[a8.row]using e);simp at e
theorem kb.later(a:∀k,F k->F' k/\w'.heap[k]? =w.heap[k]?)(e:oK T ρ ρ' bl bl'){B:aG T.El}{h:Value}(aj:∀k∈bD B h,w'.heap[k]? =w.heap[k]?)(bO:kb T F w ρ bl B h):kb T F' w' ρ' bl' B h:=by
 cases B with
 |c ty cs=>obtain⟨g,vs,rfl,J,b⟩:=bO;exact⟨g,vs,rfl,(aj g (by simp[bD,ag])).trans J,aZ.later a e cs b⟩
 |r t g k l=>obtain⟨A,c,xs,rfl,J,b⟩:=bO;exact⟨A,c,xs,rfl,J.later aj,qk _ a b⟩
 |k t sz g cs=>obtain⟨A,n,c,xs,rfl,J,b⟩:=bO;exact⟨A,n,c,xs,rfl,J.later aj,aZ.later a e cs b⟩
 |z t g k l=>exact(b2 (T.ty t)).law a bO
 |m kt vt d=>obtain⟨r,rfl,J⟩:=bO;exact⟨r,rfl,J.law a (aj r (by simp[bD,ag]))⟩
 |o aac=>obtain⟨g,rfl,J⟩:=bO;exact⟨g,rfl,(aj g (by simp[bD,ag])).trans J⟩
 |no g=>trivial
end
structure Mem (T:bQ) (W:World) (M0:List Nat) (X:Nat->Prop) (bl:List (aG T.El)) (ρ:List Value) (w:World):Prop where
 bU:a_ M0 W w
 len:ρ.length=bl.length
 iT:∀k,X k->k<W.heap.size/\k∉M0
 lt:∀k,r0 bl ρ k->k<w.heap.size/\(k∈M0\/W.heap.size<=k)
 bC:∀(i j:Nat)(B C:aG T.El)(h g:Value),bl[i]? =some B->ρ[i]? =some h->bl[j]? =some C->ρ[j]? =some g->i≠j->∀k∈bD B h,k∉bD C g
 ok:∀(i:Nat)(B:aG T.El)(h:Value),bl[i]? =some B->ρ[i]? =some h->kb T (bi X bl ρ w) w ρ bl B h
section
variable{T:bQ}{W w w':World}{M0:List Nat}{X:Nat->Prop}{bl bl':List (aG T.El)}{ρ ρ':List Value}
abbrev Mem.F(_:Mem T W M0 X bl ρ w):Nat->Prop:=bi X bl ρ w
structure To (X:Nat->Prop) (bl bl':List (aG T.El)) (ρ ρ':List Value) (w w':World):Prop where
 F:∀k,bi X bl ρ w k->bi X bl' ρ' w' k/\w'.heap[k]? =w.heap[k]?
 L:oK T ρ ρ' bl bl'
 sz:w.heap.size<=w'.heap.size
 pY:∀(i:Nat)(B':aG T.El)(h':Value),bl'[i]? =some B'->ρ'[i]? =some h'->∀k∈bD B' h',k<w.heap.size->∃B h,bl[i]? =some B/\ρ[i]? =some h/\k∈bD B h
theorem To.v(h:To X bl bl' ρ ρ' w w'){y:aL T.El}{v:Value}(a:av T (bi X bl ρ w) w ρ bl y v):av T (bi X bl' ρ' w') w' ρ' bl' y v:=a.later h.F h.L
theorem To.vs(h:To X bl bl' ρ ρ' w w'){y:List (aL T.El)}{v:List Value}(a:aZ T (bi X bl ρ w) w ρ bl y v):aZ T (bi X bl' ρ' w') w' ρ' bl' y v:=aZ.later h.F h.L y a
theorem To.trans{b:List (aG T.El)}{c:List Value}{w'':World}(h:To X bl bl' ρ ρ' w w')(k:To X bl' b ρ' c w' w''):To X bl b ρ c w w'':=⟨λ q a=>⟨(k.F q (h.F q a).1).1,((k.F q (h.F q a).1).2).trans (h.F q a).2⟩,h.L.trans k.L,fR h.sz k.sz,λ i B' h' hi e q a d=>by obtain⟨DC,f,e1,e2,e3⟩:=k.pY i B' h' hi e q a (ez d h.sz);exact h.pY i DC f e1 e2 q e3 d⟩
theorem To.refl:To X bl bl ρ ρ w w:=⟨λ _ h=>⟨h,rfl⟩,.refl,cP _,λ _ B h hi a _ b _=>⟨B,h,hi,a,b⟩⟩
theorem Mem.ux(a:Mem T W M0 X bl ρ w){i:Nat}{B:aG T.El}(hi:bl[i]? =some B):∃h,ρ[i]? =some h:=by have:=(ba.1 hi).1;exact⟨ρ[i]'(by rw[a.len];exact this),aR _⟩
theorem Mem.u'(b:a_ [] w w'):To X bl bl ρ ρ w w':=⟨λ k a=>⟨⟨a.1,a.2.1,ez a.2.2 b.size⟩,b.block k a.2.2 (by simp)⟩,.refl,b.size,λ _ B h hi c _ a _=>⟨B,h,hi,c,a⟩⟩
theorem Mem.fo(a:Mem T W M0 X bl ρ w)(b:a_ [] w w'):Mem T W M0 X bl ρ w':=⟨a.bU.trans b (by simp),a.len,a.iT,λ k c=>⟨ez (a.lt k c).1 b.size,(a.lt k c).2⟩,a.bC,λ i B h hi d=>(a.ok i B h hi d).later (Mem.u' b).F .refl λ k c=>b.block k (a.lt k ⟨i,B,h,hi,d,c⟩).1 (by simp)⟩
theorem Mem.Gw(o:Mem T W M0 X bl ρ w){i:Nat}{B B':aG T.El}{h h':Value}(hi:bl[i]? =some B)(c:ρ[i]? =some h)(d:a_ (bD B h) w w')
 (l:∀k∈bD B' h',k∈bD B h\/(w.heap.size<=k/\k<w'.heap.size))
 (n:(¬ms h->h'=h)/\b1 (some B)<=b1 (some B')/\(b1 (some B')=b1 (some B)->h'=h/\kv T (some B')=kv T (some B)/\hU (some B)<=hU (some B')/\(hU (some B')=hU (some B)->ku (some B')=ku (some B)))) :
 To X bl (bl.set i B') ρ (ρ.set i h') w w':=by
 have l1:=(ba.1 hi).1
 have f:=(ba.1 c).1
 refine⟨λ k a=>⟨⟨a.1,?_,ez a.2.2 d.size⟩,d.block k a.2.2 λ ad=>a.2.1 ⟨i,B,h,hi,c,ad⟩⟩,⟨λ j u ax=>?_⟩,d.size,λ j C g ax b k a p=>?_⟩
 ·rintro⟨j,C,g,ax,b,m⟩;by_cases e:j=i;subst e;rw[fE l1]at ax;rw[fE f]at b;cases ax;cases b;rcases l k m with e |e;exact a.2.1 ⟨j,B,h,hi,c,e⟩;have:=a.2.2;omega;rw[iQ (Ne.symm e)]at ax b;exact a.2.1 ⟨j,C,g,ax,b,m⟩
 ·by_cases e:j=i;subst e;rw[c]at ax;cases ax;refine⟨h',fE f,?_⟩;rw[fE l1,hi];exact n;refine⟨u,by rw[iQ (Ne.symm e)];exact ax,λ _=>rfl,?_⟩;rw[iQ (Ne.symm e)];exact⟨cP _,λ _=>⟨rfl,rfl,cP _,λ _=>rfl⟩⟩
 ·by_cases e:j=i;subst e;rw[fE l1]at ax;rw[fE f]at b;cases ax;cases b;rcases l k a with e |e;exact⟨B,h,hi,c,e⟩;omega;rw[iQ (Ne.symm e)]at ax b;exact⟨C,g,ax,b,a⟩
theorem Mem.df(c:Mem T W M0 X bl ρ w){i:Nat}{B B':aG T.El}{h h':Value}(hi:bl[i]? =some B)(m:ρ[i]? =some h)(n:a_ (bD B h) w w')
 (s:∀k∈bD B' h',k∈bD B h\/(w.heap.size<=k/\k<w'.heap.size))(t:To X bl (bl.set i B') ρ (ρ.set i h') w w')
 (bO:kb T (bi X (bl.set i B') (ρ.set i h') w') w' (ρ.set i h') (bl.set i B') B' h'):Mem T W M0 X (bl.set i B') (ρ.set i h') w':=by
 have l1:=(ba.1 hi).1
 have y:=(ba.1 m).1
 have key:∀ {j:Nat}{C:aG T.El}{g:Value},(bl.set i B')[j]? =some C->(ρ.set i h')[j]? =some g->(j=i/\C=B'/\g=h')\/(j≠i/\bl[j]? =some C/\ρ[j]? =some g):=λ{j C g} ax f=>by by_cases e:j=i;subst e;rw[fE l1]at ax;rw[fE y]at f;cases ax;cases f;exact .inl ⟨rfl,rfl,rfl⟩;rw[iQ (Ne.symm e)]at ax f;exact .inr ⟨e,ax,f⟩
 refine⟨c.bU.trans n λ k d=>(c.lt k ⟨i,B,h,hi,m,d⟩).2,by simp[c.len],c.iT,?_,?_,?_⟩
 ·rintro k ⟨j,C,g,ax,f,d⟩;rcases key ax f with⟨rfl,rfl,rfl⟩|⟨_,l,J⟩;rcases s k d with e |e;have:=c.lt k ⟨j,B,h,hi,m,e⟩;exact⟨ez this.1 n.size,this.2⟩;exact⟨e.2,.inr (fR c.bU.size e.1)⟩;have:=c.lt k ⟨j,C,g,l,J,d⟩;exact⟨ez this.1 n.size,this.2⟩
 ·intro a b C D g u z f v x o k d p;rcases key z f with⟨rfl,rfl,rfl⟩|⟨e1,l,J⟩;rcases key v x with⟨rfl,_⟩|⟨e2,q,r⟩;exact o rfl;rcases s k d with e |e;exact c.bC _ _ _ _ _ _ hi m q r o k e p;have:=(c.lt k ⟨b,D,u,q,r,p⟩).1;omega;rcases key v x with⟨rfl,rfl,rfl⟩|⟨e2,q,r⟩;rcases s k p with e |e;exact c.bC _ _ _ _ _ _ l J hi m o k d e;have:=(c.lt k ⟨a,C,g,l,J,d⟩).1;omega;exact c.bC _ _ _ _ _ _ l J q r o k d p
 ·intro j C g ax f;rcases key ax f with⟨rfl,rfl,rfl⟩|⟨e1,l,J⟩;exact bO;exact(c.ok j C g l J).later t.F t.L λ k d=>n.block k (c.lt k ⟨j,C,g,l,J,d⟩).1 λ ad=>c.bC _ _ _ _ _ _ l J hi m e1 k d ad
theorem Mem.C0(c:Mem T W M0 X bl ρ w){B:aG T.El}{h:Value}(d:a_ [] w w')(f:∀k∈bD B h,w.heap.size<=k/\k<w'.heap.size):To X bl (bl++[B]) ρ (ρ++[h]) w w':=by
 refine⟨λ k b=>⟨⟨b.1,?_,ez b.2.2 d.size⟩,d.block k b.2.2 (by simp)⟩,⟨λ j u ax=>?_⟩,d.size,λ j C g ax a k b l=>?_⟩
 ·rintro⟨j,C,g,ax,a,i⟩;rcases fO j bl.length with e |e;rw[dS e]at ax;rw[dS (by rw[c.len];exact e)]at a;exact b.2.1 ⟨j,C,g,ax,a,i⟩
  ·rw[eA e]at ax;rw[eA (by rw[c.len];exact e),c.len]at a;cases aK:j-bl.length with
   |zero=>rw[aK]at ax a;simp only[de,aM]at ax a;subst ax;subst a;have:=(f k i).1;have:=b.2.2;omega
   |succ q=>rw[aK]at ax;simp at ax
 ·have e:=(ba.1 ax).1;have e':j<bl.length:=by rw[<-c.len];exact e
  refine⟨u,by rw[dS e];exact ax,λ _=>rfl,?_⟩;rw[dS e'];exact⟨cP _,λ _=>⟨rfl,rfl,cP _,λ _=>rfl⟩⟩
 ·rcases fO j bl.length with e |e;rw[dS e]at ax;rw[dS (by rw[c.len];exact e)]at a;exact⟨C,g,ax,a,b⟩
  ·rw[eA e]at ax;rw[eA (by rw[c.len];exact e),c.len]at a;cases aK:j-bl.length with
   |zero=>rw[aK]at ax a;simp only[de,aM]at ax a;subst ax;subst a;have:=(f k b).1;omega
   |succ q=>rw[aK]at ax;simp at ax
theorem Mem.push(c:Mem T W M0 X bl ρ w){B:aG T.El}{h:Value}(m:a_ [] w w')(l:∀k∈bD B h,w.heap.size<=k/\k<w'.heap.size)
 (bO:kb T (bi X (bl++[B]) (ρ++[h]) w') w' (ρ++[h]) (bl++[B]) B h):Mem T W M0 X (bl++[B]) (ρ++[h]) w':=by
 have r:=c.C0 m l (B:=B) (h:=h)
 have key:∀ {j:Nat}{C:aG T.El}{g:Value},(bl++[B])[j]? =some C->(ρ++[h])[j]? =some g->(j=bl.length/\C=B/\g=h)\/(j<bl.length/\bl[j]? =some C/\ρ[j]? =some g):=λ{j C g} ax d=>by
  rcases fO j bl.length with e |e;rw[dS e]at ax;rw[dS (by rw[c.len];exact e)]at d;exact .inr ⟨e,ax,d⟩
  ·rw[eA e]at ax;rw[eA (by rw[c.len];exact e),c.len]at d;cases aK:j-bl.length with
   |zero=>rw[aK]at ax d;simp only[de,aM]at ax d;exact .inl ⟨by omega,ax.symm,d.symm⟩
   |succ q=>rw[aK]at ax;simp at ax
 refine⟨c.bU.trans m (by simp),by simp[c.len],c.iT,?_,?_,?_⟩
 ·rintro k ⟨j,C,g,ax,d,f⟩;rcases key ax d with⟨rfl,rfl,rfl⟩|⟨_,i,J⟩;exact⟨(l k f).2,.inr (fR c.bU.size (l k f).1)⟩;have:=c.lt k ⟨j,C,g,i,J,f⟩;exact⟨ez this.1 m.size,this.2⟩
 ·intro a b C D g u x d s t v k f n;rcases key x d with⟨rfl,rfl,rfl⟩|⟨e1,i,J⟩;rcases key s t with⟨rfl,_⟩|⟨e2,o,p⟩;exact v rfl;have:=(c.lt k ⟨b,D,u,o,p,n⟩).1;have:=(l k f).1;omega;rcases key s t with⟨rfl,rfl,rfl⟩|⟨e2,o,p⟩;have:=(c.lt k ⟨a,C,g,i,J,f⟩).1;have:=(l k n).1;omega;exact c.bC _ _ _ _ _ _ i J o p v k f n
 ·intro j C g ax d;rcases key ax d with⟨rfl,rfl,rfl⟩|⟨e1,i,J⟩;exact bO;exact(c.ok j C g i J).later r.F r.L λ k f=>m.block k (c.lt k ⟨j,C,g,i,J,f⟩).1 (by simp)
end
def cH{α:Type}:List (Nat×α)->Nat->Option α
 |[],_=>none
 |p::r,t=>match cx p.1 t with
  |true=>some p.2
  |false=>cH r t
structure tw (T:bQ) (F:Nat->Prop) (w:World) (ρ:List Value) (bl:List (aG T.El)) (n:cE) (fr:List (Nat×aL T.El)) (a:Act):Prop where
 size:a.tmps.size=n.n
 defers:a.defers=n.ds
 get:∀t y,cH fr t=some y->av T F w ρ bl y (a.tmps.getD t undef)
section
variable{T:bQ}{F F':Nat->Prop}{w w':World}{ρ ρ':List Value}{bl bl':List (aG T.El)}{n:cE}{fr:List (Nat×aL T.El)}{a:Act}
theorem tw.later(b:∀k,F k->F' k/\w'.heap[k]? =w.heap[k]?)(c:oK T ρ ρ' bl bl')(h:tw T F w ρ bl n fr a):tw T F' w' ρ' bl' n fr a:=⟨h.size,h.defers,λ t y hy=>(h.get t y hy).later b c⟩
theorem Bv{a:Act}{d t:Nat}{v:Value}(aK:d<a.tmps.size):(a.put (some d) v).tmps.getD t undef=if d=t then v else a.tmps.getD t undef:=by simp only[Act.put,eh,ff];by_cases e:d=t;subst e;simp[aK];simp[e]
theorem tw.put{d:Nat}{y:aL T.El}{v:Value}(h:tw T F w ρ bl n fr a)(aK:eN d n.n=true)(c:av T F w ρ bl y v):tw T F w ρ bl n ((d,y)::fr) (a.put (some d) v):=by
 have f:d<n.n:=cJ aK;refine⟨by simpa[Act.put]using h.size,h.defers,λ t z b=>?_⟩;rw[Bv (by rw[h.size];exact f)];simp only[cH]at b;cases ag:cx d t with
 |true=>rw[ag]at b;simp only[aM]at b;rw[lz (bF ag),<-b];exact c
 |false=>rw[ag]at b;rw[ly (λ e=>by subst e;simp at ag)];exact h.get t z b
def qm{α:Type}:List (Nat×α)->Nat->List (Nat×α)
 |[],_=>[]
 |p::r,t=>match cx p.1 t with
  |true=>qm r t
  |false=>p::qm r t
theorem Ra{α:Type}{d t:Nat}{y:α}:∀ {fr:List (Nat×α)},cH (qm fr d) t=some y->t≠d/\cH fr t=some y
 |[],h=>by simp[qm,cH]at h
 |p::r,h=>by
  simp only[qm]at h;cases ag:cx p.1 d with
  |true=>
   rw[ag]at h;obtain⟨b,J⟩:=Ra h;refine⟨b,?_⟩;simp only[cH];cases hc:cx p.1 t with
   |true=>exact absurd ((bF hc).symm.trans (bF ag)) b
   |false=>exact J
  |false=>
   rw[ag]at h;simp only[cH]at h⊢;cases hc:cx p.1 t with
   |true=>rw[hc]at h;refine⟨λ e=>?_,h⟩;rw[bF hc,e]at ag;simp at ag
   |false=>rw[hc]at h;exact Ra h
theorem tw.Sv{d:Nat}{v:Value}(h:tw T F w ρ bl n fr a)(aK:eN d n.n=true):tw T F w ρ bl n (qm fr d) (a.put (some d) v):=by have b:d<n.n:=cJ aK;refine⟨by simpa[Act.put]using h.size,h.defers,λ t z c=>?_⟩;obtain⟨e,J⟩:=Ra c;rw[Bv (by rw[h.size];exact b),ly (Ne.symm e)];exact h.get t z J
end
end a7
namespace I
def dd{α β cp:Type}(o:Option (α⊕β))(k:α->Option cp)(l:β->Option cp):Option cp:=match o with
 |none=>none
 |some (.inl a)=>k a
 |some (.inr b)=>l b
end I
namespace a7
open Go Go.RowKit aw I
inductive D (α:Type):Type 1
 |ok (a:α)
 |no
 |op {β:Type} (o:Option β) (k:β->D α)
 |r9 (c:Bool) (x y:D α)
 |w6 {β cp:Type} (o:Option (β⊕cp)) (k:β->D α) (l:cp->D α)
def D.bind{α β:Type}:D α->(α->D β)->D β
 | .ok a,f=>f a
 | .no,_=>.no
 | .op o k,f=>.op o λ b=>(k b).bind f
 | .r9 c x y,f=>.r9 c (x.bind f) (y.bind f)
 | .w6 o k l,f=>.w6 o (λ b=>(k b).bind f) (λ c=>(l c).bind f)
def D.run{α ρ:Type}:D α->(α->Option ρ)->Option ρ
 | .ok a,K=>K a
 | .no,_=>none
 | .op o k,K=>o.bind λ b=>(k b).run K
 | .r9 c x y,K=>cond c (x.run K) (y.run K)
 | .w6 o k l,K=>dd o (λ b=>(k b).run K) (λ c=>(l c).run K)
def D.out{α:Type}:D α->α->Prop
 | .ok b,a=>b=a
 | .no,_=>False
 | .op o k,a=>∃b,o=some b/\(k b).out a
 | .r9 c x y,a=>(c=true/\x.out a)\/(c=false/\y.out a)
 | .w6 o k l,a=>(∃b,o=some (.inl b)/\(k b).out a)\/(∃c,o=some (.inr c)/\(l c).out a)
theorem D.uY{α ρ:Type}{r:ρ}:∀ {d:D α}{K:α->Option ρ},d.run K=some r->∃a,d.out a/\K a=some r
 | .ok a,K,h=>⟨a,rfl,h⟩
 | .no,K,h=>by cases h
 | .op o k,K,h=>by obtain⟨b,g,J⟩:=fz h;obtain⟨a,e,f⟩:=D.uY J;exact⟨a,⟨b,g,e⟩,f⟩
 | .r9 c x y,K,h=>by
   cases c with
   |true=>obtain⟨a,e,f⟩:=D.uY (d:=x) h;exact⟨a,.inl ⟨rfl,e⟩,f⟩
   |false=>obtain⟨a,e,f⟩:=D.uY (d:=y) h;exact⟨a,.inr ⟨rfl,e⟩,f⟩
 | .w6 o k l,K,h=>by
   cases o with
   |none=>cases h
   |some s=>
    cases s with
    |inl b=>obtain⟨a,e,f⟩:=D.uY (d:=k b) h;exact⟨a,.inl ⟨b,rfl,e⟩,f⟩
    |inr c=>obtain⟨a,e,f⟩:=D.uY (d:=l c) h;exact⟨a,.inr ⟨c,rfl,e⟩,f⟩
theorem D.la{α β:Type}:∀ {d:D α}{f:α->D β}{b:β},(d.bind f).out b->∃a,d.out a/\(f a).out b
 | .ok a,f,b,h=>⟨a,rfl,h⟩
 | .no,f,b,h=>h.elim
 | .op o k,f,b,h=>by obtain⟨x,e,J⟩:=h;obtain⟨a,g,i⟩:=D.la J;exact⟨a,⟨x,e,g⟩,i⟩
 | .r9 c x y,f,b,h=>by rcases h with⟨e,J⟩|⟨e,J⟩;obtain⟨a,g,i⟩:=D.la J;exact⟨a,.inl ⟨e,g⟩,i⟩;obtain⟨a,g,i⟩:=D.la J;exact⟨a,.inr ⟨e,g⟩,i⟩
 | .w6 o k l,f,b,h=>by rcases h with⟨x,e,J⟩|⟨x,e,J⟩;obtain⟨a,g,i⟩:=D.la J;exact⟨a,.inl ⟨x,e,g⟩,i⟩;obtain⟨a,g,i⟩:=D.la J;exact⟨a,.inr ⟨x,e,g⟩,i⟩
def D.of{α:Type}:Option α->D α
 |some a=>.ok a
 |none=>.no
theorem D.rn{α:Type}{o:Option α}{a:α}(h:(D.of o).out a):o=some a:=by
 cases o with
 |none=>exact h.elim
 |some b=>exact congrArg some h
structure Env where
 P:Program
 T:bQ
 cZ:List (Nat×aL T.El)
 cl:Bool
 cm:List Nat
 nS:Nat
 O6:List UInt8->List (T.El nS)
def lay(P:Program)(t:TypeId):Option (Bool×Nat):=match P.underlying t,P.info? t with
 |some (.struct _),some i=>some (true,i.size)
 |some (.array _ _),some i=>some (true,i.size)
 |some _,some i=>some (false,i.size)
 |_,_=>none
theorem run_sizeOf{P:Program}{t:TypeId}{i:TypeInfo}(h:P.info? t=some i)(w:World):(Go.sizeOf t).run P w= .ok i.size w:=by simp[Go.sizeOf,typeInfo,go_sem,h]
theorem Mu{P:Program}{t:TypeId}{b:Bool}{n:Nat}(h:lay P t=some (b,n)):(∀w,(isAgg t).run P w= .ok b w)/\∀w,(Go.sizeOf t).run P w= .ok n w:=by
 unfold lay at h;split at h;rename_i a J;simp only[aM,cI]at h;obtain⟨rfl,rfl⟩:=h;exact⟨λ w=>by simp[isAgg,run_underlying a],run_sizeOf J⟩;rename_i a J;simp only[aM,cI]at h;obtain⟨rfl,rfl⟩:=h;exact⟨λ w=>by simp[isAgg,run_underlying a],run_sizeOf J⟩;rename_i d i c e a J;simp only[aM,cI]at h;obtain⟨rfl,rfl⟩:=h;refine⟨λ w=>?_,run_sizeOf J⟩;simp only[isAgg,Sem.run_bind,run_underlying a,Result.andThen_ok];cases d<;>first |rfl |(exact absurd a (by simpa using c _))|(exact absurd a (by simpa using e _ _))
 ·cases h
def mv:Option TypeDesc->Option pH
 |some (.int k)=>some (.i k)
 |some .bool=>some .b
 |some .string=>some .s
 |some (.slice _)=>some .cj
 |_=>none
theorem y2{P:Program}{t:TypeId}{k:pH}(h:mv (P.underlying t)=some k):k.ok P t:=by unfold mv at h;split at h<;>simp only[aM,reduceCtorEq]at h<;>subst h;rename_i h;exact h;rename_i h;exact h;rename_i h;exact h;rename_i e h;exact⟨e,h⟩
def PO(P:Program)(s j:Nat):Option (Nat×Nat×Nat):=match P.underlying s with
 |some (.struct cm)=>match nth cm.toList j with
  |some f=>match P.info? f.type with
   |some i=>match cx i.size 0 with
    |true=>none
    |false=>some (f.offset,f.type,i.size)
   |none=>none
  |none=>none
 |_=>none
theorem ah0{P:Program}{s j off t n:Nat}(h:PO P s j=some (off,t,n)):∃cm f,P.underlying s=some (.struct cm)/\cm[j]? =some f/\f.offset=off/\f.type=t/\(∀w,(Go.sizeOf f.type).run P w= .ok n w)/\cx n 0=false:=by unfold PO at h;split at h;rename_i cm a;split at h;rename_i f J;split at h;rename_i i b;split at h;cases h;rename_i c;simp only[aM,cI]at h;obtain⟨rfl,rfl,rfl⟩:=h;rw[dn,ha]at J;exact⟨cm,f,a,J,rfl,rfl,run_sizeOf b,c⟩;cases h;cases h;cases h
section
variable{El:Nat->Type}
def oO(cs:List (aL El))(o:Nat):Bool×Nat->Option (aL El)
 |(false,_)=>nth cs o
 |(true,n)=>match iI (o+n) cs.length with
  |true=>some (.a ((cs.drop o).take n))
  |false=>none
end
section
variable{T:bQ}{F:Nat->Prop}{w:World}{ρ:List Value}{bl:List (aG T.El)}{P:Program}
theorem HQ{cs:List (aL T.El)}{o a q t:Nat}{c:Bool×Nat}{y:aL T.El}{vs:List Value}(i:lay P t=some c)(h:oO cs o c=some y)(d:aZ T F w ρ bl cs vs)(hc:fF w ⟨a,q,none⟩ vs) :
 ∃v us,av T F w ρ bl y v/\fF w ⟨a,q+o,none⟩ us/\∀(op:Oper)(ac:Act)(x:Operand)(w':World),op.op= .load t x->ac.eval x= .pointer (some ⟨a,q+o,none⟩)->fF w' ⟨a,q+o,none⟩ us->bc P op ac w' v w':=by
 obtain⟨b,n⟩:=c
 have Fo:=Mu i
 cases b with
 |false=>
  simp only[oO]at h;rw[dn]at h;obtain⟨v,k,J⟩:=d.at_ h;refine⟨v,[v],J,λ j u ax=>?_,λ op ac x w' e ad f=>Am Fo.1 e ad (by simpa using f 0 v rfl)⟩;cases j with
  |zero=>simp only[de,aM]at ax;subst ax;simpa using hc o v k
  |succ j=>simp at ax
 |true=>simp only[oO]at h;split at h;rename_i ag;simp only[aM]at h;subst h;have l:=cJ ag;have g:=d.len;refine⟨.agg ⟨(vs.drop o).take n⟩,(vs.drop o).take n,?_,λ j u ax=>?_,λ op ac x w' e ad f=>aq8 Fo.1 Fo.2 (by simp;omega) e ad f⟩;simp only[av];exact⟨_,rfl,aZ.take n (aZ.drop o d)⟩;rw[gK]at ax;split at ax;rw[ia]at ax;have:=hc (o+j) u ax;simpa[jE]using this;cases ax;cases h
end
structure A2 (T:bQ):Prop where
 cs:∀t d F w xs,(T.ty t).rd F w xs d->aZ T F w [] [] ((T.e t).cs d) xs
 ix:∀t aX d,(T.e t).ix aX=some d->∀F w ρ bl xs,aZ T F w ρ bl aX xs->(T.ty t).rd F w xs d
 key:∀t K,(T.e t).key=some K->∀F w xs k,(T.ty t).rd F w xs k->Cy (T.e t).agg xs= @nQ.enc _ K.dec K.uw k
 one:∀t,(T.e t).agg=false->∀d,((T.e t).cs d).length=1
def bQ.val(T:bQ)(t:Nat)(d:T.El t):aL T.El:=match(T.e t).agg with
 |true=>.a ((T.e t).cs d)
 |false=>((T.e t).cs d).headD (.p undef)
structure dr (E:Env):Prop where
 tb:A2 E.T
 call:∀f∈E.cm,∀args w,(callFunc f args).run E.P w= .ok (.enter f args) w
 aF4:E.P.follows .mixedOrders=true
 afB:∀l,(E.O6 l).length=l.length
 av7:∀F w l xs,dN S4 F w xs l->dN (E.T.ty E.nS) F w xs (E.O6 l)
 eq:∀t f,(E.T.e t).eq=some f->∀F w xs ys d e,(E.T.ty t).rd F w xs d->(E.T.ty t).rd F w ys e->∀(o:Oper)(a:Act)(x y:Operand)(t':TypeId)(b:Bool),o.op= .binOp (cond b .eql .neq) t x y t'->a.eval x= .agg ⟨xs⟩->a.eval y= .agg ⟨ys⟩->∀w',bc E.P o a w' (.bool (cond b (f d e) (!f d e))) w'
section
variable{T:bQ}{F:Nat->Prop}{w:World}{ρ:List Value}{bl:List (aG T.El)}
theorem aFp{w:World}{F:Nat->Prop}{l:List (aL T.El)}{vs:List Value}(h:aZ T F w [] [] l vs):aZ T F w ρ bl l vs:=aZ.later (λ _ h=>⟨h,rfl⟩) ⟨λ i h hi=>by simp at hi⟩ l h
theorem A2.cells(a:A2 T){t:Nat}{d:T.El t}{xs:List Value}(h:(T.ty t).rd F w xs d):aZ T F w ρ bl ((T.e t).cs d) xs:=aFp (a.cs t d F w xs h)
theorem A2.val(a:A2 T){t:Nat}{d:T.El t}{xs:List Value}(h:(T.ty t).rd F w xs d):av T F w ρ bl (T.val t d) (Cy (T.e t).agg xs):=by
 have hc:=a.cells (ρ:=ρ) (bl:=bl) h;unfold bQ.val;cases c:(T.e t).agg with
 |true=>simp only[av,Cy];exact⟨xs,rfl,hc⟩
 |false=>
  have b:=a.one t c d;cases hcs:(T.e t).cs d with
  |nil=>rw[hcs]at b;simp at b
  |cons y r=>rw[hcs]at hc;simp only[aZ]at hc;obtain⟨u,us,rfl,e,_⟩:=hc;exact e
def aax{El:Nat->Type}:aL El->Nat->Option (aL El)
 | .b i o,n=>some (.b i (o+n))
 | .x t d o,n=>some (.x t d (o+n))
 | .e i g k t j d o,n=>some (.e i g k t j d (o+n))
 | .w i g o,n=>some (.w i g (o+n))
 |_,_=>none
def R2{El:Nat->Type}(gs:Nat->Nat):aL El->Bool
 | .b _ _=>true
 | .x _ _ _=>true
 | .e i g _ _ _ _ _=>cx g (gs i)
 | .w i g _=>cx g (gs i)
 |_=>false
def v7{El:Nat->Type}(bl:List (aG El))(i:Nat):Nat:=b1 (nth bl i)
theorem EX{El:Nat->Type}(bl:List (aG El))(i:Nat):v7 bl i=b1 bl[i]? :=by rw[v7,dn]
theorem aHJ{y fl:aL T.El}{n:Nat}{v:Value}(hi:R2 (v7 bl) y=true)(h:aax y n=some fl)(b:av T F w ρ bl y v):∃g o,v= .pointer (some ⟨g,o,none⟩)/\av T F w ρ bl fl (.pointer (some ⟨g,o+n,none⟩)):=by cases y<;>simp only[aax,aM,reduceCtorEq]at h<;>subst h;simp only[av]at b;obtain⟨g,d,J⟩:=b;refine⟨g,_,J,?_⟩;simp only[av];exact⟨g,d,rfl⟩;simp only[av]at b;obtain⟨a,q,cs,d,J,e,l⟩:=b;refine⟨a,_,d,?_⟩;simp only[av];exact⟨a,q,cs,by rw[jE],J,e,l⟩;simp only[av]at b;obtain⟨_,u,d,J,e⟩:=b;simp only[R2]at hi;have hi:=bF hi;rw[EX]at hi;obtain⟨⟨A,f,c,i,j,m,k⟩,p,r⟩:=e hi;refine⟨_,_,k,?_⟩;simp only[av];exact⟨trivial,u,d,J,λ _=>⟨⟨A,f,c,i,j,m,by rw[jE]⟩,p,r⟩⟩;simp only[av]at b;obtain⟨_,u,d,J,e⟩:=b;simp only[R2]at hi;have hi:=bF hi;rw[EX]at hi;obtain⟨A,f,c,i,j,k⟩:=e hi;refine⟨_,_,k,?_⟩;simp only[av];exact⟨trivial,u,d,J,λ _=>⟨A,f,c,i,j,rfl⟩⟩
def nm{El:Nat->Type}(bl:List (aG El)):aL El->aL El
 | .r i g=>match nth bl i with
   |some (.z t g' _ l)=>match cx g g' with
    |true=>.s t l
    |false=>.r i g
   |_=>.r i g
 |y=>y
end
section
variable{T:bQ}{W w:World}{M0:List Nat}{X:Nat->Prop}{bl:List (aG T.El)}{ρ:List Value}
theorem RH(c:Mem T W M0 X bl ρ w){y:aL T.El}{v:Value}(a:av T (bi X bl ρ w) w ρ bl y v):av T (bi X bl ρ w) w ρ bl (nm bl y) v:=by
 cases y with
 |r i g=>simp only[nm];split;rename_i t g' k l hi;rw[dn]at hi;split;rename_i ag;have ag:=bF ag;simp only[av]at a⊢;obtain⟨_,h,d,J,b⟩:=a;rw[hi]at b;have:=b ag;subst this;exact c.ok i _ _ hi d;exact a;exact a
 |_=>exact a
def H5(E:Env)(bl:List (aG E.T.El))(t:Nat):aL E.T.El->D (aL E.T.El)
 | .b i o=>match nth bl i,lay E.P t with
   |some (.c _ cs),some a=>.of (oO cs o a)
   |_,_=>.no
 | .x t' d o=>match lay E.P t with
   |some a=>.of (oO ((E.T.e t').cs d) o a)
   |none=>.no
 | .e i g k t' j d o=>match nth bl i,lay E.P t with
   |some (.r c b e l),some a=>match cx g b,cx k e with
    |true,true=>.of (oO ((E.T.e t').cs d) o a)
    |true,false=>.op (idx l j) λ d'=>.of (oO ((E.T.e c).cs d') o a)
    |_,_=>.no
   |_,_=>.no
 | .w i g o=>match nth bl i,lay E.P t with
   |some (.k _ _ b cs),some a=>match cx g b with
    |true=>.of (oO cs o a)
    |false=>.no
   |_,_=>.no
 | .CI i g sz q=>match nth bl i,lay E.P t with
   |some (.r c b e l),some a=>match cx g b&&cx sz (E.T.ty c).size with
    |true=>.op (idx l q) λ d=>.of (oO [.e i g e c q d 0] 0 a)
    |false=>.no
   |_,_=>.no
 |_=>.no
def Zt{El:Nat->Type}:aL El->Option Nat
 | .b i _=>some i
 | .e i _ _ _ _ _ _=>some i
 | .w i _ _=>some i
 |_=>none
def OT(X:Nat->Prop)(bl:List (aG T.El))(ρ:List Value)(w:World)(k:Nat):Option Nat->Prop
 |none=>bi X bl ρ w k
 |some i=>∃B h,bl[i]? =some B/\ρ[i]? =some h/\k∈bD B h
def Ko(P:Program)(t:Nat)(dM:Addr)(us:List Value)(v:Value):Prop:=∀(op:Oper)(ac:Act)(x:Operand)(w':World),op.op= .load t x->ac.eval x= .pointer (some dM)->fF w' dM us->bc P op ac w' v w'
theorem w3{w:World}{t sz n c:Nat}{A:Option Addr}{xs:List Value}(d:0<n)(h:rowIs w t sz (.slice A n c) n xs):∃g,A=some ⟨g,0,none⟩/\dD A=g/\fF w ⟨g,0,none⟩ xs/\∀m:Nat,ag (.slice A m c)=[g]:=by
 have hc:=h.cap;have h:=h.own d;rcases h.2 with⟨a,e⟩|⟨g,cap,cur,a,_⟩;omega
 ·simp only[Value.slice.injEq]at a;obtain⟨rfl,_,rfl⟩:=a;refine⟨g,rfl,rfl,λ j u ax=>?_,λ m=>?_⟩;have b:=h.cells (g:=g) rfl j u ax;rw[mU]at b;exact b
  ·cases c with
   |zero=>omega
   |succ c=>rfl
theorem anf{α:Type}{T:dt α}{F:Nat->Prop}{w:World}{g:Nat}{l:List α}{xs:List Value}{j:Int}{d:α}(hc:fF w ⟨g,0,none⟩ xs)(a:dN T F w xs l)(hi:idx l j=some d):∃cs,T.rd F w cs d/\fF w ⟨g,j.toNat*T.size,none⟩ cs:=by obtain⟨_,_,J⟩:=np hi;obtain⟨cs,b,c⟩:=Nc T a J;refine⟨cs,b,λ q u e=>?_⟩;have:=hc (j.toNat*T.size+q) u (c q u e);simpa using this
theorem azi{E:Env}(R:A2 E.T){W w:World}{M0:List Nat}{X:Nat->Prop}{bl:List (aG E.T.El)}{ρ:List Value}(S:Mem E.T W M0 X bl ρ w){t:Nat}{p y:aL E.T.El}{L:Value}(m:av E.T (bi X bl ρ w) w ρ bl p L)(h:(H5 E bl t p).out y) :
 ∃dM us v,L= .pointer (some dM)/\av E.T (bi X bl ρ w) w ρ bl y v/\fF w dM us/\Ko E.P t dM us v/\OT X bl ρ w dM.block (Zt p):=by
 unfold H5 at h
 split at h
 ·rename_i i o;split at h
  ·rename_i ty cs Q b J;rw[dn]at b;have h:=D.rn h;simp only[av]at m;obtain⟨g,r,rfl⟩:=m;obtain⟨g',vs,e1,e2,e3⟩:=S.ok i _ _ b r;simp only[Value.pointer.injEq,aM,Addr.mk.injEq,and_true]at e1;subst e1;have hc:fF w ⟨g,0,none⟩ vs:=λ j u ax=>by have ag:(a8.cd g ty vs).ok w:=e2;simpa using x6 ag ax
   obtain⟨v,us,e,I,f⟩:=HQ J h e3 hc;refine⟨⟨g,o,none⟩,us,v,rfl,e,by simpa using I,λ op ac x w' ar ad mi=>f op ac x w' ar (by simpa using ad) (by simpa using mi),_,_,b,r,by simp[bD,ag]⟩
  ·exact h.elim
 ·rename_i t' d o;split at h;rename_i Q J;have h:=D.rn h;simp only[av]at m;obtain⟨a,q,cs,rfl,aq,a6,c6⟩:=m;obtain⟨v,us,e,I,f⟩:=HQ J h (R.cells a6) c6;exact⟨_,us,v,rfl,e,I,f,aq⟩;exact h.elim
 ·rename_i i g k t' j d o;split at h;rename_i U g2 I l Q b J;rw[dn]at b;simp only[av]at m;obtain⟨_,u,C,z,B⟩:=m;rw[b]at B;obtain⟨A,c,xs,e1,e2,e3⟩:=S.ok i _ _ b C;subst e1;split at h;rename_i r hk;have h:=D.rn h;obtain⟨⟨ck,gY,bI,s,M,V,F⟩,aH1,Y⟩:=B (bF r);obtain⟨l',K,G⟩:=Y (bF hk);simp only[ku,aM,Sigma.mk.injEq]at K;obtain⟨fK,K⟩:=K;subst fK;have K:=eq_of_heq K;subst K;simp only[Value.slice.injEq]at s;obtain⟨rfl,rfl,rfl⟩:=s;obtain⟨gb,rfl,N,hc,O⟩:=w3 (by have:=(np G).2.1;omega) e2;obtain⟨cs,Z,m2⟩:=anf hc e3 G;obtain⟨v,us,e,H,f⟩:=HQ J h (R.cells Z) m2;refine⟨_,us,v,F,e,?_,?_,_,_,b,C,by simp[bD,O,N,dD]⟩;simpa[kv,dD]using H;simpa[kv,dD,Ko]using f;rename_i r hk;obtain⟨d',G,h⟩:=h;have h:=D.rn h;obtain⟨⟨ck,gY,bI,s,M,V,F⟩,_,_⟩:=B (bF r);simp only[Value.slice.injEq]at s;obtain⟨rfl,rfl,rfl⟩:=s;obtain⟨gb,rfl,N,hc,O⟩:=w3 (by have:=(np G).2.1;omega) e2;obtain⟨cs,Z,m2⟩:=anf hc e3 G;obtain⟨v,us,e,H,f⟩:=HQ J h (R.cells Z) m2;refine⟨_,us,v,F,e,?_,?_,_,_,b,C,by simp[bD,O,N,dD]⟩;simpa[kv,dD]using H;simpa[kv,dD,Ko]using f;exact h.elim;exact h.elim
 ·rename_i i g o;split at h;rename_i U sz g2 cs Q b J;rw[dn]at b;split at h;rename_i r;have h:=D.rn h;simp only[av]at m;obtain⟨_,u,C,z,B⟩:=m;rw[b]at B;obtain⟨A,n,c,xs,e1,e2,e3⟩:=S.ok i _ _ b C;subst e1;obtain⟨ck,gY,bI,s,M,F⟩:=B (bF r);simp only[Value.slice.injEq]at s;obtain⟨rfl,rfl,rfl⟩:=s;obtain⟨gb,rfl,N,hc,O⟩:=w3 M e2;obtain⟨v,us,e,H,f⟩:=HQ J h e3 hc;refine⟨_,us,v,F,e,?_,?_,_,_,b,C,by simp[bD,O,N,dD]⟩;simpa[dD]using H;simpa[dD,Ko]using f;exact h.elim;exact h.elim
 ·rename_i i g sz q;split at h
  ·rename_i U g2 I l Q b J;rw[dn]at b;split at h
   ·rename_i ag;simp only[ca]at ag;have r:=bF ag.1;have ah:=bF ag.2;obtain⟨d,G,h⟩:=h;have h:=D.rn h;simp only[av]at m;obtain⟨a,o,P,rfl,aB,⟨h9,u,C,z,B⟩,hc⟩:=m;have Iv:=z;rw[b]at B Iv;obtain⟨A,n,c,s,M,V,F⟩:=B r;have au:aZ E.T (bi X bl ρ w) w ρ bl [.e i g I U q d 0] [P]:=by simp only[aZ,av];refine⟨P,[],rfl,⟨h9,u,C,z,λ _=>⟨⟨A,n,c,s,M,V,?_⟩,by rw[b];exact cP _,λ _=>⟨l,by rw[b];rfl,G⟩⟩⟩,rfl⟩;rw[b,F,ah];rfl
    obtain⟨v,us,e,H,f⟩:=HQ J h au hc;exact⟨_,us,v,rfl,e,by simpa using H,by simpa[Ko]using f,aB⟩
   ·exact h.elim
  ·exact h.elim
 ·exact h.elim
end
def cellsOf{El:Nat->Type}:aL El->List (aL El)
 | .a l=>l
 | .p (.agg ⟨vs⟩)=>vs.map .p
 |y=>[y]
def gA{α:Type}:List α->Nat->List α->List α
 |l,0,cs=>cs++l.drop cs.length
 |[],_+1,_=>[]
 |u::l,n+1,cs=>u::gA l n cs
theorem zj{α:Type}:∀(l:List α)(n:Nat)(cs:List α),n+cs.length<=l.length->gA l n cs=l.take n++cs++l.drop (n+cs.length)
 |l,0,cs,_=>by simp[gA]
 |[],n+1,cs,h=>by simp at h
 |u::l,n+1,cs,h=>by
  have:=zj l n cs (by simp at h;omega);simp only[gA,this,jH,hX];have e:n+1+cs.length=(n+cs.length)+1:=by omega
  rw[e,List.drop_succ_cons]
theorem Zr{α:Type}{l:List α}{n:Nat}{cs:List α}(h:n+cs.length<=l.length):(gA l n cs).length=l.length:=by rw[zj l n cs h];simp;omega
theorem ah2(off:Nat):∀(cs:List Value)(k:Nat)(l:Array Value),off+k+cs.length<=l.size->((cs.zipIdx k).foldl (λ(a:Array Value)(x:Value×Nat)=>a.setIfInBounds (off+x.2) x.1) l).toList=gA l.toList (off+k) cs
 |[],k,l,h=>by rw[zj _ _ _ (by simpa using h)];simp
 |c::r,k,l,h=>by
  simp only[List.zipIdx_cons,hZ];have h':off+(k+1)+r.length<=(l.setIfInBounds (off+k) c).size:=by simp at h⊢;omega
  rw[ah2 off r (k+1) _ h',zj _ _ _ (by simpa using h'),zj _ _ _ (by simpa using h)];have b:off+k<l.toList.length:=by simp at h⊢;omega
  simp only[Array.toList_setIfInBounds,cT];apply jZ;intro i;simp only[ll,fe,gu,gK,List.getElem?_set,ia,dj,cT];have e1:min (off+(k+1)) l.toList.length=off+k+1:=by simp at h b⊢;omega
  have e2:min (off+k) l.toList.length=off+k:=by omega
  rw[e1,e2];by_cases c1:i<off+k;simp[c1,show i<off+k+1 by omega,show i<off+k+1+r.length by omega,show i<off+k+(r.length+1) by omega,show i<off+(k+1) by omega,show¬off+k=i by omega]
  ·by_cases c2:i=off+k;subst c2;simp only[show off+k<off+k+1 by omega,show off+k<off+k+1+r.length by omega,show off+k<off+k+(r.length+1) by omega,show off+k<off+(k+1) by omega,if_true,b,Nat.lt_irrefl,if_false,kG,de]
   ·by_cases c3:i<off+k+1+r.length
    ·simp only[show¬i<off+k+1 by omega,c3,show i<off+k+(r.length+1) by omega,c1,if_false,if_true];have:i- (off+k)=(i- (off+k+1))+1:=by omega
     rw[this,List.getElem?_cons_succ]
    ·simp only[show¬i<off+k+1 by omega,c3,show¬i<off+k+(r.length+1) by omega,if_false,show¬(off+k=off+(k+1)+r.length+(i- (off+k+1+r.length))) by omega];congr 1;omega
def yf{El:Nat->Type}(pl:Nat->Option (Nat×Nat)):List (aL El)->List (Nat×aL El)->Option (List (aL El))
 |cs,[]=>some cs
 |cs,(i,y)::r=>match pl i with
  |some (off,size)=>match cx (cellsOf y).length size&&iI (off+(cellsOf y).length) cs.length with
   |true=>yf pl (gA cs off (cellsOf y)) r
   |false=>none
  |none=>none
section
variable{T:bQ}{F:Nat->Prop}{w:World}{ρ:List Value}{bl:List (aG T.El)}
theorem uW:∀(vs:List Value),aZ T F w ρ bl (vs.map .p) vs
 |[]=>by simp[aZ]
 |v::r=>by simp only[ea,aZ];exact⟨v,r,rfl,rfl,uW r⟩
theorem nA{z:aL T.El}{u:Value}(a:av T F w ρ bl z u):aZ T F w ρ bl [z] [u]:=by simp only[aZ];exact⟨u,[],rfl,a,rfl⟩
theorem Pl{v:Value}(h:ms v):v.cells.toList=[v]:=by cases v<;>simp[ms]at h;rfl
theorem Pk{v:Value}(h:y0 v):v.cells.toList=[v]:=by cases v<;>simp[y0]at h;rfl
theorem qN{y:aL T.El}{v:Value}(h:av T F w ρ bl y v):aZ T F w ρ bl (cellsOf y) v.cells.toList:=by
 cases y with
 |a l=>simp only[av]at h;obtain⟨vs,rfl,h⟩:=h;exact h
 |p u=>
  simp only[av]at h;subst h;cases v with
  |agg cs=>obtain⟨vs⟩:=cs;exact uW vs
  |_=>exact nA (by simp[av])
 |b i o=>have h':=h;simp only[av]at h';obtain⟨g,_,rfl⟩:=h';exact nA h
 |x t d o=>have h':=h;simp only[av]at h';obtain⟨a,q,cs,rfl,_⟩:=h';exact nA h
 |s t l=>have h':=h;simp only[av]at h';obtain⟨A,c,e⟩:=mB _ h';subst e;exact nA h
 |q t l=>have h':=h;simp only[av]at h';obtain⟨_,A,rfl⟩:=h';exact nA h
 |r i g=>have h':=h;simp only[av]at h';rw[Pl h'.1];exact nA h
 |v i g lo hi=>have h':=h;simp only[av]at h';rw[Pl h'.1];exact nA h
 |e i g k t j d o=>have h':=h;simp only[av]at h';rw[Pk h'.1];exact nA h
 |w i g o=>have h':=h;simp only[av]at h';rw[Pk h'.1];exact nA h
 |m i=>have h':=h;simp only[av]at h';obtain⟨g,_,rfl⟩:=h';exact nA h
 |n _ _ _=>have h':=h;simp only[av]at h';obtain⟨g,rfl,_⟩:=h';exact nA h
 |f fn cs=>have h':=h;simp only[av]at h';obtain⟨g,rfl,_⟩:=h';exact nA h
 |h fn us=>have h':=h;simp only[av]at h';obtain⟨g,rfl,_⟩:=h';exact nA h
 |u l=>have h':=h;simp only[av]at h';obtain⟨g,rfl,_⟩:=h';exact nA h
 |i t z=>have h':=h;simp only[av]at h';obtain⟨g,rfl,_⟩:=h';exact nA h
 |pp i g sz ed=>have h':=h;simp only[av]at h';obtain⟨_,_,rfl,_⟩:=h';exact nA h
 |CI i g sz q=>have h':=h;simp only[av]at h';obtain⟨_,_,_,rfl,_⟩:=h';exact nA h
theorem aZ.lay{l cs:List (aL T.El)}{vs us:List Value}{n:Nat}(h:aZ T F w ρ bl l vs)(h':aZ T F w ρ bl cs us)(a:n+cs.length<=l.length):aZ T F w ρ bl (gA l n cs) (gA vs n us):=by have e1:=h.len;have e2:=h'.len;rw[zj _ _ _ a,zj _ _ _ (by omega),e2];exact aZ.bE (aZ.bE (aZ.take n h) h') (aZ.drop _ h)
def tE(T:bQ)(F:Nat->Prop)(w:World)(ρ:List Value)(bl:List (aG T.El)):List (Nat×aL T.El)->List (Nat×Value)->Prop
 |[],vs=>vs=[]
 |(i,y)::r,vs=>∃v ws,vs=(i,v)::ws/\av T F w ρ bl y v/\tE T F w ρ bl r ws
theorem V_{pl:Nat->Option (Nat×Nat)}:∀ {ps:List (Nat×aL T.El)}{vs:List (Nat×Value)}{cs out:List (aL T.El)}{us:List Value},aZ T F w ρ bl cs us->tE T F w ρ bl ps vs->yf pl cs ps=some out->∃os,Instr.fill pl ⟨us⟩ vs=some ⟨os⟩/\aZ T F w ρ bl out os
 |[],vs,cs,out,us,h,b,a=>by simp only[tE]at b;subst b;simp only[yf,aM]at a;subst a;exact⟨us,rfl,h⟩
 |(i,y)::r,vs,cs,out,us,h,b,a=>by
  simp only[tE]at b;obtain⟨v,ws,rfl,hy,c⟩:=b;simp only[yf]at a;split at a
  ·rename_i off size d;split at a
   ·rename_i ag;simp only[ca]at ag;have e1:=bF ag.1;have e2:=cJ ag.2;have hc:=qN hy;have l1:=hc.len;have g:=h.len;have j:v.cells.size=(cellsOf y).length:=by rw[<-l1];simp
    obtain⟨os,e,J⟩:=V_ (h.lay hc e2) c a;refine⟨os,?_,J⟩;simp only[Instr.fill,d];rw[ly (by simp only[hA,decide_eq_true_eq,bne_iff_ne,not_or];simp only[List.size_toArray];omega)];have f:v.cells.zipIdx.toList=v.cells.toList.zipIdx:=by simp
    rw[<-Array.foldl_toList,f];have:=ah2 off v.cells.toList 0 ⟨us⟩ (by simp;omega);simp only[jI]at this;rw[<-e];congr 1;rw[<-Array.toList_inj];exact this
   ·cases a
  ·cases a
end
def MZ(P:Program):List Go.Field->Option (List (Nat×Nat))
 |[]=>some []
 |f::r=>match P.info? f.type,MZ P r with
  |some i,some l=>some ((f.offset,i.size)::l)
  |_,_=>none
theorem ama{P:Program}{w:World}:∀ {cm:List Go.Field}{l:List (Nat×Nat)},MZ P cm=some l->(cm.mapM λ(f:Go.Field)=>(do pure (f.offset,<-Go.sizeOf f.type):Sem (Nat×Nat))).run P w= .ok l w
 |[],l,h=>by simp only[MZ,aM]at h;subst h;rfl
 |f::r,l,h=>by simp only[MZ]at h;split at h;rename_i i l' a J;simp only[aM]at h;subst h;rw[List.mapM_cons];simp only[Sem.run_bind,run_sizeOf a,ama J,Result.andThen_ok,Sem.run_pure];cases h
def Hj(P:Program)(t:TypeId):Option (List Value):=match P.info? t with
 |some i=>match i.zero with
  |some z=>some z.cells.toList
  |none=>none
 |none=>none
theorem Oz{P:Program}{t:TypeId}{l:List Value}(h:Hj P t=some l):∃z,(∀w,(zeroValue t).run P w= .ok z w)/\z.cells=⟨l⟩:=by unfold Hj at h;split at h;rename_i i a;split at h;rename_i z J;simp only[aM]at h;subst h;refine⟨z,λ w=>?_,by simp⟩;simp only[zeroValue,typeInfo,Sem.run_bind];simp[go_sem,a,J];cases h;cases h
def VO(E:Env)(t:Nat)(ps:List (Nat×aL E.T.El)):D (aL E.T.El):=match E.P.underlying t,Hj E.P t with
 |some (.struct cm),some z=>match MZ E.P cm.toList with
  |some pl=>match yf (λ i=>nth pl i) (z.map .p) ps with
   |some cs=>.ok (.a cs)
   |none=>.no
  |none=>.no
 |_,_=>.no
section
variable{E:Env}{F:Nat->Prop}{w:World}{ρ:List Value}{bl:List (aG E.T.El)}
theorem ay9{t:Nat}{ps:List (Nat×aL E.T.El)}{vs:List (Nat×Value)}{y:aL E.T.El}(d:tE E.T F w ρ bl ps vs)(h:(VO E t ps).out y) :
 ∃v,av E.T F w ρ bl y v/\∀(o:Oper)(a:Act)(xs:List (Nat×Operand))(w':World),o.op= .build t xs.toArray->xs.map (λ p=>(p.1,a.eval p.2))=vs->bc E.P o a w' v w':=by
 unfold VO at h
 split at h
 ·rename_i cm z g J;split at h
  ·rename_i pl j;split at h
   ·rename_i cs k;have h:aL.a cs=y:=h;subst h;obtain⟨u,l,m⟩:=Oz J;obtain⟨os,c,n⟩:=V_ (uW z) d k;refine⟨.agg ⟨os⟩,by simp only[av];exact⟨os,rfl,n⟩,λ o a xs w' q ad=>?_⟩;have b:(λ i=>nth pl i)=(λ i=>(⟨pl⟩:Array (Nat×Nat))[i]?):=by funext i;rw[dn];simp
    have r:(cm.mapM λ(f:Go.Field)=>(do pure (f.offset,<-Go.sizeOf f.type):Sem (Nat×Nat))).run E.P w'= .ok ⟨pl⟩ w':=by
     have s:=ama (w:=w') j;have e:cm.mapM (λ(f:Go.Field)=>(do pure (f.offset,<-Go.sizeOf f.type):Sem (Nat×Nat)))=List.toArray <$> cm.toList.mapM (λ(f:Go.Field)=>(do pure (f.offset,<-Go.sizeOf f.type):Sem (Nat×Nat))):=by rw[<-List.mapM_toArray]
     rw[e,map_eq_pure_bind,Sem.run_bind,s];rfl
    rw[b]at c;simp only[bc,execOp,q,Instr.build,Sem.run_bind,l,Result.andThen_ok,run_underlying g,r,gN,ad,m,c];rfl
   ·exact h.elim
  ·exact h.elim
 ·exact h.elim
end
end a7
namespace aw
open Go Go.RowKit I
section
variable{P:Program}{ops:Array Oper}{Q:Exit->Act->World->Prop}{a:Act}{w:World}{rest:List Oper}{o:Oper}{n:cE}{d:Nat}{l:List (Nat×Value)}
 {W:World}{M0 X:List Nat}{E:List a8}{D:List bA}
def a8.nil:a8:=⟨[],λ _=>True,λ _ _ _ _=>trivial⟩
theorem bu.PG{x:a8}{w':World}(b:bu W M0 X w E D)(i:Nat)(hi:E[i]? =some x)(c:a_ [] w w'):x.ok w':=x.law w w' (λ k e=>c.block k (b.lt k (g_.2 ⟨x,b_ hi,e⟩)).1 (by simp)) (b.e i hi)
theorem aPg{t:TypeId}{x:Operand}{lo hi:Option Operand}{p r:List UInt8}{i j:Int}(q:P.underlying t=some .string)(u:o.op= .slice t x lo hi none)(ad:a.eval x=cu p)
 (v:(lo=none/\i=0)\/∃z,lo=some z/\a.eval z= .int .i64 i)(y:(hi=none/\j=p.length)\/∃z,hi=some z/\a.eval z= .int .i64 j)(A:cut p i j=some r):bc P o a w (cu r) w:=by
 obtain⟨⟨I,J,K⟩,rfl⟩:=Vn A
 have b:(⟨p.toArray⟩:ByteArray).size=p.length:=by simp[ByteArray.size]
 have f:∀code,(Instr.sliceBound (.int .i64 j) (⟨p.toArray⟩:ByteArray).size code).run P w= .ok j.toNat w:=λ code=>CM rfl (by rw[b];omega)
 rw[b]at f
 have B:∀code,(Instr.sliceBound (.int .i64 i) j.toNat code).run P w= .ok i.toNat w:=λ code=>CM rfl (by omega)
 have s:∀code,(Instr.sliceBound (.int .i64 i) (⟨p.toArray⟩:ByteArray).size code).run P w= .ok i.toNat w:=λ code=>CM rfl (by rw[b];omega)
 rw[b]at s
 have C:(⟨p.toArray⟩:ByteArray).extract i.toNat j.toNat=⟨((p.take j.toNat).drop i.toNat).toArray⟩:=by apply ByteArray.ext;simp[ByteArray.data_extract,List.drop_take]
 have key:∀c e:Option Value,((c=none/\i=0)\/c=some (.int .i64 i))->((e=none/\j=p.length)\/e=some (.int .i64 j)) ->
  (Instr.slice t (.string ⟨p.toArray⟩) c e none).run P w= .ok (cu ((p.take j.toNat).drop i.toNat)) w:=by
  intro c e F G
  have ag:∃m,(Instr.sliceBounds false (⟨p.toArray⟩:ByteArray).size (⟨p.toArray⟩:ByteArray).size c e none).run P w= .ok (i.toNat,j.toNat,m) w:=by rcases F with⟨rfl,rfl⟩|rfl<;>rcases G with⟨rfl,ax⟩|rfl;exact⟨_,by simp[Instr.sliceBounds,ax,b];rfl⟩;exact⟨_,by simp[Instr.sliceBounds,b,f];rfl⟩;exact⟨_,by simp[Instr.sliceBounds,s,ax,b];rfl⟩;exact⟨_,by simp[Instr.sliceBounds,b,f,B];rfl⟩
  obtain⟨m,ag⟩:=ag
  simp only[Instr.slice,Sem.run_bind,run_underlying q,Result.andThen_ok,kH,gT,if_false,ag,Sem.run_pure,C,cu]
 have H:=key (lo.map a.eval) (hi.map a.eval) (v.imp (λ h=>⟨by rw[h.1];rfl,h.2⟩) (λ⟨z,g,k⟩=>by rw[g,fs,k])) (y.imp (λ h=>⟨by rw[h.1];rfl,h.2⟩) (λ⟨z,g,k⟩=>by rw[g,fs,k]))
 simp only[bc,execOp,u,ad,cu,Instr.sliceAt,Sem.run_bind,run_underlying q,Result.andThen_ok,iE,H]
 rfl
theorem aPl{t:TypeId}{x:Operand}{v:Value}(hc:P.concrete t=true)(b:o.op= .makeInterface t x)(ad:a.eval x=v):bc P o a w (.iface t v) w:=by simp only[bc,execOp,b,ad];simp[go_sem,run_makeInterface _ _ _ hc]
end
end aw
namespace a7
open Go Go.RowKit aw I
abbrev mO(P:Program)(o:Oper)(a:Act)(v:Value):Prop:=∀w,bc P o a w v w
section
variable{E:Env}{W w:World}{M0:List Nat}{X:Nat->Prop}{bl:List (aG E.T.El)}{ρ:List Value}
def aar(E:Env)(x y:Operand)(b:Bool):aL E.T.El->aL E.T.El->D (aL E.T.El)
 | .p u,.p v=>match RX x y b u v with
   |some r=>.ok (.p r)
   |none=>.r9 b (.ok (.p u)) (.ok (.p v))
 |u,v=>.r9 b (.ok u) (.ok v)
theorem aHx{F:Nat->Prop}{a:Act}{x y:Operand}{b:Bool}{u v z:aL E.T.El}(h:(aar E x y b u v).out z)(ad:b=true->av E.T F w ρ bl u (a.eval x))(hy:b=false->av E.T F w ρ bl v (a.eval y)) :
 ∃r,(if b then a.eval x else a.eval y)=r/\av E.T F w ρ bl z r:=by
 have key:(D.r9 b (.ok u) (.ok v)).out z->∃r,(if b then a.eval x else a.eval y)=r/\av E.T F w ρ bl z r:=λ h=>by rcases h with⟨ag,h⟩|⟨ag,h⟩;have h:u=z:=h;subst h;subst ag;exact⟨_,rfl,by simpa using ad rfl⟩;have h:v=z:=h;subst h;subst ag;exact⟨_,rfl,by simpa using hy rfl⟩
 unfold aar at h
 split at h
 ·rename_i u v;split at h;rename_i r c;have h:aL.p r=z:=h;subst h;refine⟨r,al8 (a:=a) c (λ ag=>?_) (λ ag=>?_),by simp[av]⟩;simpa[av]using ad ag;simpa[av]using hy ag;exact key h
 ·exact key h
theorem aPy{P:Program}{o:Oper}{a:Act}{c x y:Operand}{b:Bool}{r:Value}(d:o.op= .pick c x y)(hc:a.eval c= .bool b)(h:(if b then a.eval x else a.eval y)=r):bc P o a w r w:=by
 cases b with
 |true=>exact Ua d hc (by simpa using h)
 |false=>exact T' d hc (by simpa using h)
def aDx(P:Program)(t:TypeId):Bool:=match P.underlying t with
 |some (.struct _)=>true
 |_=>false
def nq{El:Nat->Type}:aL El->Bool
 | .a _=>true
 | .p (.agg _)=>true
 |_=>false
def Px(E:Env)(t:Nat)(b:Bool)(u v:aL E.T.El):D (aL E.T.El):=match nq u&&nq v with
 |true=>match(E.T.e t).eq,(E.T.e t).ix (cellsOf u),(E.T.e t).ix (cellsOf v)with
  |some f,some d,some e=>.ok (.p (.bool (cond b (f d e) (!f d e))))
  |_,_,_=>.no
 |false=>.no
def ajX:Value->Bool
 | .pointer none=>true
 |_=>false
def QP{El:Nat->Type}:aL El->Bool
 | .b _ _=>true
 | .x _ _ _=>true
 | .e _ _ _ _ _ _ _=>true
 | .w _ _ _=>true
 |_=>false
def aaw(P:Program)(t:TypeId):Bool:=match P.underlying t with
 |some (.pointer _)=>true
 |_=>false
def Gj(op:BinOp)(b:Bool):Option Bool:=match op with
 | .eql=>some b
 | .neq=>some (!b)
 |_=>none
def ags(op:BinOp)(m n:Int):Option Value:=match op with
 | .quo=>some (.int .i64 (ap (m.tdiv n)))
 | .rem=>some (.int .i64 (m.tmod n))
 |_=>none
def VN(E:Env)(t:Nat)(op:BinOp)(hl:Bool)(u v:aL E.T.El):D (aL E.T.El):=match aDx E.P t,op with
 |true,.eql=>Px E t true u v
 |true,.neq=>Px E t false u v
 |_,_=>match u,v with
  | .p x,.p y=>match bin (mv (E.P.underlying t)) hl op x y with
    |some r=>.ok (.p r)
    |none=>match x,y with
     | .int .i64 m,.int .i64 n=>match ags op m n with
       |some r=>.op (zC (!decide (n=0))) λ _=>.ok (.p r)
       |none=>.no
     | .int .u64 m,.int _ (.ofNat n)=>match op,iI n 64 with
       | .shr,true=>.ok (.p (.int .u64 (zO m n)))
       |_,_=>.no
     |_,_=>.no
  |u,.p y=>match aaw E.P t&&QP u&&ajX y,Gj op false with
   |true,some b=>.ok (.p (.bool b))
   |_,_=>.no
  |_,_=>.no
theorem aPz{P:Program}{o:Oper}{a:Act}{t t':TypeId}{x y:Operand}{p:Addr}{op:BinOp}{b:Bool}(c:aaw P t=true)(ag:Gj op false=some b)(g:o.op= .binOp op t x y t')(ad:a.eval x= .pointer (some p))(hy:a.eval y= .pointer none):bc P o a w (.bool b) w:=by
 have f:∃e,P.underlying t=some (.pointer e):=by unfold aaw at c;split at c;rename_i e h;exact⟨e,h⟩;cases c
 obtain⟨e,f⟩:=f;have h:∀d:Nat,(Op.equalIn (d+1) t (.pointer (some p)) (.pointer none)).run P w= .ok false w:=λ d=>by simp[Op.equalIn,run_underlying f]
 cases op<;>simp only[Gj,aM,reduceCtorEq]at ag<;>subst ag
 ·have J:(binOp .eql t (.pointer (some p)) (.pointer none)).run P w= .ok (.bool false) w:=by
   simp only[binOp];simp[Op.equal,Op.maxDepth,h 9999]
  simp only[bc,execOp,g,ad,hy];simp[go_sem,J]
 ·have J:(binOp .neq t (.pointer (some p)) (.pointer none)).run P w= .ok (.bool true) w:=by
   simp only[binOp];simp[Op.equal,Op.maxDepth,h 9999]
  simp only[bc,execOp,g,ad,hy];simp[go_sem,J]
theorem ajY{F:Nat->Prop}{y:aL E.T.El}{v:Value}(h:QP y=true)(a:av E.T F w ρ bl y v):∃p,v= .pointer (some p):=by cases y<;>simp only[QP,reduceCtorEq]at h;simp only[av]at a;obtain⟨g,_,rfl⟩:=a;exact⟨_,rfl⟩;simp only[av]at a;obtain⟨_,_,_,rfl,_⟩:=a;exact⟨_,rfl⟩;simp only[av]at a;cases v<;>simp[y0]at a;rename_i p;cases p<;>simp at a;exact⟨_,rfl⟩;simp only[av]at a;cases v<;>simp[y0]at a;rename_i p;cases p<;>simp at a;exact⟨_,rfl⟩
theorem Ml{F:Nat->Prop}{y:aL E.T.El}{v:Value}(h:nq y=true)(a:av E.T F w ρ bl y v):v= .agg ⟨v.cells.toList⟩:=by cases y<;>simp only[nq,reduceCtorEq]at h;rename_i u;simp only[av]at a;subst a;cases v<;>simp only[nq,reduceCtorEq]at h;simp[Value.cells];simp only[av]at a;obtain⟨vs,rfl,_⟩:=a;simp[Value.cells]
theorem ay8(a1:dr E){F:Nat->Prop}{o:Oper}{a:Act}{t:Nat}{op:BinOp}{hl:Bool}{x y:Operand}{t':TypeId}{u v z:aL E.T.El}(h:(VN E t op hl u v).out z)(i:o.op= .binOp op t x y t')(B:hl=true->∀k n,a.eval y= .int k n->n≠0)
 (ad:av E.T F w ρ bl u (a.eval x))(hy:av E.T F w ρ bl v (a.eval y)):∃r,mO E.P o a r/\av E.T F w ρ bl z r:=by
 have s:∀ {b:Bool},op=cond b .eql .neq->(Px E t b u v).out z->∃r,mO E.P o a r/\av E.T F w ρ bl z r:=λ{b} ag h=>by unfold Px at h;split at h;rename_i j;simp only[ca]at j;split at h;rename_i f d e c J C;have h:aL.p (.bool (cond b (f d e) (!f d e)))=z:=h;subst h;have D:=a1.tb.ix _ _ _ J _ _ _ _ _ (qN ad);have l:=a1.tb.ix _ _ _ C _ _ _ _ _ (qN hy);exact⟨.bool (cond b (f d e) (!f d e)),λ w'=>a1.eq t f c _ _ _ _ d e D l o a x y t' b (by rw[i,ag]) (Ml j.1 ad) (Ml j.2 hy) w',by simp only[av]⟩;exact h.elim;exact h.elim
 unfold VN at h
 split at h
 ·exact s (b:=true) rfl h
 ·exact s (b:=false) rfl h
 ·split at h;rename_i p q;simp only[av]at ad hy;split at h;rename_i r g;have h:aL.p r=z:=h;subst h;exact⟨r,λ w'=>afH (λ k G=>y2 G) B g i ad hy,by simp only[av]⟩;split at h;rename_i m n;split at h;rename_i r g;obtain⟨b,c,J⟩:=h;have J:aL.p r=z:=J;subst J;have A:=Z5 c;refine⟨r,λ w'=>?_,by simp only[av]⟩;unfold ags at g;split at g;simp only[aM]at g;subst g;exact aq' i ad hy A;simp only[aM]at g;subst g;exact ara i ad hy A;cases g;exact h.elim;rename_i m k n _;split at h;rename_i ag _;have h:aL.p (.int .u64 (zO m n))=z:=h;subst h;exact⟨_,λ w'=>aPB (by assumption) i ad hy,by simp only[av]⟩;exact h.elim;exact h.elim
  ·rename_i q _;split at h
   ·rename_i b c J;have h:aL.p (.bool b)=z:=h;subst h;simp only[ca]at c;simp only[av]at hy;obtain⟨p,H⟩:=ajY c.1.2 ad;have I:q= .pointer none:=by cases q<;>simp only[ajX,reduceCtorEq,and_false]at c;rename_i K;cases K<;>simp at c⊢
    exact⟨_,λ w'=>aPz c.1.1 J i H (by rw[hy,I]),by simp only[av]⟩
   ·exact h.elim
  ·exact h.elim
end
def qo(P:Program)(t:TypeId):Option (Nat×Nat):=match P.underlying t with
 |some (.slice e)=>match P.info? e with
  |some i=>some (e,i.size)
  |none=>none
 |_=>none
theorem uZ{P:Program}{t e n:Nat}(h:qo P t=some (e,n)):P.underlying t=some (.slice e)/\∀w,(Go.sizeOf e).run P w= .ok n w:=by unfold qo at h;split at h;rename_i e' a;split at h;rename_i i J;simp only[aM,cI]at h;obtain⟨rfl,rfl⟩:=h;exact⟨a,run_sizeOf J⟩;cases h;cases h
def VT(E:Env)(bl:List (aG E.T.El))(t:Nat):aL E.T.El->aL E.T.El->D (aL E.T.El)
 | .s t' l,.p (.int .i64 j)=>match qo E.P t with
   |some (_,n)=>match cx n (E.T.ty t').size with
    |true=>.op (idx l j) λ d=>.ok (.x t' d 0)
    |false=>.no
   |none=>.no
 | .q t' l,.p (.int .i64 j)=>match qo E.P t with
   |some (_,n)=>match cx n (E.T.ty t').size with
    |true=>.op (idx l j) λ d=>.ok (.x t' d 0)
    |false=>.no
   |none=>.no
 | .r i g,.p (.int .i64 j)=>match qo E.P t,nth bl i with
   |some (_,n),some (.r t' a k l)=>match cx g a&&cx n (E.T.ty t').size with
    |true=>.op (idx l j) λ d=>.ok (.e i g k t' j d 0)
    |false=>.no
   |some (_,n),some (.k _ sz a cs)=>match cx g a&&cx n sz&&decide (0<=j)&&iI ((j.toNat+1)*sz) cs.length&&eN 0 sz with
    |true=>.ok (.w i g (j.toNat*sz))
    |false=>.no
   |_,_=>.no
 | .v i g lo hi,.p (.int .i64 j)=>match qo E.P t,nth bl i with
   |some (_,n),some (.r t' a k l)=>match cx g a&&cx n (E.T.ty t').size with
    |true=>.op (idx ((l.take hi.toNat).drop lo.toNat) j) λ d=>.ok (.e i g k t' (lo+j) d 0)
    |false=>.no
   |_,_=>.no
 | .pp i g sz ed,.p (.int .i64 j)=>match qo E.P t with
   |some (_,n)=>match cx n 1 with
    |true=>.op (idx ed j) λ q=>.ok (.CI i g sz q)
    |false=>.no
   |none=>.no
 |_,_=>.no
theorem aDe{α:Type}{l:List α}{lo hi j:Int}{d:α}(e:0<=lo)(f:hi<=l.length)(h:idx ((l.take hi.toNat).drop lo.toNat) j=some d):idx l (lo+j)=some d/\0<=j/\lo+j<hi:=by obtain⟨a,b,c⟩:=np h;simp only[jB,fe]at b;rw[ia,gK]at c;split at c;refine⟨?_,a,by omega⟩;unfold idx;rw[lz (by omega),show(lo+j).toNat=lo.toNat+j.toNat by omega];exact c;cases c
section
variable{E:Env}{W w:World}{M0:List Nat}{X:Nat->Prop}{bl:List (aG E.T.El)}{ρ:List Value}
theorem Jy{t sz n c:Nat}{A:Option Addr}{xs:List Value}(h:rowIs w t sz (.slice A n c) n xs)(a:0<n):∃g,A=some ⟨g,0,none⟩:=h.cap.2.2.2 (by have:=h.cap.1;omega)
theorem Sw{t sz n c:Nat}{A:Option Addr}{xs:List Value}(h:rowIs w t sz (.slice A n c) n xs):n<=c:=h.cap.1
theorem ahE{F:Nat->Prop}{t':Nat}{l:List (E.T.El t')}{o:Oper}{a:Act}{t e n:Nat}{x y:Operand}{j:Int}{d:E.T.El t'}{A:Option Addr}{c:Nat}(aj:qo E.P t=some (e,n))(g:n=(E.T.ty t').size)(b:idx l j=some d)(h:o.op= .indexAddr t x y)
 (ad:a.eval x= .slice A l.length c)(f:(b2 (E.T.ty t')).rd F w [.slice A l.length c] l)(hy:a.eval y= .int .i64 j):∃r,mO E.P o a r/\av E.T F w ρ bl (.x t' d 0) r:=by
 have i:=b
 obtain⟨k,m⟩:=uZ aj
 obtain⟨p,ax,cs,q,s⟩:=Gu _ f b
 refine⟨_,λ w'=>rT k m h ad hy p ax,?_⟩
 simp only[av]
 obtain⟨ck,z,e1,e2,e3,e4,e5⟩:=(f:(b2 _).rd _ w _ l)
 have u:l≠[]:=by intro e;subst e;have:=(np i).2.1;simp at this
 have v:=(e5 u).2.1
 simp only[hq,Value.slice.injEq,and_true,true_and]at e1
 obtain⟨rfl,rfl⟩:=e1
 exact⟨dD A,gB A+j.toNat*(E.T.ty t').size,cs,by rw[g];simp,v,q,s⟩
theorem azd{o:Oper}{a:Act}{t:Nat}{x y:Operand}{u v z:aL E.T.El}(C:Mem E.T W M0 X bl ρ w)(h:(VT E bl t u v).out z)(K:o.op= .indexAddr t x y)
 (ad:av E.T (bi X bl ρ w) w ρ bl u (a.eval x))(hy:av E.T (bi X bl ρ w) w ρ bl v (a.eval y)):∃r,mO E.P o a r/\av E.T (bi X bl ρ w) w ρ bl z r:=by
 unfold VT at h
 split at h
 ·rename_i t' l j;split at h;rename_i e n aj;split at h;rename_i ag;obtain⟨d,b,J⟩:=h;have J:aL.x t' d 0=z:=J;subst J;simp only[av]at ad hy;obtain⟨A,c,D⟩:=mB _ ad;rw[D]at ad;exact ahE aj (bF ag) b K D ad hy;exact h.elim;exact h.elim
 ·rename_i t' l j;split at h;rename_i e n aj;split at h;rename_i ag;obtain⟨d,b,J⟩:=h;have J:aL.x t' d 0=z:=J;subst J;simp only[av]at ad hy;obtain⟨A,c,D⟩:=mB _ ad.1;have ad:=ad.1;rw[D]at ad;exact ahE aj (bF ag) b K D ad hy;exact h.elim;exact h.elim
 ·rename_i i g j;split at h;rename_i e n t' O k l aj hi;rw[dn]at hi;split at h;rename_i ag;simp only[ca]at ag;obtain⟨d,b,J⟩:=h;have J:aL.e i g k t' j d 0=z:=J;subst J;simp only[av]at ad hy;obtain⟨_,aK,f,p,s⟩:=ad;rw[hi]at p s;have F:=s (bF ag.1);obtain⟨A,c,xs,e1,e2,e3⟩:=C.ok i _ _ hi f;subst e1;obtain⟨L,P,Q⟩:=np b;obtain⟨gb,rfl⟩:=Jy e2 (by omega);obtain⟨G,H⟩:=uZ aj;have I:=bF ag.2;refine⟨_,λ w'=>rT G H K F hy rfl ⟨L,by omega⟩,?_⟩;simp only[av];refine⟨trivial,_,f,by rw[hi];exact p,λ _=>⟨⟨_,_,_,rfl,L,by omega,by simp[dD,gB,hi,kv,I]⟩,by rw[hi];exact cP _,λ _=>⟨l,by rw[hi];rfl,b⟩⟩⟩;exact h.elim
  ·rename_i e n t' sz O cs aj hi;rw[dn]at hi;split at h
   ·rename_i ag;simp only[ca,decide_eq_true_eq]at ag;obtain⟨⟨⟨⟨U,V⟩,Y⟩,M⟩,R⟩:=ag;have h:aL.w i g (j.toNat*sz)=z:=h;subst h;simp only[av]at ad hy;obtain⟨_,aK,f,p,s⟩:=ad;rw[hi]at p s;have F:=s (bF U);obtain⟨A,m,c,xs,e1,e2,e3⟩:=C.ok i _ _ hi f;subst e1;have M:=cJ M;have R:=cJ R;have S:=e3.len;have Z:=e2.len;have aQp:j.toNat<m:=by rcases fO j.toNat m with q |q;exact q;have:=jG sz q;rw[jj]at M;omega
    obtain⟨gb,rfl⟩:=Jy e2 (by omega);obtain⟨G,H⟩:=uZ aj;have I:=bF V;refine⟨_,λ w'=>rT G H K F hy rfl ⟨Y,by omega⟩,?_⟩;simp only[av];exact⟨trivial,_,f,by rw[hi];exact p,λ _=>⟨_,_,_,rfl,by omega,by simp[dD,gB,I]⟩⟩
   ·exact h.elim
  ·exact h.elim
 ·rename_i i g lo c8 j;split at h
  ·rename_i e n t' O k l aj hi;rw[dn]at hi;split at h
   ·rename_i ag;simp only[ca]at ag;obtain⟨d,b,J⟩:=h;have J:aL.e i g k t' (lo+j) d 0=z:=J;subst J;simp only[av]at ad hy;obtain⟨_,aK,f,p,s⟩:=ad;rw[hi]at p s;obtain⟨ck,fA,bI,B,b8,l0,l1,cv,F,_,bO⟩:=s (bF ag.1);obtain⟨A,c,xs,e1,e2,e3⟩:=C.ok i _ _ hi f;rw[e1]at b8 e2;simp only[Value.slice.injEq]at b8;obtain⟨rfl,rfl,rfl⟩:=b8;obtain⟨nc,N,mu⟩:=aDe l0 cv b;obtain⟨gb,rfl⟩:=Jy e2 (by omega);have v':=Sw e2;obtain⟨G,H⟩:=uZ aj;have I:=bF ag.2;rw[bO (by omega)]at F;simp only[fs,mU]at F;refine⟨_,λ w'=>rT G H K F hy rfl ⟨N,by omega⟩,?_⟩;simp only[av];refine⟨trivial,_,f,by rw[hi];exact p,λ _=>⟨⟨_,_,_,e1,by omega,by omega,?_⟩,by rw[hi];exact cP _,λ _=>⟨l,by rw[hi];rfl,nc⟩⟩⟩;rw[hi];have:(lo+j).toNat=lo.toNat+j.toNat:=by omega
    simp[dD,gB,kv,I,this,jj]
   ·exact h.elim
  ·exact h.elim
 ·rename_i i g sz ed j;split at h
  ·rename_i e n aj;split at h
   ·rename_i ag;obtain⟨q,b,J⟩:=h;have J:aL.CI i g sz q=z:=J;subst J;simp only[av]at ad hy;obtain⟨A,c,D,_,_,a6⟩:=ad;obtain⟨L,P,Q⟩:=np b;have bY:ed≠[]:=by intro e;subst e;simp at P
    obtain⟨cR,aB,xs,bj,bd⟩:=a6 bY;obtain⟨u,u1,u2⟩:=bj.at_ Q;obtain⟨G,H⟩:=uZ aj;have I:=bF ag;refine⟨_,λ w'=>rT G H K D hy cR ⟨L,by omega⟩,?_⟩;simp only[av];refine⟨dD A,gB A+j.toNat,u,by rw[I];simp,aB,u2,λ m y C=>?_⟩;cases m with
    |zero=>simp only[de,aM]at C;subst C;simpa using bd _ _ u1
    |succ m=>simp at C
   ·exact h.elim
  ·exact h.elim
 ·exact h.elim
def VW(E:Env)(bl:List (aG E.T.El))(t:Nat):aL E.T.El->D (aL E.T.El)
 | .p (.string ⟨⟨p⟩⟩)=>match mv (E.P.underlying t)with
   |some .s=>.ok (.p (.int .i64 (p.length:Int)))
   |_=>.no
 | .p (.slice _ n _)=>match mv (E.P.underlying t)with
   |some .cj=>.ok (.p (.int .i64 (n:Int)))
   |_=>.no
 | .s _ l=>match mv (E.P.underlying t)with
   |some .cj=>.ok (.p (.int .i64 (l.length:Int)))
   |_=>.no
 | .q _ l=>match mv (E.P.underlying t)with
   |some .cj=>.ok (.p (.int .i64 (l.length:Int)))
   |_=>.no
 | .pp _ _ _ l=>match mv (E.P.underlying t)with
   |some .cj=>.ok (.p (.int .i64 (l.length:Int)))
   |_=>.no
 | .r i g=>match mv (E.P.underlying t),nth bl i with
   |some .cj,some (.r _ a _ l)=>match cx g a with
    |true=>.ok (.p (.int .i64 (l.length:Int)))
    |false=>.no
   |some .cj,some (.k _ sz a cs)=>match cx g a&&eN 0 sz with
    |true=>.ok (.p (.int .i64 ((cs.length / sz:Nat):Int)))
    |false=>.no
   |_,_=>.no
 | .v i g lo hi=>match mv (E.P.underlying t)with
   |some .cj=>match cx g (v7 bl i)with
    |true=>.ok (.p (.int .i64 (hi-lo)))
    |false=>.no
   |_=>.no
 |_=>.no
theorem azh{o:Oper}{a:Act}{t:Nat}{x:Operand}{u z:aL E.T.El}(v:Mem E.T W M0 X bl ρ w)(h:(VW E bl t u).out z)(y:o.op= .call { callee:=.builtin .len,args:=#[x],argTypes:=#[t] })
 (ad:av E.T (bi X bl ρ w) w ρ bl u (a.eval x)):∃r,mO E.P o a r/\av E.T (bi X bl ρ w) w ρ bl z r:=by
 have fin:∀ {A:Option Addr}{n c:Nat},mv (E.P.underlying t)=some .cj->a.eval x= .slice A n c->(D.ok (aL.p (.int .i64 (n:Int)))).out z->∃r,mO E.P o a r/\av E.T (bi X bl ρ w) w ρ bl z r:=λ{A n c} b d h=>by
  have h:aL.p (.int .i64 (n:Int))=z:=h;subst h;obtain⟨e,F⟩:=(y2 b:pH.ok E.P t .cj)
  exact⟨_,λ w'=>aq6 F y d,by simp only[av]⟩
 unfold VW at h
 split at h
 ·rename_i p;split at h;rename_i b;have h:aL.p (.int .i64 (p.length:Int))=z:=h;subst h;simp only[av]at ad;exact⟨_,λ w'=>aq7 (y2 b) y ad,by simp only[av]⟩;exact h.elim
 ·split at h;rename_i b;simp only[av]at ad;exact fin b ad h;exact h.elim
 ·split at h;rename_i b;simp only[av]at ad;obtain⟨A,c,d⟩:=mB _ ad;exact fin b d h;exact h.elim
 ·split at h;rename_i b;simp only[av]at ad;obtain⟨A,d⟩:=ad.2;exact fin b d h;exact h.elim
 ·split at h;rename_i b;simp only[av]at ad;obtain⟨A,c,d,_⟩:=ad;exact fin b d h;exact h.elim
 ·rename_i i g;split at h;rename_i t' G k l b hi;rw[dn]at hi;split at h;rename_i ag;simp only[av]at ad;obtain⟨_,aK,q,C,f⟩:=ad;rw[hi]at f;obtain⟨A,c,xs,e1,_⟩:=v.ok i _ _ hi q;exact fin b ((f (bF ag)).trans e1) h;exact h.elim
  ·rename_i t' sz G cs b hi;rw[dn]at hi;split at h
   ·rename_i ag;simp only[ca]at ag;simp only[av]at ad;obtain⟨_,aK,q,C,f⟩:=ad;rw[hi]at f;obtain⟨A,m,c,xs,e1,e2,e3⟩:=v.ok i _ _ hi q;have j:=e3.len;have J:=e2.len;have H:=cJ ag.2;have I:cs.length / sz=m:=by rw[<-j,J];exact Nat.mul_div_cancel _ H
    rw[I]at h;exact fin b ((f (bF ag.1)).trans e1) h
   ·exact h.elim
  ·exact h.elim
 ·rename_i i g lo s;split at h;rename_i b;split at h;rename_i ag;have ag:=bF ag;rw[EX]at ag;simp only[av]at ad;obtain⟨_,aK,q,C,f⟩:=ad;obtain⟨A,m,c,B,b8,l0,l1,K,d,_⟩:=f ag;refine fin b d ?_;have h:aL.p (.int .i64 (s-lo))=z:=h;rw[<-h,show((s.toNat-lo.toNat:Nat):Int)=s-lo by omega];exact rfl;exact h.elim;exact h.elim
 ·exact h.elim
end
theorem axh{α:Type}{T:dt α}{F:Nat->Prop}{w:World}{A:Option Addr}{c:Nat}{li r:List α}{i j:Int}(h:(b2 T).rd F w [.slice A li.length c] li)(f:cut li i j=some r) :
 (b2 T).rd F w [.slice (if c=i.toNat then A else A.map (·.add (i.toNat*T.size))) (j.toNat-i.toNat) (c-i.toNat)] r/\j.toNat-i.toNat=r.length/\li.length<=c:=by
 obtain⟨⟨v,x,J⟩,rfl⟩:=Vn f
 obtain⟨y,c1,e1,e2,e3,e4,e5⟩:=h
 simp only[hq,Value.slice.injEq,and_true,true_and]at e1
 obtain⟨rfl,rfl⟩:=e1
 have a:((li.take j.toNat).drop i.toNat).length=j.toNat-i.toNat:=by rw[jB,fe];omega
 refine⟨?_,a.symm,e2⟩
 refine⟨_,c-i.toNat,by rw[a],by rw[a];omega,by omega,λ d=>?_,λ g=>?_⟩
 ·split at d;have:=e4 d;omega
  ·cases A with
   |none=>have:=e4 rfl;omega
   |some dM=>cases d
 ·have k:0<((li.take j.toNat).drop i.toNat).length:=kA.2 g;have l:li≠[]:=by intro e;subst e;simp at k
  obtain⟨m,n,xs,o,p⟩:=e5 l;have s:c≠i.toNat:=by omega
  rw[ly s,m];refine⟨?_,?_⟩;simp only[fs,mU];rfl;simp only[fs,mU];refine⟨n,_,w1 i.toNat j.toNat o,λ q u t=>?_⟩;have b:(xs.take (j.toNat*T.size))[i.toNat*T.size+q]? =some u:=by rwa [ia]at t
  rw[gK]at b;split at b;have:=p (i.toNat*T.size+q) u b;simpa[dD,gB,jE]using this;cases b
def tK{El:Nat->Type}(z:Int):Option (aL El)->Option Int
 |none=>some z
 |some (.p (.int .i64 n))=>some n
 |_=>none
def qu(n:Nat)(lo hi:Int):Option Unit:=if 0<=lo/\lo<=hi/\hi<=(n:Int)then some ()else none
theorem aou{n:Nat}{lo hi:Int}{u:Unit}(h:qu n lo hi=some u):0<=lo/\lo<=hi/\hi<=(n:Int):=by unfold qu at h;split at h;assumption;cases h
def Kd{El:Nat->Type}:Option (aL El)->Bool
 |none=>true
 |some (.p (.int .i64 (.ofNat 0)))=>true
 |_=>false
def VR(E:Env)(bl:List (aG E.T.El))(t:Nat)(u:aL E.T.El)(lo hi:Option (aL E.T.El)):D (aL E.T.El):=match u with
 | .s t' l=>match qo E.P t,tK 0 lo,tK (l.length:Int) hi with
   |some (_,n),some i,some j=>match cx n (E.T.ty t').size with
    |true=>.op (cut l i j) λ r=>.ok (.s t' r)
    |false=>.no
   |_,_,_=>.no
 | .p (.string ⟨⟨p⟩⟩)=>match mv (E.P.underlying t),tK 0 lo,tK (p.length:Int) hi with
   |some .s,some i,some j=>.op (cut p i j) λ r=>.ok (.p (cu r))
   |_,_,_=>.no
 | .r i g=>match qo E.P t,nth bl i with
   |some (_,n),some (.r t' c _ l)=>match tK 0 lo,tK (l.length:Int) hi,cx g c&&cx n (E.T.ty t').size with
    |some a,some b,true=>.op (qu l.length a b) λ _=>.ok (.v i g a b)
    |_,_,_=>.no
   |_,_=>.no
 | .v i g p q=>match qo E.P t,nth bl i with
   |some (_,n),some (.r t' c _ l)=>match tK 0 lo,tK (q-p) hi,cx g c&&cx n (E.T.ty t').size with
    |some a,some b,true=>.op (qu (q-p).toNat a b) λ _=>.ok (.v i g (p+a) (p+b))
    |_,_,_=>.no
   |_,_=>.no
 | .p (.slice none 0 0)=>match qo E.P t,Kd lo&&Kd hi with
   |some _,true=>.ok (.p (.slice none 0 0))
   |_,_=>.no
 |_=>.no
section
variable{E:Env}{W w:World}{M0:List Nat}{X:Nat->Prop}{bl:List (aG E.T.El)}{ρ:List Value}{a:Act}
def Ey(E:Env)(F:Nat->Prop)(w:World)(ρ:List Value)(bl:List (aG E.T.El))(a:Act):Option Operand->Option (aL E.T.El)->Prop
 |none,none=>True
 |some x,some y=>av E.T F w ρ bl y (a.eval x)
 |_,_=>False
theorem x7{F:Nat->Prop}{lo:Option Operand}{u:Option (aL E.T.El)}{z i:Int}(h:Ey E F w ρ bl a lo u)(ag:tK z u=some i):(lo=none/\i=z)\/∃x,lo=some x/\a.eval x= .int .i64 i:=by
 cases lo with
 |none=>
  cases u with
  |none=>simp only[tK,aM]at ag;exact .inl ⟨rfl,ag.symm⟩
  |some y=>exact h.elim
 |some x=>
  cases u with
  |none=>exact h.elim
  |some y=>right;refine⟨x,rfl,?_⟩;have h:av E.T F w ρ bl y (a.eval x):=h;unfold tK at ag;split at ag;rename_i e;cases e;rename_i n e;simp only[aM]at e ag;subst e;subst ag;simpa only[av]using h;cases ag
theorem Uf{F:Nat->Prop}{lo:Option Operand}{u:Option (aL E.T.El)}(h:Ey E F w ρ bl a lo u)(ag:Kd u=true):(lo=none/\(0 :Int)=0)\/∃x,lo=some x/\a.eval x= .int .i64 0:=by refine x7 (z:=0) (i:=0) h ?_;unfold Kd at ag;split at ag;rfl;rfl;cases ag
theorem aza{o:Oper}{t:Nat}{x:Operand}{lo hi:Option Operand}{u z:aL E.T.El}{C D:Option (aL E.T.El)}(P:Mem E.T W M0 X bl ρ w)(h:(VR E bl t u C D).out z)(F:o.op= .slice t x lo hi none)
 (ad:av E.T (bi X bl ρ w) w ρ bl u (a.eval x))(G:Ey E (bi X bl ρ w) w ρ bl a lo C)(H:Ey E (bi X bl ρ w) w ρ bl a hi D):∃r,mO E.P o a r/\av E.T (bi X bl ρ w) w ρ bl z r:=by
 unfold VR at h
 split at h
 ·rename_i t' l;split at h;rename_i e n i j aj m J;split at h;rename_i ag;obtain⟨r,f,b⟩:=h;have b:aL.s t' r=z:=b;subst b;obtain⟨v,y⟩:=uZ aj;simp only[av]at ad;obtain⟨A,c,Q⟩:=mB _ ad;rw[Q]at ad;obtain⟨U,bd,V⟩:=axh ad f;have I:=bF ag;subst I;exact⟨_,λ w'=>T7 v y F Q (x7 G m) (x7 H J) (Vn f).1 V,by simp only[av];exact U⟩;exact h.elim;exact h.elim
 ·rename_i p;split at h;rename_i i j Y m J;obtain⟨r,f,b⟩:=h;have b:aL.p (cu r)=z:=b;subst b;simp only[av]at ad;exact⟨_,λ w'=>aPg (y2 Y) F ad (x7 G m) (x7 H J) f,by simp only[av]⟩;exact h.elim
 ·rename_i i g;split at h
  ·rename_i e n t' Z k l aj d;rw[dn]at d;split at h
   ·rename_i p q m J ag;simp only[ca]at ag;obtain⟨r,f,b⟩:=h;have b:aL.v i g p q=z:=b;subst b;obtain⟨v,y⟩:=uZ aj;simp only[av]at ad;obtain⟨_,aK,K,L,M⟩:=ad;rw[d]at L M;have N:=M (bF ag.1);obtain⟨A,c,xs,e1,e2,e3⟩:=P.ok i _ _ d K;rw[e1]at N e2;obtain⟨v0,v1,O⟩:=aou f;have I:=bF ag.2;subst I;refine⟨_,λ w'=>T7 v y F N (x7 G m) (x7 H J) ⟨v0,v1,O⟩ (Sw e2),?_⟩;simp only[av];have cR:A=A.map (·.add (0*(E.T.ty t').size)):=by cases A<;>simp[Addr.add]
    refine⟨trivial,aK,K,by rw[d];exact L,λ _=>⟨A,_,c,_,e1,v0,v1,O,rfl,λ e=>?_,λ e=>?_⟩⟩;subst e;split;rfl;exact cR.symm;rw[ly (by have:=Sw e2;omega),d];rfl
   ·exact h.elim
  ·exact h.elim
 ·rename_i i g p q;split at h
  ·rename_i e n t' Z k l aj d;rw[dn]at d;split at h
   ·rename_i s r m J ag;simp only[ca]at ag;obtain⟨_,f,b⟩:=h;have b:aL.v i g (p+s) (p+r)=z:=b;subst b;obtain⟨v,y⟩:=uZ aj;simp only[av]at ad;obtain⟨_,aK,K,L,M⟩:=ad;rw[d]at L M;obtain⟨ck,fA,bI,B,b8,l0,l1,cv,N,P',bO⟩:=M (bF ag.1);obtain⟨A,c,xs,e1,e2,e3⟩:=P.ok i _ _ d K;rw[e1]at b8 e2;simp only[Value.slice.injEq]at b8;obtain⟨rfl,rfl,rfl⟩:=b8;have v':=Sw e2;obtain⟨v0,v1,O⟩:=aou f;have I:=bF ag.2;subst I;have R:=x7 H J;rw[show q-p=((q.toNat-p.toNat:Nat):Int) by omega]at R;refine⟨_,λ w'=>T7 v y F N (x7 G m) R ⟨v0,v1,by omega⟩ (by omega),?_⟩;simp only[av];have S:(p+s).toNat=p.toNat+s.toNat:=by omega
    have mr:(p+r).toNat=p.toNat+r.toNat:=by omega
    refine⟨trivial,aK,K,by rw[d];exact L,λ _=>⟨A,_,c,(if c-p.toNat=s.toNat then B else B.map (·.add (s.toNat*(E.T.ty t').size))),e1,by omega,by omega,by omega,?_,λ e=>?_,λ e=>?_⟩⟩;rw[S,mr,show p.toNat+r.toNat- (p.toNat+s.toNat)=r.toNat-s.toNat by omega,show c-p.toNat-s.toNat=c- (p.toNat+s.toNat) by omega]
    ·have BM:p=0:=by omega
     have Fs:s=0:=by omega
     subst BM;subst Fs;rw[P' rfl];split;rfl;cases A<;>simp[Addr.add]
    ·obtain⟨gb,rfl⟩:=Jy e2 (by omega);rw[ly (by omega),bO (by omega),d];simp[mU,kv,S,jj]
   ·exact h.elim
  ·exact h.elim
 ·split at h;rename_i e aj ag;have h:aL.p (.slice none 0 0)=z:=h;subst h;simp only[ca]at ag;obtain⟨v,y⟩:=uZ aj;simp only[av]at ad;exact⟨_,λ w'=>aPf v y F ad (Uf G ag.1) ((Uf H ag.2).imp (λ h=>⟨h.1,rfl⟩) id),by simp only[av]⟩;exact h.elim
 ·exact h.elim
end
def wG{cU β:Type}(K:jd cU)(d:List (cU×β))(k:cU):Option β:=@cB cU β K.dec d k
def k_{cU β:Type}(K:jd cU)(d:List (cU×β))(k:cU):Option Nat:=@rj cU β K.dec d k
def wH{cU β:Type}(K:jd cU)(d:List (cU×β))(k:cU)(v:β):List (cU×β):=@gP cU β K.dec d k v
abbrev jd.enc{cU:Type}(K:jd cU):cU->Value:=@nQ.enc cU K.dec K.uw
abbrev jd.desc{cU:Type}(K:jd cU):TypeDesc:=@nQ.desc cU K.dec K.uw
section
variable{T:bQ}{F:Nat->Prop}{w:World}{kt vt:Nat}{K:jd (T.El kt)}
theorem Wb(k:T.El kt):∀ {es:List MapEntry}{d:List (T.El kt×T.El vt)}(i:Nat),kR T F w K es d ->
 (wG K d k=none/\k_ K d k=none/\Instr.findNow K.desc (K.enc k) es i=some none)\/(∃p x v,wG K d k=some x/\k_ K d k=some p/\Ez T F w vt x v/\Instr.findNow K.desc (K.enc k) es i=some (some (i+p,v)))
 |[],[],i,_=>.inl ⟨rfl,rfl,rfl⟩
 |[],_::_,_,h=>h.elim
 |_::_,[],_,h=>h.elim
 |e::es,p::d,i,h=>by
  obtain⟨g,J,j⟩:=h;have aj:Instr.sameNow K.desc (K.enc k) e.key=some (@decide (p.1=k) (K.dec p.1 k)):=by rw[g];exact @nQ.same _ K.dec K.uw k p.1
  by_cases a:p.1=k;right;refine⟨0,p.2,e.val,?_,?_,J,?_⟩;simp only[wG,cB,lz a];simp only[k_,rj,lz a];simp only[Instr.findNow,aj,a,decide_true,jI]
  ·have e1:Instr.findNow K.desc (K.enc k) (e::es) i=Instr.findNow K.desc (K.enc k) es (i+1):=by simp only[Instr.findNow,aj,a,decide_false]
   rcases Wb k (i+1) j with⟨c,b,f⟩|⟨q,x,v,c,b,f,l⟩;left;refine⟨?_,?_,by rw[e1];exact f⟩;simp only[wG,cB,ly a];exact c;simp only[k_,rj,ly a];simp only[k_]at b;rw[b];rfl;right;refine⟨q+1,x,v,?_,?_,f,?_⟩;simp only[wG,cB,ly a];exact c;simp only[k_,rj,ly a];simp only[k_]at b;rw[b];rfl;rw[e1,l,show i+1+q=i+(q+1) by omega]
theorem kR.len:∀ {es:List MapEntry}{d:List (T.El kt×T.El vt)},kR T F w K es d->es.length=d.length
 |[],[],_=>rfl
 |[],_::_,h=>h.elim
 |_::_,[],h=>h.elim
 |_::_,_::_,h=>by simp[kR.len h.2.2]
theorem ab_{P:Program}{es:Array MapEntry}{d:List (T.El kt×T.El vt)}{t:Nat}(k:T.El kt)(c:P.underlying t=some K.desc)(e:kR T F w K es.toList d)(w':World) :
 (wG K d k=none/\k_ K d k=none/\(Instr.findKey t (K.enc k) es.toList).run P w'= .ok none w')\/(∃p x v,wG K d k=some x/\k_ K d k=some p/\Ez T F w vt x v/\(Instr.findKey t (K.enc k) es.toList).run P w'= .ok (some (p,v)) w'):=by
 rcases Wb k 0 e with⟨a,J,b⟩|⟨p,x,v,a,J,b,f⟩
 ·left;refine⟨a,J,?_⟩;simp only[Instr.findKey,Sem.run_bind,run_underlying c,Result.andThen_ok,b];rfl
 ·right;refine⟨p,x,v,a,J,b,?_⟩;simp only[Instr.findKey,Sem.run_bind,run_underlying c,Result.andThen_ok,f,ji];rfl
end
def Pq:Option TypeDesc->TypeDesc->Bool
 |some (.int k),.int k'=>o1 k k'
 |some .string,.string=>true
 |_,_=>false
theorem ago{o:Option TypeDesc}{d:TypeDesc}(h:Pq o d=true):o=some d:=by unfold Pq at h;split at h;rw[q_ h];rfl;cases h
def aeB:Value->Bool->Bool
 | .agg _,b=>b
 |_,b=>!b
def Kf(P:Program)(t:TypeId):Option Value:=match P.info? t with
 |some i=>i.zero
 |none=>none
theorem aPF{P:Program}{t:TypeId}{z:Value}(h:Kf P t=some z):∀w,(zeroValue t).run P w= .ok z w:=by unfold Kf at h;split at h;rename_i i a;intro w;simp only[zeroValue,typeInfo,Sem.run_bind];simp[go_sem,a,h];cases h
theorem ars{z:Value}{b:Bool}(h:aeB z b=true):z=Cy b z.cells.toList:=by
 unfold aeB at h;split at h;rename_i cs;subst h;obtain⟨vs⟩:=cs;rfl
 ·rename_i a;have ag:b=false:=by simpa using h
  subst ag;cases z<;>first |rfl |exact(a _ rfl).elim
def Ao(E:Env)(vt a:Nat):Option (E.T.El vt):=match Kf E.P a with
 |some z=>match aeB z (E.T.e vt).agg with
  |true=>(E.T.e vt).ix (z.cells.toList.map .p)
  |false=>none
 |none=>none
def mapOf(P:Program)(t:TypeId):Option (Nat×Nat):=match P.underlying t with
 |some (.map k e)=>some (k,e)
 |_=>none
theorem ZE{P:Program}{t k e:Nat}(h:mapOf P t=some (k,e)):P.underlying t=some (.map k e):=by unfold mapOf at h;split at h;rename_i a;simp only[aM,cI]at h;obtain⟨rfl,rfl⟩:=h;exact a;cases h
def Rg{El:Nat->Type}(bl:List (aG El)):aL El->Option (Σ a:Nat×Nat,List (El a.1×El a.2))
 | .m i=>match nth bl i with
   |some (.m kt vt d)=>some ⟨(kt,vt),d⟩
   |_=>none
 | .n kt vt d=>some ⟨(kt,vt),d⟩
 |_=>none
def IX(E:Env)(ok:Bool){kt vt:Nat}(K:jd (E.T.El kt))(d:List (E.T.El kt×E.T.El vt))(k:E.T.El kt)(z:E.T.El vt):aL E.T.El:=match ok with
 |true=>.u [E.T.val vt ((wG K d k).getD z),.p (.bool (wG K d k).isSome)]
 |false=>E.T.val vt ((wG K d k).getD z)
def VY(E:Env)(bl:List (aG E.T.El))(t:Nat)(ok:Bool)(u v:aL E.T.El):D (aL E.T.El):=match mapOf E.P t,Rg bl u with
 |some (k,e),some ⟨(kt,vt),d⟩=>match(E.T.e kt).key with
  |some K=>match Pq (E.P.underlying k) K.desc,(E.T.e kt).ix (cellsOf v),Ao E vt e,(match nq v with|true=>(E.T.e kt).agg |false=>!(E.T.e kt).agg)with
   |true,some key,some z,true=>.ok (IX E ok K d key z)
   |_,_,_,_=>.no
  |none=>.no
 |_,_=>.no
section
variable{E:Env}{W w:World}{M0:List Nat}{X:Nat->Prop}{bl:List (aG E.T.El)}{ρ:List Value}{a:Act}
def F_{El:Nat->Type}:aL El->Option Nat
 | .m i=>some i
 |_=>none
theorem ak2(g:Mem E.T W M0 X bl ρ w){u:aL E.T.El}{v:Value}{kt vt:Nat}{d:List (E.T.El kt×E.T.El vt)}(h:Rg bl u=some ⟨(kt,vt),d⟩)(b:av E.T (bi X bl ρ w) w ρ bl u v) :
 ∃r,v= .map (some r)/\AC E.T (bi X bl ρ w) w kt vt r d/\OT X bl ρ w r (F_ u):=by
 cases u<;>simp only[Rg,reduceCtorEq]at h
 ·rename_i i;split at h;rename_i e f d' hi;simp only[aM,Sigma.mk.injEq,cI]at h;obtain⟨⟨rfl,rfl⟩,h⟩:=h;have h:=eq_of_heq h;subst h;rw[dn]at hi;simp only[av]at b;obtain⟨r,c,rfl⟩:=b;obtain⟨j,e1,e2⟩:=g.ok i _ _ hi c;simp only[Value.map.injEq,aM]at e1;subst e1;exact⟨r,rfl,e2,_,_,hi,c,by simp[bD,ag]⟩;cases h
 ·rename_i e f d';simp only[aM,Sigma.mk.injEq,cI]at h;obtain⟨⟨rfl,rfl⟩,h⟩:=h;have h:=eq_of_heq h;subst h;simp only[av]at b;obtain⟨r,rfl,c,J⟩:=b;exact⟨r,rfl,J,c⟩
theorem U0{F:Nat->Prop}{u:aL E.T.El}{v:Value}{b:Bool}(y:av E.T F w ρ bl u v)(h:(match nq u with|true=>b |false=>!b)=true):v=Cy b v.cells.toList:=by
 cases B:nq u with
 |true=>rw[B]at h;have h:b=true:=h;subst h;exact Ml B y
 |false=>
  rw[B]at h;have h:b=false:=by simpa using h
  subst h;have hc:=qN y;have:v.cells.toList=[v]:=by
   cases u with
   |p u=>simp only[av]at y;subst y;cases v<;>first |rfl |(simp[nq]at B)
   |a l=>simp[nq]at B
   |b i o=>simp only[av]at y;obtain⟨g,_,rfl⟩:=y;rfl
   |x t d o=>simp only[av]at y;obtain⟨_,_,_,rfl,_⟩:=y;rfl
   |s t l=>simp only[av]at y;obtain⟨A,c,e⟩:=mB _ y;subst e;rfl
   |q t l=>simp only[av]at y;obtain⟨_,A,rfl⟩:=y;rfl
   |r i g=>simp only[av]at y;exact Pl y.1
   |v i g lo hi=>simp only[av]at y;exact Pl y.1
   |e i g k t j d o=>simp only[av]at y;exact Pk y.1
   |w i g o=>simp only[av]at y;exact Pk y.1
   |m i=>simp only[av]at y;obtain⟨g,_,rfl⟩:=y;rfl
   |n _ _ _=>simp only[av]at y;obtain⟨g,rfl,_⟩:=y;rfl
   |f fn cs=>simp only[av]at y;obtain⟨g,rfl,_⟩:=y;rfl
   |h fn us=>simp only[av]at y;obtain⟨g,rfl,_⟩:=y;rfl
   |u l=>simp only[av]at y;obtain⟨g,rfl,_⟩:=y;rfl
   |i t z=>simp only[av]at y;obtain⟨g,rfl,_⟩:=y;rfl
   |pp i g sz ed=>simp only[av]at y;obtain⟨_,_,rfl,_⟩:=y;rfl
   |CI i g sz q=>simp only[av]at y;obtain⟨_,_,_,rfl,_⟩:=y;rfl
  rw[this];rfl
theorem aot(a1:dr E){F:Nat->Prop}{vt:Nat}{x:E.T.El vt}{v:Value}(h:Ez E.T F w vt x v):av E.T F w ρ bl (E.T.val vt x) v:=by obtain⟨xs,b,rfl⟩:=h;exact a1.tb.val b
theorem val_zero(a1:dr E){F:Nat->Prop}{vt c:Nat}{z:E.T.El vt}(h:Ao E vt c=some z):∃b,(∀w,(zeroValue c).run E.P w= .ok b w)/\av E.T F w ρ bl (E.T.val vt z) b:=by unfold Ao at h;split at h;rename_i b d;split at h;rename_i J;refine⟨b,aPF d,?_⟩;have:=a1.tb.ix _ _ _ h F w ρ bl _ (uW b.cells.toList);rw[ars J];have e:=a1.tb.val (ρ:=ρ) (bl:=bl) this;exact e;cases h;cases h
theorem azj(a1:dr E)(M:Mem E.T W M0 X bl ρ w){o:Oper}{t:Nat}{ok:Bool}{x y:Operand}{u v z:aL E.T.El}(h:(VY E bl t ok u v).out z)(B:o.op= .lookup t x y ok)
 (ad:av E.T (bi X bl ρ w) w ρ bl u (a.eval x))(hy:av E.T (bi X bl ρ w) w ρ bl v (a.eval y)) :
 ∃r q,av E.T (bi X bl ρ w) w ρ bl z r/\OT X bl ρ w q (F_ u)/\∀w',w'.heap[q]? =w.heap[q]? ->bc E.P o a w' r w':=by
 unfold VY at h
 split at h
 ·rename_i k e kt vt d N J;split at h
  ·rename_i K C;split at h
   ·rename_i key z0 aK O P Q;have h:IX E ok K d key z0=z:=h;subst h;obtain⟨q,D,⟨R,E1,es,cl,S,m,m3⟩,G⟩:=ak2 M J ad;rw[C]at E1;cases E1;have H:a.eval y=K.enc key:=by have e1:=a1.tb.ix _ _ _ O _ _ _ _ _ (qN hy);have e2:=a1.tb.key _ _ C _ _ _ _ e1;exact(U0 hy Q).trans e2
    have U:=ZE N;have f:=ago aK;obtain⟨n,V,g⟩:=val_zero a1 (w:=w) (F:=bi X bl ρ w) (ρ:=ρ) (bl:=bl) P
    have i:∀w',w'.heap[q]? =w.heap[q]? ->(Instr.lookup t (.map (some q)) (K.enc key) ok).run E.P w'=(do
     let(v,s) <-match<-Instr.findKey k (K.enc key) es.toList with
      |some (_,v)=>pure (v,true)
      |none=>pure (<-zeroValue e,false)
     pure (if ok then Value.tuple #[v,.bool s]else v):Sem Value).run E.P w':=λ w' j=>by
     simp only[Instr.lookup,Sem.run_bind,Sem.run_pure,run_underlying U,Result.andThen_ok,MapKept.run_getObj_map (j.trans S),@nQ.check _ K.dec K.uw E.P w' es.isEmpty k key f]
     rfl
    rcases ab_ (vt:=vt) key f m w with⟨b,Y,_⟩|⟨p,A,l,b,Y,I,f6⟩
    ·refine⟨if ok then .tuple #[n,.bool false]else n,q,?_,G,λ w' j=>?_⟩
     ·cases ok with
      |true=>simp only[IX,b,je,kH,av,if_true];exact⟨[n,.bool false],rfl,by simp only[aZ];exact⟨_,_,rfl,g,_,_,rfl,by simp only[av],rfl⟩⟩
      |false=>simp only[IX,b,je];exact g
     ·simp only[bc,execOp,B,D,H,Sem.run_bind,i w' j];rcases ab_ (vt:=vt) key f m w' with⟨_,_,Z⟩|⟨p,A,l,c,_⟩;simp only[Z,Result.andThen_ok,Sem.run_bind,V,Sem.run_pure];rw[b]at c;cases c
    ·refine⟨if ok then .tuple #[l,.bool true]else l,q,?_,G,λ w' j=>?_⟩
     ·cases ok with
      |true=>simp only[IX,b,ij,Option.isSome_some,av,if_true];exact⟨[l,.bool true],rfl,by simp only[aZ];exact⟨_,_,rfl,aot a1 I,_,_,rfl,by simp only[av],rfl⟩⟩
      |false=>simp only[IX,b,ij];exact aot a1 I
     ·simp only[bc,execOp,B,D,H,Sem.run_bind,i w' j]
      have f5:∀w',(Instr.findKey k (K.enc key) es.toList).run E.P w'= .ok (some (p,l)) w':=by
       intro w';rcases Wb (vt:=vt) key 0 m with⟨c,_⟩|⟨wV,fu,fN,c,g2,g3,L⟩;rw[b]at c;cases c
       ·have:(Instr.findKey k (K.enc key) es.toList).run E.P w= .ok (some (wV,fN)) w:=by
         simp only[Instr.findKey,Sem.run_bind,run_underlying f,Result.andThen_ok,L,ji];rfl
        rw[f6]at this;simp only[Result.ok.injEq,aM,cI,and_true]at this;obtain⟨rfl,rfl⟩:=this;simp only[Instr.findKey,Sem.run_bind,run_underlying f,Result.andThen_ok,L,ji];rfl
      simp only[f5,Result.andThen_ok,Sem.run_bind,Sem.run_pure]
   ·exact h.elim
  ·exact h.elim
 ·exact h.elim
def VX(E:Env)(bl:List (aG E.T.El))(t:Nat)(u:aL E.T.El):D (aL E.T.El):=match mapOf E.P t,Rg bl u with
 |some _,some ⟨_,d⟩=>.ok (.p (.int .i64 (d.length:Int)))
 |_,_=>.no
theorem azg(b:Mem E.T W M0 X bl ρ w){o:Oper}{t:Nat}{x:Operand}{u z:aL E.T.El}(h:(VX E bl t u).out z)(c:o.op= .call { callee:=.builtin .len,args:=#[x],argTypes:=#[t] })
 (ad:av E.T (bi X bl ρ w) w ρ bl u (a.eval x)):∃r q,av E.T (bi X bl ρ w) w ρ bl z r/\OT X bl ρ w q (F_ u)/\∀w',w'.heap[q]? =w.heap[q]? ->bc E.P o a w' r w':=by
 unfold VX at h
 split at h
 ·rename_i n p d e J;have h:aL.p (.int .i64 (d.length:Int))=z:=h;subst h;obtain⟨q,f,⟨K,s,es,cl,g,i,v⟩,j⟩:=ak2 b J ad;have k:=ZE e;have l:es.size=d.length:=by have:=i.len;simpa using this
  refine⟨.int .i64 (d.length:Int),q,by simp only[av],j,λ w' m=>?_⟩;simp only[bc,execOp,c,resolve,invoke,gN,ea,hP,f];simp[go_sem,Builtin.len_,run_underlying k,goInt,MapKept.run_getObj_map (m.trans g),l]
 ·exact h.elim
def V1(E:Env)(t j:Nat)(u:aL E.T.El):D (aL E.T.El):=match nq u,PO E.P t j with
 |true,some (off,pY,_)=>match lay E.P pY with
  |some b=>.of (oO (cellsOf u) off b)
  |none=>.no
 |_,_=>.no
theorem azm{F:Nat->Prop}{o:Oper}{t j:Nat}{x:Operand}{u z:aL E.T.El}(h:(V1 E t j u).out z)(c:o.op= .field t x j)(ad:av E.T F w ρ bl u (a.eval x)):∃r,mO E.P o a r/\av E.T F w ρ bl z r:=by
 unfold V1 at h;split at h
 ·rename_i off pY sz k l;split at h
  ·rename_i m p;have h:=D.rn h;obtain⟨cm,f,d,e,q,s,C,G⟩:=ah0 l;have g:=Ml k ad;have hc:=qN ad;obtain⟨b,n⟩:=m;have Fo:=Mu p;subst s;subst q;cases b with
   |false=>
    simp only[oO]at h;rw[dn]at h;obtain⟨v,y,J⟩:=hc.at_ h;have A:(a.eval x).cells[f.offset]? =some v:=by rw[<-ha];exact y
    refine⟨v,λ w'=>?_,J⟩;simp only[bc,execOp,c,Instr.field,Sem.run_bind,run_underlying d,Result.andThen_ok,e];rw[g];simp[asAgg,part,Fo.1,A]
   |true=>simp only[oO]at h;split at h;rename_i ag;simp only[aM]at h;subst h;have B:=cJ ag;have i:=hc.len;refine⟨.agg ⟨((a.eval x).cells.toList.drop f.offset).take n⟩,λ w'=>?_,?_⟩;simp only[bc,execOp,c,Instr.field,Sem.run_bind,run_underlying d,Result.andThen_ok,e];rw[g];simp only[asAgg,part,Sem.run_bind,Sem.run_pure,Fo.1,Fo.2,Result.andThen_ok,if_true];congr 2;apply congrArg Value.agg;rw[<-Array.toList_inj];simp[List.extract_eq_take_drop,Nat.add_sub_cancel_left,Value.cells];simp only[av];exact⟨_,rfl,aZ.take n (aZ.drop _ hc)⟩;cases h
  ·exact h.elim
 ·exact h.elim
end
structure cA (El:Nat->Type) where
 fr:List (Nat×aL El)
 gs:List (Nat×Nat×Bool×aL El)
 ew:List (Nat×Bool)
def IV{El:Nat->Type}:List (Nat×Nat×Bool×aL El)->List (Nat×Bool)->Nat->Option (aL El)
 |[],_,_=>none
 |p::r,cur,t=>match cx p.1 t&&E6 cur p.2.1 p.2.2.1 with
  |true=>some p.2.2.2
  |false=>IV r cur t
def CL{El:Nat->Type}:List (Nat×Nat×Bool×aL El)->Nat->List (Nat×Nat×Bool×aL El)
 |[],_=>[]
 |p::r,d=>match cx p.1 d||cx p.2.1 d with
  |true=>CL r d
  |false=>p::CL r d
structure qD (T:bQ) (F:Nat->Prop) (w:World) (ρ:List Value) (bl:List (aG T.El)) (n:cE) (f:cA T.El) (a:Act):Prop where
 et:tw T F w ρ bl n f.fr a
 gs:∀p∈f.gs,a.tmps.getD p.2.1 undef= .bool p.2.2.1 ->av T F w ρ bl p.2.2.2 (a.tmps.getD p.1 undef)
 ew:∀p∈f.ew,a.tmps.getD p.1 undef= .bool p.2
section
variable{T:bQ}{F F':Nat->Prop}{w w':World}{ρ ρ':List Value}{bl bl':List (aG T.El)}{n:cE}{f:cA T.El}{a:Act}
theorem qD.later(b:∀k,F k->F' k/\w'.heap[k]? =w.heap[k]?)(c:oK T ρ ρ' bl bl')(h:qD T F w ρ bl n f a):qD T F' w' ρ' bl' n f a:=⟨h.et.later b c,λ p d ag=>(h.gs p d ag).later b c,h.ew⟩
theorem Zz(h:qD T F w ρ bl n f a){cur:List (Nat×Bool)}(hc:kX a cur):∀ {gs:List (Nat×Nat×Bool×aL T.El)}{t:Nat}{y:aL T.El},(∀p∈gs,p∈f.gs)->IV gs cur t=some y->av T F w ρ bl y (a.tmps.getD t undef)
 |[],_,_,_,J=>by simp[IV]at J
 |p::r,t,y,b,J=>by simp only[IV]at J;split at J;rename_i ag;simp only[ca,aM]at ag J;subst J;have:=h.gs p (b p (by simp)) (aiQ hc ag.2);rwa [bF ag.1]at this;exact Zz h hc (λ q c=>b q (by simp[c])) J
theorem ab5{d:Nat}{p:Nat×Nat×Bool×aL T.El}:∀ {gs:List (Nat×Nat×Bool×aL T.El)},p∈CL gs d->p∈gs/\p.1≠d/\p.2.1≠d
 |[],h=>by simp[CL]at h
 |q::r,h=>by simp only[CL]at h;split at h;obtain⟨b,J⟩:=ab5 h;exact⟨by simp[b],J⟩;rename_i ag;simp only[hY]at ag;rcases cG.1 h with rfl |h;exact⟨by simp,λ e=>by rw[e]at ag;simp at ag,λ e=>by rw[e]at ag;simp at ag⟩;obtain⟨b,J⟩:=ab5 h;exact⟨by simp[b],J⟩
theorem ab4{α:Type}{d:Nat}{p:Nat×α}:∀ {l:List (Nat×α)},p∈qm l d->p∈l/\p.1≠d
 |[],h=>by simp[qm]at h
 |q::r,h=>by simp only[qm]at h;split at h;obtain⟨b,J⟩:=ab4 h;exact⟨by simp[b],J⟩;rename_i ag;rcases cG.1 h with rfl |h;exact⟨by simp,λ e=>by rw[e]at ag;simp at ag⟩;obtain⟨b,J⟩:=ab4 h;exact⟨by simp[b],J⟩
def cA.put(f:cA T.El)(d:Nat)(y:aL T.El):cA T.El:=⟨(d,y)::qm f.fr d,CL f.gs d,qm f.ew d⟩
def cA.sN(f:cA T.El)(d j:Nat)(b:Bool)(y:aL T.El):cA T.El:=⟨qm f.fr d,(d,j,b,y)::CL f.gs d,qm f.ew d⟩
theorem qD.amo{d:Nat}{v:Value}(h:qD T F w ρ bl n f a)(aK:eN d n.n=true):(∀p∈CL f.gs d,(a.put (some d) v).tmps.getD p.2.1 undef= .bool p.2.2.1 ->av T F w ρ bl p.2.2.2 ((a.put (some d) v).tmps.getD p.1 undef))/\∀p∈qm f.ew d,(a.put (some d) v).tmps.getD p.1 undef= .bool p.2:=by
 have b:d<a.tmps.size:=by rw[h.et.size];exact cJ aK
 refine⟨λ p c ag=>?_,λ p c=>?_⟩;obtain⟨e,J,g⟩:=ab5 c;rw[Bv b,ly (Ne.symm g)]at ag;rw[Bv b,ly (Ne.symm J)];exact h.gs p e ag;obtain⟨e,J⟩:=ab4 c;rw[Bv b,ly (Ne.symm J)];exact h.ew p e
theorem qD.put{d:Nat}{y:aL T.El}{v:Value}(h:qD T F w ρ bl n f a)(aK:eN d n.n=true)(c:av T F w ρ bl y v):qD T F w ρ bl n (f.put d y) (a.put (some d) v):=by obtain⟨e,J⟩:=h.amo (v:=v) aK;refine⟨⟨(h.et.put aK c).size,(h.et.put aK c).defers,λ t z b=>(h.et.put aK c).get t z ?_⟩,e,J⟩;simp only[cA.put,cH]at b⊢;split at b;exact b;exact(Ra b).2
theorem qD.sN{d j:Nat}{b:Bool}{y:aL T.El}{v:Value}(h:qD T F w ρ bl n f a)(aK:eN d n.n=true)(i:cx j d=false)(k:a.tmps.getD j undef= .bool b->av T F w ρ bl y v):qD T F w ρ bl n (f.sN d j b y) (a.put (some d) v):=by
 obtain⟨l,J⟩:=h.amo (v:=v) aK;have g:d<a.tmps.size:=by rw[h.et.size];exact cJ aK
 have c:d≠j:=λ e=>by subst e;simp at i
 refine⟨h.et.Sv aK,λ p aC ag=>?_,J⟩;rcases cG.1 aC with rfl |aC;simp only at ag⊢;rw[Bv g,ly c]at ag;rw[Bv g,lz rfl];exact k ag;exact l p aC ag
end
def od(E:Env)(bl:List (aG E.T.El))(f:cA E.T.El)(cur:List (Nat×Bool)):Operand->Option (aL E.T.El)
 | .const v=>some (.p v)
 | .global g=>cH E.cZ g
 | .func g=>some (.f (.func g) [])
 | .tmp t=>match cH f.fr t with
   |some y=>some (nm bl y)
   |none=>match IV f.gs cur t with
    |some y=>some (nm bl y)
    |none=>match IV f.gs f.ew t with
     |some y=>some (nm bl y)
     |none=>none
def rl(E:Env)(bl:List (aG E.T.El))(f:cA E.T.El)(cur:List (Nat×Bool)):List Operand->Option (List (aL E.T.El))
 |[]=>some []
 |x::r=>match od E bl f cur x,rl E bl f cur r with
  |some y,some ys=>some (y::ys)
  |_,_=>none
def MQ(E:Env)(bl:List (aG E.T.El))(f:cA E.T.El)(cur:List (Nat×Bool)):Option Operand->Option (Option (aL E.T.El))
 |none=>some none
 |some x=>match od E bl f cur x with
  |some y=>some (some y)
  |none=>none
def I_(E:Env)(bl:List (aG E.T.El))(f:cA E.T.El)(cur:List (Nat×Bool)):List (Nat×Operand)->Option (List (Nat×aL E.T.El))
 |[]=>some []
 |(i,x)::r=>match od E bl f cur x,I_ E bl f cur r with
  |some y,some ys=>some ((i,y)::ys)
  |_,_=>none
structure R (E:Env) (W:World) (M0:List Nat) (X:Nat->Prop) (n:cE) (f:cA E.T.El) (bl:List (aG E.T.El)) (ρ:List Value) (a:Act) (w:World):Prop where
 mem:Mem E.T W M0 X bl ρ w
 dZ:qD E.T (bi X bl ρ w) w ρ bl n f a
 cZ:∀g y,cH E.cZ g=some y->av E.T (bi X bl ρ w) w ρ bl y (.pointer (some ⟨g,0,none⟩))
section
variable{E:Env}{W w w':World}{M0:List Nat}{X:Nat->Prop}{n:cE}{f:cA E.T.El}{bl bl':List (aG E.T.El)}{ρ ρ':List Value}{a:Act}{cur:List (Nat×Bool)}
theorem R.to(h:R E W M0 X n f bl ρ a w)(b:To X bl bl' ρ ρ' w w')(c:Mem E.T W M0 X bl' ρ' w'):R E W M0 X n f bl' ρ' a w':=⟨c,h.dZ.later b.F b.L,λ g y d=>b.v (h.cZ g y d)⟩
theorem R.put{d:Nat}{y:aL E.T.El}{v:Value}(h:R E W M0 X n f bl ρ a w)(aK:eN d n.n=true)(b:av E.T (bi X bl ρ w) w ρ bl y v):R E W M0 X n (f.put d y) bl ρ (a.put (some d) v) w:=⟨h.mem,h.dZ.put aK b,h.cZ⟩
theorem agj{a:Act}:∀ {l:List (Nat×Bool)},(∀p∈l,a.tmps.getD p.1 undef= .bool p.2)->kX a l
 |[],_=>trivial
 |p::r,h=>⟨h p (by simp),agj λ q b=>h q (by simp[b])⟩
theorem dB(h:R E W M0 X n f bl ρ a w)(hc:kX a cur){x:Operand}{y:aL E.T.El}(ad:od E bl f cur x=some y):av E.T (bi X bl ρ w) w ρ bl y (a.eval x):=by
 cases x with
 |const v=>simp only[od,aM]at ad;subst ad;simp only[av];rfl
 |global g=>exact h.cZ g y ad
 |func g=>simp only[od,aM]at ad;subst ad;simp only[av];exact⟨[],rfl,by simp[aZ]⟩
 |tmp t=>simp only[od]at ad;split at ad;rename_i z b;simp only[aM]at ad;subst ad;exact RH h.mem (h.dZ.et.get t z b);split at ad;rename_i z b;simp only[aM]at ad;subst ad;exact RH h.mem (Zz h.dZ hc (λ p c=>c) b);split at ad;rename_i z b;simp only[aM]at ad;subst ad;exact RH h.mem (Zz h.dZ (agj h.dZ.ew) (λ p c=>c) b);cases ad
theorem Cx(h:R E W M0 X n f bl ρ a w)(hc:kX a cur):∀ {xs:List Operand}{ys:List (aL E.T.El)},rl E bl f cur xs=some ys->aZ E.T (bi X bl ρ w) w ρ bl ys (xs.map a.eval)
 |[],ys,ad=>by simp only[rl,aM]at ad;subst ad;simp[aZ]
 |x::r,ys,ad=>by simp only[rl]at ad;split at ad;rename_i y c b J;simp only[aM]at ad;subst ad;simp only[ea,aZ];exact⟨_,_,rfl,dB h hc b,Cx h hc J⟩;cases ad
theorem alI(h:R E W M0 X n f bl ρ a w)(hc:kX a cur){x:Option Operand}{y:Option (aL E.T.El)}(ad:MQ E bl f cur x=some y):Ey E (bi X bl ρ w) w ρ bl a x y:=by
 cases x with
 |none=>simp only[MQ,aM]at ad;subst ad;trivial
 |some x=>simp only[MQ]at ad;split at ad;rename_i z b;simp only[aM]at ad;subst ad;exact dB h hc b;cases ad
theorem aad(h:R E W M0 X n f bl ρ a w)(hc:kX a cur):∀ {xs:List (Nat×Operand)}{ys:List (Nat×aL E.T.El)},I_ E bl f cur xs=some ys->tE E.T (bi X bl ρ w) w ρ bl ys (xs.map λ p=>(p.1,a.eval p.2))
 |[],ys,ad=>by simp only[I_,aM]at ad;subst ad;simp[tE]
 |(i,x)::r,ys,ad=>by simp only[I_]at ad;split at ad;rename_i y c b J;simp only[aM]at ad;subst ad;simp only[ea,tE];exact⟨_,_,rfl,dB h hc b,aad h hc J⟩;cases ad
end
def V2(E:Env)(bl:List (aG E.T.El))(f:cA E.T.El)(cur:List (Nat×Bool))(c x y:Operand):D (aL E.T.El):=
 match od E bl f cur c with
 |some (.p (.bool b))=>match E.cl,c with
  |true,_=>match b with
   |true=>.of (od E bl f cur x)
   |false=>.of (od E bl f cur y)
  |false,.tmp a=>match cH f.ew a with
   |some true=>.of (od E bl f cur x)
   |some false=>.of (od E bl f cur y)
   |none=>match od E bl f ((a,true)::cur) x,od E bl f ((a,false)::cur) y with
    |some u,some v=>aar E x y b u v
    |_,_=>.no
  |false,_=>.no
 |_=>.no
def ac0:IntKind->Int->Option Int
 | .i64,m=>some (ap m)
 | .u64,m=>some (JQ m)
 | .u8,m=>some ((jh m).toNat:Int)
 |_,_=>none
def VS(P:Program)(s d:Nat):Value->Option Value
 | .int k m=>match mv (P.underlying s),mv (P.underlying d)with
   |some (.i j),some (.i k')=>match o1 j k,ac0 k' m with
    |true,some r=>some (.int k' r)
    |_,_=>none
   |_,_=>none
 |_=>none
def Wo(E:Env)(bl:List (aG E.T.El))(t:Nat)(u:aL E.T.El)(hi a:Option (aL E.T.El)):D (aL E.T.El):=match qo E.P t,Kd hi&&Kd a with
 |some (e,n),true=>match cx n (E.T.ty e).size with
  |true=>match u with
   | .s _ _=>.ok (.q e [])
   | .q _ _=>.ok (.q e [])
   | .r i g=>match cx g (v7 bl i)with
     |true=>.ok (.q e [])
     |false=>.no
   | .p (.slice none 0 0)=>.ok (.p (.slice none 0 0))
   | .p (.slice (some _) 0 _)=>.ok (.q e [])
   |_=>.no
  |false=>.no
 |_,_=>.no
def Z9{El:Nat->Type}(bl:List (aG El)):aL El->Bool
 | .s _ (_::_)=>true
 | .q _ (_::_)=>true
 | .p (.slice (some _) _ _)=>true
 | .r i g=>match nth bl i with
   |some (.r _ a _ (_::_))=>cx g a
   |_=>false
 |_=>false
def RG{El:Nat->Type}:aL El->Bool
 | .p (.slice none _ _)=>true
 |_=>false
def V0(P:Program){El:Nat->Type}(bl:List (aG El))(t:Nat)(op:BinOp)(u v:aL El):Option Bool:=match mv (P.underlying t),RG v,Gj op true with
 |some .cj,true,some b=>match RG u with
  |true=>some b
  |false=>match Z9 bl u with
   |true=>some (!b)
   |false=>none
 |_,_,_=>none
def H6(E:Env)(bl:List (aG E.T.El))(f:cA E.T.El)(cur:List (Nat×Bool)):Op->D (aL E.T.El)
 | .move x=>.of (od E bl f cur x)
 | .assign x=>.of (od E bl f cur x)
 | .pick c x y=>V2 E bl f cur c x y
 | .binOp op t x y _=>match od E bl f cur x,od E bl f cur y with
   |some u,some v=>match V0 E.P bl t op u v with
    |some b=>.ok (.p (.bool b))
    |none=>VN E t op (Mm y) u v
   |_,_=>.no
 | .unOp .not _ x=>match od E bl f cur x with
   |some (.p (.bool p))=>.ok (.p (.bool (!p)))
   |_=>.no
 | .unOp .neg _ x=>match od E bl f cur x with
   |some (.p (.int .i64 m))=>.ok (.p (.int .i64 (ap (0-m))))
   |_=>.no
 | .convert s d x=>match od E bl f cur x with
   |some (.p u)=>match VS E.P s d u with
    |some r=>.ok (.p r)
    |none=>.no
   |_=>.no
 | .load t x=>match od E bl f cur x with
   |some p=>H5 E bl t p
   |none=>.no
 | .fieldAddr s x j=>match od E bl f cur x,PO E.P s j with
   |some p,some (off,_,_)=>match R2 (v7 bl) p with
    |true=>.of (aax p off)
    |false=>.no
   |_,_=>.no
 | .nilCheck x=>match od E bl f cur x with
   |some p=>match QP p with
    |true=>.ok p
    |false=>.no
   |none=>.no
 | .extract x i=>match od E bl f cur x with
   |some (.u l)=>.of (nth l i)
   |_=>.no
 | .makeFunc fn ⟨[]⟩ ⟨ys⟩=>match rl E bl f cur ys with
   |some us=>.ok (.f fn us)
   |none=>.no
 | .makeFunc fn ⟨xs⟩ ⟨[]⟩=>match rl E bl f cur xs with
   |some us=>.ok (.h fn us)
   |none=>.no
 | .makeInterface t x=>match od E bl f cur x,E.P.concrete t with
   |some y,true=>.ok (.i t y)
   |_,_=>.no
 | .indexAddr t x y=>match od E bl f cur x,od E bl f cur y with
   |some u,some v=>VT E bl t u v
   |_,_=>.no
 | .index t x y=>match od E bl f cur x,od E bl f cur y,mv (E.P.underlying t)with
   |some (.p (.string ⟨⟨p⟩⟩)),some (.p (.int .i64 j)),some .s=>.op (idx p j) λ b=>.ok (.p (.int .u8 (b.toNat:Int)))
   |_,_,_=>.no
 | .slice t x lo hi none=>match od E bl f cur x,MQ E bl f cur lo,MQ E bl f cur hi with
   |some u,some a,some b=>VR E bl t u a b
   |_,_,_=>.no
 | .slice t x none (some hi) (some e)=>match od E bl f cur x,od E bl f cur hi,od E bl f cur e with
   |some u,some a,some b=>Wo E bl t u (some a) (some b)
   |_,_,_=>.no
 | .lookup t x y ok=>match od E bl f cur x,od E bl f cur y with
   |some u,some v=>VY E bl t ok u v
   |_,_=>.no
 | .field t x j=>match od E bl f cur x with
   |some u=>V1 E t j u
   |none=>.no
 | .build t ⟨ps⟩=>match I_ E bl f cur ps with
   |some ys=>VO E t ys
   |none=>.no
 | .call ⟨.builtin .len,⟨[x]⟩,⟨[t]⟩⟩=>match od E bl f cur x with
   |some u=>match mapOf E.P t with
    |some _=>VX E bl t u
    |none=>VW E bl t u
   |none=>.no
 | .call ⟨.builtin .cap,⟨[x]⟩,⟨[t]⟩⟩=>match qo E.P t,od E bl f cur x with
   |some _,some (.p (.slice _ _ c))=>.ok (.p (.int .i64 (c:Int)))
   |_,_=>.no
 |_=>.no
def sD(E:Env)(bl:List (aG E.T.El))(f:cA E.T.El)(cur:List (Nat×Bool)):Op->Option (Option Nat)
 | .load _ x=>match od E bl f cur x with
   |some p=>some (Zt p)
   |none=>none
 | .lookup _ x _ _=>match od E bl f cur x with
   |some u=>some (F_ u)
   |none=>none
 | .call ⟨.builtin .len,⟨[x]⟩,⟨[t]⟩⟩=>match mapOf E.P t,od E bl f cur x with
   |some _,some u=>some (F_ u)
   |_,_=>none
 |_=>none
def A4(P:Program)(o:Oper)(a:Act)(X:Nat->Prop){El:Nat->Type}(bl:List (aG El))(ρ:List Value)(w:World)(r:Value):Option (Option Nat)->Prop
 |none=>mO P o a r
 |some i=>∃(q:Nat)(S:World->Prop),(match i with
  |none=>bi X bl ρ w q
  |some i=>∃B h,bl[i]? =some B/\ρ[i]? =some h/\q∈bD B h)/\S w/\(∀w',w'.heap[q]? =w.heap[q]? ->S w')/\∀w',S w'->bc P o a w' r w'
theorem A4.now{P:Program}{o:Oper}{a:Act}{X:Nat->Prop}{El:Nat->Type}{bl:List (aG El)}{ρ:List Value}{w:World}{r:Value}:∀ {i:Option (Option Nat)},A4 P o a X bl ρ w r i->bc P o a w r w
 |none,h=>h w
 |some _,⟨_,_,_,b,_,J⟩=>J w b
theorem qb{α:Type}{t:Nat}{y:α}:∀ {l:List (Nat×α)},cH l t=some y->(t,y)∈l
 |[],h=>by simp[cH]at h
 |p::r,h=>by simp only[cH]at h;split at h;rename_i ag;simp only[aM]at h;subst h;rw[<-bF ag];simp;exact eD _ (qb h)
section
variable{E:Env}{W w w':World}{M0:List Nat}{X:Nat->Prop}{n:cE}{f:cA E.T.El}{bl:List (aG E.T.El)}{ρ:List Value}{a:Act}{cur:List (Nat×Bool)}
theorem aq4{P:Program}{o:Oper}{A:Option Addr}{m c sz t e:Nat}{x hi b:Operand}(d:P.underlying t=some (.slice e))(aj:∀w,(Go.sizeOf e).run P w= .ok sz w)(g:o.op= .slice t x none (some hi) (some b))(ad:a.eval x= .slice A m c)(h:a.eval hi= .int .i64 0)(J:a.eval b= .int .i64 0)(w:World):bc P o a w (.slice A 0 0) w:=by have i:=aKI (P:=P) (w:=w) (A:=A) (m:=m) (c:=c) (j:=0) d aj ⟨j6 _,by omega⟩;simp only[bc,execOp,g,ad,Instr.sliceAt,Sem.run_bind,run_underlying d,Result.andThen_ok,iE,fs,h,J,i];rfl
theorem aH8{F:Nat->Prop}{t:Nat}(A:Option Addr):av E.T F w ρ bl (.q t []) (.slice A 0 0):=by simp only[av];exact⟨⟨A,0,rfl,cP _,fY _,λ _=>rfl,λ h=>absurd rfl h⟩,A,rfl⟩
theorem acn{v:Value}(h:ms v):∃A m c,v= .slice A m c:=by cases v<;>simp[ms]at h;exact⟨_,_,_,rfl⟩
theorem az2(y:Mem E.T W M0 X bl ρ w){o:Oper}{t:Nat}{x hi d:Operand}{u z g i:aL E.T.El}(h:(Wo E bl t u (some g) (some i)).out z)(j:o.op= .slice t x none (some hi) (some d))
 (ad:av E.T (bi X bl ρ w) w ρ bl u (a.eval x))(v:av E.T (bi X bl ρ w) w ρ bl g (a.eval hi))(J:av E.T (bi X bl ρ w) w ρ bl i (a.eval d)):∃r,mO E.P o a r/\av E.T (bi X bl ρ w) w ρ bl z r:=by
 unfold Wo at h
 split at h
 ·rename_i e B aj ag;simp only[ca]at ag;have l:a.eval hi= .int .i64 0:=by rcases Uf (lo:=some hi) (u:=some g) (show Ey E _ w ρ bl a (some hi) (some g) from v) ag.1 with⟨e,_⟩|⟨_,e,k⟩;cases e;cases e;exact k
  have p:a.eval d= .int .i64 0:=by rcases Uf (lo:=some d) (u:=some i) (show Ey E _ w ρ bl a (some d) (some i) from J) ag.2 with⟨e,_⟩|⟨_,e,k⟩;cases e;cases e;exact k
  obtain⟨q,s⟩:=uZ aj;have fin:∀ {A:Option Addr}{m c:Nat},a.eval x= .slice A m c->(D.ok (aL.q e ([]:List (E.T.El e)))).out z->∃r,mO E.P o a r/\av E.T (bi X bl ρ w) w ρ bl z r:=λ{A m c} b h=>by have h:aL.q e []=z:=h;subst h;exact⟨_,λ w'=>aq4 q s j b l p w',aH8 A⟩
  split at h;split at h;simp only[av]at ad;obtain⟨A,c,b⟩:=mB _ ad;exact fin b h;simp only[av]at ad;obtain⟨A,b⟩:=ad.2;exact fin b h;split at h;simp only[av]at ad;obtain⟨A,m,c,b⟩:=acn ad.1;exact fin b h;exact h.elim;have h:aL.p (.slice none 0 0)=z:=h;subst h;simp only[av]at ad;exact⟨_,λ w'=>aq4 q s j ad l p w',by simp only[av]⟩;simp only[av]at ad;exact fin ad h;exact h.elim;exact h.elim
 ·exact h.elim
theorem aMh{k:IntKind}{m r:Int}(h:ac0 k m=some r):k.wrap m=r:=by unfold ac0 at h;split at h<;>simp only[aM,reduceCtorEq]at h<;>subst h;exact zX m;rw[IntKind.wrap_u64];rfl;exact aoe m
theorem azb{P:Program}{o:Oper}{s d:Nat}{x:Operand}{u r:Value}(h:VS P s d u=some r)(b:o.op= .convert s d x)(ad:a.eval x=u):mO P o a r:=by unfold VS at h;split at h;rename_i k m;split at h;rename_i j k' c J;split at h;rename_i i e g;simp only[aM]at h;subst h;have:=q_ e;subst this;rw[<-aMh g];exact λ w=>aer (y2 c) (y2 J) b ad;cases h;cases h;cases h
theorem aDu{y:Operand}(b:Mm y=true)(k:IntKind)(n:Int)(c:a.eval y= .int k n):n≠0:=by unfold Mm at b;split at b;rename_i k' d;have:a.eval (.const (.int k' d))= .int k' d:=rfl;rw[this]at c;injection c with _ e;subst e;simpa using b;cases b
theorem azn(h:R E W M0 X n f bl ρ a w)(hc:kX a cur){o:Oper}{c x y:Operand}{z:aL E.T.El}(d:(V2 E bl f cur c x y).out z)(k:o.op= .pick c x y):∃r,mO E.P o a r/\av E.T (bi X bl ρ w) w ρ bl z r:=by
 unfold V2 at d;split at d
 ·rename_i b m;have g:=dB h hc m;simp only[av]at g;have tk:b=true->(D.of (od E bl f cur x)).out z->∃r,mO E.P o a r/\av E.T (bi X bl ρ w) w ρ bl z r:=λ ag d=>by have:=dB h hc (D.rn d);exact⟨_,λ w'=>Ua k (by rw[g,ag]) rfl,this⟩
  have i:b=false->(D.of (od E bl f cur y)).out z->∃r,mO E.P o a r/\av E.T (bi X bl ρ w) w ρ bl z r:=λ ag d=>by have:=dB h hc (D.rn d);exact⟨_,λ w'=>T' k (by rw[g,ag]) rfl,this⟩
  split at d
  ·cases b with
   |true=>exact tk rfl d
   |false=>exact i rfl d
  ·rename_i j _;split at d;rename_i l;have:=h.dZ.ew _ (qb l);have e:a.eval (.tmp j)= .bool true:=this;rw[g]at e;exact tk (by injection e) d;rename_i l;have:=h.dZ.ew _ (qb l);have e:a.eval (.tmp j)= .bool false:=this;rw[g]at e;exact i (by injection e) d;split at d;rename_i u v p q;obtain⟨r,s,J⟩:=aHx (a:=a) (x:=x) (y:=y) d (λ ag=>dB h (show kX a ((j,true)::cur) from⟨by subst ag;exact g,hc⟩) p) (λ ag=>dB h (show kX a ((j,false)::cur) from⟨by subst ag;exact g,hc⟩) q);exact⟨r,λ w'=>aPy k g s,J⟩;exact d.elim
  ·exact d.elim
 ·exact d.elim
theorem arb{P:Program}{o:Oper}{t t':TypeId}{x y:Operand}{A:Option Addr}{m c g i:Nat}{op:BinOp}{b:Bool}(k:mv (P.underlying t)=some .cj)(ag:Gj op A.isNone=some b)(j:o.op= .binOp op t x y t')(ad:a.eval x= .slice A m c)(hy:a.eval y= .slice none g i)(w:World):bc P o a w (.bool b) w:=by
 obtain⟨e,l⟩:=y2 k;have h:∀d:Nat,(Op.equalIn (d+1) t (.slice A m c) (.slice none g i)).run P w= .ok A.isNone w:=λ d=>by cases A<;>simp[Op.equalIn,run_underlying l]
 cases op<;>simp only[Gj,aM,reduceCtorEq]at ag<;>subst ag
 ·have J:(binOp .eql t (.slice A m c) (.slice none g i)).run P w= .ok (.bool A.isNone) w:=by
   simp only[binOp];simp[Op.equal,Op.maxDepth,h 9999]
  simp only[bc,execOp,j,ad,hy];simp[go_sem,J]
 ·have J:(binOp .neq t (.slice A m c) (.slice none g i)).run P w= .ok (.bool (!A.isNone)) w:=by
   simp only[binOp];simp[Op.equal,Op.maxDepth,h 9999]
  simp only[bc,execOp,j,ad,hy];simp[go_sem,J]
theorem anJ{α:Type}{T:dt α}{F:Nat->Prop}{v:Value}{d:α}{l:List α}(h:(b2 T).rd F w [v] (d::l)):∃g m c,v= .slice (some g) m c:=by obtain⟨A,c,e,_,_,_,J⟩:=h;simp only[hq,and_true]at e;subst e;rw[(J (by simp)).1];exact⟨_,_,_,rfl⟩
theorem aGZ(i:Mem E.T W M0 X bl ρ w){u:aL E.T.El}{v:Value}(h:Z9 bl u=true)(b:av E.T (bi X bl ρ w) w ρ bl u v):∃g m c,v= .slice (some g) m c:=by unfold Z9 at h;split at h;simp only[av]at b;exact anJ b;simp only[av]at b;exact anJ b.1;simp only[av]at b;exact⟨_,_,_,b⟩;split at h;rename_i t' o k d l hi;rw[dn]at hi;simp only[av]at b;obtain⟨_,aK,j,p,e⟩:=b;rw[hi]at e;obtain⟨A,c,xs,e1,e2,e3⟩:=i.ok _ _ _ hi j;rw[e (bF h),e1];rw[e1]at e2;obtain⟨g,rfl⟩:=Jy e2 (by simp);exact⟨_,_,_,rfl⟩;cases h;cases h
theorem als{F:Nat->Prop}{u:aL E.T.El}{v:Value}(h:RG u=true)(b:av E.T F w ρ bl u v):∃m c,v= .slice none m c:=by unfold RG at h;split at h;simp only[av]at b;exact⟨_,_,b⟩;cases h
theorem azl(k:Mem E.T W M0 X bl ρ w){t:Nat}{op:BinOp}{u v:aL E.T.El}{o:Oper}{x y:Operand}{t':TypeId}{b:Bool}(h:V0 E.P bl t op u v=some b)(i:o.op= .binOp op t x y t')(ad:av E.T (bi X bl ρ w) w ρ bl u (a.eval x))(hy:av E.T (bi X bl ρ w) w ρ bl v (a.eval y)):mO E.P o a (.bool b):=by unfold V0 at h;split at h;rename_i b0 j J d;obtain⟨l,p,Bl⟩:=als J hy;split at h;rename_i e;simp only[aM]at h;subst h;obtain⟨m,c,ex⟩:=als e ad;exact λ w'=>arb (A:=none) j d i ex Bl w';split at h;rename_i e;simp only[aM]at h;subst h;obtain⟨g,m,c,ex⟩:=aGZ k e ad;refine λ w'=>arb (A:=some g) j ?_ i ex Bl w';cases op<;>simp only[Gj,aM,reduceCtorEq]at d⊢ <;>subst d<;>rfl;cases h;cases h
theorem ahL(a1:dr E)(h:R E W M0 X n f bl ρ a w)(hc:kX a cur){o:Oper}{op:Op}(k:o.op=op){z:aL E.T.El}(d:(H6 E bl f cur op).out z):∃r,av E.T (bi X bl ρ w) w ρ bl z r/\A4 E.P o a X bl ρ w r (sD E bl f cur op):=by
 have s:(∃r,mO E.P o a r/\av E.T (bi X bl ρ w) w ρ bl z r)->∃r,av E.T (bi X bl ρ w) w ρ bl z r/\A4 E.P o a X bl ρ w r none:=λ⟨r,i,J⟩=>⟨r,J,i⟩
 unfold H6 at d;split at d;exact s ⟨_,λ w'=>xF k rfl,dB h hc (D.rn d)⟩;exact s ⟨_,λ w'=>Al k rfl,dB h hc (D.rn d)⟩;exact s (azn h hc d k);split at d;rename_i u v i J;split at d;rename_i b ag;have d:aL.p (.bool b)=z:=d;subst d;exact s ⟨_,azl h.mem ag k (dB h hc i) (dB h hc J),by simp only[av]⟩;exact s (ay8 a1 d k (λ F=>aDu F) (dB h hc i) (dB h hc J));exact d.elim;split at d;rename_i p i;have d:aL.p (.bool (!p))=z:=d;subst d;have:=dB h hc i;simp only[av]at this;exact s ⟨_,λ w'=>aq_ k this,by simp only[av]⟩;exact d.elim;split at d;rename_i m i;have d:aL.p (.int .i64 (ap (0-m)))=z:=d;subst d;have:=dB h hc i;simp only[av]at this;exact s ⟨_,λ w'=>aPw k this,by simp only[av]⟩;exact d.elim;split at d;rename_i u i;split at d;rename_i r J;have d:aL.p r=z:=d;subst d;have:=dB h hc i;simp only[av]at this;exact s ⟨_,azb J k this,by simp only[av]⟩;exact d.elim;exact d.elim;rename_i t x;split at d;rename_i p i;obtain⟨dM,us,v,G,B,I,M,K⟩:=azi a1.tb h.mem (dB h hc i) d;refine⟨v,B,?_⟩;simp only[sD,i,A4];refine⟨dM.block,λ w'=>fF w' dM us,?_,I,λ w' C=>I.law C,λ w' C=>M o a x w' k G C⟩;revert K;cases Zt p<;>exact λ h=>h;exact d.elim;split at d;rename_i p off pY sz i J;split at d;rename_i L;obtain⟨g,q,e1,e2⟩:=aHJ L (D.rn d) (dB h hc i);obtain⟨cm,P,G,B,I,M,K,O⟩:=ah0 J;subst I;exact s ⟨_,λ w'=>T9 G B K O k e1,e2⟩;exact d.elim;exact d.elim;split at d;rename_i p i;split at d;rename_i L;have d:p=z:=d;subst d;have:=dB h hc i;obtain⟨q,e⟩:=ajY L this;exact s ⟨_,λ w'=>Ov k e,by rw[<-e];exact this⟩;exact d.elim;exact d.elim;split at d;rename_i l i;have:=dB h hc i;simp only[av]at this;obtain⟨vs,e1,e2⟩:=this;have hi:=D.rn d;rw[dn]at hi;obtain⟨v,e3,e4⟩:=e2.at_ hi;exact s ⟨v,λ w'=>Ou (vs:=vs) k e1 e3,e4⟩;exact d.elim;split at d;rename_i us i;have d:aL.f _ us=z:=d;subst d;have:=Cx h hc i;refine s ⟨_,λ w'=>?_,by simp only[av];exact⟨_,rfl,this⟩⟩;simp only[bc,execOp,k,Instr.makeFunc];simp only[gN,hP];rfl;exact d.elim;split at d;rename_i us i;have d:aL.h _ us=z:=d;subst d;have:=Cx h hc i;refine s ⟨_,λ w'=>?_,by simp only[av];exact⟨_,rfl,this⟩⟩;simp only[bc,execOp,k,Instr.makeFunc];simp only[gN,hP];rfl;exact d.elim;split at d;rename_i y i J;have d:aL.i _ y=z:=d;subst d;exact s ⟨_,λ w'=>aPl J k rfl,by simp only[av];exact⟨_,rfl,dB h hc i⟩⟩;exact d.elim;split at d;rename_i u v i J;exact s (azd h.mem d k (dB h hc i) (dB h hc J));exact d.elim;split at d;rename_i p j i J H;obtain⟨b,G,B⟩:=d;have B:aL.p (.int .u8 (b.toNat:Int))=z:=B;subst B;have e1:=dB h hc i;have e2:=dB h hc J;simp only[av]at e1 e2;exact s ⟨_,λ w'=>aPn (y2 H) k e1 e2 G,by simp only[av]⟩;exact d.elim;split at d;rename_i u lo hi i J H;exact s (aza h.mem d k (dB h hc i) (alI h hc J) (alI h hc H));exact d.elim;split at d;rename_i u lo hi i J H;exact s (az2 h.mem d k (dB h hc i) (dB h hc J) (dB h hc H));exact d.elim;split at d;rename_i u v i J;obtain⟨r,q,e1,e2,e3⟩:=azj a1 h.mem d k (dB h hc i) (dB h hc J);refine⟨r,e1,?_⟩;simp only[sD,i,A4];refine⟨q,λ w'=>w'.heap[q]? =w.heap[q]?,?_,rfl,λ w' C=>C,e3⟩;revert e2;cases F_ u<;>exact λ h=>h;exact d.elim;split at d;rename_i u i;exact s (azm d k (dB h hc i));exact d.elim;split at d;rename_i ys i;obtain⟨v,e1,e2⟩:=ay9 (aad h hc i) d;exact s ⟨v,λ w'=>e2 o a _ w' k rfl,e1⟩;exact d.elim;split at d;rename_i x t _ u i;split at d;rename_i Q F;obtain⟨r,q,e1,e2,e3⟩:=azg h.mem d k (dB h hc i);refine⟨r,e1,?_⟩;simp only[sD,F,i,A4];refine⟨q,λ w'=>w'.heap[q]? =w.heap[q]?,?_,rfl,λ w' C=>C,e3⟩;revert e2;cases F_ u<;>exact λ h=>h;rename_i F;have:=s (azh h.mem d k (dB h hc i));simpa only[sD,F]using this;exact d.elim;split at d;rename_i e A m c aj i;have d:aL.p (.int .i64 (c:Int))=z:=d;subst d;have N:=dB h hc i;simp only[av]at N;exact s ⟨_,λ w'=>aPe (uZ (e:=e.1) (n:=e.2) aj).1 k N,by simp only[av]⟩;exact d.elim;exact d.elim
end
structure eG (El:Nat->Type) where
 y:Option (aL El)
 bl:List (aG El)
 ws:List Nat
section
variable{T:bQ}{W w w':World}{M0:List Nat}{X:Nat->Prop}{bl:List (aG T.El)}{ρ:List Value}
theorem Mem.alF(a:Mem T W M0 X bl ρ w){k:Nat}(h:r0 bl ρ k): ¬X k:=λ ad=>by have b:=a.iT k ad;rcases(a.lt k h).2 with e |e;exact b.2 e;omega
theorem JC{α:Type}{l:List α}{i:Nat}{x:α}(h:l[i]? =some x):l.set i x=l:=by obtain⟨a,J⟩:=ba.1 h;rw[<-J,kW]
theorem Mem.freeze(a:Mem T W M0 X bl ρ w){i t g k:Nat}{l:List (T.El t)}(hi:bl[i]? =some (.r t g k l)):Mem T W M0 X (bl.set i (.z t g k l)) ρ w/\To X bl (bl.set i (.z t g k l)) ρ ρ w w:=by
 obtain⟨h,b⟩:=a.ux hi;have d:=a.Gw (B':=aG.z t g k l) (h':=h) (w':=w) hi b (a_.refl _ _) (λ q f=>by simp[bD]at f) ⟨λ _=>rfl,cP _,λ _=>⟨rfl,rfl,cP _,λ _=>rfl⟩⟩;have m:=a.df (B':=aG.z t g k l) (h':=h) (w':=w) hi b (a_.refl _ _) (λ q f=>by simp[bD]at f) d (by
  obtain⟨A,c,xs,rfl,J,s⟩:=a.ok i _ _ hi b;obtain⟨c1,c2,c3,c4⟩:=J.cap;refine⟨A,c,rfl,c1,c2,c3,λ u=>?_⟩;have v:0<l.length:=kA.2 u;obtain⟨gb,rfl,x,hc,n⟩:=w3 v J;refine⟨rfl,?_,xs,qk _ d.F s,by simpa[dD,gB]using hc⟩;have o:r0 bl ρ gb:=⟨i,_,_,hi,b,by simp only[bD];rw[n];simp⟩
  refine⟨by simpa[dD]using a.alF o,?_,by simpa[dD]using(a.lt gb o).1⟩;rintro⟨j,B,g',ax,p,r⟩;by_cases e:j=i;subst e;rw[fE (ba.1 hi).1]at ax;cases ax;simp[bD]at r
  ·rw[iQ (Ne.symm e)]at ax;rw[iQ (Ne.symm e)]at p
   exact a.bC i j _ _ _ _ hi b ax p (Ne.symm e) gb (by simp only[bD];rw[n];simp) (by simpa[dD]using r))
 rw[JC b]at m d;exact⟨m,d⟩
end
def hf{El:Nat->Type}(bl:List (aG El)):aL El->List (aG El)×aL El
 | .r i g=>match nth bl i with
   |some (.r t a k l)=>match cx g a with
    |true=>(bl.set i (.z t a k l),.s t l)
    |false=>(bl,.r i g)
   |some (.z t a _ l)=>match cx g a with
    |true=>(bl,.s t l)
    |false=>(bl,.r i g)
   |_=>(bl,.r i g)
 | .q t l=>(bl,.s t l)
 |y=>(bl,y)
def pW{El:Nat->Type}:List (aG El)->List (aL El)->List (aG El)×List (aL El)
 |bl,[]=>(bl,[])
 |bl,y::r=>match hf bl y with
  |(bl',fl)=>match pW bl' r with
   |(a,b)=>(a,fl::b)
section
variable{T:bQ}{W w w':World}{M0:List Nat}{X:Nat->Prop}{bl:List (aG T.El)}{ρ:List Value}
theorem ah8(b:Mem T W M0 X bl ρ w){y fl:aL T.El}{bl':List (aG T.El)}{v:Value}(h:hf bl y=(bl',fl))(a:av T (bi X bl ρ w) w ρ bl y v):Mem T W M0 X bl' ρ w/\To X bl bl' ρ ρ w w/\av T (bi X bl' ρ w) w ρ bl' fl v:=by
 have same:∀ {u:aL T.El},(bl,u)=(bl',fl)->av T (bi X bl ρ w) w ρ bl u v->Mem T W M0 X bl' ρ w/\To X bl bl' ρ ρ w w/\av T (bi X bl' ρ w) w ρ bl' fl v:=λ{u} h f=>by simp only[cI]at h;obtain⟨rfl,rfl⟩:=h;exact⟨b,.refl,f⟩
 unfold hf at h;split at h;rename_i i g;split at h;rename_i t j k l hi;rw[dn]at hi;split at h;rename_i ag;have ag:=bF ag;subst ag;simp only[cI]at h;obtain⟨rfl,rfl⟩:=h;obtain⟨c,J⟩:=b.freeze hi;refine⟨c,J,?_⟩;have ev:=J.v a;simp only[av]at ev⊢;obtain⟨_,aK,m,n,d⟩:=ev;have e:(bl.set i (aG.z t g k l))[i]? =some (aG.z t g k l):=fE (ba.1 hi).1;rw[e]at d;rw[d rfl];exact c.ok i _ _ e m;exact same h a;rename_i t j k l hi;rw[dn]at hi;split at h;rename_i ag;refine same h ?_;have:=RH b a;simp only[nm,dn,hi,ag]at this;exact this;exact same h a;exact same h a;refine same h ?_;simp only[av]at a⊢;exact a.1;exact same h a
theorem PW:∀ {ys a:List (aL T.El)}{bl bl':List (aG T.El)}{vs:List Value},Mem T W M0 X bl ρ w->pW bl ys=(bl',a)->aZ T (bi X bl ρ w) w ρ bl ys vs->Mem T W M0 X bl' ρ w/\To X bl bl' ρ ρ w w/\aZ T (bi X bl' ρ w) w ρ bl' a vs
 |[],a,bl,bl',vs,c,h,b=>by simp only[pW,cI]at h;obtain⟨rfl,rfl⟩:=h;exact⟨c,.refl,b⟩
 |y::r,a,bl,bl',vs,c,h,b=>by
  simp only[aZ]at b;obtain⟨u,us,rfl,g,i⟩:=b;simp only[pW]at h;cases d:hf bl y with
  |mk j n=>
   rw[d]at h;cases J:pW j r with
   |mk o p=>rw[J]at h;simp only[cI]at h;obtain⟨rfl,rfl⟩:=h;obtain⟨k,e,v1⟩:=ah8 c d g;obtain⟨l,f,m⟩:=PW k J (e.vs i);refine⟨l,e.trans f,?_⟩;simp only[aZ];exact⟨u,us,rfl,f.v v1,m⟩
end
section
variable{E:Env}{W w w':World}{M0:List Nat}{X:Nat->Prop}{n:cE}{f:cA E.T.El}{bl:List (aG E.T.El)}{ρ:List Value}{a:Act}{cur:List (Nat×Bool)}
def h2(E:Env)(o:Oper)(a:Act)(W:World)(M0:List Nat)(X:Nat->Prop)(bl:List (aG E.T.El))(ρ:List Value)(w:World)(e:eG E.T.El):Prop:=
 ∃w' ρ',Mem E.T W M0 X e.bl ρ' w'/\To X bl e.bl ρ ρ' w w'/\(∀k,k<w.heap.size->(∀i∈e.ws,∀B h,bl[i]? =some B->ρ[i]? =some h->k∉bD B h)->w'.heap[k]? =w.heap[k]?)/\
  match e.y with
  |some y=>∃v,bc E.P o a w v w'/\av E.T (bi X e.bl ρ' w') w' ρ' e.bl y v
  |none=>tH E.P o a w w'
theorem aln(c:Mem E.T W M0 X bl ρ w){o:Oper}{t:Nat}{cs:List (aL E.T.El)}{vs:List Value}(i:aZ E.T (bi X bl ρ w) w ρ bl cs vs)(hy:bc E.P o a w (.pointer (some ⟨w.heap.size,0,none⟩)) (w.alloc (.cells ⟨vs⟩ t))) :
 h2 E o a W M0 X bl ρ w ⟨some (.b bl.length 0),bl++[.c t cs],[]⟩:=by
 have d:a_ [] w (w.alloc (.cells ⟨vs⟩ t)):=a_.alloc _ _ _
 have e:∀k∈bD (aG.c t cs) (.pointer (some ⟨w.heap.size,0,none⟩)),w.heap.size<=k/\k<(w.alloc (.cells ⟨vs⟩ t)).heap.size:=λ k b=>by simp only[bD,ag,dm]at b;subst b;simp
 have g:=c.C0 (B:=aG.c t cs) (h:=.pointer (some ⟨w.heap.size,0,none⟩)) d e
 refine⟨_,ρ++[.pointer (some ⟨w.heap.size,0,none⟩)],c.push d e ⟨_,vs,rfl,heap_alloc_new w _,g.vs i⟩,g,λ k b _=>d.block k b (by simp),_,hy,?_⟩
 simp only[av]
 exact⟨_,by rw[<-c.len];simp,rfl⟩
theorem aGy(c:Mem E.T W M0 X bl ρ w){o:Oper}{kt vt:Nat}{K:jd (E.T.El kt)}(g:(E.T.e kt).key=some K)(hy:bc E.P o a w (.map (some w.heap.size)) (w.alloc (.map #[] 0))) :
 h2 E o a W M0 X bl ρ w ⟨some (.m bl.length),bl++[.m kt vt []],[]⟩:=by
 have d:a_ [] w (w.alloc (.map #[] 0)):=a_.alloc _ _ _
 have e:∀k∈bD (aG.m kt vt ([]:List (E.T.El kt×E.T.El vt))) (.map (some w.heap.size)),w.heap.size<=k/\k<(w.alloc (.map #[] 0)).heap.size:=λ k b=>by simp only[bD,ag,dm]at b;subst b;simp
 have i:=c.C0 (B:=aG.m kt vt ([]:List (E.T.El kt×E.T.El vt))) (h:=.map (some w.heap.size)) d e
 refine⟨_,ρ++[.map (some w.heap.size)],c.push d e ⟨_,rfl,K,g,#[],0,heap_alloc_new w _,trivial,by simp,by simp⟩,i,λ k b _=>d.block k b (by simp),_,hy,?_⟩
 simp only[av]
 exact⟨_,by rw[<-c.len];simp,rfl⟩
def RP{El:Nat->Type}:aL El->Bool
 | .a _=>false
 | .u _=>false
 | .p v=>v.oneCell'
 |_=>true
theorem aHf{F:Nat->Prop}{y:aL E.T.El}{v:Value}(h:RP y=true)(B:av E.T F w ρ bl y v):v.oneCell'=true:=by
 cases y with
 |p u=>simp only[av]at B;subst B;exact h
 |a l=>simp[RP]at h
 |b i o=>simp only[av]at B;obtain⟨g,_,rfl⟩:=B;rfl
 |x t d o=>simp only[av]at B;obtain⟨_,_,_,rfl,_⟩:=B;rfl
 |s t l=>simp only[av]at B;obtain⟨A,c,e⟩:=mB _ B;subst e;rfl
 |q t l=>simp only[av]at B;obtain⟨_,A,rfl⟩:=B;rfl
 |r i g=>simp only[av]at B;obtain⟨A,m,c,rfl⟩:=acn B.1;rfl
 |v i g lo hi=>simp only[av]at B;obtain⟨A,m,c,rfl⟩:=acn B.1;rfl
 |e i g k t j d o=>simp only[av]at B;have:=B.1;cases v<;>simp[y0]at this;rfl
 |w i g o=>simp only[av]at B;have:=B.1;cases v<;>simp[y0]at this;rfl
 |m i=>simp only[av]at B;obtain⟨g,_,rfl⟩:=B;rfl
 |n _ _ _=>simp only[av]at B;obtain⟨g,rfl,_⟩:=B;rfl
 |f fn cs=>simp only[av]at B;obtain⟨g,rfl,_⟩:=B;rfl
 |h fn us=>simp only[av]at B;obtain⟨g,rfl,_⟩:=B;rfl
 |u l=>simp[RP]at h
 |i t z=>simp only[av]at B;obtain⟨g,rfl,_⟩:=B;rfl
 |pp i g sz ed=>simp only[av]at B;obtain⟨_,_,rfl,_⟩:=B;rfl
 |CI i g sz q=>simp only[av]at B;obtain⟨_,_,_,rfl,_⟩:=B;rfl
def zE{El:Nat->Type}:List (aL El)->Bool
 |[]=>true
 |y::r=>RP y&&zE r
theorem MS{F:Nat->Prop}:∀ {ys:List (aL E.T.El)}{vs:List Value},zE ys=true->aZ E.T F w ρ bl ys vs->vs.all (·.oneCell')=true
 |[],vs,_,b=>by simp only[aZ]at b;subst b;rfl
 |y::r,vs,h,b=>by simp only[aZ]at b;obtain⟨u,us,rfl,c,J⟩:=b;simp only[zE,ca]at h;simp only[List.all_cons,ca];exact⟨aHf h.1 c,MS h.2 J⟩
theorem Q7:∀(l:List Value)(n:Nat)(cs:List Value),aw.lay l n cs=gA l n cs
 |l,0,cs=>by cases l<;>rfl
 |[],n+1,cs=>rfl
 |u::l,n+1,cs=>by simp only[aw.lay,gA,Q7 l n cs]
def SU{El:Nat->Type}(bl:List (aG El))(i:Nat):Bool:=match nth bl i with
 |some (.r _ _ _ _)=>true
 |_=>false
def V3(E:Env)(bl:List (aG E.T.El))(t:Nat)(p y:aL E.T.El):D (eG E.T.El):=match lay E.P t,zE (cellsOf y)with
 |some (_,sz),true=>match cx (cellsOf y).length sz with
  |true=>match p with
   | .b i o=>match nth bl i with
     |some (.c ty cs)=>match iI (o+(cellsOf y).length) cs.length with
      |true=>.ok ⟨none,bl.set i (.c ty (gA cs o (cellsOf y))),[i]⟩
      |false=>.no
     |_=>.no
   | .e i g k t' j d o=>match nth bl i with
     |some (.r b c e l)=>match cx g c,cx k e with
      |true,true=>match pW bl (gA ((E.T.e t').cs d) o (cellsOf y)),kr t' b,iI (o+(cellsOf y).length) ((E.T.e t').cs d).length with
       |(bl',cs),.isTrue h,true=>match(E.T.e t').ix cs,SU bl' i with
        |some d',true=>.ok ⟨none,bl'.set i (.r b c (e+1) (l.set j.toNat (h▸d'))),[i]⟩
        |_,_=>.no
       |_,_,_=>.no
      |true,false=>.op (idx l j) λ d=>match pW bl (gA ((E.T.e b).cs d) o (cellsOf y)),iI (o+(cellsOf y).length) ((E.T.e b).cs d).length with
       |(bl',cs),true=>match(E.T.e b).ix cs,SU bl' i with
        |some d',true=>.ok ⟨none,bl'.set i (.r b c (e+1) (l.set j.toNat d')),[i]⟩
        |_,_=>.no
       |_,_=>.no
      |_,_=>.no
     |_=>.no
   | .w i g o=>match nth bl i with
     |some (.k b m c cs)=>match cx g c&&iI (o+(cellsOf y).length) cs.length with
      |true=>.ok ⟨none,bl.set i (.k b m c (gA cs o (cellsOf y))),[i]⟩
      |false=>.no
     |_=>.no
   |_=>.no
  |false=>.no
 |_,_=>.no
theorem ang{o:Oper}{t g c m sz n q tb:Nat}{x y:Operand}{v:Value}{xs vs:List Value}(h:v.cells=vs.toArray)(aj:∀w,(Go.sizeOf t).run E.P w= .ok sz w)(i:cx vs.length sz=true)(j:vs.all (·.oneCell')=true)
 (k:0<n)(e:rowIs w tb m (.slice (some ⟨g,0,none⟩) n c) n xs)(b:q+vs.length<=xs.length)(l:o.op= .store t x y)(ad:a.eval x= .pointer (some ⟨g,q,none⟩))(hy:a.eval y=v) :
 ∃w',tH E.P o a w w'/\a_ [g] w w'/\rowIs w' tb m (.slice (some ⟨g,0,none⟩) n c) n (gA xs q vs):=by
 have d:=e.len
 have e:=e.own k
 rcases e.2 with⟨_,A⟩|⟨g',cap,cur,e1,e2,e3,e4,e5,e6,e7⟩
 ·omega
 ·simp only[Value.slice.injEq,aM,Addr.mk.injEq,and_true,true_and]at e1;obtain⟨rfl,rfl⟩:=e1;have p:xs.length<=cur.toList.length:=by rw[<-e7,fe];omega
  obtain⟨w',r,s,u⟩:=aes (tb:=tb) (cs:=cur.toList) h aj i j (by simpa using fR b (by simpa using p)) (show(a8.cd g tb cur.toList).ok w by simpa[a8.cd]using e3) l ad hy;refine⟨w',r,s,.inl ⟨by rw[Zr b,d],.inr ⟨g,c,⟨aw.lay cur.toList q vs⟩,rfl,e2,u,e4,e5,?_,?_⟩⟩⟩;rw[Q7];simp only[List.size_toArray];rw[Zr (by omega)];simpa using e6
  ·rw[Q7];simp only;subst e7;rw[zj _ _ _ (by omega),zj _ _ _ b];have z:n*m<=cur.toList.length:=by have:=e6;have B:n*m<=c*m:=jG m e4;simp;omega
   exact acu (by rw[d]at b;exact b) z
theorem akY{j n sz o k:Nat}(h:j<n)(J:o+k<=sz):j*sz+o+k<=n*sz:=by have:(j+1)*sz<=n*sz:=jG sz h;rw[jj]at this;omega
end
section
variable{E:Env}{W w w':World}{M0:List Nat}{X:Nat->Prop}{n:cE}{f:cA E.T.El}{bl:List (aG E.T.El)}{ρ:List Value}{a:Act}{cur:List (Nat×Bool)}
theorem QJ(g:Mem E.T W M0 X bl ρ w){o:Oper}{i:Nat}{B B':aG E.T.El}{h:Value}(hi:bl[i]? =some B)(c:ρ[i]? =some h)(d:a_ (bD B h) w w')(p:bD B' h=bD B h)
 (j:b1 (some B')=b1 (some B)/\kv E.T (some B')=kv E.T (some B)/\hU (some B)<=hU (some B')/\(hU (some B')=hU (some B)->ku (some B')=ku (some B)))(hy:tH E.P o a w w')
 (bO:To X bl (bl.set i B') ρ ρ w w'->kb E.T (bi X (bl.set i B') ρ w') w' ρ (bl.set i B') B' h):h2 E o a W M0 X bl ρ w ⟨none,bl.set i B',[i]⟩:=by
 have l:∀k∈bD B' h,k∈bD B h\/(w.heap.size<=k/\k<w'.heap.size):=λ k e=>.inl (p▸e)
 have b:=g.Gw (B':=B') (h':=h) hi c d l ⟨λ _=>rfl,by rw[j.1];exact cP _,λ _=>⟨rfl,j.2⟩⟩
 have aj:=JC c
 have m:=g.df (B':=B') (h':=h) hi c d l b (by rw[aj]at b⊢;exact bO b)
 rw[aj]at m b
 exact⟨w',ρ,m,b,λ k e q=>d.block k e (q i (by simp) B h hi c),hy⟩
theorem h2.first{o:Oper}{bl':List (aG E.T.El)}{e:eG E.T.El}(c:To X bl bl' ρ ρ w w)(d:∀i∈e.ws,∀B' h k,bl'[i]? =some B'->ρ[i]? =some h->k∈bD B' h->∃B,bl[i]? =some B/\k∈bD B h)(h:h2 E o a W M0 X bl' ρ w e):h2 E o a W M0 X bl ρ w e:=by obtain⟨w',ρ',j,J,l,m⟩:=h;refine⟨w',ρ',j,c.trans J,λ k p q=>l k p λ i hi B' g ag b ad=>?_,m⟩;obtain⟨B,r,s⟩:=d i hi B' g k ag b ad;exact q i hi B g r b s
theorem azW{bl bl':List (aG E.T.El)}{y fl:aL E.T.El}(h:hf bl y=(bl',fl))(i:Nat):bl'[i]? =bl[i]? \/∃t g k l,bl[i]? =some (.r t g k l)/\bl'[i]? =some (.z t g k l):=by
 unfold hf at h;split at h
 ·rename_i j g;split at h;rename_i t b k l ax;rw[dn]at ax;split at h;simp only[cI]at h;obtain⟨rfl,_⟩:=h;by_cases e:i=j;subst e;exact .inr ⟨t,b,k,l,ax,fE (ba.1 ax).1⟩;exact .inl (iQ (Ne.symm e));simp only[cI]at h;exact .inl (by rw[h.1]);split at h<;>(simp only[cI]at h;exact .inl (by rw[h.1]))
  ·simp only[cI]at h;exact .inl (by rw[h.1])
 ·simp only[cI]at h;exact .inl (by rw[h.1])
 ·simp only[cI]at h;exact .inl (by rw[h.1])
theorem PV:∀ {ys b:List (aL E.T.El)}{bl bl':List (aG E.T.El)},pW bl ys=(bl',b)->∀i:Nat,bl'[i]? =bl[i]? \/∃t g k l,bl[i]? =some (.r t g k l)/\bl'[i]? =some (.z t g k l)
 |[],b,bl,bl',h,i=>by simp only[pW,cI]at h;exact .inl (by rw[h.1])
 |y::r,b,bl,bl',h,i=>by
  simp only[pW]at h;cases c:hf bl y with
  |mk d e=>
   rw[c]at h;cases J:pW d r with
   |mk j m=>rw[J]at h;simp only[cI]at h;obtain⟨rfl,_⟩:=h;rcases azW c i with e1 |⟨t,g,k,l,e1,e2⟩;rcases PV J i with e3 |⟨t,g,k,l,e3,e4⟩;exact .inl (e3.trans e1);exact .inr ⟨t,g,k,l,by rw[<-e1];exact e3,e4⟩;rcases PV J i with e3 |⟨t',g',k',l',e3,e4⟩;exact .inr ⟨t,g,k,l,e1,by rw[e3,e2]⟩;rw[e2]at e3;cases e3
theorem akJ{α:Type}:∀(l:List α)(q:Nat)(cs b:List α),q+cs.length<=l.length->gA (l++b) q cs=gA l q cs++b
 |l,0,cs,b,h=>by
  have e:∀m:List α,gA m 0 cs=cs++m.drop cs.length:=λ m=>by cases m<;>rfl
  rw[e,e,List.drop_append_of_le_length (by simpa using h),eY]
 |[],q+1,cs,b,h=>by simp at h
 |u::l,q+1,cs,b,h=>by simp only[hX,gA,akJ l q cs b (by simp at h;omega)]
theorem akK{α:Type}:∀(a l:List α)(q:Nat)(cs:List α),gA (a++l) (a.length+q) cs=a++gA l q cs
 |[],l,q,cs=>by simp
 |u::a,l,q,cs=>by
  have e:(u::a).length+q=(a.length+q)+1:=by simp only[cT];omega
  rw[e];simp only[hX,gA,akK a l q cs]
theorem aFr{α:Type}{xs cs0 vs:List α}{p q:Nat}(h:(xs.drop p).take cs0.length=cs0)(g:p+cs0.length<=xs.length)(b:q+vs.length<=cs0.length):xs.take p++gA cs0 q vs++xs.drop (p+cs0.length)=gA xs (p+q) vs:=by
 have ad:xs=xs.take p++(cs0++xs.drop (p+cs0.length)):=by
  have c:xs.drop p=cs0++xs.drop (p+cs0.length):=by rw[<-List.drop_drop];have:=(iJ cs0.length (xs.drop p)).symm;rwa [h]at this
  rw[<-c,iJ]
 have d:(xs.take p).length=p:=by rw[fe];omega
 have e:=akK (xs.take p) (cs0++xs.drop (p+cs0.length)) q vs;rw[<-ad,d,akJ _ _ _ _ b,<-eY]at e;exact e.symm
theorem ag4(a1:dr E)(G:Mem E.T W M0 X bl ρ w){o:Oper}{t sz i b g k q:Nat}{l:List (E.T.El b)}{x y:Operand}{j:Int}{d d':E.T.El b}{u:aL E.T.El}{bl':List (aG E.T.El)}{cs:List (aL E.T.El)}{h:Value}{A:Option Addr}{c m:Nat}
 (aj:∀w,(Go.sizeOf t).run E.P w= .ok sz w)(S:zE (cellsOf u)=true)(J:cx (cellsOf u).length sz=true)(hi:bl[i]? =some (.r b g k l))(H:ρ[i]? =some h)(aK:idx l j=some d)(z:q+(cellsOf u).length<=((E.T.e b).cs d).length)
 (B:SU bl' i=true)(I:pW bl (gA ((E.T.e b).cs d) q (cellsOf u))=(bl',cs))(U:(E.T.e b).ix cs=some d')(r:h= .slice A m c)(V:o.op= .store t x y)(ad:a.eval x= .pointer (some ⟨dD A,j.toNat*(E.T.ty b).size+q,none⟩))(Y:av E.T (bi X bl ρ w) w ρ bl u (a.eval y)) :
 h2 E o a W M0 X bl ρ w ⟨none,bl'.set i (.r b g (k+1) (l.set j.toNat d')),[i]⟩:=by
 have C:=qN Y
 have K:=C.len
 obtain⟨ck,bI,xs,e1,e2,e3⟩:=G.ok i _ _ hi H
 rw[r]at e1
 simp only[Value.slice.injEq]at e1
 obtain⟨rfl,rfl,rfl⟩:=e1
 obtain⟨Z,mu,q8⟩:=np aK
 obtain⟨gb,rfl,yz,hc,ni⟩:=w3 (by omega) (r▸e2)
 obtain⟨cs0,L,bs⟩:=Nc (E.T.ty b) e3 q8
 have s:=a1.tb.cells (ρ:=ρ) (bl:=bl) L
 have n1:=s.len
 have M:=(E.T.ty b).len L
 obtain⟨m1,N,v1⟩:=PW G I (s.lay C z)
 have gz:=a1.tb.ix _ _ _ U _ _ _ _ _ v1
 have sv:=zL _ e3
 have p:j.toNat*(E.T.ty b).size+q+(a.eval y).cells.toList.length<=xs.length:=by rw[sv,K];exact akY mu (by omega)
 obtain⟨w',bj,bd,cf⟩:=ang (E:=E) (a:=a) (v:=a.eval y) (vs:=(a.eval y).cells.toList) (by simp) aj (by rw[K];exact J) (MS S C) (show 0<l.length by omega) (r▸e2) p V (by simpa[dD]using ad) rfl
 have O:bl'[i]? =some (.r b g k l):=by rcases PV I i with e |⟨t',g',k',l',e4,e5⟩;exact e.trans hi;unfold SU at B;rw[dn,e5]at B;cases B
 have aB:bD (aG.r b g k l) h=[gb]:=by subst r;simpa[bD]using ni _
 have D:=QJ (B':=aG.r b g (k+1) (l.set j.toNat d')) (w':=w') (o:=o) (a:=a) m1 O H (by rw[aB];exact bd) rfl ⟨rfl,rfl,Nat.le_succ _,λ e=>absurd e (by simp[hU])⟩ bj (λ P=>by
  refine⟨some ⟨gb,0,none⟩,c,gA xs (j.toNat*(E.T.ty b).size+q) (a.eval y).cells.toList,by subst r;simp,by subst r;simpa using cf,?_⟩;have F:dN (E.T.ty b) (bi X (bl'.set i (aG.r b g (k+1) (l.set j.toNat d'))) ρ w') w' xs l:=qk _ (N.trans P).F e3;have lJ:=(E.T.ty b).law P.F gz;have c6:=abO lJ F mu;have e:xs.take (j.toNat*(E.T.ty b).size)++gA cs0 q (a.eval y).cells.toList++xs.drop (j.toNat*(E.T.ty b).size+(E.T.ty b).size)=gA xs (j.toNat*(E.T.ty b).size+q) (a.eval y).cells.toList:=by have eV:=ahO bs;have Q:=aFr (q:=q) (vs:=(a.eval y).cells.toList) eV (by rw[M,sv];have:=akY (o:=0) (k:=(E.T.ty b).size) (sz:=(E.T.ty b).size) mu (by omega);omega) (by omega);rw[M]at Q;exact Q
  rw[<-e];exact c6)
 refine h2.first N (λ i' R B' g' Gp ag ay aO=>?_) D
 simp only[dm]at R
 subst R
 exact⟨_,hi,by rw[O]at ag;cases ag;exact aO⟩
end
section
variable{E:Env}{W w w':World}{M0:List Nat}{X:Nat->Prop}{n:cE}{f:cA E.T.El}{bl:List (aG E.T.El)}{ρ:List Value}{a:Act}{cur:List (Nat×Bool)}
theorem azo(a1:dr E)(z:Mem E.T W M0 X bl ρ w){o:Oper}{t:Nat}{x y:Operand}{p u:aL E.T.El}{e:eG E.T.El}(h:(V3 E bl t p u).out e)(L:o.op= .store t x y)
 (B:av E.T (bi X bl ρ w) w ρ bl p (a.eval x))(Q:av E.T (bi X bl ρ w) w ρ bl u (a.eval y)):h2 E o a W M0 X bl ρ w e:=by
 unfold V3 at h
 split at h
 ·rename_i b sz ak M;have aj:=(Mu ak).2;split at h
  ·rename_i J;have G:=qN Q;have N:=G.len;split at h;rename_i i r;split at h;rename_i ty cs hi;rw[dn]at hi;split at h;rename_i ag;have h:(⟨none,bl.set i (.c ty (gA cs r (cellsOf u))),[i]⟩:eG E.T.El)=e:=h;subst h;have ag:=cJ ag;simp only[av]at B;obtain⟨g,q,R⟩:=B;obtain⟨g',vs,e1,e2,e3⟩:=z.ok i _ _ hi q;simp only[Value.pointer.injEq,aM,Addr.mk.injEq,and_true]at e1;subst e1;have S:=e3.len;obtain⟨w',U,H,V⟩:=aes (tb:=ty) (cs:=vs) (v:=a.eval y) (vs:=(a.eval y).cells.toList) (by simp) aj (by rw[N];exact J) (MS M G) (by rw[N,S];exact Nat.ble_eq_true_of_le ag) (show(a8.cd g ty vs).ok w from e2) L R rfl;refine QJ (B':=aG.c ty (gA cs r (cellsOf u))) z hi q (by simpa[bD,a7.ag]using H) rfl ⟨rfl,rfl,cP _,λ _=>rfl⟩ U (λ I=>⟨g,aw.lay vs r (a.eval y).cells.toList,rfl,V,?_⟩);rw[Q7];exact(I.vs e3).lay (I.vs G) ag;exact h.elim;exact h.elim;rename_i i g k t' j d r;split at h;rename_i C g2 H l hi;rw[dn]at hi;simp only[av]at B;obtain⟨_,aK,K,Y,D⟩:=B;rw[hi]at D;split at h;rename_i q O;have q:=bF q;have O:=bF O;subst q;subst O;obtain⟨⟨A,m,c,s,P,Z,eL⟩,aH1,aaz⟩:=D rfl;obtain⟨l',F,cV⟩:=aaz rfl;split at h;rename_i bl' cs aQA sr aQo Lv;simp only[ku,aM,Sigma.mk.injEq]at F;obtain⟨fK,F⟩:=F;subst fK;have F:=eq_of_heq F;subst F;split at h;rename_i d' ek fh;have h:(⟨none,bl'.set i (.r C g (k+1) (l.set j.toNat d')),[i]⟩:eG E.T.El)=e:=h;subst h;exact ag4 a1 z aj M J hi K cV (cJ Lv) fh sr ek s L (by simpa[kv]using eL) Q;exact h.elim;exact h.elim;rename_i q O;have q:=bF q;subst q;obtain⟨⟨A,m,c,s,P,Z,eL⟩,_⟩:=D rfl;obtain⟨d1,cV,h⟩:=h;dsimp only at h;split at h;rename_i bl' cs sr Lv;split at h;rename_i d' ek fh;have h:(⟨none,bl'.set i (.r C g (H+1) (l.set j.toNat d')),[i]⟩:eG E.T.El)=e:=h;subst h;exact ag4 a1 z aj M J hi K cV (cJ Lv) fh sr ek s L (by simpa[kv]using eL) Q;exact h.elim;exact h.elim;exact h.elim;exact h.elim
   ·rename_i i g r;split at h
    ·rename_i C s2 g2 cs hi;rw[dn]at hi;split at h
     ·rename_i ag;simp only[ca]at ag;have h:(⟨none,bl.set i (.k C s2 g2 (gA cs r (cellsOf u))),[i]⟩:eG E.T.El)=e:=h;subst h;simp only[av]at B;obtain⟨_,aK,K,Y,D⟩:=B;rw[hi]at D;have q:=bF ag.1;subst q;obtain⟨A,m,c,s,P,Z⟩:=D rfl;obtain⟨ck,fA,bI,xs,e1,e2,e3⟩:=z.ok i _ _ hi K;rw[e1]at s;simp only[Value.slice.injEq]at s;obtain⟨rfl,rfl,rfl⟩:=s;subst e1;have Lu:=cJ ag.2;have aB3:=e3.len;obtain⟨gb,rfl,yz,hc,ni⟩:=w3 P e2;obtain⟨w',U,H,V⟩:=ang (E:=E) (a:=a) (v:=a.eval y) (vs:=(a.eval y).cells.toList) (by simp) aj (by rw[N];exact J) (MS M G) P e2 (by rw[N,aB3];exact Lu) L (by simpa[dD]using Z) rfl;have aB:bD (aG.k C s2 g cs) (.slice (some ⟨gb,0,none⟩) fA bI)=[gb]:=by simpa[bD]using ni _
      exact QJ (B':=aG.k C s2 g (gA cs r (cellsOf u))) z hi K (by rw[aB];exact H) rfl ⟨rfl,rfl,cP _,λ _=>rfl⟩ U (λ I=>⟨_,_,_,_,rfl,V,(I.vs e3).lay (I.vs G) Lu⟩)
     ·exact h.elim
    ·exact h.elim
   ·exact h.elim
  ·exact h.elim
 ·exact h.elim
theorem ag9{F:Nat->Prop}{kt vt:Nat}{K:jd (E.T.El kt)}{k:E.T.El kt}{v:E.T.El vt}{u:Value}(g:Ez E.T F w vt v u):∀ {es:List MapEntry}{d:List (E.T.El kt×E.T.El vt)}{p:Nat},kR E.T F w K es d->k_ K d k=some p->kR E.T F w K (es.modify p λ e=>{ e with key:=K.enc k,val:=u }) (wH K d k v)
 |[],[],_,_,b=>by simp[k_,rj]at b
 |[],_::_,_,h,_=>h.elim
 |_::_,[],_,h,_=>h.elim
 |e::es,q::d,p,h,b=>by obtain⟨j,J,i⟩:=h;by_cases c:q.1=k;simp only[k_,rj,lz c,aM]at b;subst b;simp only[wH,gP,lz c,List.modify_zero_cons];exact⟨rfl,g,i⟩;simp only[k_,rj,ly c,cF]at b;obtain⟨m,l,rfl⟩:=b;simp only[wH,gP,ly c,List.modify_succ_cons];exact⟨j,J,ag9 g i l⟩
theorem ag8{F:Nat->Prop}{kt vt:Nat}{K:jd (E.T.El kt)}{k:E.T.El kt}{v:E.T.El vt}{u:Value}{c:Nat}(i:Ez E.T F w vt v u):∀ {es:List MapEntry}{d:List (E.T.El kt×E.T.El vt)},kR E.T F w K es d->k_ K d k=none->kR E.T F w K (es++[{ key:=K.enc k,val:=u,born:=c }]) (wH K d k v)
 |[],[],_,_=>⟨rfl,i,trivial⟩
 |[],_::_,h,_=>h.elim
 |_::_,[],h,_=>h.elim
 |e::es,q::d,h,b=>by obtain⟨j,J,l⟩:=h;by_cases g:q.1=k;simp[k_,rj,lz g]at b;simp only[k_,rj,ly g,Option.map_eq_none_iff]at b;simp only[wH,gP,ly g,hX];exact⟨j,J,ag8 i l b⟩
theorem ag7{F:Nat->Prop}{kt vt:Nat}{K:jd (E.T.El kt)}{k:E.T.El kt}:∀ {es:List MapEntry}{d:List (E.T.El kt×E.T.El vt)}{p:Nat},kR E.T F w K es d->k_ K d k=some p->∃e,es[p]? =some e/\e.key=K.enc k
 |[],[],_,_,b=>by simp[k_,rj]at b
 |[],_::_,_,h,_=>h.elim
 |_::_,[],_,h,_=>h.elim
 |e::es,q::d,p,h,b=>by obtain⟨g,J,i⟩:=h;by_cases c:q.1=k;simp only[k_,rj,lz c,aM]at b;subst b;exact⟨e,rfl,by rw[g,c]⟩;simp only[k_,rj,ly c,cF]at b;obtain⟨l,j,rfl⟩:=b;simpa using ag7 i j
def PH(E:Env)(bl:List (aG E.T.El))(t:Nat)(u k v:aL E.T.El):D (eG E.T.El):=match u,mapOf E.P t with
 | .m i,some (b,_)=>match nth bl i with
   |some (.m kt vt d)=>match(E.T.e kt).key with
    |some K=>match pW bl (cellsOf v)with
     |(bl',cs)=>match Pq (E.P.underlying b) K.desc,(E.T.e kt).ix (cellsOf k),(E.T.e vt).ix cs,(match nq k with|true=>(E.T.e kt).agg |false=>!(E.T.e kt).agg)&&(match nq v with|true=>(E.T.e vt).agg |false=>!(E.T.e vt).agg)with
      |true,some key,some val,true=>.ok ⟨none,bl'.set i (.m kt vt (wH K d key val)),[i]⟩
      |_,_,_,_=>.no
    |none=>.no
   |_=>.no
 |_,_=>.no
theorem ahK(a1:dr E)(hm:Mem E.T W M0 X bl ρ w){o:Oper}{t:Nat}{x y z:Operand}{u k v:aL E.T.El}{e:eG E.T.El}(h:(PH E bl t u k v).out e)(ar:o.op= .mapUpdate t x y z\/o.op= .insert t x y z)
 (ad:av E.T (bi X bl ρ w) w ρ bl u (a.eval x))(hy:av E.T (bi X bl ρ w) w ρ bl k (a.eval y))(P:av E.T (bi X bl ρ w) w ρ bl v (a.eval z)):h2 E o a W M0 X bl ρ w e:=by
 unfold PH at h
 split at h
 ·rename_i i Q aQ7 C;split at h
  ·rename_i kt vt d hi;rw[dn]at hi;split at h
   ·rename_i K D;split at h;rename_i bl' cs R;split at h
    ·rename_i key val aK X3 n4 F;have h:(⟨none,bl'.set i (.m kt vt (wH K d key val)),[i]⟩:eG E.T.El)=e:=h;subst h;simp only[ca]at F;simp only[av]at ad;obtain⟨r,S,U⟩:=ad;have V:a.eval y=K.enc key:=by have e1:=a1.tb.ix _ _ _ X3 _ _ _ _ _ (qN hy);exact(U0 hy F.1).trans (a1.tb.key _ _ D _ _ _ _ e1)
     obtain⟨Y,t1,v1⟩:=PW hm R (qN P);have gz:=a1.tb.ix _ _ _ n4 _ _ _ _ _ v1;have G:bl'[i]? =some (.m kt vt d):=by rcases PV R i with e |⟨t',g',k',l',e4,e5⟩;exact e.trans hi;rw[hi]at e4;cases e4
     have l:Ez E.T (bi X bl' ρ w) w vt val (a.eval z):=⟨_,gz,U0 P F.2⟩
     obtain⟨fj,e1,aeY,E1,es,clock,m,A,Z,H⟩:=Y.ok i _ _ G S;simp only[Value.map.injEq,aM]at e1;subst e1;rw[D]at E1;cases E1;have hu:=ZE C;have I:=ago aK;have bz:r<w.heap.size:=(fH.1 m).1;have kj:∀L:Obj,a_ [r] w { w with heap:=w.heap.setIfInBounds r L }:=λ L=>⟨rfl,rfl,rfl,by simp,λ q _ aA=>by
      show(w.heap.setIfInBounds r L)[q]? =_
      rw[ff,ly (λ e=>aA (by simp[e]))]⟩
     refine h2.first t1 (λ i' LH B' g' Gp ag ay aO=>?_) ?_;simp only[dm]at LH;subst LH;rw[G]at ag;cases ag;exact⟨_,hi,aO⟩
     have fin:∀(j:Array MapEntry)(s:Nat),tH E.P o a w { w with heap:=w.heap.setIfInBounds r (.map j s) } ->kR E.T (bi X bl' ρ w) w K j.toList (wH K d key val)->(j.toList.map (·.born)).Pairwise (·< ·)->(∀e∈j.toList,e.born<s) ->
      h2 E o a W M0 X bl' ρ w ⟨none,bl'.set i (.m kt vt (wH K d key val)),[i]⟩:=λ j s YF h1 J aq=>by
      refine QJ (B':=aG.m kt vt (wH K d key val)) (w':={ w with heap:=w.heap.setIfInBounds r (.map j s) }) Y G S (by simpa[bD,a7.ag]using kj _) rfl ⟨rfl,rfl,cP _,λ _=>rfl⟩ YF (λ aF=>⟨r,rfl,K,D,j,s,by simp[bz],h1.law aF.F,J,aq⟩)
     rcases ab_ (vt:=vt) key I A w with⟨f1,B,f3⟩|⟨p,aq3,JO,f1,B,f3,f4⟩
     ·refine fin (es.push { key:=K.enc key,val:=a.eval z,born:=clock }) (clock+1) ?_ ?_ ?_ ?_
      ·rcases ar with ar |ar<;>
       ·simp only[tH,execOp,ar,U,V,Instr.mapUpdate,Sem.run_bind,run_underlying hu,Result.andThen_ok,MapKept.run_getObj_map m,@nQ.check _ K.dec K.uw E.P w false Q key I,f3,MapKept.run_setObj_map _ m];rfl
      ·simpa using ag8 l A B
      ·simp only[Array.toList_push,ja,ea,hP,List.pairwise_append];refine⟨Z,by simp,λ b ag c hc=>?_⟩;obtain⟨e,g,rfl⟩:=ho.1 ag;simp only[dm]at hc;subst hc;exact H e g
      ·intro e g;simp only[Array.toList_push,cg,dm]at g;rcases g with g |rfl;exact Nat.lt_succ_of_lt (H e g);exact ks _
     ·obtain⟨e,g,M⟩:=ag7 (k:=key) A B;have N:es[p]? =some e:=by simpa using g
      have Ih:((es.modify p λ e=>{ e with key:=K.enc key,val:=a.eval z }).toList.map (·.born))=es.toList.map (·.born):=by
       rw[Array.toList_modify];apply jZ;intro i;simp only[iY,List.getElem?_modify];cases hi:es.toList[i]? with
       |none=>simp
       |some e'=>by_cases Qq:p=i<;>simp[Qq]
      refine fin (es.modify p λ e=>{ e with key:=K.enc key,val:=a.eval z }) clock ?_ ?_ ?_ ?_
      ·have LP:(Instr.keyThatStays e.key (K.enc key)).run E.P w= .ok (K.enc key) w:=by
        rw[M];simp only[Instr.keyThatStays,@nQ.bits _ K.dec K.uw,if_true];rfl
       rcases ar with ar |ar<;>
       ·simp only[tH,execOp,ar,U,V,Instr.mapUpdate,Sem.run_bind,run_underlying hu,Result.andThen_ok,MapKept.run_getObj_map m,@nQ.check _ K.dec K.uw E.P w false Q key I,f4,N,fs,ij,LP,MapKept.run_setObj_map _ m];rfl
      ·rw[Array.toList_modify];exact ag9 l A B
      ·rw[Ih];exact Z
      ·intro e1 XH;have:e1.born∈es.toList.map (·.born):=by rw[<-Ih];exact ho.2 ⟨e1,XH,rfl⟩
       obtain⟨e2,O,heq⟩:=ho.1 this;rw[<-heq];exact H e2 O
    ·exact h.elim
   ·exact h.elim
  ·exact h.elim
 ·exact h.elim
end
section
variable{P:Program}{w w':World}
def HH(w:World)(sz m:Nat)(A:Option Addr)(news:List Value):Prop:=(m=0/\news=[])\/∃dM,A=some dM/\news.length=m*sz/\(∀j u,news[j]? =some u->w.cell? (dM.add j)=some u)/\∀u∈news,u.oneCell'=true
theorem aKF{t ty e:TypeId}{i:TypeInfo}(d:P.underlying t=some (.slice e))(hi:P.info? e=some i)(A b:Option Addr)(n c c2:Nat)(a:n<=c):(Builtin.append_ #[t,t] ty #[.slice A n c,.slice b 0 c2]).run P w= .ok (.slice A n c) w:=by cases A<;>cases b<;>simp[Builtin.append_,run_underlying d,Go.sizeOf,typeInfo,hi,Builtin.lenOf,Builtin.firstCells,a,storeCells,loadCells,loadCellsFrom]
theorem rowIs.short{t sz n c k:Nat}{A:Option Addr}{xs:List Value}(e:rowIs w t sz (.slice A n c) n xs)(b:k<=n):rowIs w t sz (.slice A k c) k (xs.take (k*sz)):=by
 have l:=e.len;have d:k*sz<=n*sz:=jG sz b;rcases e with e |⟨rfl,rfl,ck,e⟩
 ·rcases e.2 with⟨a,m⟩|⟨g,cap,cur,a,J,f,o,h,i,j⟩
  ·simp only[Value.slice.injEq]at a;obtain⟨rfl,rfl,rfl⟩:=a;have:k=0:=by omega
   subst this;exact .inl ⟨by simp,.inl ⟨rfl,rfl⟩⟩
  ·simp only[Value.slice.injEq]at a;obtain⟨rfl,_,rfl⟩:=a;refine .inl ⟨by rw[fe];omega,.inr ⟨g,c,cur,rfl,J,f,by omega,h,i,?_⟩⟩;rw[<-j,List.take_take,kF d]
 ·have:k=0:=by omega
  subst this;simp only[Value.slice.injEq]at e;obtain⟨rfl,_,rfl⟩:=e;exact .inr ⟨rfl,by simp,A,rfl⟩
theorem afr{t ty e:TypeId}{i:TypeInfo}{z:Value}{bytes sz:Nat}(s:P.underlying t=some (.slice e))(hi:P.info? e=some i)(C:i.zero=some z)(D:i.size=sz)(E:i.bytes=bytes)(F:z.cells.size=sz)(G:0<sz)
 {A v:Option Addr}{n c m c2:Nat}{xs news:List Value}(x:rowIs w e sz (.slice A n c) n xs)(aj:HH w sz m v news)(H:n+m<=maxLen)(ag:(n+m)*bytes<=140737488355328) :
 ∃ck I w',(Builtin.append_ #[t,t] ty #[.slice A n c,.slice v m c2]).run P w= .ok (.slice ck (n+m) I) w'/\rowIs w' e sz (.slice ck (n+m) I) (n+m) (xs++news)/\a_ (a7.ag (.slice A n c)) w w'/\∀k∈a7.ag (.slice ck (n+m) I),k∈a7.ag (.slice A n c)\/(w.heap.size<=k/\k<w'.heap.size):=by
 have N:=x.cap
 rcases km m with O |hm
 ·subst O;have K:news=[]:=by rcases aj with⟨_,h⟩|⟨_,_,h,_⟩;exact h;exact gR (by simpa using h)
  subst K;exact⟨A,c,w,aKF s hi A v n c c2 N.1,by simpa using x,a_.refl _ _,λ k a=>.inl a⟩
 ·obtain⟨dM,rfl,L,M,Q⟩:∃dM,v=some dM/\news.length=m*sz/\(∀j u,news[j]? =some u->w.cell? (dM.add j)=some u)/\∀u∈news,u.oneCell'=true:=by
   rcases aj with⟨h,_⟩|h
   ·omega
   ·exact h
  have grow:∀ {d:Value}{w':World}{b:Nat},w'.ownsRow b e sz d (n+m) (xs++news)->∃g cap cur,d= .slice (some ⟨g,0,none⟩) (n+m) cap/\b<=g/\w'.heap[g]? =some (.cells cur e (0,0))/\n+m<=cap:=λ{d w' b} h=>by rcases h.2 with⟨_,O⟩|⟨g,cap,cur,T,J,U,V,_⟩;omega;exact⟨g,cap,cur,T,J,U,V⟩
  have o:∀ {d:Value}{w':World}{b:Nat},w'.ownsRow b e sz d (n+m) (xs++news)->w'.ownsRow 0 e sz d (n+m) (xs++news):=λ{d w' b} h=>⟨h.1,h.2.imp id λ⟨g,cap,cur,W,_,l⟩=>⟨g,cap,cur,W,fY _,l⟩⟩
  rcases km c with hc |hc
  ·subst hc;have K:n=0:=by omega
   subst K;have ad:xs=[]:=gR (by rw[x.len];simp);subst ad;have X:a7.ag (.slice A 0 0)=[]:=by cases A<;>rfl
   rw[X];cases A with
   |none=>
    obtain⟨d,w',p,f,r,_,R⟩:=run_append_own_at (P:=P) w w.heap.size t ty e i z sz bytes s hi C D E F G (.slice none 0 0) 0 [] ⟨by simp,.inl ⟨rfl,rfl⟩⟩ dM m c2 news L M Q H ag (cP _);obtain⟨g,cap,cur,rfl,y,l,S⟩:=grow (b:=w.heap.size) f;refine⟨_,_,w',p,.inl (o f),a_.grown r,λ k a=>?_⟩;right;have:k=g:=by
     cases cap with
     |zero=>simp[a7.ag]at a
     |succ q=>simpa[a7.ag]using a
    subst this;exact⟨y,(fH.1 l).1⟩
   |some b=>
    obtain⟨d,w',p,f,r⟩:=run_append_arg_grows (P:=P) w t ty e i z sz bytes s hi C D E F G b 0 0 [] (by simp) (λ j u Y=>by simp at Y) dM m c2 news L M (by omega) H ag;obtain⟨g,cap,cur,rfl,y,l,S⟩:=grow (b:=w.heap.size) f;refine⟨_,_,w',p,.inl (o f),a_.grown r,λ k a=>?_⟩;right;have:k=g:=by
     cases cap with
     |zero=>simp[a7.ag]at a
     |succ q=>simpa[a7.ag]using a
    subst this;exact⟨y,(fH.1 l).1⟩
  ·obtain⟨B,rfl⟩:=N.2.2.2 hc;have Z:w.ownsRow 0 e sz (.slice (some ⟨B,0,none⟩) n c) n xs:=by rcases x with h |⟨_,_,ck,h⟩;exact h;simp only[Value.slice.injEq]at h;omega
   obtain⟨d,w',p,f,r,_,R⟩:=run_append_own_at (P:=P) w 0 t ty e i z sz bytes s hi C D E F G (.slice (some ⟨B,0,none⟩) n c) n xs Z dM m c2 news L M Q H ag (fY _);obtain⟨g,cap,cur,rfl,y,l,S⟩:=grow (b:=0) f;have Lt:a7.ag (.slice (some ⟨B,0,none⟩) n c)=[B]:=by
    cases c with
    |zero=>omega
    |succ c=>rfl
   rw[Lt];refine⟨_,_,w',p,.inl f,a_.grown r,λ k a=>?_⟩;have:k=g:=by
    cases cap with
    |zero=>simp[a7.ag]at a
    |succ q=>simpa[a7.ag]using a
   subst this;rcases R with e5 |e5;left;simp only[Value.ownBlock,aM]at e5;simp[e5];right;simp only[Value.ownBlock,aM]at e5;rw[e5];refine⟨cP _,?_⟩;rw[<-e5];exact(fH.1 l).1
end
def vR(P:Program)(t:TypeId):Option (Nat×Nat×Nat):=match P.underlying t with
 |some (.slice e)=>match P.info? e with
  |some i=>match i.zero with
   |some z=>match cx z.cells.size i.size&&eN 0 i.size&&eN 0 i.bytes with
    |true=>some (e,i.size,i.bytes)
    |false=>none
   |none=>none
  |none=>none
 |_=>none
theorem Bg{P:Program}{t e sz bZ:Nat}(h:vR P t=some (e,sz,bZ)):P.underlying t=some (.slice e)/\∃i z,P.info? e=some i/\i.zero=some z/\i.size=sz/\i.bytes=bZ/\z.cells.size=sz/\0<sz/\0<bZ:=by unfold vR at h;split at h;rename_i e' b;split at h;rename_i i J;split at h;rename_i z c;split at h;rename_i a;simp only[aM,cI]at h;obtain⟨rfl,rfl,rfl⟩:=h;simp only[ca]at a;exact⟨b,i,z,J,c,rfl,rfl,bF a.1.1,cJ a.1.2,cJ a.2⟩;cases h;cases h;cases h;cases h
def A'{El:Nat->Type}(t t':Nat)(l:List (El t)):Option (List (El t')):=match kr t t' with
 | .isTrue h=>some (h▸l)
 | .isFalse _=>none
def IG{El:Nat->Type}{t:Nat}(e:b3 El t):List (List (aL El))->Option (List (El t))
 |[]=>some []
 |c::r=>match e.ix c,IG e r with
  |some d,some ds=>some (d::ds)
  |_,_=>none
def HS{α:Type}(sz:Nat):Nat->List α->List (List α)
 |0,_=>[]
 |n+1,l=>l.take sz::HS sz n (l.drop sz)
def NI(E:Env)(bl:List (aG E.T.El))(t:Nat):aL E.T.El->Option (List (E.T.El t))
 | .s t' l=>A' t' t l
 | .q t' l=>A' t' t l
 | .p (.slice none 0 0)=>some []
 | .p (.slice (some _) 0 _)=>some []
 | .r j g=>match nth bl j with
   |some (.r t' a _ l)=>match cx g a with
    |true=>A' t' t l
    |false=>none
   |some (.k _ sz a cs)=>match cx g a&&cx sz (E.T.ty t).size&&eN 0 sz with
    |true=>IG (E.T.e t) (HS sz (cs.length / sz) cs)
    |false=>none
   |_=>none
 | .v j g lo hi=>match nth bl j with
   |some (.r t' a _ l)=>match cx g a with
    |true=>A' t' t ((l.take hi.toNat).drop lo.toNat)
    |false=>none
   |_=>none
 |_=>none
section
variable{E:Env}{W w w':World}{M0:List Nat}{X:Nat->Prop}{n:cE}{f:cA E.T.El}{bl:List (aG E.T.El)}{ρ:List Value}{a:Act}{cur:List (Nat×Bool)}
theorem HP{El:Nat->Type}{t t':Nat}{l:List (El t)}{l':List (El t')}(h:A' t t' l=some l'):∃e:t=t',e▸l=l':=by unfold A' at h;split at h;rename_i e _;simp only[aM]at h;exact⟨e,h⟩;cases h
theorem YQ(a1:dr E){F:Nat->Prop}{t sz:Nat}:∀(n:Nat){cs:List (aL E.T.El)}{vs:List Value}{l:List (E.T.El t)},aZ E.T F w ρ bl cs vs->vs.length=n*sz->IG (E.T.e t) (HS sz n cs)=some l->dN (E.T.ty t) F w vs l/\l.length=n
 |0,cs,vs,l,h,b,hi=>by simp only[HS,IG,aM]at hi;subst hi;exact⟨gR (by simpa using b),rfl⟩
 |n+1,cs,vs,l,h,b,hi=>by simp only[HS,IG]at hi;split at hi;rename_i d ds c J;simp only[aM]at hi;subst hi;have e:=a1.tb.ix _ _ _ c _ _ _ _ _ (aZ.take sz h);obtain⟨g,i⟩:=YQ a1 n (aZ.drop sz h) (by rw[jB,b,jj];omega) J;exact⟨⟨vs.take sz,vs.drop sz,(iJ sz vs).symm,e,g⟩,by simp[i]⟩;cases hi
theorem anQ{F:Nat->Prop}{t:Nat}{l:List (E.T.El t)}{A:Option Addr}{c:Nat}(h:(b2 (E.T.ty t)).rd F w [.slice A l.length c] l):∃news,HH w (E.T.ty t).size l.length A news/\dN (E.T.ty t) F w news l:=by
 obtain⟨ck,k,e1,e2,e3,e4,e5⟩:=h;simp only[hq,Value.slice.injEq,and_true,true_and]at e1;obtain⟨rfl,rfl⟩:=e1;by_cases d:l=[]
 ·subst d;exact⟨[],.inl ⟨rfl,rfl⟩,rfl⟩
 ·obtain⟨e,m,xs,b,g⟩:=e5 d;exact⟨xs,.inr ⟨_,e,zL _ b,λ j u i=>by rw[mU];exact g j u i,Js _ b⟩,b⟩
theorem ab9{t sz n c:Nat}{A:Option Addr}{xs:List Value}(h:rowIs w t sz (.slice A n c) n xs)(b:∀u∈xs,u.oneCell'=true):HH w sz n A xs:=by rcases km n with aH |aH;subst aH;exact .inl ⟨rfl,gR (by rw[h.len];simp)⟩;obtain⟨g,rfl,_,hc,_⟩:=w3 aH h;exact .inr ⟨_,rfl,h.len,λ j u d=>by rw[mU];exact hc j u d,b⟩
theorem anP(a1:dr E)(s:Mem E.T W M0 X bl ρ w){t:Nat}{y:aL E.T.El}{l:List (E.T.El t)}{v:Value}(h:NI E bl t y=some l)(b:av E.T (bi X bl ρ w) w ρ bl y v) :
 ∃A c news,v= .slice A l.length c/\HH w (E.T.ty t).size l.length A news/\dN (E.T.ty t) (bi X bl ρ w) w news l:=by
 unfold NI at h
 split at h
 ·obtain⟨rfl,rfl⟩:=HP h;simp only[av]at b;obtain⟨A,c,rfl⟩:=mB _ b;obtain⟨news,x,J⟩:=anQ b;exact⟨A,c,news,rfl,x,J⟩
 ·obtain⟨rfl,rfl⟩:=HP h;simp only[av]at b;obtain⟨A,c,rfl⟩:=mB _ b.1;obtain⟨news,x,J⟩:=anQ b.1;exact⟨A,c,news,rfl,x,J⟩
 ·simp only[aM]at h;subst h;simp only[av]at b;exact⟨none,0,[],b,.inl ⟨rfl,rfl⟩,rfl⟩
 ·simp only[aM]at h;subst h;simp only[av]at b;exact⟨_,_,[],b,.inl ⟨rfl,rfl⟩,rfl⟩
 ·rename_i j g;split at h;rename_i t' z k l' hi;rw[dn]at hi;split at h;rename_i ag;obtain⟨rfl,rfl⟩:=HP h;simp only[av]at b;obtain⟨_,aK,o,C,e⟩:=b;rw[hi]at e;obtain⟨A,c,xs,e1,e2,e3⟩:=s.ok j _ _ hi o;rw[e (bF ag),e1];exact⟨A,c,xs,rfl,ab9 (e1▸e2) (Js _ e3),e3⟩;cases h
  ·rename_i t' sz z cs hi;rw[dn]at hi;split at h
   ·rename_i ag;simp only[ca]at ag;simp only[av]at b;obtain⟨_,aK,o,C,e⟩:=b;rw[hi]at e;obtain⟨A,m,c,xs,e1,e2,e3⟩:=s.ok j _ _ hi o;have G:=cJ ag.2;have d:=e3.len;have J:=e2.len;have H:cs.length / sz=m:=by rw[<-d,J];exact Nat.mul_div_cancel _ G
    rw[H]at h;obtain⟨D,I⟩:=YQ a1 m e3 J h;rw[e (bF ag.1.1),e1,I];have:=ab9 (e1▸e2) (Js _ D);rw[bF ag.1.2]at this;exact⟨A,c,xs,rfl,this,D⟩
   ·cases h
  ·cases h
 ·rename_i j g lo i;split at h
  ·rename_i t' z k l' hi;rw[dn]at hi;split at h
   ·rename_i ag;obtain⟨rfl,rfl⟩:=HP h;simp only[av]at b;obtain⟨_,aK,o,C,e⟩:=b;rw[hi]at e;obtain⟨ck,N,O,B,b8,l0,l1,P,K,Q,bO⟩:=e (bF ag);obtain⟨A,c,xs,e1,e2,e3⟩:=s.ok j _ _ hi o;rw[e1]at b8 e2;simp only[Value.slice.injEq]at b8;obtain⟨rfl,rfl,rfl⟩:=b8;have d:((l'.take i.toNat).drop lo.toNat).length=i.toNat-lo.toNat:=by rw[jB,fe];omega
    refine⟨B,c-lo.toNat,(xs.take (i.toNat*(E.T.ty t').size)).drop (lo.toNat*(E.T.ty t').size),by rw[d];exact K,?_,w1 _ _ e3⟩;have p:=w1 lo.toNat i.toNat e3;rcases Int.lt_or_le lo i with L |Qn;right;obtain⟨gb,rfl⟩:=Jy e2 (by omega);obtain⟨R,M,_,hc,_⟩:=w3 (by omega) e2;cases M;refine⟨⟨gb,lo.toNat*(E.T.ty t').size,none⟩,by rw[bO L];simp[mU,kv],zL _ p,λ q u r=>?_,Js _ p⟩;rw[ia,gK]at r;split at r;rw[mU];have:=hc _ u r;simpa using this;cases r
    ·left;have:i.toNat-lo.toNat=0:=by omega
     have F:((l'.take i.toNat).drop lo.toNat)=[]:=gR (by rw[d];exact this);refine⟨by rw[F];rfl,?_⟩;rw[F]at p;exact p
   ·cases h
  ·cases h
 ·cases h
end
def SZ(E:Env)(bl:List (aG E.T.El))(t:Nat):aL E.T.El->Option (Option (Nat×Nat)×List (E.T.El t))
 | .p (.slice none 0 0)=>some (none,[])
 | .q _ []=>some (none,[])
 | .r i g=>match nth bl i with
   |some (.r t' a _ l)=>match cx g a,A' t' t l with
    |true,some l'=>some (some (i,g),l')
    |_,_=>none
   |_=>none
 | .v i g (.ofNat 0) hi=>match nth bl i with
   |some (.r t' a _ l)=>match cx g a,A' t' t (l.take hi.toNat)with
    |true,some l'=>some (some (i,g),l')
    |_,_=>none
   |_=>none
 |_=>none
def CZ(E:Env)(bl:List (aG E.T.El))(e sz:Nat):aL E.T.El->Option (Option (Nat×Nat)×List (aL E.T.El))
 | .p (.slice none 0 0)=>some (none,[])
 | .q _ []=>some (none,[])
 | .r i g=>match nth bl i with
   |some (.k t' a b cs)=>match cx g b&&cx t' e&&cx a sz with
    |true=>some (some (i,g),cs)
    |false=>none
   |_=>none
 |_=>none
def VL(E:Env)(bl:List (aG E.T.El))(t:Nat)(u v:aL E.T.El):D (eG E.T.El):=match vR E.P t with
 |some (e,sz,bZ)=>match cx sz (E.T.ty e).size,SZ E bl e u,NI E bl e v with
  |true,some (none,_),some m=>.op (bE bZ [] m) λ l=>.ok ⟨some (.r bl.length 0),bl++[.r e 0 0 l],[]⟩
  |true,some (some (i,g),b),some m=>.op (bE bZ b m) λ l=>.ok ⟨some (.r i (g+1)),bl.set i (.r e (g+1) 0 l),[i]⟩
  |_,_,_=>match CZ E bl e sz u,(match CZ E bl e sz v with
   |some (_,m)=>match zE m with
    |true=>some m
    |false=>none
   |none=>none)with
    |some (none,_),some m=>.op (bE bZ [] (eF (m.length / sz) ())) λ _=>.ok ⟨some (.r bl.length 0),bl++[.k e sz 0 m],[]⟩
    |some (some (i,g),b),some m=>.op (bE bZ (eF (b.length / sz) ()) (eF (m.length / sz) ())) λ _=>.ok ⟨some (.r i (g+1)),bl.set i (.k e sz (g+1) (b++m)),[i]⟩
    |_,_=>.no
 |none=>.no
section
variable{E:Env}{W w w':World}{M0:List Nat}{X:Nat->Prop}{n:cE}{f:cA E.T.El}{bl:List (aG E.T.El)}{ρ:List Value}{a:Act}{cur:List (Nat×Bool)}
def UR(w:World)(bl:List (aG E.T.El))(ρ:List Value)(e sz n:Nat)(v:Value)(xs:List Value):Option (Nat×Nat)->Prop
 |none=>∃A,v= .slice A 0 0/\n=0/\xs=[]
 |some (i,g)=>∃A c h B,v= .slice A n c/\rowIs w e sz v n xs/\bl[i]? =some B/\ρ[i]? =some h/\bD B h=a7.ag v/\ms h/\b1 (some B)=g
theorem an2(q:Mem E.T W M0 X bl ρ w){e:Nat}{u:aL E.T.El}{v:Value}{p:Option (Nat×Nat)}{l:List (E.T.El e)}(h:SZ E bl e u=some (p,l))(b:av E.T (bi X bl ρ w) w ρ bl u v) :
 ∃xs,UR (E:=E) w bl ρ e (E.T.ty e).size l.length v xs p/\dN (E.T.ty e) (bi X bl ρ w) w xs l:=by
 unfold SZ at h
 split at h
 ·simp only[aM,cI]at h;obtain⟨rfl,rfl⟩:=h;simp only[av]at b;exact⟨[],⟨none,b,rfl,rfl⟩,rfl⟩
 ·simp only[aM,cI]at h;obtain⟨rfl,rfl⟩:=h;simp only[av]at b;obtain⟨A,s⟩:=b.2;exact⟨[],⟨A,s,rfl,rfl⟩,rfl⟩
 ·rename_i i g;split at h;rename_i t' t k l' hi;rw[dn]at hi;split at h;rename_i r ag hc;simp only[aM,cI]at h;obtain⟨rfl,rfl⟩:=h;obtain⟨rfl,rfl⟩:=HP hc;have ag:=bF ag;simp only[av]at b;obtain⟨_,aK,m,x,o⟩:=b;rw[hi]at o;have y:=o ag;obtain⟨A,c,xs,e1,e2,e3⟩:=q.ok i _ _ hi m;rw[y];exact⟨xs,⟨A,c,aK,_,e1,e2,hi,m,rfl,by rw[e1];trivial,ag.symm⟩,e3⟩;cases h;cases h
 ·rename_i i g j;split at h
  ·rename_i t' t k l' hi;rw[dn]at hi;split at h
   ·rename_i r ag hc;simp only[aM,cI]at h;obtain⟨rfl,rfl⟩:=h;obtain⟨rfl,rfl⟩:=HP hc;have ag:=bF ag;simp only[av]at b;obtain⟨_,aK,m,x,o⟩:=b;rw[hi]at o;obtain⟨ck,D,F,B,b8,l0,l1,r,z,C,_⟩:=o ag;obtain⟨A,c,xs,e1,e2,e3⟩:=q.ok i _ _ hi m;rw[e1]at b8 e2;simp only[Value.slice.injEq]at b8;obtain⟨rfl,rfl,rfl⟩:=b8;have bO:=C rfl;subst bO;have d:(l'.take j.toNat).length=j.toNat:=by rw[fe];omega
    have e4:=e2.short (k:=j.toNat) (by omega);have e5:v= .slice B j.toNat c:=by rw[z];simp
    rw[e5];refine⟨xs.take (j.toNat*(E.T.ty t').size),⟨B,c,aK,_,by rw[d],by rw[d];exact e4,hi,m,by rw[e1];cases B<;>cases c<;>rfl,by rw[e1];trivial,ag.symm⟩,?_⟩;have:=w1 0 j.toNat e3;simpa using this
   ·cases h
  ·cases h
 ·cases h
theorem acC(o:Mem E.T W M0 X bl ρ w){e sz:Nat}{u:aL E.T.El}{v:Value}{p:Option (Nat×Nat)}{cs:List (aL E.T.El)}(q:0<sz)(h:CZ E bl e sz u=some (p,cs))(b:av E.T (bi X bl ρ w) w ρ bl u v) :
 ∃xs,UR (E:=E) w bl ρ e sz (cs.length / sz) v xs p/\aZ E.T (bi X bl ρ w) w ρ bl cs xs:=by
 unfold CZ at h
 split at h
 ·simp only[aM,cI]at h;obtain⟨rfl,rfl⟩:=h;simp only[av]at b;exact⟨[],⟨none,b,by simp,rfl⟩,by simp[aZ]⟩
 ·simp only[aM,cI]at h;obtain⟨rfl,rfl⟩:=h;simp only[av]at b;obtain⟨A,r⟩:=b.2;exact⟨[],⟨A,r,by simp,rfl⟩,by simp[aZ]⟩
 ·rename_i i g;split at h
  ·rename_i t' s C t hi;rw[dn]at hi;split at h
   ·rename_i ag;simp only[ca]at ag;simp only[aM,cI]at h;obtain⟨rfl,rfl⟩:=h;have j:=bF ag.1.1;have x:=bF ag.1.2;have y:=bF ag.2;subst x;subst y;simp only[av]at b;obtain⟨_,aK,k,D,l⟩:=b;rw[hi]at l;have z:=l j;obtain⟨A,m,c,xs,e1,e2,e3⟩:=o.ok i _ _ hi k;have d:=e3.len;have J:=e2.len;have B:t.length / s=m:=by rw[<-d,J];exact Nat.mul_div_cancel _ q
    rw[z,B];exact⟨xs,⟨A,c,aK,_,e1,e2,hi,k,rfl,by rw[e1];trivial,j.symm⟩,e3⟩
   ·cases h
  ·cases h
 ·cases h
theorem afs(q:Mem E.T W M0 X bl ρ w){o:Oper}{t e sz bZ:Nat}{x y:Operand}{p:Option (Nat×Nat)}{n m:Nat}{xs news:List Value}{C:Option Addr}{c2:Nat}(B':Nat->aG E.T.El)(Y:vR E.P t=some (e,sz,bZ))(Z:o.op= .call { callee:=.builtin .append,args:=#[x,y],argTypes:=#[t,t] })
 (I:UR (E:=E) w bl ρ e sz n (a.eval x) xs p)(hy:a.eval y= .slice C m c2)(aj:HH w sz m C news)(ag:(n+m)*bZ<=140737488355328)
 (Qo:∀g,b1 (some (B' g))=g)(K:∀g h,bD (B' g) h=a7.ag h)
 (bO:∀(bl':List (aG E.T.El))(ρ':List Value)(w':World)(g:Nat)(ck:Option Addr)(b:Nat),To X bl bl' ρ ρ' w w'->rowIs w' e sz (.slice ck (n+m) b) (n+m) (xs++news)->kb E.T (bi X bl' ρ' w') w' ρ' bl' (B' g) (.slice ck (n+m) b)) :
 h2 E o a W M0 X bl ρ w (match p with
  |none=>⟨some (.r bl.length 0),bl++[B' 0],[]⟩
  |some (i,g)=>⟨some (.r i (g+1)),bl.set i (B' (g+1)),[i]⟩):=by
 obtain⟨L,i0,z,hi,M,N,J,O,P,c6⟩:=Bg Y
 have Q:n+m<=maxLen:=by have eV:=kL (n+m) c6;simp only[maxLen];omega
 have R:∀ {A:Option Addr}{c:Nat}{D:Value}{w':World},a.eval x= .slice A n c->(Builtin.append_ #[t,t] o.type #[.slice A n c,.slice C m c2]).run E.P w= .ok D w'->bc E.P o a w D w':=λ{A c D w'} ad hh=>by simp only[bc,execOp,Z,resolve,invoke,builtin,Sem.run_bind,Sem.run_pure,Result.andThen_ok,gN,ea,hP,ad,hy,hh]
 cases p with
 |none=>
  obtain⟨A,ad,rfl,rfl⟩:=I;obtain⟨ck,b,w',F,G,d,r⟩:=afr (w:=w) (ty:=o.type) L hi M N J O P (show rowIs w e sz (.slice A 0 0) 0 [] from .inr ⟨rfl,rfl,A,rfl⟩) aj Q ag;have sn:a7.ag (.slice A 0 0)=[]:=by cases A<;>rfl
  rw[sn]at d r;have s:∀k∈bD (B' 0) (.slice ck (0+m) b),w.heap.size<=k/\k<w'.heap.size:=λ k j=>by rw[K]at j;rcases r k j with e |e;simp at e;exact e
  have l:=q.C0 (B:=B' 0) (h:=.slice ck (0+m) b) d s;refine⟨w',ρ++[.slice ck (0+m) b],q.push d s (bO _ _ _ _ _ _ l G),l,λ k j _=>d.block k j (by simp),_,R ad F,?_⟩;simp only[av];refine⟨trivial,.slice ck (0+m) b,by rw[<-q.len];simp,fY _,λ _=>rfl⟩
 |some H=>obtain⟨i,g⟩:=H;obtain⟨A,c,h,B,ad,S,u,v,U,Yp,V⟩:=I;rw[ad]at S U;obtain⟨ck,b,w',F,G,d,r⟩:=afr (w:=w) (ty:=o.type) L hi M N J O P S aj Q ag;rw[<-U]at d r;have s:∀k∈bD (B' (g+1)) (.slice ck (n+m) b),k∈bD B h\/(w.heap.size<=k/\k<w'.heap.size):=λ k j=>r k (by rw[K]at j;exact j);have l:=q.Gw (B':=B' (g+1)) (h':=.slice ck (n+m) b) u v d s ⟨λ aA=>absurd Yp aA,by rw[Qo,V];omega,λ e=>by rw[Qo,V]at e;omega⟩;refine⟨w',ρ.set i (.slice ck (n+m) b),q.df u v d s l (bO _ _ _ _ _ _ l G),l,λ k j c9=>d.block k j (c9 i (by simp) B h u v),_,R ad F,?_⟩;simp only[av];have l1:=(ba.1 u).1;have cv:=(ba.1 v).1;refine⟨trivial,_,fE cv,?_,λ _=>rfl⟩;rw[fE l1,Qo];exact cP _
theorem ay7(a1:dr E)(z:Mem E.T W M0 X bl ρ w){o:Oper}{t:Nat}{x y:Operand}{u v:aL E.T.El}{r:eG E.T.El}(h:(VL E bl t u v).out r)(S:o.op= .call { callee:=.builtin .append,args:=#[x,y],argTypes:=#[t,t] })
 (ad:av E.T (bi X bl ρ w) w ρ bl u (a.eval x))(hy:av E.T (bi X bl ρ w) w ρ bl v (a.eval y)):h2 E o a W M0 X bl ρ w r:=by
 unfold VL at h
 split at h
 ·rename_i e sz bZ L;obtain⟨_,_,_,_,_,_,_,_,M,_⟩:=Bg L
  have C:∀ {p:Option (Nat×Nat)}{b m l:List (E.T.El e)},cx sz (E.T.ty e).size=true->SZ E bl e u=some (p,b)->NI E bl e v=some m->bE bZ b m=some l->h2 E o a W M0 X bl ρ w (match p with
   |none=>⟨some (.r bl.length 0),bl++[.r e 0 0 l],[]⟩
   |some (i,g)=>⟨some (.r i (g+1)),bl.set i (.r e (g+1) 0 l),[i]⟩):=λ{p b m l} j J k s=>by
   have j:=bF j
   subst j
   obtain⟨ag,rfl⟩:=O4 s
   obtain⟨xs,N,O⟩:=an2 z J ad
   obtain⟨H,c2,news,I,K,gD⟩:=anP a1 z k hy
   have:=afs (B':=λ g=>aG.r e g 0 (b++m)) z L S N I K ag (λ _=>rfl) (λ _ _=>rfl) (λ bl' ρ' w' g ck P D Q=>⟨ck,P,xs++news,by rw[dj],by rw[dj];exact Q,Nb _ (qk _ D.F gD) (qk _ D.F O)⟩)
   cases p<;>exact this
  have F:∀ {p q:Option (Nat×Nat)}{b m:List (aL E.T.El)}{l:List Unit},CZ E bl e sz u=some (p,b)->CZ E bl e sz v=some (q,m)->zE m=true->bE bZ (eF (b.length / sz) ()) (eF (m.length / sz) ())=some l->h2 E o a W M0 X bl ρ w (match p with
   |none=>⟨some (.r bl.length 0),bl++[.k e sz 0 (b++m)],[]⟩
   |some (i,g)=>⟨some (.r i (g+1)),bl.set i (.k e sz (g+1) (b++m)),[i]⟩):=λ{p q b m l} j J U k=>by
   obtain⟨ag,_⟩:=O4 k
   simp only[js]at ag
   obtain⟨xs,N,O⟩:=acC z M j ad
   obtain⟨ys,I,K⟩:=acC z M J hy
   have V:∃H c2,a.eval y= .slice H (m.length / sz) c2/\HH w sz (m.length / sz) H ys:=by
    cases q with
    |none=>obtain⟨A,e1,e2,rfl⟩:=I;rw[e2];exact⟨A,0,e1,.inl ⟨rfl,rfl⟩⟩
    |some Y=>obtain⟨A,c,h,B,e1,e2,_⟩:=I;rw[e1]at e2;exact⟨A,c,e1,ab9 e2 (λ u Z=>jM.1 (MS U K) u Z)⟩
   obtain⟨H,c2,s1,s2⟩:=V
   have:=afs (B':=λ g=>aG.k e sz g (b++m)) z L S N s1 s2 ag (λ _=>rfl) (λ _ _=>rfl) (λ bl' ρ' w' g ck P D Q=>⟨ck,_,P,xs++ys,rfl,Q,aZ.bE (D.vs O) (D.vs K)⟩)
   cases p<;>exact this
  split at h
  ·rename_i b m j J k;obtain⟨l,s,d⟩:=h;have d:(⟨some (.r bl.length 0),bl++[.r e 0 0 l],[]⟩:eG E.T.El)=r:=d;subst d;have R:b=[]:=by obtain⟨xs,⟨A,_,e2,_⟩,_⟩:=an2 z J ad;exact gR e2
   subst R;exact C (p:=none) j J k s
  ·rename_i i g b m j J k;obtain⟨l,s,d⟩:=h;have d:(⟨some (.r i (g+1)),bl.set i (.r e (g+1) 0 l),[i]⟩:eG E.T.El)=r:=d;subst d;exact C j J k s
  ·have G:∀ {m:List (aL E.T.El)},(match CZ E bl e sz v with
    |some (_,m)=>match zE m with
     |true=>some m
     |false=>none
    |none=>none)=some m->∃q,CZ E bl e sz v=some (q,m)/\zE m=true:=λ{m} h=>by
    split at h
    ·rename_i q fA aO;split at h;rename_i k3;simp only[aM]at h;subst h;exact⟨q,aO,k3⟩;cases h
    ·cases h
   split at h
   ·rename_i b m j J;obtain⟨q,J,k⟩:=G J;obtain⟨l,s,d⟩:=h;have d:(⟨some (.r bl.length 0),bl++[.k e sz 0 m],[]⟩:eG E.T.El)=r:=d;subst d;have R:b=[]:=by obtain⟨xs,⟨A,_,e2,e3⟩,e4⟩:=acC z M j ad;subst e3;exact gR e4.len.symm
    subst R;exact F (p:=none) (b:=[]) j J k (by simpa using s)
   ·rename_i i g b m j J;obtain⟨q,J,k⟩:=G J;obtain⟨l,s,d⟩:=h;have d:(⟨some (.r i (g+1)),bl.set i (.k e sz (g+1) (b++m)),[i]⟩:eG E.T.El)=r:=d;subst d;exact F j J k s
   ·exact h.elim
 ·exact h.elim
end
def nM{α:Type}(z:List α):Nat->List α
 |0=>[]
 |n+1=>z++nM z n
theorem Uh{α:Type}(z:List α):∀n,(nM z n).length=n*z.length
 |0=>by simp[nM]
 |n+1=>by simp only[nM,dj,Uh z n,jj];omega
theorem aru{α:Type}{z:List α}:∀ {n i:Nat},i<n*z.length->(nM z n)[i]? =z[i%z.length]?
 |0,i,h=>by simp at h
 |n+1,i,h=>by simp only[nM];rcases fO i z.length with c |c;rw[dS c,Nat.mod_eq_of_lt c];rw[eA c,aru (by rw[jj]at h;omega),Nat.mod_eq_sub_mod c]
theorem art(DA:Array Value)(n:Nat)(h:0<DA.size):((Array.range (n*DA.size)).map (DA[·%DA.size]!))=⟨nM DA.toList n⟩:=by rw[<-Array.toList_inj];apply jZ;intro i;rcases fO i (n*DA.size)with c |c;simp only;rw[aru (by simpa using c)];have a:i%DA.size<DA.size:=Nat.mod_lt _ h;simp[c,a];rw[fk (by simpa using c),fk (by rw[Uh];simpa using c)]
theorem arv{El:Nat->Type}(z:List Value):∀n,(nM z n).map (aL.p (El:=El))=nM (z.map .p) n
 |0=>rfl
 |n+1=>by simp[nM,arv z n]
def ahH(E:Env)(bl:List (aG E.T.El))(t n:Nat)(ps:List (Nat×aL E.T.El)):Option (eG E.T.El):=match vR E.P t,n,ps with
 |some (e,sz,_),0,[]=>match cx sz (E.T.ty e).size with
  |true=>some ⟨some (.r bl.length 0),bl++[.r e 0 0 []],[]⟩
  |false=>some ⟨some (.r bl.length 0),bl++[.k e sz 0 []],[]⟩
 |_,_,_=>none
def VV(E:Env)(bl:List (aG E.T.El))(t n:Nat)(ps:List (Nat×aL E.T.El)):D (eG E.T.El):=match vR E.P t with
 |some (e,sz,_)=>match Hj E.P e,iI n 100000&&eN 0 n&&iI (n*sz) 16777216 with
  |some z,true=>match yf (λ i=>some (i*sz,sz)) (nM (z.map .p) n) ps with
   |some cs=>match pW bl cs with
    |(bl',a)=>match cx sz (E.T.ty e).size,IG (E.T.e e) (HS sz n a)with
     |true,some l=>.ok ⟨some (.r bl'.length 0),bl'++[.r e 0 0 l],[]⟩
     |_,_=>.ok ⟨some (.r bl.length 0),bl++[.k e sz 0 cs],[]⟩
   |none=>.no
  |_,_=>.no
 |none=>.no
def VU(E:Env)(bl:List (aG E.T.El))(t n:Nat)(ps:List (Nat×aL E.T.El)):D (eG E.T.El):=match ahH E bl t n ps with
 |some r=>.ok r
 |none=>VV E bl t n ps
def acb:Operand->Operand->Bool
 | .tmp a,.tmp b=>cx a b
 | .const (.int .i64 m),.const (.int .i64 n)=>decide (m=n)
 |_,_=>false
theorem aKS{a:Act}{x y:Operand}(h:acb x y=true):a.eval x=a.eval y:=by unfold acb at h;split at h;rw[bF h];rw[of_decide_eq_true h];cases h
def VZ(E:Env)(bl:List (aG E.T.El))(t:Nat)(x y:Operand)(u:aL E.T.El):D (eG E.T.El):=match vR E.P t,u with
 |some (e,sz,bZ),.p (.int .i64 k)=>match cx sz (E.T.ty e).size,Ao E e e,acb x y with
  |true,some z0,true=>.op (ri z0 bZ k) λ l=>.ok ⟨some (.r bl.length 0),bl++[.r e 0 0 l],[]⟩
  |_,_,_=>.no
 |_,_=>.no
section
variable{E:Env}{W w w':World}{M0:List Nat}{X:Nat->Prop}{n:cE}{f:cA E.T.El}{bl:List (aG E.T.El)}{ρ:List Value}{a:Act}{cur:List (Nat×Bool)}
theorem MN(c:Mem E.T W M0 X bl ρ w){o:Oper}{e sz n:Nat}{vs:List Value}{B:aG E.T.El}(Qo:b1 (some B)=0)(l:∀h,bD B h=a7.ag h)(d:vs.length=n*sz)(m:n<=maxLen)
 (bO:∀(bl':List (aG E.T.El))(ρ':List Value)(w':World),To X bl bl' ρ ρ' w w'->rowIs w' e sz (.slice (some ⟨w.heap.size,0,none⟩) n n) n vs->kb E.T (bi X bl' ρ' w') w' ρ' bl' B (.slice (some ⟨w.heap.size,0,none⟩) n n))
 (hy:bc E.P o a w (.slice (some ⟨w.heap.size,0,none⟩) n n) (w.alloc (.cells ⟨vs⟩ e))):h2 E o a W M0 X bl ρ w ⟨some (.r bl.length 0),bl++[B],[]⟩:=by
 have g:a_ [] w (w.alloc (.cells ⟨vs⟩ e)):=a_.alloc _ _ _
 have p:rowIs (w.alloc (.cells ⟨vs⟩ e)) e sz (.slice (some ⟨w.heap.size,0,none⟩) n n) n vs:= .inl ⟨d,.inr ⟨w.heap.size,n,⟨vs⟩,rfl,fY _,heap_alloc_new w _,cP _,m,by simpa using d,by rw[<-d,iH]⟩⟩
 have i:∀k∈bD B (.slice (some ⟨w.heap.size,0,none⟩) n n),w.heap.size<=k/\k<(w.alloc (.cells ⟨vs⟩ e)).heap.size:=λ k b=>by
  rw[l]at b;have:k=w.heap.size:=by
   cases n with
   |zero=>simp[a7.ag]at b
   |succ q=>simpa[a7.ag]using b
  subst this;simp
 have j:=c.C0 (B:=B) (h:=.slice (some ⟨w.heap.size,0,none⟩) n n) g i
 refine⟨_,ρ++[.slice (some ⟨w.heap.size,0,none⟩) n n],c.push g i (bO _ _ _ j p),j,λ k b _=>g.block k b (by simp),_,hy,?_⟩
 simp only[av]
 exact⟨trivial,.slice (some ⟨w.heap.size,0,none⟩) n n,by rw[<-c.len];simp,fY _,λ _=>rfl⟩
theorem aze(a1:dr E)(C:Mem E.T W M0 X bl ρ w){o:Oper}{t n:Nat}{xs:List (Nat×Operand)}{ps:List (Nat×aL E.T.El)}{r:eG E.T.El}(h:(VV E bl t n ps).out r)(M:o.op= .buildSlice t n xs.toArray)
 (N:tE E.T (bi X bl ρ w) w ρ bl ps (xs.map λ p=>(p.1,a.eval p.2))):h2 E o a W M0 X bl ρ w r:=by
 unfold VV at h
 split at h
 ·rename_i e sz bZ O;obtain⟨P,i0,Q,hi,R,S,J,k,U,c6⟩:=Bg O;split at h
  ·rename_i z V ag;simp only[ca]at ag;have Lt:=cJ ag.1.1;have If:=cJ ag.1.2;have Qg:=cJ ag.2;obtain⟨g,D,m⟩:=Oz V;have Y:g=Q:=by have e1:=D w;simp only[zeroValue,typeInfo,Sem.run_bind]at e1;simp[go_sem,hi,R]at e1;exact e1.symm
   subst Y;have s:z.length=sz:=by rw[<-k,m];simp
   split at h
   ·rename_i cs F;obtain⟨os,Z,u⟩:=V_ (uW (nM z n)) N (by rw[arv];exact F)
    have v:os.length=n*sz:=by
     have e1:=u.len;have key:∀ {ps:List (Nat×aL E.T.El)}{c d:List (aL E.T.El)},yf (λ i=>some (i*sz,sz)) c ps=some d->d.length=c.length:=by
      intro ps;induction ps with
      |nil=>intro c d b;simp only[yf,aM]at b;rw[b]
      |cons p r aY=>intro c d b;obtain⟨i,y⟩:=p;simp only[yf]at b;split at b;rename_i G;simp only[ca]at G;rw[aY b,Zr (cJ G.2)];cases b
     rw[e1,key F,Uh,gJ,s]
    have j:=art g.cells n (by rw[k];exact U);rw[k,m]at j;have H:bc E.P o a w (.slice (some ⟨w.heap.size,0,none⟩) n n) (w.alloc (.cells ⟨os⟩ e)):=by
     have bh: ¬(n*sz>2^24):=by omega
     have bs:n*sz≠0:=by intro b;rcases Nat.mul_eq_zero.1 b with q |q<;>omega
     simp only[bc,execOp,M,Instr.buildSlice,Sem.run_bind,Sem.run_pure,run_sizeOf hi,S,D,Result.andThen_ok,run_underlying P,gN,ly bh,ly bs];have I:g.cells.size=sz:=k;rw[m]at I;simp only[m];rw[I,j,Z];rfl
    have K:n<=maxLen:=by simp only[maxLen];omega
    split at h;rename_i bl' lH sr;obtain⟨m1,t1,v1⟩:=PW C sr u;split at h;rename_i l x ak;have h:(⟨some (.r bl'.length 0),bl'++[.r e 0 0 l],[]⟩:eG E.T.El)=r:=h;subst h;have x:=bF x;obtain⟨b7,L⟩:=YQ a1 n v1 v ak;refine h2.first t1 (λ i hi=>by simp at hi) (MN (e:=e) (sz:=sz) (n:=n) (vs:=os) m1 rfl (λ _=>rfl) v K (λ A8 nN cQ A B=>?_) H);subst x;exact⟨_,_,os,by rw[L],by rw[L];exact B,qk _ A.F b7⟩;have h:(⟨some (.r bl.length 0),bl++[.k e sz 0 cs],[]⟩:eG E.T.El)=r:=h;subst h;exact MN (e:=e) (sz:=sz) (n:=n) (vs:=os) C rfl (λ _=>rfl) v K (λ A8 nN cQ A B=>⟨_,_,_,os,rfl,B,A.vs u⟩) H
   ·exact h.elim
  ·exact h.elim
 ·exact h.elim
theorem azf(a1:dr E)(c:Mem E.T W M0 X bl ρ w){o:Oper}{t n:Nat}{xs:List (Nat×Operand)}{ps:List (Nat×aL E.T.El)}{r:eG E.T.El}(h:(VU E bl t n ps).out r)(g:o.op= .buildSlice t n xs.toArray)
 (i:tE E.T (bi X bl ρ w) w ρ bl ps (xs.map λ p=>(p.1,a.eval p.2))):h2 E o a W M0 X bl ρ w r:=by
 unfold VU at h
 split at h
 ·rename_i j b;have h:j=r:=h;subst h;unfold ahH at b;split at b
  ·rename_i e sz bZ k;obtain⟨l,m,y,hi,z,A,J,B,C,D⟩:=Bg k
   have ad:xs=[]:=by
    cases xs with
    |nil=>rfl
    |cons p q=>simp[tE]at i
   subst ad;have hy:bc E.P o a w _ _:=Kc (sz:=m.size) l (λ w=>run_sizeOf hi w) g;split at b;rename_i ag;simp only[aM]at b;subst b;exact MN (e:=e) (sz:=sz) (n:=0) (vs:=[]) c rfl (λ _=>rfl) (by simp) (fY _) (λ s u v x d=>⟨_,_,[],rfl,by rw[<-bF ag];exact d,rfl⟩) hy;simp only[aM]at b;subst b;exact MN (e:=e) (sz:=sz) (n:=0) (vs:=[]) c rfl (λ _=>rfl) (by simp) (fY _) (λ s u v x d=>⟨_,_,_,[],rfl,d,rfl⟩) hy
  ·cases b
 ·exact aze a1 c h g i
theorem am0{α:Type}{T:dt α}{F:Nat->Prop}{w:World}{z:List Value}{z0:α}(h:T.rd F w z z0):∀n,dN T F w (nM z n) (eF n z0)
 |0=>rfl
 |n+1=>⟨z,nM z n,rfl,h,am0 h n⟩
theorem azk(a1:dr E)(A:Mem E.T W M0 X bl ρ w){o:Oper}{t:Nat}{x y:Operand}{u:aL E.T.El}{r:eG E.T.El}(h:(VZ E bl t x y u).out r)(B:o.op= .makeSlice t x y)(ad:av E.T (bi X bl ρ w) w ρ bl u (a.eval x)):h2 E o a W M0 X bl ρ w r:=by
 unfold VZ at h;split at h
 ·rename_i e sz bZ k C;obtain⟨D,s,b,hi,v,F,J,d,G,H⟩:=Bg C;split at h
  ·rename_i z0 g c aj;obtain⟨l,I,i⟩:=h;have i:(⟨some (.r bl.length 0),bl++[.r e 0 0 l],[]⟩:eG E.T.El)=r:=i;subst i;have g:=bF g;obtain⟨K,U,rfl⟩:=aF7 I;obtain⟨m,rfl⟩:=kl K;simp only[bR]at *
   have L:m<=bZ*m:=Nat.le_mul_of_pos_left m H;have z:m<=maxLen:=by simp only[maxLen];omega
   simp only[av]at ad;have hy:a.eval y= .int .i64 (m:Int):=by rw[<-aKS aj,ad]
   have M:(E.T.ty e).rd (bi X bl ρ w) w b.cells.toList z0:=by
    unfold Ao at c;split at c
    ·rename_i OA j;split at c
     ·have e1:OA=b:=by
       simp only[Kf,hi]at j;rw[v]at j;exact(ee j).symm
      subst e1;exact a1.tb.ix _ _ _ c _ _ ρ bl _ (uW _)
     ·cases c
    ·cases c
   have N:(s.bytes:Int)*(m:Int)<=281474976710656:=by
    rw[J];have O:((bZ*m:Nat):Int)<=281474976710656:=by omega
    rwa [Int.natCast_mul]at O
   have p:=run_make (P:=E.P) w t e s b D hi v .i64 .i64 (m:Int) (m:Int) (by omega) (j6 _) N (by simp only[maxLen]at z;omega);simp only[bR]at p;have q:madeCells b.cells (m*sz)=⟨nM b.cells.toList m⟩:=by have:=art b.cells m (by rw[d];exact G);rw[d]at this;simp only[madeCells,d];exact this
   rw[F,q]at p;have Q:bc E.P o a w (.slice (some ⟨w.heap.size,0,none⟩) m m) (w.alloc (.cells ⟨nM b.cells.toList m⟩ e)):=by simp only[bc,execOp,B,ad,hy,Sem.run_bind,p,Result.andThen_ok,Sem.run_pure]
   refine MN (e:=e) (sz:=sz) (n:=m) (vs:=nM b.cells.toList m) A rfl (λ _=>rfl) (by rw[Uh];simp[d]) z (λ V Y Z R S=>?_) Q;subst g;exact⟨_,_,_,by rw[js],by rw[js];exact S,am0 ((E.T.ty e).law R.F M) m⟩
  ·exact h.elim
 ·exact h.elim
end
def aod(P:Program)(t:Nat):Bool:=match P.underlying t with
 |some (.int .u8)=>true
 |_=>false
def V4(E:Env)(bl:List (aG E.T.El))(s d:Nat)(u:aL E.T.El):D (eG E.T.El):=match E.P.underlying s,E.P.underlying d,u with
 |some .string,some (.slice e),.p (.string ⟨⟨l⟩⟩)=>match cx e E.nS,aod E.P E.nS with
  |true,true=>.op (bytesOf l) λ r=>.ok ⟨some (.s E.nS (E.O6 r)),bl,[]⟩
  |_,_=>.no
 |_,_,_=>.no
section
variable{E:Env}{W w w':World}{M0:List Nat}{X:Nat->Prop}{bl:List (aG E.T.El)}{ρ:List Value}{a:Act}
theorem azp(a1:dr E)(i:Mem E.T W M0 X bl ρ w){o:Oper}{s d:Nat}{x:Operand}{u:aL E.T.El}{r:eG E.T.El}(f:(V4 E bl s d u).out r)(y:o.op= .convert s d x)(ad:av E.T (bi X bl ρ w) w ρ bl u (a.eval x)):h2 E o a W M0 X bl ρ w r:=by
 unfold V4 at f;split at f
 ·rename_i e l z A;split at f
  ·rename_i ag m;have ag:=bF ag;subst ag;have C:E.P.underlying E.nS=some (.int .u8):=by unfold aod at m;split at m;assumption;cases m
   obtain⟨q,c,J⟩:=f;have J:(⟨some (.s E.nS (E.O6 q)),bl,[]⟩:eG E.T.El)=r:=J;subst J;simp only[av]at ad;unfold bytesOf at c;split at c
   ·rename_i D;simp only[aM]at c;subst c;have p:=run_bytes_of_string (P:=E.P) w s d E.nS ⟨⟨l⟩⟩ z A C;have F:(⟨⟨l⟩⟩:ByteArray).size=l.length:=rfl;have hc:=grownCap_ge w l.length 0 E.nS;have t:=grownCap_le_maxLen w l.length 0 E.nS (by simp only[maxLen];omega);obtain⟨B,bO⟩:∃B,B=bytesRow ⟨⟨l⟩⟩ (grownCap w l.length 0 E.nS):=⟨_,rfl⟩
    obtain⟨e0,v⟩:∃e0,e0=grownCap w l.length 0 E.nS:=⟨_,rfl⟩
    rw[F,<-bO,<-v]at p;rw[<-v]at hc t;have hy:bc E.P o a w (.slice (some ⟨w.heap.size,0,none⟩) l.length e0) (w.drew.alloc (.cells B E.nS (B.size,B.size+1))):=by simp only[bc,execOp,y,ad,Sem.run_bind,p,Result.andThen_ok];rfl
    have n:a_ [] w (w.drew.alloc (.cells B E.nS (B.size,B.size+1))):=(a_.drew [] w).trans (a_.alloc [] _ _) (by simp);refine⟨_,ρ,i.fo n,Mem.u' n,λ k g _=>n.block k g (by simp),_,hy,?_⟩;simp only[av];refine⟨_,e0,by rw[a1.afB],by rw[a1.afB];exact hc,t,(λ h=>by cases h),λ _=>⟨rfl,⟨?_,?_,by show w.heap.size<_;simp⟩,_,a1.av7 _ _ _ _ (amZ l),λ j u ax=>?_⟩⟩;intro g;have c:w.heap.size<W.heap.size:=(i.iT _ g).1;have J:=i.bU.size;omega;intro g;have c:w.heap.size<w.heap.size:=(i.lt _ g).1;omega
    ·rw[iY,cF]at ax;obtain⟨b,ag,rfl⟩:=ax;obtain⟨G,H⟩:=ba.1 ag;have:=bytesRow_at ⟨⟨l⟩⟩ (grownCap w l.length 0 E.nS) j (by simpa using G);rw[<-bO]at this;show World.cell? _ ⟨w.heap.size,0+j,none⟩=_
     simp only[World.cell?,World.alloc];rw[show(w.drew.heap.push _)[w.heap.size]? =some _ from Array.getElem?_push_size (xs:=w.heap)];simp only[ji,this];simp[H]
   ·cases c
  ·exact f.elim
 ·exact f.elim
end
def VM(E:Env)(bl:List (aG E.T.El))(t tn:Nat)(u v:aL E.T.El):D (eG E.T.El):=match vR E.P t,mv (E.P.underlying tn),u,v with
 |some (e,sz,bZ),some (.i .i64),.p (.slice none 0 0),.p (.int .i64 k)=>match cx sz 1&&cx (E.T.ty e).size 1,Ao E e e with
  |true,some z0=>.op (KJ z0 bZ k) λ l=>.ok ⟨some (.r bl.length 0),bl++[.r e 0 0 l],[]⟩
  |_,_=>.no
 |_,_,_,_=>.no
section
variable{E:Env}{W w w':World}{M0:List Nat}{X:Nat->Prop}{n:cE}{f:cA E.T.El}{bl:List (aG E.T.El)}{ρ:List Value}{a:Act}{cur:List (Nat×Bool)}
theorem ay6(a1:dr E)(i:Mem E.T W M0 X bl ρ w){o:Oper}{t tn:Nat}{x y:Operand}{u v:aL E.T.El}{r:eG E.T.El}(h:(VM E bl t tn u v).out r)(N:o.op= .call { callee:=.builtin .append,args:=#[x,y],argTypes:=#[t,tn] })
 (ad:av E.T (bi X bl ρ w) w ρ bl u (a.eval x))(H:av E.T (bi X bl ρ w) w ρ bl v (a.eval y)):h2 E o a W M0 X bl ρ w r:=by
 unfold VM at h
 split at h
 ·rename_i e sz bZ k O p;obtain⟨Q,R,b,hi,I,S,J,g,hQ,U⟩:=Bg O;have s:=y2 p;split at h
  ·rename_i z0 ag d;simp only[ca]at ag;have aj:=bF ag.1;have V:=bF ag.2;subst aj;obtain⟨l,Y,z⟩:=h;have z:(⟨some (.r bl.length 0),bl++[.r e 0 0 l],[]⟩:eG E.T.El)=r:=z;subst z;obtain⟨Z,bj,rfl⟩:=av3 Y;obtain⟨m,rfl⟩:=kl (Int.le_of_lt Z);simp only[bR]at *
   have hle:m<=bZ*m:=Nat.le_mul_of_pos_left m U;simp only[av]at ad H;have gz:(E.T.ty e).rd (bi X bl ρ w) w b.cells.toList z0:=by
    unfold Ao at d;split at d
    ·rename_i OA A;split at d
     ·have e1:OA=b:=by
       simp only[Kf,hi]at A;rw[I]at A;exact(ee A).symm
      subst e1;exact a1.tb.ix _ _ _ d _ _ ρ bl _ (uW _)
     ·cases d
    ·cases d
   obtain⟨e0,C⟩:∃e0,b.cells= #[e0]:=by
    revert g;generalize b.cells=cs;obtain⟨l⟩:=cs;intro g;cases l with
    |nil=>simp at g
    |cons c r=>cases r with
     |nil=>exact⟨c,rfl⟩
     |cons _ _=>simp at g
   have hh:=Lib.run_append_nil_zeros (P:=E.P) w t tn o.type e R b .i64 .i64 Q s hi I m (by omega) (by omega) (by omega) (by rw[J,Nat.mul_comm];omega);let cap:=grownCap w m 0 e;have Ii:m<=cap:=grownCap_ge w m 0 e;have Lx:cap<=maxLen:=grownCap_le_maxLen w m 0 e (by simp only[maxLen];omega);have YH:∀q,(Builtin.zeroCells b.cells q).toList=eF q e0:=by intro q;rw[C];apply List.ext_getElem;simp[Builtin.zeroCells];intro j S J;simp[Builtin.zeroCells,Nat.mod_one]
   let cur:=Builtin.zeroCells b.cells m++Builtin.zeroCells b.cells (cap-m);have hcs:cur.size=cap:=by simp only[cur,Array.size_append,size_zeroCells,C];simp;omega
   have q6:bc E.P o a w (.slice (some ⟨w.heap.size,0,none⟩) m cap) (w.drew.alloc (.cells cur e)):=by simp only[bc,execOp,N,resolve,invoke,builtin,Sem.run_bind,Sem.run_pure,Result.andThen_ok,gN,ea,hP,ad,H,hh,cap,cur]
   have D:a_ [] w (w.drew.alloc (.cells cur e)):=(a_.drew [] w).trans (a_.alloc [] w.drew (.cells cur e)) (by simp);have Fh:w.drew.heap.size=w.heap.size:=rfl;have p7:rowIs (w.drew.alloc (.cells cur e)) e 1 (.slice (some ⟨w.heap.size,0,none⟩) m cap) m (eF m e0):=by refine .inl ⟨by simp,.inr ⟨w.heap.size,cap,cur,rfl,fY _,?_,Ii,Lx,by simp[hcs],?_⟩⟩;rw[<-Fh];exact heap_alloc_new w.drew _;simp only[cur,Array.toList_append,YH,jl];rw[jt (by simp),hp (by simp)]
   have v':cap=(cap-1)+1:=by omega
   have K:∀q∈bD (aG.r (El:=E.T.El) e 0 0 (eF m z0)) (.slice (some ⟨w.heap.size,0,none⟩) m cap),w.heap.size<=q/\q<(w.drew.alloc (.cells cur e)).heap.size:=λ q L=>by
    rw[v']at L;have:q=w.heap.size:=by simpa[bD,a7.ag]using L
    subst this;simp
   have M:=i.C0 (B:=aG.r e 0 0 (eF m z0)) (h:=.slice (some ⟨w.heap.size,0,none⟩) m cap) D K;have G:∀(q:Nat)(F:Nat->Prop)(w':World),(E.T.ty e).rd F w' [e0] z0->dN (E.T.ty e) F w' (eF q e0) (eF q z0):=λ q F w' h=>by
    induction q with
    |zero=>rfl
    |succ q aY=>exact⟨[e0],eF q e0,rfl,h,aY⟩
   refine⟨_,ρ++[.slice (some ⟨w.heap.size,0,none⟩) m cap],i.push D K ⟨some ⟨w.heap.size,0,none⟩,cap,eF m e0,by rw[js],by rw[V,js];exact p7,G m _ _ ?_⟩,M,λ k p _=>D.block k p (by simp),_,q6,?_⟩;have:=(E.T.ty e).law M.F gz;rwa [C]at this;simp only[av];exact⟨trivial,.slice (some ⟨w.heap.size,0,none⟩) m cap,by rw[<-i.len];simp,fY _,λ _=>rfl⟩
  ·exact h.elim
 ·exact h.elim
end
end a7
namespace I
def gC{α:Type}(l:List α)(p:Nat)(ds:List α):List α:=l.take p++ds++l.drop (p+ds.length)
theorem Jc{α:Type}{l:List α}{p:Nat}{ds:List α}(h:p+ds.length<=l.length):(gC l p ds).length=l.length:=by simp[gC];omega
end I
namespace a7
open Go Go.RowKit aw I
theorem ahM(b:Nat):∀(vs:List Value)(o:Nat)(w:World),a_ [b] w (w.setCells b o vs)
 |[],_,w=>a_.refl _ w
 |v::r,o,w=>(a_.set w ⟨b,o,none⟩ v).trans (ahM b r (o+1) _) (λ x ad=>.inl ad)
theorem anF(b:Nat)(e:TypeId)(a:Nat×Nat):∀(vs:List Value)(o:Nat)(w:World)(cur:List Value),w.heap[b]? =some (.cells cur.toArray e a)->o+vs.length<=cur.length ->
 (w.setCells b o vs).heap[b]? =some (.cells (gC cur o vs).toArray e a)
 |[],o,w,cur,h,_=>by simpa[World.setCells,gC]using h
 |v::r,o,w,cur,h,d=>by
  simp only[cT]at d;have ag:b<w.heap.size:=by rcases fO b w.heap.size with h' |h';exact h';rw[hG h']at h;cases h
  have f:(w.setCell ⟨b,o,none⟩ v).heap[b]? =some (.cells (cur.set o v).toArray e a):=by simp only[World.setCell,jr,lz,h,fs];simp
  have:=anF b e a r (o+1) _ (cur.set o v) f (by simp;omega);show((w.setCell ⟨b,o,none⟩ v).setCells b (o+1) r).heap[b]? =_
  rw[this];have g:cur.set o v=cur.take o++v::cur.drop (o+1):=by rw[List.set_eq_take_append_cons_drop,lz (by omega)]
  have c:(cur.take o).length=o:=by rw[fe];omega
  have e1:(cur.set o v).take (o+1)=cur.take o++[v]:=by rw[g,j4,c,hp (by rw[c];omega)];simp
  have e2:(cur.set o v).drop (o+1+r.length)=cur.drop (o+(v::r).length):=by rw[List.drop_set_of_lt (by omega)];congr 1;simp;omega
  simp only[gC];rw[e1,e2];simp
theorem aHm{α:Type}{l ds:List α}{p n:Nat}(h:p+ds.length<=n)(a:n<=l.length):(gC l p ds).take n=gC (l.take n) p ds:=acu h a
structure UO (El:Nat->Type) where
 i:Nat
 t:Nat
 g:Nat
 k:Nat
 l:List (El t)
 lo:Int
 hi:Int
def R1{El:Nat->Type}(bl:List (aG El)):aL El->Option (UO El)
 | .v i g lo hi=>match nth bl i with
   |some (.r t a k l)=>match cx g a with
    |true=>some ⟨i,t,a,k,l,lo,hi⟩
    |false=>none
   |_=>none
 | .r i g=>match nth bl i with
   |some (.r t a k l)=>match cx g a with
    |true=>some ⟨i,t,a,k,l,0,(l.length:Int)⟩
    |false=>none
   |_=>none
 |_=>none
def VQ(E:Env)(bl:List (aG E.T.El))(t:Nat)(u v:aL E.T.El):D (eG E.T.El):=match vR E.P t,R1 bl u with
 |some (_,n,_),some p=>match cx n 1&&cx (E.T.ty p.t).size 1,NI E bl p.t v with
  |true,some m=>.op (zC (decide (0<p.l.length))) λ _=>.ok ⟨some (.p (.int .i64 ((m.take (p.hi-p.lo).toNat).length:Int))),bl.set p.i (.r p.t p.g (p.k+1) (gC p.l p.lo.toNat (m.take (p.hi-p.lo).toNat))),[p.i]⟩
  |_,_=>.no
 |_,_=>.no
def VP(E:Env)(bl:List (aG E.T.El))(t:Nat)(u:aL E.T.El):D (eG E.T.El):=match vR E.P t,R1 bl u with
 |some (e,sz,_),some p=>match cx sz 1&&cx (E.T.ty p.t).size 1&& !(E.T.e p.t).agg,Ao E p.t e with
  |true,some z0=>.op (zC (decide (p.lo<p.hi))) λ _=>.ok ⟨some (.u []),bl.set p.i (.r p.t p.g (p.k+1) (gC p.l p.lo.toNat (eF (p.hi-p.lo).toNat z0))),[p.i]⟩
  |_,_=>.no
 |_,_=>.no
section
variable{E:Env}{W w w':World}{M0:List Nat}{X:Nat->Prop}{n:cE}{f:cA E.T.El}{bl:List (aG E.T.El)}{ρ:List Value}{a:Act}{cur:List (Nat×Bool)}
theorem ami(r:Mem E.T W M0 X bl ρ w){u:aL E.T.El}{v:Value}{p:UO E.T.El}(h:R1 bl u=some p)(s:(E.T.ty p.t).size=1)(q:av E.T (bi X bl ρ w) w ρ bl u v) :
 bl[p.i]? =some (.r p.t p.g p.k p.l)/\0<=p.lo/\p.lo<=p.hi/\p.hi<=p.l.length/\∃A c B j,ρ[p.i]? =some (.slice A p.l.length c)/\v= .slice B (p.hi.toNat-p.lo.toNat) j/\(p.lo<p.hi->B=A.map (·.add p.lo.toNat)):=by
 unfold R1 at h
 split at h
 ·rename_i i g lo hi;split at h;rename_i t x k l b;rw[dn]at b;split at h;rename_i ag;simp only[aM]at h;subst h;simp only[av]at q;obtain⟨_,aK,m,y,o⟩:=q;rw[b]at o;obtain⟨A,n,c,B,e1,e2,e3,e4,e5,e6,e7⟩:=o (bF ag);obtain⟨ck,j,xs,d,z,C⟩:=r.ok _ _ _ b m;rw[e1]at d;simp only[Value.slice.injEq]at d;obtain⟨rfl,rfl,rfl⟩:=d;refine⟨b,e2,e3,e4,A,c,B,_,e1▸m,e5,λ D=>?_⟩;have:=e7 D;simp only[kv,s,jl]at this;exact this;cases h;cases h
 ·rename_i i g;split at h
  ·rename_i t x k l b;rw[dn]at b;split at h
   ·rename_i ag;simp only[aM]at h;subst h;simp only[av]at q;obtain⟨_,aK,m,y,o⟩:=q;rw[b]at o;have e:=o (bF ag);subst e;obtain⟨ck,j,xs,d,z,C⟩:=r.ok _ _ _ b m;refine⟨b,j6 _,by simp,j6 _,ck,j,ck,j,d▸m,by simpa using d,λ _=>?_⟩;cases ck with
    |none=>rfl
    |some dM=>simp[Addr.add]
   ·cases h
  ·cases h
 ·cases h
theorem anh(m:Mem E.T W M0 X bl ρ w){o:Oper}{p:UO E.T.El}{A:Option Addr}{c:Nat}(hi:bl[p.i]? =some (.r p.t p.g p.k p.l))(d:ρ[p.i]? =some (.slice A p.l.length c))(g:(E.T.ty p.t).size=1){q:Nat}{ds:List (E.T.El p.t)}{vs:List Value}(x:dN (E.T.ty p.t) (bi X bl ρ w) w vs ds)(z:0<p.l.length)(i:q+ds.length<=p.l.length) :
 ∃gb,A=some ⟨gb,0,none⟩/\vs.length=ds.length/\(∀j,j<p.l.length->(w.cell? ⟨gb,j,none⟩).isSome=true)/\(∀j,w.frozen? ⟨gb,j,none⟩=false)/\
  ∀ {r:Value}{y:aL E.T.El},(∀(F:Nat->Prop)(w:World)(ρ:List Value)(bl:List (aG E.T.El)),av E.T F w ρ bl y r)->bc E.P o a w r (w.setCells gb q vs)->h2 E o a W M0 X bl ρ w ⟨some y,bl.set p.i (.r p.t p.g (p.k+1) (gC p.l q ds)),[p.i]⟩:=by
 obtain⟨ck,U,xs,B,C,D⟩:=m.ok _ _ _ hi d
 simp only[Value.slice.injEq,true_and]at B
 obtain⟨rfl,rfl⟩:=B
 obtain⟨gb,rfl,V,hc,K⟩:=w3 z C
 have s:=zL _ x
 rw[g,jl]at s
 have sv:=zL _ D
 rw[g,jl]at sv
 have G:=C.own z
 rw[g]at G
 rcases G.2 with⟨_,Y⟩|⟨g',cap,cur,e1,e2,e3,e4,e5,e6,e7⟩
 ·omega
 simp only[Value.slice.injEq,aM,Addr.mk.injEq,and_true,true_and]at e1
 obtain⟨rfl,rfl⟩:=e1
 rw[jl]at e6 e7
 have L:(⟨cur.toList⟩:Array Value)=cur:=by simp
 refine⟨gb,rfl,s,λ j ax=>?_,λ j=>by simp[World.frozen?,e3],λ{r y} hy M=>?_⟩
 ·have:j<cur.size:=by omega
  simp[World.cell?,e3,this]
 have N:bD (aG.r p.t p.g p.k p.l) (.slice (some ⟨gb,0,none⟩) p.l.length c)=[gb]:=K _
 have t:a_ (bD (aG.r p.t p.g p.k p.l) (.slice (some ⟨gb,0,none⟩) p.l.length c)) w (w.setCells gb q vs):=by rw[N];exact ahM gb vs q w
 have u:=anF gb p.t (0,0) vs q w cur.toList (by rw[<-L]at e3;exact e3) (by simp;omega)
 have O:rowIs (w.setCells gb q vs) p.t 1 (.slice (some ⟨gb,0,none⟩) p.l.length c) p.l.length (gC xs q vs):=by refine .inl ⟨by rw[Jc (by omega),sv,jl],.inr ⟨gb,c,_,rfl,e2,u,e4,e5,?_,?_⟩⟩;have:=Jc (l:=cur.toList) (p:=q) (ds:=vs) (by simp;omega);simpa[e6]using this;simp only[jl];rw[aHm (by omega) (by simp;omega),e7]
 have H:∀k∈bD (aG.r p.t p.g (p.k+1) (gC p.l q ds)) (.slice (some ⟨gb,0,none⟩) p.l.length c),k∈bD (aG.r p.t p.g p.k p.l) (.slice (some ⟨gb,0,none⟩) p.l.length c)\/(w.heap.size<=k/\k<(w.setCells gb q vs).heap.size):=λ k v=>.inl v
 have P:∀ {h:Value},(¬ms h->h=h)/\b1 (some (aG.r p.t p.g p.k p.l))<=b1 (some (aG.r p.t p.g (p.k+1) (gC p.l q ds)))/\(b1 (some (aG.r p.t p.g (p.k+1) (gC p.l q ds)))=b1 (some (aG.r p.t p.g p.k p.l))->h=h/\kv E.T (some (aG.r p.t p.g (p.k+1) (gC p.l q ds)))=kv E.T (some (aG.r p.t p.g p.k p.l))/\hU (some (aG.r p.t p.g p.k p.l))<=hU (some (aG.r p.t p.g (p.k+1) (gC p.l q ds)))/\(hU (some (aG.r p.t p.g (p.k+1) (gC p.l q ds)))=hU (some (aG.r p.t p.g p.k p.l))->ku (some (aG.r p.t p.g (p.k+1) (gC p.l q ds)))=ku (some (aG.r p.t p.g p.k p.l)))):=λ{h}=>⟨λ _=>rfl,cP _,λ _=>⟨rfl,rfl,Nat.le_succ _,λ e=>by simp[hU]at e⟩⟩
 have b:=m.Gw (B':=aG.r p.t p.g (p.k+1) (gC p.l q ds)) (h':=.slice (some ⟨gb,0,none⟩) p.l.length c) hi d t H P
 have aj:=JC d
 have Q:dN (E.T.ty p.t) (bi X (bl.set p.i (.r p.t p.g (p.k+1) (gC p.l q ds))) ρ (w.setCells gb q vs)) (w.setCells gb q vs) (gC xs q vs) (gC p.l q ds):=by rw[aj]at b;have I:=qk _ b.F D;have R:=qk _ b.F x;have c1:=w1 0 q I;have c2:=w1 (q+ds.length) p.l.length I;rw[g]at c1 c2;simp only[jl,Nat.zero_mul,ei]at c1 c2;rw[hp (by omega),hp (by omega)]at c2;have:=Nb _ c2 (Nb _ R c1);unfold gC;rw[s];exact this
 have J:=m.df (B':=aG.r p.t p.g (p.k+1) (gC p.l q ds)) (h':=.slice (some ⟨gb,0,none⟩) p.l.length c) hi d t H b (by rw[aj];exact⟨some ⟨gb,0,none⟩,c,gC xs q vs,by rw[Jc i],by rw[g,Jc i];exact O,Q⟩)
 rw[aj]at J b
 exact⟨_,ρ,J,b,λ k v S=>t.block k v (S p.i (by simp) _ _ hi d),r,M,hy _ _ _ _⟩
theorem ay'(a1:dr E)(i:Mem E.T W M0 X bl ρ w){o:Oper}{t:Nat}{x y:Operand}{u v:aL E.T.El}{r:eG E.T.El}(h:(VQ E bl t u v).out r)(z:o.op= .call { callee:=.builtin .copy,args:=#[x,y],argTypes:=#[t,t] })
 (ad:av E.T (bi X bl ρ w) w ρ bl u (a.eval x))(hy:av E.T (bi X bl ρ w) w ρ bl v (a.eval y)):h2 E o a W M0 X bl ρ w r:=by
 unfold VQ at h
 split at h
 ·rename_i e n bZ p J K;obtain⟨C,i0,fm,mn,p8,L,k5,M,hQ,N⟩:=Bg J;split at h
  ·rename_i m ag O;simp only[ca]at ag;have Q:=bF ag.1;have d:=bF ag.2;subst Q;obtain⟨_,k,h⟩:=h;have k:0<p.l.length:=of_decide_eq_true (Z5 k);have h:(⟨some (.p (.int .i64 ((m.take (p.hi-p.lo).toNat).length:Int))),bl.set p.i (.r p.t p.g (p.k+1) (gC p.l p.lo.toNat (m.take (p.hi-p.lo).toNat))),[p.i]⟩:eG E.T.El)=r:=h;subst h;obtain⟨hi,l1,cv,k7,A,c,B,D,R,e1,e2⟩:=ami i K d ad;obtain⟨S,c2,news,G,U,H⟩:=anP a1 i O hy;have V:=zL _ H;rw[d,jl]at V;have b:(m.take (p.hi-p.lo).toNat).length=Nat.min m.length (p.hi.toNat-p.lo.toNat):=by rw[fe,Nat.min_comm];congr 1;omega
   have l:=w1 0 (p.hi-p.lo).toNat H;rw[d]at l;simp only[jl,Nat.zero_mul,ei]at l;have I:(E.P.info? e).map (·.size)=some 1:=by rw[mn];simp[L]
   obtain⟨gb,rfl,g,Y,Z,fin⟩:=anh (o:=o) (a:=a) (q:=p.lo.toNat) i hi R d l k (by rw[b];have:=Nat.min_le_right m.length (p.hi.toNat-p.lo.toNat);have e:Nat.min m.length (p.hi.toNat-p.lo.toNat)=min m.length (p.hi.toNat-p.lo.toNat):=rfl;omega);refine fin (r:=.int .i64 ((m.take (p.hi-p.lo).toNat).length:Int)) (λ F w ρ bl=>by simp only[av]) ?_;rcases km (m.take (p.hi-p.lo).toNat).length with aH |aH;have s:=run_copy_none (P:=E.P) w t t o.type e B S (p.hi.toNat-p.lo.toNat) D m.length c2 C I (by rw[<-b];exact aH);have bB:news.take (p.hi-p.lo).toNat=[]:=gR (g.trans aH);rw[bB,aH];simp only[bc,execOp,z,resolve,invoke,builtin,Sem.run_bind,Sem.run_pure,Result.andThen_ok,gN,ea,hP,e1,G,s];rfl
   ·have bz:p.lo<p.hi:=by
     rw[b]at aH;have e:Nat.min m.length (p.hi.toNat-p.lo.toNat)=min m.length (p.hi.toNat-p.lo.toNat):=rfl;omega
    rcases U with⟨bh,_⟩|⟨dM,rfl,bs,bL,eL⟩
    ·rw[b,bh]at aH;have e:Nat.min 0 (p.hi.toNat-p.lo.toNat)=min 0 (p.hi.toNat-p.lo.toNat):=rfl;omega
    ·have bO:=e2 bz;have bO:B=some ⟨gb,p.lo.toNat,none⟩:=by rw[bO];simp[Addr.add];try omega
     subst bO;have s:=run_copy_cells (P:=E.P) w t t o.type e gb p.lo.toNat (p.hi.toNat-p.lo.toNat) D dM m.length c2 (news.take (p.hi-p.lo).toNat) C I (by rw[g,b]) (λ j u ax=>by
      rw[gK]at ax;split at ax;exact bL j u ax
      ·cases ax) (λ j ax=>Y _ (by rw[g,b]at ax;have e:Nat.min m.length (p.hi.toNat-p.lo.toNat)=min m.length (p.hi.toNat-p.lo.toNat):=rfl;omega)) (λ j _=>Z _) (λ v af=>eL v (List.mem_of_mem_take af))
     rw[<-g];simp only[bc,execOp,z,resolve,invoke,builtin,Sem.run_bind,Sem.run_pure,Result.andThen_ok,gN,ea,hP,e1,G,s];rfl
  ·exact h.elim
 ·exact h.elim
theorem ay_(a1:dr E)(z:Mem E.T W M0 X bl ρ w){o:Oper}{t:Nat}{x:Operand}{u:aL E.T.El}{r:eG E.T.El}(h:(VP E bl t u).out r)(I:o.op= .call { callee:=.builtin .clear,args:=#[x],argTypes:=#[t] })
 (ad:av E.T (bi X bl ρ w) w ρ bl u (a.eval x)):h2 E o a W M0 X bl ρ w r:=by
 unfold VP at h
 split at h
 ·rename_i e n bZ p J K;obtain⟨L,i0,d,mn,C,gO,k5,k,hQ,M⟩:=Bg J;split at h
  ·rename_i z0 ag b;simp only[ca]at ag;have N:(E.T.e p.t).agg=false:=by simpa using ag.2
   have O:=bF ag.1.1;have D:=bF ag.1.2;subst O;obtain⟨_,Q,h⟩:=h;have R:p.lo<p.hi:=of_decide_eq_true (Z5 Q);have h:(⟨some (.u []),bl.set p.i (.r p.t p.g (p.k+1) (gC p.l p.lo.toNat (eF (p.hi-p.lo).toNat z0))),[p.i]⟩:eG E.T.El)=r:=h;subst h;obtain⟨hi,l1,cv,k7,A,c,B,S,U,e1,e2⟩:=ami z K D ad;obtain⟨e0,m⟩:∃e0,d.cells= #[e0]:=by
    revert k;generalize d.cells=cs;obtain⟨l⟩:=cs;intro G;cases l with
    |nil=>simp at G
    |cons c r=>cases r with
     |nil=>exact⟨c,rfl⟩
     |cons _ _=>simp at G
   have i:(E.T.ty p.t).rd (bi X bl ρ w) w [e0] z0/\d=e0:=by
    unfold Ao at b;split at b
    ·rename_i OA s;split at b
     ·rename_i v;have e1:OA=d:=by simp only[Kf,mn]at s;rw[C]at s;exact(ee s).symm
      subst e1;have:=a1.tb.ix _ _ _ b (bi X bl ρ w) w ρ bl _ (uW _);rw[m]at this;have g:=ars v;rw[N,m]at g;exact⟨this,g⟩
     ·cases b
    ·cases b
   obtain⟨i,y⟩:=i;have V:e0.oneCell'=true:=(E.T.ty p.t).one i e0 (by simp);have Y:dN (E.T.ty p.t) (bi X bl ρ w) w (eF (p.hi-p.lo).toNat e0) (eF (p.hi-p.lo).toNat z0):=by
    generalize(p.hi-p.lo).toNat=q;induction q with
    |zero=>rfl
    |succ q Z=>exact⟨[e0],eF q e0,rfl,i,Z⟩
   obtain⟨gb,rfl,yS,ki,XN,fin⟩:=anh (o:=o) (a:=a) (q:=p.lo.toNat) z hi U D Y (by omega) (by rw[js];omega);refine fin (λ F w ρ bl=>by simp only[av];exact⟨[],rfl,by simp[aZ]⟩) ?_;have bO:=e2 R;have bO:B=some ⟨gb,p.lo.toNat,none⟩:=by rw[bO];simp[Addr.add];try omega
   subst bO;have H:=Lib.run_clear_slice (P:=E.P) w t e o.type d L (λ w=>by simp only[zeroValue,typeInfo,Sem.run_bind];simp[go_sem,mn,C]) (by rw[m,y]) (by rw[y];exact V) gb p.lo.toNat (p.hi.toNat-p.lo.toNat) S (by omega) (λ j ax=>ki _ (by omega)) (λ j _=>XN _);have e:p.hi.toNat-p.lo.toNat=(p.hi-p.lo).toNat:=by omega
   rw[e,y]at H;simp only[bc,execOp,I,resolve,invoke,builtin,Sem.run_bind,Sem.run_pure,Result.andThen_ok,gN,ea,hP,e1,e,H]
  ·exact h.elim
 ·exact h.elim
end
def PG(E:Env)(bl:List (aG E.T.El))(f:cA E.T.El)(cur:List (Nat×Bool)):Op->D (eG E.T.El)
 | .alloc t=>match Hj E.P t with
   |some z=>.ok ⟨some (.b bl.length 0),bl++[.c t (z.map .p)],[]⟩
   |none=>.no
 | .box t x=>match od E bl f cur x with
   |some y=>.ok ⟨some (.b bl.length 0),bl++[.c t (cellsOf y)],[]⟩
   |none=>.no
 | .makeMap t none=>match mapOf E.P t with
   |some (k,e)=>match(E.T.e k).key with
    |some _=>.ok ⟨some (.m bl.length),bl++[.m k e []],[]⟩
    |none=>.no
   |none=>.no
 | .store t p x=>match od E bl f cur p,od E bl f cur x with
   |some u,some v=>V3 E bl t u v
   |_,_=>.no
 | .mapUpdate t m k x=>match od E bl f cur m,od E bl f cur k,od E bl f cur x with
   |some u,some v,some z=>PH E bl t u v z
   |_,_,_=>.no
 | .insert t m k x=>match od E bl f cur m,od E bl f cur k,od E bl f cur x with
   |some u,some v,some z=>PH E bl t u v z
   |_,_,_=>.no
 | .buildSlice t n ⟨ps⟩=>match I_ E bl f cur ps with
   |some ys=>VU E bl t n ys
   |none=>.no
 | .makeSlice t x y=>match od E bl f cur x with
   |some u=>VZ E bl t x y u
   |none=>.no
 | .convert s d x=>match od E bl f cur x with
   |some u=>V4 E bl s d u
   |none=>.no
 | .call ⟨.builtin .append,⟨[x,y]⟩,⟨[t,t']⟩⟩=>match cx t t',od E bl f cur x,od E bl f cur y with
   |true,some u,some v=>VL E bl t u v
   |false,some u,some v=>VM E bl t t' u v
   |_,_,_=>.no
 | .call ⟨.builtin .copy,⟨[x,y]⟩,⟨[t,t']⟩⟩=>match cx t t',od E bl f cur x,od E bl f cur y with
   |true,some u,some v=>VQ E bl t u v
   |_,_,_=>.no
 | .call ⟨.builtin .clear,⟨[x]⟩,⟨[t]⟩⟩=>match od E bl f cur x with
   |some u=>VP E bl t u
   |none=>.no
 |_=>.no
section
variable{E:Env}{W w w':World}{M0:List Nat}{X:Nat->Prop}{n:cE}{f:cA E.T.El}{bl:List (aG E.T.El)}{ρ:List Value}{a:Act}{cur:List (Nat×Bool)}
theorem azc(a1:dr E)(h:R E W M0 X n f bl ρ a w)(hc:kX a cur){o:Oper}{op:Op}(d:o.op=op){r:eG E.T.El}(b:(PG E bl f cur op).out r):h2 E o a W M0 X bl ρ w r:=by unfold PG at b;split at b;rename_i t;split at b;rename_i z c;have b:(⟨some (.b bl.length 0),bl++[.c t (z.map .p)],[]⟩:eG E.T.El)=r:=b;subst b;obtain⟨l,i,j⟩:=Oz c;exact aln h.mem (uW z) (Ak i j d);exact b.elim;rename_i t x;split at b;rename_i y c;have b:(⟨some (.b bl.length 0),bl++[.c t (cellsOf y)],[]⟩:eG E.T.El)=r:=b;subst b;exact aln h.mem (qN (dB h hc c)) (Ot (v:=a.eval x) (by simp) d rfl);exact b.elim;rename_i t;split at b;rename_i k e c;split at b;rename_i K J;have b:(⟨some (.m bl.length),bl++[.m k e []],[]⟩:eG E.T.El)=r:=b;subst b;exact aGy h.mem J (aPq d);exact b.elim;exact b.elim;split at b;rename_i u v c J;exact azo a1 h.mem b d (dB h hc c) (dB h hc J);exact b.elim;split at b;rename_i u v z c J g;exact ahK a1 h.mem b (.inl d) (dB h hc c) (dB h hc J) (dB h hc g);exact b.elim;split at b;rename_i u v z c J g;exact ahK a1 h.mem b (.inr d) (dB h hc c) (dB h hc J) (dB h hc g);exact b.elim;split at b;rename_i ys c;exact azf a1 h.mem b d (aad h hc c);exact b.elim;split at b;rename_i u c;exact azk a1 h.mem b d (dB h hc c);exact b.elim;split at b;rename_i u c;exact azp a1 h.mem b d (dB h hc c);exact b.elim;rename_i x y t t';split at b;rename_i u v c J g;have:=bF c;subst this;exact ay7 a1 h.mem b d (dB h hc J) (dB h hc g);rename_i u v c J g;exact ay6 a1 h.mem b d (dB h hc J) (dB h hc g);exact b.elim;rename_i x y t t';split at b;rename_i u v c J g;have:=bF c;subst this;exact ay' a1 h.mem b d (dB h hc J) (dB h hc g);exact b.elim;split at b;rename_i u c;exact ay_ a1 h.mem b d (dB h hc c);exact b.elim;exact b.elim
end
inductive OU
 |q
 |e
 |c
 |no
def Q0(P:Program):Op->OU
 | .call c=>match c.callee with
   | .value _=>.c
   | .builtin .len=>.q
   | .builtin .cap=>.q
   | .builtin .append=>.e
   | .builtin .copy=>.e
   | .builtin .clear=>.e
   |_=>.no
 | .alloc _ | .box _ _ | .makeMap _ _ | .store _ _ _ | .mapUpdate _ _ _ _ | .insert _ _ _ _ | .buildSlice _ _ _ | .makeSlice _ _ _=>.e
 | .convert s _ _=>match P.underlying s with
   |some .string=>.e
   |_=>.q
 | .move _ | .assign _ | .pick _ _ _ | .binOp _ _ _ _ _ | .unOp _ _ _ | .load _ _ | .fieldAddr _ _ _ | .nilCheck _ | .extract _ _ | .makeFunc _ _ _ | .makeInterface _ _ | .indexAddr _ _ _ | .index _ _ _
   | .slice _ _ _ _ _ | .lookup _ _ _ _ | .field _ _ _ | .build _ _=>.q
 |_=>.no
inductive aeW
 |run
 |skip
 |maybe (bC:Nat) (want b:Bool)
 |cond (bC:Nat) (want:Bool)
 |no
def HK:Bool->Bool->Bool
 |true,true=>true
 |false,false=>true
 |_,_=>false
theorem A7{a b:Bool}:HK a b=true↔a=b:=by cases a<;>cases b<;>simp[HK]
def P3(E:Env)(ops:Array Oper)(f:cA E.T.El)(n:Nat):Option (Nat×Bool)->aeW
 |none=>.run
 |some (j,want)=>match Lg ops j with
  |none=>.no
  |some bC=>match eN bC n with
   |false=>.no
   |true=>match cH f.ew bC with
    |some b=>match HK b want with
     |true=>.run
     |false=>.skip
    |none=>match cH f.fr bC with
     |some (.p (.tuple ⟨[]⟩))=>.skip
     |some (.p (.bool b))=>match E.cl with
      |true=>match HK b want with
       |true=>.run
       |false=>.skip
      |false=>.maybe bC want b
     |some _=>.no
     |none=>.cond bC want
section
variable{E:Env}{W w w':World}{M0:List Nat}{X:Nat->Prop}{n:cE}{f:cA E.T.El}{bl:List (aG E.T.El)}{ρ:List Value}{a:Act}{cur:List (Nat×Bool)}{ops:Array Oper}{o:Oper}
theorem aL'{j bC:Nat}{want:Bool}(aj:a.tmps.size=n.n)(c:o.guard=some (j,want))(ax:(ops[j]?).bind (·.dst)=some bC)(d:eN bC n.n=true) :
 Region.wanted o (yielded ops a.tmps)=true↔a.tmps.getD bC undef= .bool want:=by
 have e:bC<n.n:=cJ d
 have J:a.tmps[bC]? =some (a.tmps.getD bC undef):=by rw[iU (by omega)];simp[eh,aj,e]
 simp only[Region.wanted,c,yielded,ax,ae,J,beq_iff_eq]
 constructor
 ·intro h;split at h;rename_i b ag;simp only[aM]at h ag;rw[ag,h];cases h
 ·intro h;rw[h]
def avM(E:Env)(ops:Array Oper)(o:Oper)(a:Act)(f:cA E.T.El)(n:Nat):aeW->Prop
 | .run=>Region.wanted o (yielded ops a.tmps)=true
 | .skip=>Region.wanted o (yielded ops a.tmps)=false
 | .maybe bC want b=>eN bC n=true/\a.tmps.getD bC undef= .bool b/\(Region.wanted o (yielded ops a.tmps)=true↔a.tmps.getD bC undef= .bool want)
 | .cond bC want=>eN bC n=true/\(Region.wanted o (yielded ops a.tmps)=true↔a.tmps.getD bC undef= .bool want)
 | .no=>True
theorem aie(h:R E W M0 X n f bl ρ a w):avM E ops o a f n.n (P3 E ops f n.n o.guard):=by
 have aj:=h.dZ.et.size;cases i:o.guard with
 |none=>exact Ta i
 |some p=>obtain⟨j,want⟩:=p;simp only[P3];split;trivial;rename_i bC k;have l:=ait k;split;trivial;rename_i d;have c:=aL' (ops:=ops) (o:=o) aj i l d;split;rename_i b m;have e:=h.dZ.ew _ (qb m);split;rename_i ag;rw[A7]at ag;subst ag;exact c.2 e;rename_i ag;refine(fX).2 λ ad=>?_;have:=c.1 ad;rw[e]at this;injection this with this;rw[A7.2 this]at ag;cases ag;split;rename_i g;have e:=h.dZ.et.get _ _ g;simp only[av]at e;refine(fX).2 λ ad=>?_;have:=c.1 ad;rw[e]at this;cases this;rename_i b g;have e:=h.dZ.et.get _ _ g;simp only[av]at e;split;split;rename_i ag;rw[A7]at ag;subst ag;exact c.2 e;rename_i ag;refine(fX).2 λ ad=>?_;have:=c.1 ad;rw[e]at this;injection this with this;rw[A7.2 this]at ag;cases ag;exact⟨d,e,c⟩;trivial;exact⟨d,c⟩
end
section
variable{α:Type}{β:Type 1}
def vV(l:List α)(k:List α->β):β:=List.rec (motive:=λ _=>(List α->β)->β) (λ k=>k []) (λ p _ a k=>a λ r=>k (p::r)) l k
theorem Wj(l:List α):∀k:List α->β,vV l k=k l:=by
 induction l with
 |nil=>exact λ k=>rfl
 |cons p r a=>exact λ k=>a λ r=>k (p::r)
def sj(n:Nat)(k:Nat->β):β:=Nat.casesOn (motive:=λ _=>β) n (k 0) λ m=>k (Nat.succ m)
theorem PU(n:Nat)(k:Nat->β):sj n k=k n:=by cases n<;>rfl
def PT(n:Int)(k:Int->β):β:=Int.casesOn (motive:=λ _=>β) n (λ m=>sj m λ m=>k (Int.ofNat m)) (λ m=>sj m λ m=>k (Int.negSucc m))
theorem ah5(n:Int)(k:Int->β):PT n k=k n:=by cases n;rename_i m;exact PU m λ m=>k (Int.ofNat m);rename_i m;exact PU m λ m=>k (Int.negSucc m)
def ah4(b:Bool)(k:Bool->β):β:=Bool.casesOn (motive:=λ _=>β) b (k false) (k true)
theorem azK(b:Bool)(k:Bool->β):ah4 b k=k b:=by cases b<;>rfl
def Wk(v:Value)(k:Value->β):β:=match v with
 | .int i n=>PT n λ n=>k (.int i n)
 | .bool b=>ah4 b λ b=>k (.bool b)
 |v=>k v
theorem azO(v:Value)(k:Value->β):Wk v k=k v:=by unfold Wk;split;exact ah5 _ _;exact azK _ _;rfl
variable{El:Nat->Type}
def Wl(y:aL El)(k:aL El->β):β:=match y with
 | .p v=>Wk v λ v=>k (.p v)
 | .b i o=>sj i λ i=>sj o λ o=>k (.b i o)
 | .r i g=>sj i λ i=>sj g λ g=>k (.r i g)
 | .v i g lo hi=>sj i λ i=>sj g λ g=>PT lo λ lo=>PT hi λ hi=>k (.v i g lo hi)
 | .s t l=>vV l λ l=>k (.s t l)
 | .a l=>vV l λ l=>k (.a l)
 |y=>k y
theorem azP(y:aL El)(k:aL El->β):Wl y k=k y:=by unfold Wl;split<;>simp only[azO,PU,ah5,Wj]
def PS(B:aG El)(k:aG El->β):β:=match B with
 | .c ty cs=>vV cs λ cs=>k (.c ty cs)
 | .r t g n l=>sj g λ g=>sj n λ n=>vV l λ l=>k (.r t g n l)
 | .k t sz g cs=>sj g λ g=>vV cs λ cs=>k (.k t sz g cs)
 | .m kt vt d=>vV d λ d=>k (.m kt vt d)
 |B=>k B
theorem azM(B:aG El)(k:aG El->β):PS B k=k B:=by unfold PS;split<;>simp only[PU,Wj]
def PR(ws:List Nat)(b:Nat)(l:List (aG El)):Nat->(List (aG El)->β)->β:=List.rec (motive:=λ _=>Nat->(List (aG El)->β)->β) (λ _ k=>k []) (λ B _ a n k=>cond (fJ ws n||iI b n) (PS B λ B=>a (n+1) λ r=>k (B::r)) (a (n+1) λ r=>k (B::r))) l
theorem azL(ws:List Nat)(a:Nat)(l:List (aG El)):∀(n:Nat)(k:List (aG El)->β),PR ws a l n k=k l:=by
 induction l with
 |nil=>exact λ n k=>rfl
 |cons B r b=>
  intro n k;show cond (fJ ws n||iI a n) (PS B λ B=>PR ws a r (n+1) λ r=>k (B::r)) (PR ws a r (n+1) λ r=>k (B::r))=_
  rw[azM,b];cases fJ ws n||iI a n<;>rfl
def Wi(f:cA El)(k:cA El->β):β:=match f with
 |⟨(d,y)::r,gs,ew⟩=>Wl y λ y=>vV r λ r=>vV gs λ gs=>vV ew λ ew=>k ⟨(d,y)::r,gs,ew⟩
 |f=>k f
theorem azN(f:cA El)(k:cA El->β):Wi f k=k f:=by unfold Wi;split<;>simp only[azP,Wj]
end
def Gk(E:Env){β:Type 1}(f:cA E.T.El)(k:cA E.T.El->β):β:=match E.cl with
 |true=>Wi f k
 |false=>k f
theorem Gl{E:Env}{β:Type 1}(f:cA E.T.El)(k:cA E.T.El->β):Gk E f k=k f:=by unfold Gk;split;exact azN f k;rfl
def MP(E:Env){β:Type 1}(ws:List Nat)(a:Nat)(l:List (aG E.T.El))(k:List (aG E.T.El)->β):β:=match E.cl with
 |true=>PR ws a l 0 k
 |false=>k l
theorem RK{E:Env}{β:Type 1}(ws:List Nat)(a:Nat)(l:List (aG E.T.El))(k:List (aG E.T.El)->β):MP E ws a l k=k l:=by unfold MP;split;exact azL ws a l 0 k;rfl
end a7
