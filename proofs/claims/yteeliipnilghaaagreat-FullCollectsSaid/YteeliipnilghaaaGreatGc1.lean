/- Part 1 of the proof that is ended in the last text: small logic, what the functions compute, walks, plain laws. -/
import Derived.WalkKit
import Derived.Deep.LoopGhost
import Derived.Deep.Quiet
import Derived.Maps.AppendAt
import Derived.KernelRfl
import Derived.Deep.RegionHeld3
import Derived.Laws.StructEq
import Derived.Carry
import Derived.ChangeSame
import Derived.OpenShut
import Derived.Deep.Slices
import Derived.Deep.Fields
import Derived.ChangeMaps5
import Derived.Lib.LaidTab
import Derived.OrdersHeld
import Derived.MapKept
import Derived.Laws.OwnMore
import Derived.Laws.IdiomStrings
import Derived.RangeFuncRecord
import Derived.RangeFuncSeq
import Derived.RangeFuncIn
import Derived.RangeFuncLeaves
import Derived.OrdersIn
import Derived.TacticsIn
import Derived.Deep.OwnRows
import Derived.Lib.AppendZeros
import Derived.ArgAppend
import Derived.Test.YteeliipnilghaaaGreatChecked
open Array renaming getD_eq_getD_getElem?->dP,getElem?_eq_getElem->iR,getElem?_eq_none->hA,getElem?_eq_some_iff->ft,getElem?_modify->ju,getElem?_setIfInBounds->fe,getElem?_toList->gS,setIfInBounds_comm->jc
open Bool renaming and_eq_true->bC,eq_false_iff->gX,eq_iff_iff->hT,false_eq_true->hv,false_or->hX,not_eq_true'->ga,or_eq_false_iff->hQ,or_eq_true->hM
open Int renaming eq_ofNat_of_zero_le->kr,le_refl->kj
open List renaming all_eq_true->jN,any_eq_true->h7,append_assoc->gT,append_nil->gL,cons.inj->ei,cons.injEq->hh,cons_append->jf,drop_length->hV,drop_of_length_le->ix,drop_zero->fK,eq_nil_of_length_eq_zero->gK,ext_getElem?->j4,flatMap_cons->ig,getElem?_append->lB,getElem?_append_right->fs,getElem?_cons_zero->de,getElem?_drop->iN,getElem?_eq_getElem->aH,getElem?_eq_none->gz,getElem?_eq_some_iff->aM,getElem?_map->iT,getElem?_take->gI,getElem_mem->hC,length_append->dS,length_cons->cV,length_drop->kp,length_map->hl,length_range->iS,length_set->iP,length_take->fP,map_cons->eu,map_nil->hK,map_toArray->gJ,mem_append->b3,mem_append_left->j3,mem_append_right->iZ,mem_cons->cm,mem_cons_of_mem->ez,mem_cons_self->jX,mem_flatMap->ho,mem_iff_getElem->iv,mem_map->jv,mem_of_getElem?->bB,mem_range->lf,nil_append->jy,nodup_append->eK,nodup_cons->iO,not_mem_nil->hR,pairwise_iff_getElem->jt,range->dy,replicate->eH,set_getElem_self->lr,take->lu,take_append->kl,take_append_drop->jd,take_length->jP,take_of_length_le->hF,take_succ_cons->jC
open Nat renaming add_assoc->jK,add_mul->jr,add_zero->lC,beq->bP,ble->iI,blt->ee,decEq->kS,eq_of_beq_eq_true->a_,le_mul_of_pos_right->lj,le_of_ble_eq_true->ck,le_refl->cu,le_trans->gm,lt_of_lt_of_le->dQ,lt_or_ge->fN,lt_succ_self->kU,min_eq_left->lD,mul_le_mul_right->jx,zero_add->ji,zero_le->gD
open Option renaming bind_some->ae,map_none->iz,map_some->fI,some.inj->dT,some.injEq->aD
open Prod renaming fst->ke,mk.injEq->b5
namespace I
def ar(n:Int):Int:=(n+9223372036854775808)%18446744073709551616-9223372036854775808
def Hf(n:Int):Int:=n%18446744073709551616
def XN(a b:Int):Int:=ar ((BitVec.ofInt 64 a|||BitVec.ofInt 64 b).toNat:Int)
def SD(a b:Int):Int:=ar ((BitVec.ofInt 64 a&&&BitVec.ofInt 64 b).toNat:Int)
def xM(a:Int)(n:Nat):Int:=a / 2^n
def rB(n:Int):UInt8:=UInt8.ofNat (n%256).toNat
def idx{α:Type}(l:List α)(i:Int):Option α:=if 0<=i then l[i.toNat]? else none
def DT(b:Bool):Option Unit:=if b then some ()else none
def bD{α:Type}(bytes:Nat)(l m:List α):Option (List α):=if(l.length+m.length)*bytes<=140737488355328 then some (l++m)else none
def bytesOf(s:List UInt8):Option (List UInt8):=if s.length<=140737488355328 then some s else none
def ui{α:Type}(z:α)(bytes:Nat)(n:Int):Option (List α):=if 0<=n/\bytes*n.toNat<=140737488355328 then some (eH n.toNat z)else none
def Ig{α:Type}(z:α)(bytes:Nat)(n:Int):Option (List α):=if 0<n/\bytes*n.toNat<=140737488355328 then some (eH n.toNat z)else none
def cut{α:Type}(l:List α)(i j:Int):Option (List α):=if 0<=i/\i<=j/\j<=l.length then some ((l.take j.toNat).drop i.toNat)else none
theorem SX{α:Type}{b:Bool}{x y:Option α}{r:α}(af:b=true)(h:cond b x y=some r):x=some r:=by subst af;exact h
theorem SV{α:Type}{b:Bool}{x y:Option α}{r:α}(af:b=false)(h:cond b x y=some r):y=some r:=by subst af;exact h
theorem fM{α β:Type}{o:Option α}{f:α->Option β}{r:β}(h:o.bind f=some r):∃x,o=some x/\f x=some r:=by
 cases o with
 |none=>cases h
 |some x=>exact⟨x,rfl,h⟩
theorem lk{α:Type}{l:List α}{i:Int}{d:α}(h:idx l i=some d):0<=i/\i.toNat<l.length/\l[i.toNat]? =some d:=by
 unfold idx at h;split at h
 ·rename_i a
  exact⟨a,(aM.1 h).1,h⟩
 ·cases h
theorem Mt{α:Type}{bytes:Nat}{l m r:List α}(h:bD bytes l m=some r):(l.length+m.length)*bytes<=140737488355328/\r=l++m:=by
 unfold bD at h;split at h
 ·rename_i a;exact⟨a,by simpa using h.symm⟩
 ·cases h
theorem aB6{α:Type}{z:α}{bytes:Nat}{n:Int}{r:List α}(h:ui z bytes n=some r):0<=n/\bytes*n.toNat<=140737488355328/\r=eH n.toNat z:=by
 unfold ui at h;split at h
 ·rename_i a;exact⟨a.1,a.2,by simpa using h.symm⟩
 ·cases h
theorem aso{α:Type}{z:α}{bytes:Nat}{n:Int}{r:List α}(h:Ig z bytes n=some r):0<n/\bytes*n.toNat<=140737488355328/\r=eH n.toNat z:=by
 unfold Ig at h;split at h
 ·rename_i a;exact⟨a.1,a.2,by simpa using h.symm⟩
 ·cases h
theorem Xx{b:Bool}{u:Unit}(h:DT b=some u):b=true:=by
 unfold DT at h;split at h
 ·assumption
 ·cases h
theorem asq(n:Int):((rB n).toNat:Int)=n%256:=by
 unfold rB;have a:0<=n%256:=Int.emod_nonneg _ (by omega);have b:n%256<256:=Int.emod_lt_of_pos _ (by omega);simp only[UInt8.toNat_ofNat'];omega
end I
namespace I
def join{cJ α:Type}(k:cJ)(b:cJ->Option α):Option α:=b k
end I
namespace I
section
variable{cJ β:Type} [DecidableEq cJ]
def cF:List (cJ×β)->cJ->Option β
 |[],_=>none
 |p::r,k=>if p.1=k then some p.2 else cF r k
def gC:List (cJ×β)->cJ->β->List (cJ×β)
 |[],k,v=>[(k,v)]
 |p::r,k,v=>if p.1=k then(k,v)::r else p::gC r k v
def ph:List (cJ×β)->cJ->Option Nat
 |[],_=>none
 |p::r,k=>if p.1=k then some 0 else(ph r k).map (·+1)
end
end I
namespace I
inductive Way (ρ α:Type)
 |go (a:α)
 |out (r:ρ)
def ca{ρ α:Type}(x:Option (Way ρ α))(k:α->Option ρ):Option ρ:=match x with
 |none=>none
 |some (.go a)=>k a
 |some (.out r)=>some r
def cU{ρ α β:Type}(x:Option (Way ρ α))(k:α->Option (Way ρ β)):Option (Way ρ β):=match x with
 |none=>none
 |some (.go a)=>k a
 |some (.out r)=>some (.out r)
def adh{ρ α:Type}(k:α->Option ρ):Way ρ α->Option ρ
 | .go a=>k a
 | .out r=>some r
theorem aGK{ρ α:Type}{x:Option (Way ρ α)}{k:α->Option ρ}{r:ρ}(h:ca x k=some r):∃y,x=some y/\adh k y=some r:=by
 cases x with
 |none=>cases h
 |some y=>cases y<;>exact⟨_,rfl,h⟩
@[simp] theorem qN {ρ α:Type} (a:α) (k:α->Option ρ):ca (some (.go a)) k=k a:=rfl
@[simp] theorem akh {ρ α:Type} (r:ρ) (k:α->Option ρ):ca (some (.out r)) k=some r:=rfl
@[simp] theorem ox {ρ α β:Type} (a:α) (k:α->Option (Way ρ β)):cU (some (.go a)) k=k a:=rfl
@[simp] theorem aMs {ρ α β:Type} (r:ρ) (k:α->Option (Way ρ β)):cU (some (.out r)) k=some (.out r):=rfl
end I
namespace I
end I
namespace aq
open Go Go.RowKit
def eb:List (Nat×Value)->Nat->Option Value
 |[],_=>none
 |p::r,t=>match bP p.1 t with
  |true=>some p.2
  |false=>eb r t
structure ct where
 n:Nat
 ds:List Deferred
instance:Coe ct Nat:=⟨ct.n⟩
structure Fr (n:ct) (l:List (Nat×Value)) (a:Act):Prop where
 size:a.tmps.size=n.n
 defers:a.defers=n.ds
 get:∀t v,eb l t=some v->a.tmps.getD t undef=v
theorem Fr.g{n:ct}{l:List (Nat×Value)}{a:Act}{t:Nat}{v:Value}(ad:Fr n l a)(h:eb l t=some v):a.eval (.tmp t)=v:=ad.get t v h
theorem Fr.put{n:ct}{d:Nat}{l:List (Nat×Value)}{a:Act}{v:Value}(ad:Fr n l a)(aK:ee d n=true):Fr n ((d,v)::l) (a.put (some d) v):=by
 have b:d<n:=ck aK;refine⟨by simpa[Act.put]using ad.size,ad.defers,λ t u h=>?_⟩;have aj:=ad.size;simp only[eb]at h;cases af:bP d t with
 |true=>
  rw[af]at h
  simp only[aD]at h
  have e:d=t:=a_ af
  subst e;subst h
  simp[Act.put,aj,b]
 |false=>
  rw[af]at h
  have e:d≠t:=by intro e;subst e;simp at af
  have:=ad.get t u h
  simp only[Act.put,dP]at this⊢
  rw[fe,if_neg e]
  exact this
def K9(l:List (Nat×Value)):List (Nat×Value)->Prop
 |[]=>True
 |p::r=>eb l p.1=some p.2/\K9 l r
theorem aBJ{l l':List (Nat×Value)}(h:K9 l l'):∀t v,eb l' t=some v->eb l t=some v:=by
 induction l' with
 |nil=>intro t v a;simp[eb]at a
 |cons p r b=>
  intro t v a
  simp only[eb]at a
  cases af:bP p.1 t with
  |true=>
   rw[af]at a
   have e:p.1=t:=a_ af
   simp only[aD]at a
   rw[<-e,<-a];exact h.1
  |false=>rw[af]at a;exact b h.2 t v a
theorem Fr.sub{n:ct}{l l':List (Nat×Value)}{a:Act}(ad:Fr n l a)(h:K9 l l'):Fr n l' a:=
 ⟨ad.size,ad.defers,λ t v b=>ad.get t v (aBJ h t v b)⟩
def tz:Nat->List Value->List (Nat×Value)
 |_,[]=>[]
 |k,v::r=>(k,v)::tz (k+1) r
theorem aBI(vs:List Value):∀k t v,eb (tz k vs) t=some v->k<=t/\vs[t-k]? =some v:=by
 induction vs with
 |nil=>intro k t v h;simp[tz,eb]at h
 |cons u r a=>
  intro k t v h
  simp only[tz,eb]at h
  cases af:bP k t with
  |true=>
   rw[af]at h
   have e:k=t:=a_ af
   subst e
   simpa using h
  |false=>
   rw[af]at h
   have e:k≠t:=by intro e;subst e;simp at af
   obtain⟨b,J⟩:=a (k+1) t v h
   refine⟨by omega,?_⟩
   have:t-k=(t- (k+1))+1:=by omega
   rw[this];simpa using J
theorem Fr.init(vs:List Value)(n:Nat)(h:iI vs.length n=true):Fr ⟨n,[]⟩ (tz 0 vs) { tmps:=vs.toArray++Array.replicate (n-vs.toArray.size) undef,defers:=[] }:=by
 have c:vs.length<=n:=by simpa using h
 refine⟨by simp;omega,rfl,λ t v d=>?_⟩;obtain⟨_,J⟩:=aBI vs 0 t v d;have a:t<vs.length:=by
  rcases fN t vs.length with h |h
  ·exact h
  ·rw[gz (by simpa using h)]at J;cases J
 have b:vs[t]? =some v:=by simpa using J
 rw[dP];rw[aH a,aD]at b;simp[Array.getElem?_append,a,b]
theorem enter{P:Program}{f:FuncId}{fn:Func}{c:Code}{vs:List Value}{w:World}{R:Ending->World->Prop}{n:Nat}
 (ad:P.funcs[f]? =some fn)(af:fn.body=some c)(b:fn.ntmps=n)(d:iI vs.length n=true)
 (h:∀a,Fr ⟨n,[]⟩ (tz 0 vs) a->c.wp P (bodyPost P fn R) a w):Calls P f vs.toArray w R:=by
 refine calls_of_wp ad af ?_
 rw[b]
 exact h _ (Fr.init vs n d)
structure bj (M:List Nat) (w w':World):Prop where
 os:w'.os=w.os
 tape:w'.tape=w.tape
 output:w'.output=w.output
 size:w.heap.size<=w'.heap.size
 block:∀k,k<w.heap.size->k∉M->w'.heap[k]? =w.heap[k]?
theorem bj.refl(M:List Nat)(w:World):bj M w w:=⟨rfl,rfl,rfl,cu _,λ _ _ _=>rfl⟩
theorem bj.trans{M jE:List Nat}{a b c:World}(h:bj M a b)(k:bj jE b c)(f:∀x∈jE,x∈M\/a.heap.size<=x):bj M a c:=
 ⟨k.os.trans h.os,k.tape.trans h.tape,k.output.trans h.output,gm h.size k.size,λ i hi d=>
  (k.block i (dQ hi h.size) (λ g=>by rcases f i g with e |e;exact d e;omega)).trans (h.block i hi d)⟩
theorem bj.drew(M:List Nat)(w:World):bj M w w.drew:=⟨rfl,rfl,rfl,cu _,λ _ _ _=>rfl⟩
theorem bj.alloc(M:List Nat)(w:World)(o:Obj):bj M w (w.alloc o):=⟨rfl,rfl,rfl,by simp,λ k a _=>Below.heap_alloc _ _ _ a⟩
theorem bj.set(w:World)(a:Addr)(u:Value):bj [a.block] w (w.setCell a u):=
 ⟨rfl,rfl,rfl,by simp[World.setCell],λ k _ b=>Below.heap_setCell _ _ _ _ (by simpa using b)⟩
theorem bj.mono{M jE:List Nat}{a b:World}(h:bj M a b)(c:∀x∈M,x∈jE):bj jE a b:=⟨h.os,h.tape,h.output,h.size,λ k d e=>h.block k d (λ f=>e (c k f))⟩
theorem bj.grown{w w':World}{row:Option Nat}(h:w.grownBy w' row):bj row.toList w w':=
 ⟨h.os,h.tape,h.output,h.size,λ k a b=>h.block k a (λ e=>b (by rw[<-e];simp))⟩
theorem bj.below{w w':World}(h:bj [] w w'):Below w.heap.size w w':=⟨h.os,h.tape,h.output,h.size,λ k a=>h.block k a (by simp)⟩
structure a7 where
 bz:List Nat
 ok:World->Prop
 law:∀w w',(∀k∈bz,w'.heap[k]? =w.heap[k]?)->ok w->ok w'
structure bA where
 ok:List Nat->World->Prop
 law:∀M jE w w',bj M w w'->(∀k∈jE,k∈M\/w.heap.size<=k)->ok M w->ok jE w'
def bT(E:List a7):List Nat:=E.flatMap a7.bz
structure bs (W:World) (M0 X:List Nat) (w:World) (E:List a7) (D:List bA):Prop where
 bS:bj M0 W w
 hP:∀k∈X,k<W.heap.size/\k∉M0
 lt:∀k∈bT E,k<w.heap.size/\(k∈M0\/W.heap.size<=k)
 ok:∀x∈E,x.ok w
 bu:(bT E).Nodup
 rd:∀y∈D,y.ok (X++bT E) w
section
variable{W w w':World}{M0 X:List Nat}{E:List a7}{D:List bA}
theorem bs.start(M0 X:List Nat)(w:World)(E:List a7)(D:List bA)(c:∀k∈X,k<w.heap.size/\k∉M0)(a:∀k∈bT E,k<w.heap.size/\k∈M0)(d:∀x∈E,x.ok w)(e:(bT E).Nodup)(f:∀y∈D,y.ok (X++bT E) w) :
 bs w M0 X w E D:=⟨bj.refl _ _,c,λ k b=>⟨(a k b).1,.inl (a k b).2⟩,d,e,f⟩
theorem bs.eQ(h:bs W M0 X w E D)(b:bj [] w w'):bs W M0 X w' E D:=
 ⟨h.bS.trans b (by simp),h.hP,λ k a=>⟨dQ (h.lt k a).1 b.size,(h.lt k a).2⟩,
  λ x c=>x.law w w' (λ k a=>b.block k (h.lt k (ho.2 ⟨x,c,a⟩)).1 (by simp)) (h.ok x c),h.bu,
  λ y hy=>y.law (X++bT E) _ w w' (b.mono (by simp)) (λ k a=>.inl a) (h.rd y hy)⟩
theorem bs.drew(h:bs W M0 X w E D):bs W M0 X w.drew E D:=h.eQ (bj.drew _ _)
theorem bs.push(h:bs W M0 X w E D)(x:a7)(f:bj [] w w')(i:x.ok w')(ad:∀k∈x.bz,w.heap.size<=k/\k<w'.heap.size)(j:x.bz.Nodup):bs W M0 X w' (x::E) D:=by
 have c:=h.eQ f;refine⟨c.bS,h.hP,λ k d=>?_,λ y hy=>?_,?_,λ y hy=>?_⟩
 ·rcases b3.1 (by simpa[bT]using d:k∈x.bz++bT E)with e |e
  ·exact⟨(ad k e).2,.inr (gm h.bS.size (ad k e).1)⟩
  ·exact c.lt k e
 ·rcases cm.1 hy with rfl |e
  ·exact i
  ·exact c.ok y e
 ·have:bT (x::E)=x.bz++bT E:=by simp[bT]
  rw[this,eK]
  refine⟨j,h.bu,λ a l b af e=>?_⟩
  subst e
  have:=(ad a l).1
  have:=(h.lt a af).1
  omega
 ·refine y.law (X++bT E) _ w w' (f.mono (by simp)) (λ k d=>?_) (h.rd y hy)
  have g:k∈X++(x.bz++bT E):=by simpa[bT]using d
  simp only[b3]at g
  rcases g with e |e |e
  ·exact .inl (by simp[e])
  ·exact .inr (ad k e).1
  ·exact .inl (by simp[e])
theorem bs.drop(h:bs W M0 X w E D){b:List a7}(aj:List.Sublist b E):bs W M0 X w b D:=by
 have ad:List.Sublist (bT b) (bT E):=by
  unfold bT;clear h;induction aj with
  |slnil=>simp
  |cons a _ c=>simpa using c.trans (List.sublist_append_right _ _)
  |cons_cons a _ c=>simpa using List.Sublist.append_left c a.bz
 exact⟨h.bS,h.hP,λ k d=>h.lt k (ad.subset d),λ x f=>h.ok x (aj.subset f),h.bu.sublist ad,
  λ y hy=>y.law (X++bT E) _ w w (bj.refl _ _) (λ k d=>.inl (by rcases b3.1 d with e |e;exact b3.2 (.inl e);exact b3.2 (.inr (ad.subset e)))) (h.rd y hy)⟩
theorem bs.gl(h:bs W M0 X w E D){A B:List a7}{x c:a7}(aZ:E=A++x::B)(d:bj x.bz w w')(t:c.ok w')(u:c.bz.Nodup)
 (ad:∀k∈c.bz,k∈x.bz\/(w.heap.size<=k/\k<w'.heap.size)):bs W M0 X w' (A++c::B) D:=by
 subst aZ
 have e1:bT (A++x::B)=bT A++(x.bz++bT B):=by simp[bT]
 have e2:bT (A++c::B)=bT A++(c.bz++bT B):=by simp[bT]
 have o:=h.bu
 rw[e1,eK,eK]at o
 obtain⟨j,⟨v,l,f⟩,m⟩:=o
 have n:∀k∈x.bz,k<w.heap.size/\(k∈M0\/W.heap.size<=k):=λ k hk=>h.lt k (by rw[e1];simp[hk])
 refine⟨h.bS.trans d (λ k hk=>(n k hk).2),h.hP,λ k hk=>?_,λ y hy=>?_,?_,λ y hy=>?_⟩
 ·rw[e2]at hk
  simp only[b3]at hk
  rcases hk with hk |hk |hk
  ·have:=h.lt k (by rw[e1];simp[hk]);exact⟨dQ this.1 d.size,this.2⟩
  ·rcases ad k hk with e |e
   ·exact⟨dQ (n k e).1 d.size,(n k e).2⟩
   ·exact⟨e.2,.inr (gm h.bS.size e.1)⟩
  ·have:=h.lt k (by rw[e1];simp[hk]);exact⟨dQ this.1 d.size,this.2⟩
 ·have g:∀z,z∈A\/z∈B->z.ok w':=λ z p=>by
   have q:z∈A++x::B:=by rcases p with e |e<;>simp[e]
   refine z.law w w' (λ k hk=>d.block k (h.lt k (ho.2 ⟨z,q,hk⟩)).1 (λ r=>?_)) (h.ok z q);rcases p with e |e
   ·exact m k (ho.2 ⟨z,e,hk⟩) k (by simp[r]) rfl
   ·exact f k r k (ho.2 ⟨z,e,hk⟩) rfl
  simp only[b3,cm]at hy;rcases hy with hy |rfl |hy
  ·exact g y (.inl hy)
  ·exact t
  ·exact g y (.inr hy)
 ·rw[e2,eK,eK]
  have s:∀k∈c.bz,∀b,(b∈bT A\/b∈bT B)->k≠b:=λ k hk b af e=>by
   subst e;rcases ad k hk with e |e
   ·rcases af with af |af
    ·exact m k af k (by simp[e]) rfl
    ·exact f k e k af rfl
   ·have:=(h.lt k (by rw[e1];rcases af with af |af<;>simp[af])).1
    omega
  exact⟨j,⟨u,l,λ a i b af=>s a i b (.inr af)⟩,λ a i b af=>by
   rcases b3.1 af with af |af
   ·exact λ e=>s b af a (.inl i) e.symm
   ·exact m a i b (by simp[af])⟩
 ·refine y.law (X++bT (A++x::B)) _ w w' (d.mono (λ k hk=>by rw[e1];simp[hk])) (λ k hk=>?_) (h.rd y hy)
  rw[e2]at hk
  simp only[b3]at hk
  rcases hk with hk |hk |hk |hk
  ·exact .inl (by simp[hk])
  ·exact .inl (by rw[e1];simp[hk])
  ·rcases ad k hk with e |e
   ·exact .inl (by rw[e1];simp[e])
   ·exact .inr e.1
  ·exact .inl (by rw[e1];simp[hk])
theorem bs.more(h:bs W M0 X w E D){y:bA}(hy:y.ok (X++bT E) w):bs W M0 X w E (y::D):=
 ⟨h.bS,h.hP,h.lt,h.ok,h.bu,λ z a=>by rcases cm.1 a with rfl |e;exact hy;exact h.rd z e⟩
theorem bs.less(h:bs W M0 X w E D){a:List bA}(aj:∀y∈a,y∈D):bs W M0 X w E a:=⟨h.bS,h.hP,h.lt,h.ok,h.bu,λ y hy=>h.rd y (aj y hy)⟩
theorem bs.e(h:bs W M0 X w E D)(i:Nat){x:a7}(hi:E[i]? =some x):x.ok w:=h.ok x (bB hi)
theorem bs.d(h:bs W M0 X w E D)(i:Nat){y:bA}(hi:D[i]? =some y):y.ok (X++bT E) w:=h.rd y (bB hi)
theorem bA.less{y:bA}{M jE:List Nat}(h:y.ok M w)(a:∀k∈jE,k∈M):y.ok jE w:=y.law M jE w w (bj.refl _ _) (λ k b=>.inl (a k b)) h
theorem bs.Qt(h:bs W M0 X w E D)(i:Nat){x a:a7}(hi:E[i]? =some x)(b:bj x.bz w w')(c:a.ok w')(d:a.bz.Nodup)
 (ad:∀k∈a.bz,k∈x.bz\/(w.heap.size<=k/\k<w'.heap.size)):bs W M0 X w' (E.set i a) D:=by
 obtain⟨e,rfl⟩:=aM.1 hi
 have aZ:E=E.take i++E[i]::E.drop (i+1):=by simp
 have:=h.gl aZ b c d ad
 rwa [List.set_eq_take_append_cons_drop,if_pos e]
end
end aq
namespace aq
open Go Go.RowKit I
abbrev cj(l:List UInt8):Value:=.string ⟨⟨l⟩⟩
structure cY (α:Type) where
 size:Nat
 rd:(Nat->Prop)->World->List Value->α->Prop
 len:∀ {F w cs d},rd F w cs d->cs.length=size
 one:∀ {F w cs d},rd F w cs d-> ∀v∈cs,v.oneCell'=true
 law:∀ {F F' w w' cs d},(∀k,F k->F' k/\w'.heap[k]? =w.heap[k]?)->rd F w cs d->rd F' w' cs d
def ii(M:List Nat)(w:World):Nat->Prop:=λ k=>k∉M/\k<w.heap.size
def bA.of{α:Type}(T:cY α)(cs:List Value)(d:α):bA where
 ok M w:=T.rd (ii M w) w cs d
 law M jE w w' b c h:=T.law (λ k a=>⟨⟨λ f=>by rcases c k f with e |e;exact a.1 e;exact absurd a.2 (by omega),dQ a.2 b.size⟩,b.block k a.2 a.1⟩) h
def e9(k:IntKind):cY Int where
 size:=1
 rd _ _ cs d:=cs=[.int k d]
 len h:=by subst h;rfl
 one h v a:=by subst h;simp at a;subst a;rfl
 law _ h:=h
def Qu:cY UInt8 where
 size:=1
 rd _ _ cs d:=cs=[.int .u8 (d.toNat:Int)]
 len h:=by subst h;rfl
 one h v a:=by subst h;simp at a;subst a;rfl
 law _ h:=h
def aHf:cY Bool where
 size:=1
 rd _ _ cs d:=cs=[.bool d]
 len h:=by subst h;rfl
 one h v a:=by subst h;simp at a;subst a;rfl
 law _ h:=h
def jn:cY (List UInt8) where
 size:=1
 rd _ _ cs d:=cs=[cj d]
 len h:=by subst h;rfl
 one h v a:=by subst h;simp at a;subst a;rfl
 law _ h:=h
section
variable{α:Type}(T:cY α)
def dx(F:Nat->Prop)(w:World):List Value->List α->Prop
 |xs,[]=>xs=[]
 |xs,d::r=>∃cs ys,xs=cs++ys/\T.rd F w cs d/\dx F w ys r
theorem xK{F:Nat->Prop}{w:World}:∀ {l:List α}{xs:List Value},dx T F w xs l->xs.length=l.length*T.size
 |[],xs,h=>by simp only[dx]at h;subst h;simp
 |d::r,xs,h=>by
  obtain⟨cs,ys,rfl,a,J⟩:=h;rw[dS,T.len a,xK J,cV,jr];omega
theorem GX{F:Nat->Prop}{w:World}:∀ {l:List α}{xs:List Value},dx T F w xs l-> ∀v∈xs,v.oneCell'=true
 |[],xs,h=>by simp only[dx]at h;subst h;simp
 |d::r,xs,h=>by
  obtain⟨cs,ys,rfl,a,J⟩:=h;intro v b;rcases b3.1 b with e |e
  ·exact T.one a v e
  ·exact GX J v e
theorem ou{F F':Nat->Prop}{w w':World}(a:∀k,F k->F' k/\w'.heap[k]? =w.heap[k]?):∀ {l:List α}{xs:List Value},dx T F w xs l->dx T F' w' xs l
 |[],xs,h=>h
 |d::r,xs,h=>by
  obtain⟨cs,ys,rfl,b,J⟩:=h;exact⟨cs,ys,rfl,T.law a b,ou a J⟩
theorem ajF{F:Nat->Prop}{w:World}{d:α}{cs:List Value}(aK:T.rd F w cs d):∀ {l:List α}{xs:List Value},dx T F w xs l->dx T F w (xs++cs) (l++[d])
 |[],xs,h=>by simp only[dx]at h;subst h;exact⟨cs,[],by simp,aK,rfl⟩
 |e::r,xs,h=>by
  obtain⟨c,ys,rfl,a,J⟩:=h;exact⟨c,ys++cs,by simp,a,ajF aK J⟩
theorem KE{F:Nat->Prop}{w:World}{l':List α}{a:List Value}(h':dx T F w a l'):∀ {l:List α}{xs:List Value},dx T F w xs l->dx T F w (xs++a) (l++l')
 |[],xs,h=>by simp only[dx]at h;subst h;simpa using h'
 |e::r,xs,h=>by
  obtain⟨c,ys,rfl,b,J⟩:=h;exact⟨c,ys++a,by simp,b,KE h' J⟩
theorem KF{F:Nat->Prop}{w:World}:∀ {l:List α}{xs:List Value}{i:Nat}{d:α},dx T F w xs l->l[i]? =some d ->
 ∃cs,T.rd F w cs d/\ ∀j u,cs[j]? =some u->xs[i*T.size+j]? =some u
 |[],_,i,d,_,hi=>by simp at hi
 |e::r,xs,0,d,h,hi=>by
  obtain⟨cs,ys,rfl,a,_⟩:=h;simp only[de,aD]at hi;subst hi;refine⟨cs,a,λ j u aA=>?_⟩;have f:j<cs.length:=by
   rcases fN j cs.length with h |h
   ·exact h
   ·rw[gz h]at aA;cases aA
  simpa[lB,f]using aA
 |e::r,xs,i+1,d,h,hi=>by
  obtain⟨cs,ys,rfl,a,J⟩:=h;obtain⟨c,hc,aA⟩:=KF (i:=i) J (by simpa using hi);refine⟨c,hc,λ j u g=>?_⟩;have b:=T.len a;have e1:(i+1)*T.size+j=cs.length+(i*T.size+j):=by rw[jr];omega
  rw[e1,fs (by omega)];simpa using aA j u g
def fb(w:World)(a:Addr)(xs:List Value):Prop:=∀j u,xs[j]? =some u->w.cell? ⟨a.block,a.off+j,none⟩=some u
theorem fb.law{w w':World}{a:Addr}{xs:List Value}(h:fb w a xs)(af:w'.heap[a.block]? =w.heap[a.block]?):fb w' a xs:=
 λ j u aA=>(World.cell?_of_block (a:=⟨a.block,a.off+j,none⟩) af).trans (h j u aA)
def dm(A:Option Addr):Nat:=(A.getD ⟨0,0,none⟩).block
def fG(A:Option Addr):Nat:=(A.getD ⟨0,0,none⟩).off
def bY:cY (List α) where
 size:=1
 rd F w cs l:=∃A c,cs=[.slice A l.length c]/\l.length<=c/\c<=maxLen/\(A=none->c=0)/\
  (l≠[]->A=some ⟨dm A,fG A,none⟩/\F (dm A)/\ ∃xs,dx T F w xs l/\fb w ⟨dm A,fG A,none⟩ xs)
 len h:=by obtain⟨A,c,rfl,_⟩:=h;rfl
 one h v b:=by obtain⟨A,c,rfl,_⟩:=h;simp at b;subst b;rfl
 law a h:=by
  obtain⟨A,c,d,e,f,g,i⟩:=h;refine⟨A,c,d,e,f,g,λ j=>?_⟩;obtain⟨e1,e2,xs,e3,e4⟩:=i j;exact⟨e1,(a _ e2).1,xs,ou T a e3,e4.law (a _ e2).2⟩
theorem mj{F:Nat->Prop}{w:World}{v:Value}{l:List α}(h:(bY T).rd F w [v] l):∃A c,v= .slice A l.length c:=by
 obtain⟨A,c,a,_⟩:=h;exact⟨A,c,by simpa using a⟩
theorem D7{F:Nat->Prop}{w:World}{A:Option Addr}{n c:Nat}{l:List α}{i:Int}{d:α}(h:(bY T).rd F w [.slice A n c] l)(hi:idx l i=some d) :
 A=some ⟨dm A,fG A,none⟩/\(0<=i/\i<n)/\ ∃cs,T.rd F w cs d/\fb w ⟨dm A,fG A+i.toNat*T.size,none⟩ cs:=by
 obtain⟨b,a,J⟩:=lk hi
 obtain⟨cb,o,e1,e3,e4,e5,e6⟩:=h
 simp only[hh,Value.slice.injEq,and_true]at e1
 obtain⟨rfl,rfl,rfl⟩:=e1
 obtain⟨e,p,xs,f,g⟩:=e6 (λ k=>by rw[k]at a;simp at a)
 obtain⟨cs,hc,m⟩:=KF T f J
 refine⟨e,⟨b,by omega⟩,cs,hc,λ j u aA=>?_⟩
 have:=g (i.toNat*T.size+j) u (m j u aA)
 simpa[jK]using this
end
def a7.b'(g:Nat)(t:TypeId)(cs:List Value):a7 where
 bz:=[g]
 ok w:=w.heap[g]? =some (.cells cs.toArray t (0,0))
 law w w' h a:=(h g (by simp)).trans a
def a7.row{α:Type}(e:TypeId)(size:Nat)(v:Value)(l:List α)(xs:List Value):a7 where
 bz:=v.ownBlock.toList
 ok w:=w.ownsRow 0 e size v l.length xs
 law w w' h a:=by
  refine⟨a.1,?_⟩;rcases a.2 with b |⟨g,cap,cur,rfl,af,c,rest⟩
  ·exact .inl b
  ·exact .inr ⟨g,cap,cur,rfl,af,(h g (by simp[Value.ownBlock])).trans c,rest⟩
def bA.rows{α:Type}(T:cY α)(xs:List Value)(l:List α):bA where
 ok M w:=dx T (ii M w) w xs l
 law M jE w w' b c h:=ou T (λ k a=>⟨⟨λ d=>by rcases c k d with e |e;exact a.1 e;exact absurd a.2 (by omega),dQ a.2 b.size⟩,b.block k a.2 a.1⟩) h
theorem KN{α:Type}{w:World}{e:TypeId}{size:Nat}{v:Value}{l:List α}{xs:List Value}(h:(a7.row e size v l xs).ok w):∃A c,v= .slice A l.length c/\l.length<=c/\c<=maxLen/\(A=none->c=0)/\(A≠none->A=some ⟨dm A,0,none⟩):=by
 have h':w.ownsRow 0 e size v l.length xs:=h;rcases h'.2 with⟨rfl,a⟩|⟨g,cap,cur,rfl,_,_,b,J,_⟩
 ·exact⟨none,0,by rw[a],by omega,gD _,λ _=>rfl,λ h=>absurd rfl h⟩
 ·exact⟨some ⟨g,0,none⟩,cap,rfl,b,J,(λ h=>by cases h),λ _=>rfl⟩
theorem aGd{α:Type}{T:cY α}{M:List Nat}{w:World}{e:TypeId}{A:Option Addr}{n c:Nat}{l:List α}{xs:List Value}(h:(a7.row e T.size (.slice A n c) l xs).ok w)(f:(bA.rows T xs l).ok M w)
 (i:∀k∈(Value.slice A n c).ownBlock.toList,k∉M):(bA.of (bY T) [.slice A n c] l).ok M w:=by
 have h':w.ownsRow 0 e T.size (.slice A n c) l.length xs:=h
 have m:dx T (ii M w) w xs l:=f
 show(bY T).rd (ii M w) w _ l
 rcases h'.2 with⟨a,o⟩|⟨g,cap,cur,a,_,p,b,q,aj,s⟩
 ·have r:l=[]:=gK o
  simp only[Value.slice.injEq]at a
  obtain⟨rfl,rfl,rfl⟩:=a
  subst r
  exact⟨none,0,rfl,by simp,gD _,λ _=>rfl,λ h=>absurd rfl h⟩
 ·simp only[Value.slice.injEq]at a
  obtain⟨rfl,rfl,rfl⟩:=a
  refine⟨_,_,rfl,b,q,(λ h=>by cases h),λ _=>⟨rfl,⟨i g (by simp[Value.ownBlock]),(ft.1 p).1⟩,xs,m,λ j u aA=>?_⟩⟩
  have d:=h'.cells (g:=g) rfl j u aA
  simpa[Addr.add,dm,fG]using(by
   have e:(⟨g,0,none⟩:Addr).add j=⟨g,0+j,none⟩:=by unfold Addr.add;split<;>simp_all
   rw[e]at d;exact d:w.cell? ⟨g,0+j,none⟩=some u)
theorem y1{w:World}{g:Nat}{t:TypeId}{cs:List Value}(h:(a7.b' g t cs).ok w){j:Nat}{v:Value}(aA:cs[j]? =some v):w.cell? ⟨g,j,none⟩=some v:=by
 have h':w.heap[g]? =some (.cells cs.toArray t (0,0)):=h;simp[World.cell?,h',aA]
theorem Il{w:World}{g:Nat}{t:TypeId}{cs:List Value}(h:(a7.b' g t cs).ok w):g<w.heap.size:=by
 have h':w.heap[g]? =some (.cells cs.toArray t (0,0)):=h;exact(ft.1 h').1
theorem asu(w:World)(t:TypeId)(cs:List Value):(a7.b' w.heap.size t cs).ok (w.alloc (.cells cs.toArray t)):=heap_alloc_new w _
def bA.i_(g:Nat)(cs:List Value):bA where
 ok M w:=g∉M/\g<w.heap.size/\fb w ⟨g,0,none⟩ cs
 law M jE w w' a b h:=⟨λ c=>by rcases b g c with e |e;exact h.1 e;exact absurd h.2.1 (by omega),dQ h.2.1 a.size,h.2.2.law (a.block g h.2.1 h.1)⟩
theorem m'{α:Type}{T:cY α}{F:Nat->Prop}{w:World}{cs:List Value}{l:List α}(h:(bY T).rd F w cs l):∃A c,cs=[.slice A l.length c]:=by
 obtain⟨A,c,a,_⟩:=h;exact⟨A,c,a⟩
theorem aGc{α:Type}{T:cY α}{M:List Nat}{w:World}{e:TypeId}{A:Option Addr}{n c:Nat}{l:List α}{xs:List Value}{i:Int}{d:α}(h:(a7.row e T.size (.slice A n c) l xs).ok w)(b:(bA.rows T xs l).ok M w)(hi:idx l i=some d) :
 A=some ⟨dm A,fG A,none⟩/\(0<=i/\i<n)/\ ∃cs,T.rd (ii M w) w cs d/\fb w ⟨dm A,fG A+i.toNat*T.size,none⟩ cs:=by
 obtain⟨f,o,J⟩:=lk hi
 have h':w.ownsRow 0 e T.size (.slice A n c) l.length xs:=h
 have k:dx T (ii M w) w xs l:=b
 rcases h'.2 with⟨e1,p⟩|⟨g,cap,cur,e1,_,q,_⟩
 ·omega
 ·simp only[Value.slice.injEq]at e1
  obtain⟨rfl,rfl,rfl⟩:=e1
  obtain⟨cs,hc,m⟩:=KF T k J
  refine⟨rfl,⟨f,by omega⟩,cs,hc,λ j u aA=>?_⟩
  have a:=h'.cells (g:=g) rfl _ u (m j u aA)
  have e2:(⟨g,0,none⟩:Addr).add (i.toNat*T.size+j)=⟨g,0+(i.toNat*T.size+j),none⟩:=by unfold Addr.add;split<;>simp_all
  rw[e2]at a
  show w.cell? ⟨g,0+i.toNat*T.size+j,none⟩=some u
  rw[jK];exact a
end aq
namespace aq
open Go Go.RowKit I
theorem ahI(p q:List UInt8):(p==q)=decide (p=q):=by
 rw[hT];simp
section
variable{P:Program}{o:Oper}{a:Act}{w:World}
abbrev bc(P:Program)(o:Oper)(a:Act)(w:World)(v:Value)(w':World):Prop:=(execOp a.eval o).run P w= .ok (.value v) w'
abbrev rz(P:Program)(o:Oper)(a:Act)(w:World)(w':World):Prop:=(execOp a.eval o).run P w= .ok .skip w'
theorem vx{x:Operand}{v:Value}(ap:o.op= .move x)(b:a.eval x=v):bc P o a w v w:=by
 simp only[bc,execOp,ap,b];rfl
theorem ym{x:Operand}{v:Value}(ap:o.op= .assign x)(b:a.eval x=v):bc P o a w v w:=by
 simp only[bc,execOp,ap,b];rfl
theorem RG{c x y:Operand}{v:Value}(ap:o.op= .pick c x y)(hc:a.eval c= .bool true)(b:a.eval x=v):bc P o a w v w:=by
 simp only[bc,execOp,ap,hc,b];rfl
theorem RF{c x y:Operand}{v:Value}(ap:o.op= .pick c x y)(hc:a.eval c= .bool false)(hy:a.eval y=v):bc P o a w v w:=by
 simp only[bc,execOp,ap,hc,hy];rfl
section
variable{x y:Operand}{t t':TypeId}{k:IntKind}{m n:Int}
theorem aKQ(ap:o.op= .binOp .add t x y t')(b:a.eval x= .int k m)(hy:a.eval y= .int k n):bc P o a w (.int k (k.wrap (m+n))) w:=by
 simp only[bc,execOp,ap,b,hy];simp[go_sem]
theorem aLj(ap:o.op= .binOp .sub t x y t')(b:a.eval x= .int k m)(hy:a.eval y= .int k n):bc P o a w (.int k (k.wrap (m-n))) w:=by
 simp only[bc,execOp,ap,b,hy];simp[go_sem]
theorem aK_(ap:o.op= .binOp .mul t x y t')(b:a.eval x= .int k m)(hy:a.eval y= .int k n):bc P o a w (.int k (k.wrap (m*n))) w:=by
 simp only[bc,execOp,ap,b,hy];simp[go_sem]
theorem aLh(ap:o.op= .binOp .quo t x y t')(b:a.eval x= .int k m)(hy:a.eval y= .int k n)(c:n≠0):bc P o a w (.int k (k.wrap (m.tdiv n))) w:=by
 simp only[bc,execOp,ap,b,hy];simp[go_sem,c]
theorem aK8(ap:o.op= .binOp .lss t x y t')(b:a.eval x= .int k m)(hy:a.eval y= .int k n):bc P o a w (.bool (decide (m<n))) w:=by
 simp only[bc,execOp,ap,b,hy];simp[go_sem]
theorem aK7(ap:o.op= .binOp .leq t x y t')(b:a.eval x= .int k m)(hy:a.eval y= .int k n):bc P o a w (.bool (decide (m<=n))) w:=by
 simp only[bc,execOp,ap,b,hy];simp[go_sem]
theorem anJ(ap:o.op= .binOp .gtr t x y t')(b:a.eval x= .int k m)(hy:a.eval y= .int k n):bc P o a w (.bool (decide (n<m))) w:=by
 simp only[bc,execOp,ap,b,hy];simp[go_sem]
theorem aK3(ap:o.op= .binOp .geq t x y t')(b:a.eval x= .int k m)(hy:a.eval y= .int k n):bc P o a w (.bool (decide (n<=m))) w:=by
 simp only[bc,execOp,ap,b,hy];simp[go_sem]
theorem aK1(b:P.underlying t=some (.int k))(ap:o.op= .binOp .eql t x y t')(c:a.eval x= .int k m)(hy:a.eval y= .int k n):bc P o a w (.bool (decide (m=n))) w:=by
 have:=run_underlying (P:=P) b;simp only[bc,execOp,ap,c,hy];simp[go_sem,this];rfl
theorem aLb(b:P.underlying t=some (.int k))(ap:o.op= .binOp .neq t x y t')(c:a.eval x= .int k m)(hy:a.eval y= .int k n):bc P o a w (.bool (!decide (m=n))) w:=by
 have:=run_underlying (P:=P) b;simp only[bc,execOp,ap,c,hy];simp[go_sem,this];rfl
end
section
variable{x y:Operand}{t t':TypeId}{p q:Bool}
theorem aGv(b:P.underlying t=some .bool)(p q:Bool)(w:World):(binOp .eql t (.bool p) (.bool q)).run P w= .ok (.bool (p==q)) w:=by
 have h:∀d:Nat,(Op.equalIn (d+1) t (.bool p) (.bool q)).run P w= .ok (p==q) w:=λ d=>by
  simp[Op.equalIn,run_underlying b]
 simp only[binOp];simp[Op.equal,Op.maxDepth,h 9999]
theorem aGw(b:P.underlying t=some .bool)(p q:Bool)(w:World):(binOp .neq t (.bool p) (.bool q)).run P w= .ok (.bool (!(p==q))) w:=by
 have h:∀d:Nat,(Op.equalIn (d+1) t (.bool p) (.bool q)).run P w= .ok (p==q) w:=λ d=>by
  simp[Op.equalIn,run_underlying b]
 simp only[binOp];simp[Op.equal,Op.maxDepth,h 9999]
theorem aK0(b:P.underlying t=some .bool)(ap:o.op= .binOp .eql t x y t')(c:a.eval x= .bool p)(hy:a.eval y= .bool q):bc P o a w (.bool (p==q)) w:=by
 simp only[bc,execOp,ap,c,hy];simp[go_sem,aGv b]
theorem aLa(b:P.underlying t=some .bool)(ap:o.op= .binOp .neq t x y t')(c:a.eval x= .bool p)(hy:a.eval y= .bool q):bc P o a w (.bool (!(p==q))) w:=by
 simp only[bc,execOp,ap,c,hy];simp[go_sem,aGw b]
theorem anO(ap:o.op= .unOp .not t x)(b:a.eval x= .bool p):bc P o a w (.bool (!p)) w:=by
 simp only[bc,execOp,ap,b];simp[go_sem]
end
section
variable{x y:Operand}{t t':TypeId}{p q:List UInt8}
theorem aK2(b:P.underlying t=some .string)(ap:o.op= .binOp .eql t x y t')(c:a.eval x=cj p)(hy:a.eval y=cj q):bc P o a w (.bool (decide (p=q))) w:=by
 have:=run_underlying (P:=P) b;simp only[bc,execOp,ap,c,hy];simp[go_sem,this];exact ahI p q
theorem aLc(b:P.underlying t=some .string)(ap:o.op= .binOp .neq t x y t')(c:a.eval x=cj p)(hy:a.eval y=cj q):bc P o a w (.bool (!decide (p=q))) w:=by
 have:=run_underlying (P:=P) b;simp only[bc,execOp,ap,c,hy];simp[go_sem,this];exact ahI p q
theorem anL{b:TypeId}(c:P.underlying b=some .string)(ap:o.op= .call { callee:=.builtin .len,args:=#[x],argTypes:=#[b] })(d:a.eval x=cj p):bc P o a w (.int .i64 p.length) w:=by
 simp only[bc,execOp,ap,resolve,invoke,gJ,eu,hK,d];simp[go_sem,Builtin.len_,run_underlying c,goInt]
theorem anK{b:TypeId}{A:Option Addr}{n c:Nat}{e:TypeId}(d:P.underlying b=some (.slice e))(ap:o.op= .call { callee:=.builtin .len,args:=#[x],argTypes:=#[b] })(f:a.eval x= .slice A n c):bc P o a w (.int .i64 n) w:=by
 simp only[bc,execOp,ap,resolve,invoke,gJ,eu,hK,f];simp[go_sem,Builtin.len_,run_underlying d,goInt]
theorem aK5{i:Nat}{b:UInt8}(c:P.underlying t=some .string)(ap:o.op= .index t x y)(d:a.eval x=cj p)(hy:a.eval y= .int .i64 i)(af:p[i]? =some b):bc P o a w (.int .u8 b.toNat) w:=by
 simp only[bc,execOp,ap,d,hy];obtain⟨f,J⟩:=aM.1 af;have e:(⟨⟨p⟩⟩:ByteArray)[i]? =some b:=by
  show(if h:i<_ then some _ else none)=_
  rw[dif_pos (show i<(⟨⟨p⟩⟩:ByteArray).size from f)];exact congrArg some J
 simp[go_sem,Instr.index,run_underlying c,e]
theorem abI{k k':IntKind}{n:Int}(b:P.underlying t=some (.int k))(wS:P.underlying t'=some (.int k'))(ap:o.op= .convert t t' x)(c:a.eval x= .int k n):bc P o a w (.int k' (k'.wrap n)) w:=by
 simp only[bc,execOp,ap,c];simp[go_sem,convert,run_underlying b,run_underlying wS]
end
end
theorem xW(n:Int):IntKind.i64.wrap n=ar n:=by rw[IntKind.wrap_i64];rfl
theorem akP(n:Int):IntKind.u8.wrap n=((rB n).toNat:Int):=by rw[asq,IntKind.wrap_u8]
section
variable{P:Program}{o:Oper}{a:Act}{w:World}{x y:Operand}{t t':TypeId}{m n:Int}
theorem abH(ap:o.op= .binOp .add t x y t')(b:a.eval x= .int .i64 m)(hy:a.eval y= .int .i64 n):bc P o a w (.int .i64 (ar (m+n))) w:=by rw[<-xW];exact aKQ ap b hy
theorem anS(ap:o.op= .binOp .sub t x y t')(b:a.eval x= .int .i64 m)(hy:a.eval y= .int .i64 n):bc P o a w (.int .i64 (ar (m-n))) w:=by rw[<-xW];exact aLj ap b hy
theorem aK'(ap:o.op= .binOp .mul t x y t')(b:a.eval x= .int .i64 m)(hy:a.eval y= .int .i64 n):bc P o a w (.int .i64 (ar (m*n))) w:=by rw[<-xW];exact aK_ ap b hy
theorem anQ(ap:o.op= .binOp .rem t x y t')(c:a.eval x= .int .i64 m)(hy:a.eval y= .int .i64 n)(b:(!decide (n=0))=true):bc P o a w (.int .i64 (m.tmod n)) w:=by
 have b:n≠0:=by simpa using b
 simp only[bc,execOp,ap,c,hy];simp[go_sem,b]
theorem anP(ap:o.op= .binOp .quo t x y t')(b:a.eval x= .int .i64 m)(hy:a.eval y= .int .i64 n)(c:(!decide (n=0))=true):bc P o a w (.int .i64 (ar (m.tdiv n))) w:=by rw[<-xW];exact aLh ap b hy (by simpa using c)
theorem aKV(b:P.underlying t=some (.int .i64))(wS:P.underlying t'=some (.int .i64))(ap:o.op= .convert t t' x)(c:a.eval x= .int .i64 m):bc P o a w (.int .i64 (ar m)) w:=by
 have h:=abI (P:=P) (w:=w) b wS ap c;rwa [xW]at h
theorem aKW(b:P.underlying t=some (.int .i64))(wS:P.underlying t'=some (.int .u8))(ap:o.op= .convert t t' x)(c:a.eval x= .int .i64 m):bc P o a w (.int .u8 ((rB m).toNat:Int)) w:=by
 have h:=abI (P:=P) (w:=w) b wS ap c;rwa [akP]at h
theorem MY(a:Act)(g:Nat):a.eval (.global g)= .pointer (some ⟨g,0,none⟩):=rfl
theorem LX{vs:List Value}{i:Nat}{v:Value}(ap:o.op= .extract x i)(b:a.eval x= .tuple vs.toArray)(c:vs[i]? =some v):bc P o a w v w:=by
 simp only[bc,execOp,ap,b];simp[go_sem,Instr.extract,c]
theorem LY{p:Addr}(ap:o.op= .nilCheck x)(b:a.eval x= .pointer (some p)):bc P o a w (.pointer (some p)) w:=by
 simp only[bc,execOp,ap,b];rfl
end
end aq
namespace aq
open Go Go.RowKit I
theorem k3(b o n:Nat):(⟨b,o,none⟩:Addr).add n=⟨b,o+n,none⟩:=by
 unfold Addr.add;split<;>simp_all
section
variable{P:Program}{o:Oper}{a:Act}{w:World}{x y:Operand}{t e s:TypeId}
theorem aK6{i:Int}{b:UInt8}{p:List UInt8}(c:P.underlying t=some .string)(ap:o.op= .index t x y)(d:a.eval x=cj p)(hy:a.eval y= .int .i64 i)(af:idx p i=some b):bc P o a w (.int .u8 b.toNat) w:=by
 obtain⟨f,g,J⟩:=lk af;obtain⟨n,rfl⟩:=kr f;exact aK5 c ap d hy (by simpa using J)
theorem pN{A:Option Addr}{n c sz:Nat}{i:Int}(d:P.underlying t=some (.slice e))(aj:∀w,(Go.sizeOf e).run P w= .ok sz w)
 (ap:o.op= .indexAddr t x y)(b:a.eval x= .slice A n c)(hy:a.eval y= .int .i64 i)(f:A=some ⟨dm A,fG A,none⟩)(hi:0<=i/\i<n) :
 bc P o a w (.pointer (some ⟨dm A,fG A+i.toNat*sz,none⟩)) w:=by
 obtain⟨g,j⟩:=hi
 obtain⟨k,rfl⟩:=kr g
 have h:k<n:=by omega
 rw[f]at b
 simp only[bc,execOp,ap,b,hy]
 simp[go_sem,Instr.indexAt,run_underlying d,h,aj,k3]
theorem RD{b7:Array Field}{f:Field}{j b p sz:Nat}(d:P.underlying s=some (.struct b7))(ad:b7[j]? =some f)(aj:∀w,(Go.sizeOf f.type).run P w= .ok sz w)(g:bP sz 0=false)
 (ap:o.op= .fieldAddr s x j)(h:a.eval x= .pointer (some ⟨b,p,none⟩)):bc P o a w (.pointer (some ⟨b,p+f.offset,none⟩)) w:=by
 have c:sz≠0:=by intro e;subst e;simp at g
 simp only[bc,execOp,ap,h]
 simp[go_sem,Instr.fieldAt,run_underlying d,ad,fieldPlace,aj,c,k3]
theorem yn{b p:Nat}{v:Value}(c:∀w,(isAgg t).run P w= .ok false w)(ap:o.op= .load t x)(d:a.eval x= .pointer (some ⟨b,p,none⟩))(hc:w.cell? ⟨b,p,none⟩=some v):bc P o a w v w:=by
 simp only[bc,execOp,ap,d];simp[go_sem,Instr.loadAt,loadVar,c,hc]
theorem anM{b p sz:Nat}{cs:List Value}(c:∀w,(isAgg t).run P w= .ok true w)(aj:∀w,(Go.sizeOf t).run P w= .ok sz w)(d:cs.length=sz)(ap:o.op= .load t x)
 (f:a.eval x= .pointer (some ⟨b,p,none⟩))(hc:fb w ⟨b,p,none⟩ cs):bc P o a w (.agg cs.toArray) w:=by
 have h:=run_loadCells_list (P:=P) w ⟨b,p,none⟩ cs (λ j u aA=>by rw[k3];exact hc j u aA)
 rw[d]at h
 unfold loadCells at h
 simp only[bc,execOp,ap,f]
 simp[go_sem,Instr.loadAt,loadVar,c,aj,h]
theorem RA{v:Value}{cs:List Value}(c:v.cells=cs.toArray)(ap:o.op= .box t x)(d:a.eval x=v):bc P o a w (.pointer (some ⟨w.heap.size,0,none⟩)) (w.alloc (.cells cs.toArray t)):=by
 have b:=c;unfold Value.cells at b;simp only[bc,execOp,ap,d];simp[go_sem,Instr.box,newVar,newRow,b]
theorem Br{z:Value}{cs:List Value}(c:∀w,(zeroValue t).run P w= .ok z w)(d:z.cells=cs.toArray)(ap:o.op= .alloc t):bc P o a w (.pointer (some ⟨w.heap.size,0,none⟩)) (w.alloc (.cells cs.toArray t)):=by
 have b:=d;unfold Value.cells at b;simp only[bc,execOp,ap];simp[go_sem,Instr.alloc,newVar,newRow,c,b]
end
def lay:List Value->Nat->List Value->List Value
 |l,0,cs=>cs++l.drop cs.length
 |[],_+1,_=>[]
 |u::l,n+1,cs=>u::lay l n cs
theorem WV:∀(l:List Value)(n:Nat)(cs:List Value),n+cs.length<=l.length->lay l n cs=l.take n++cs++l.drop (n+cs.length)
 |l,0,cs,_=>by simp[lay]
 |[],n+1,cs,h=>by simp at h
 |u::l,n+1,cs,h=>by
  have:=WV l n cs (by simp at h;omega);simp only[lay,this,jC,jf];have e:n+1+cs.length=(n+cs.length)+1:=by omega
  rw[e,List.drop_succ_cons]
section
variable{P:Program}{o:Oper}{a:Act}{w:World}{x y:Operand}{t e s:TypeId}
theorem abJ{g p sz:Nat}{tb:TypeId}{cs vs:List Value}{v:Value}(j:v.cells=vs.toArray)(aj:∀w,(Go.sizeOf t).run P w= .ok sz w)(l:bP vs.length sz=true)(m:vs.all (·.oneCell')=true)
 (c:iI (p+vs.length) cs.length=true)(af:(a7.b' g tb cs).ok w)(ap:o.op= .store t x y)(n:a.eval x= .pointer (some ⟨g,p,none⟩))(hy:a.eval y=v) :
 ∃w',rz P o a w w'/\bj [g] w w'/\(a7.b' g tb (lay cs p vs)).ok w':=by
 have d:w.heap[g]? =some (.cells cs.toArray tb (0,0)):=af
 have b:vs.length=sz:=a_ l
 have f:p+vs.length<=cs.length:=ck c
 have h:=run_storeCells_at P g p tb vs 0 cs.toArray w d (by simpa using f) (λ u q=>jN.1 m u q)
 simp only[lC]at h
 refine⟨w.setRow g (lay cs p vs).toArray,?_,?_,?_⟩
 ·simp only[rz,execOp,ap,n,hy]
  rw[WV _ _ _ f]
  simp only[gT,b]at h
  have i:=j
  unfold Value.cells at i
  simp[go_sem,Instr.storeAt,storeVar,aj,i,b,h]
 ·refine⟨rfl,rfl,rfl,by simp[World.setRow],λ k _ r=>?_⟩
  simp only[World.setRow,ju]
  rw[if_neg (by simpa[eq_comm]using r)]
 ·show(w.setRow g _).heap[g]? =_
  simp[World.setRow,ju,d]
end
section
variable{P:Program}{o:Oper}{a:Act}{w:World}{x y:Operand}{t e:TypeId}
def Nb(a:Act):List (Nat×Operand)->List (Nat×Value)->Prop
 |[],[]=>True
 |(i,x)::xs,(j,v)::vs=>(a.eval x=v/\i=j)/\Nb a xs vs
 |_,_=>False
theorem TK:∀ {xs:List (Nat×Operand)}{vs:List (Nat×Value)},Nb a xs vs->xs.map (λ p=>(p.1,a.eval p.2))=vs
 |[],[],_=>rfl
 |(i,x)::xs,(j,v)::vs,h=>by
  obtain⟨⟨b,rfl⟩,J⟩:=h;rw[eu,TK J,b]
def placesOf(P:Program)(t:TypeId):Sem (Array (Nat×Nat)):=(match P.underlying t with|some (.struct b7)=>b7 |_=>#[]).mapM λ(f:Field)=>do pure (f.offset,<-Go.sizeOf f.type)
theorem aKT{z:Value}{b7:Array Field}{pl:Array (Nat×Nat)}{xs:List (Nat×Operand)}{vs:List (Nat×Value)}{cs:List Value}(d:∀w,(zeroValue t).run P w= .ok z w)(b:P.underlying t=some (.struct b7))
 (f:∀w,(placesOf P t).run P w= .ok pl w)(ap:o.op= .build t xs.toArray)(g:Nb a xs vs)(h:Instr.fill (λ i=>pl[i]?) z.cells vs=some cs.toArray):bc P o a w (.agg cs.toArray) w:=by
 have c:=f w
 simp only[placesOf,b]at c
 have j:=TK g
 simp only[bc,execOp,ap,Instr.build,Sem.run_bind,d,Result.andThen_ok,run_underlying b,c,gJ]
 have e:(xs.map λ(i,x)=>(i,a.eval x))=vs:=j
 simp only[e,h]
 rfl
theorem EP{z:Value}{sz n:Nat}{xs:List (Nat×Operand)}{vs:List (Nat×Value)}{cs:List Value}(d:P.underlying t=some (.slice e))(aj:∀w,(Go.sizeOf e).run P w= .ok sz w)(f:∀w,(zeroValue e).run P w= .ok z w)
 (b:iI (n*sz) 16777216=true)(c:bP (n*sz) 0=false)(ap:o.op= .buildSlice t n xs.toArray)(g:Nb a xs vs)
 (h:Instr.fill (λ i=>some (i*sz,sz)) ((Array.range (n*sz)).map (z.cells[·%z.cells.size]!)) vs=some cs.toArray) :
 bc P o a w (.slice (some ⟨w.heap.size,0,none⟩) n n) (w.alloc (.cells cs.toArray e)):=by
 have j:=TK g
 have e1:(xs.map λ(i,x)=>(i,a.eval x))=vs:=j
 have J: ¬(n*sz>2^24):=by have:=ck b;omega
 have k:n*sz≠0:=by intro l;rw[l]at c;simp at c
 simp only[bc,execOp,ap,Instr.buildSlice,Sem.run_bind,Sem.run_pure,aj,f,Result.andThen_ok,run_underlying d,gJ,e1,if_neg J,if_neg k,h]
 rfl
theorem aLe{t':TypeId}{m n:Int}(ap:o.op= .binOp .or t x y t')(b:a.eval x= .int .i64 m)(hy:a.eval y= .int .i64 n):bc P o a w (.int .i64 (XN m n)) w:=by
 unfold XN;rw[<-xW];simp only[bc,execOp,ap,b,hy];rfl
theorem aKR{t':TypeId}{m n:Int}(ap:o.op= .binOp .and t x y t')(b:a.eval x= .int .i64 m)(hy:a.eval y= .int .i64 n):bc P o a w (.int .i64 (SD m n)) w:=by
 unfold SD;rw[<-xW];simp only[bc,execOp,ap,b,hy];rfl
theorem anN{fn:Fn}{xs:List Operand}{vs:List Value}(ap:o.op= .makeFunc fn #[] xs.toArray)(b:xs.map a.eval=vs):bc P o a w (.func fn #[] vs.toArray) w:=by
 simp only[bc,execOp,ap,Instr.makeFunc,gJ,b];rfl
end
end aq
namespace aq
open Go Go.RowKit I
section
variable{P:Program}{ops:Array Oper}{Q:Exit->Act->World->Prop}{a:Act}{w w':World}{rest:List Oper}{o:Oper}{n:ct}{d:Nat}{l:List (Nat×Value)}{v:Value}
theorem QB(b:o.guard=none):Region.wanted o (yielded ops a.tmps)=true:=by simp[Region.wanted,b]
theorem fH(c:Region.wanted o (yielded ops a.tmps)=true)(hy:bc P o a w v w')(ad:Fr n l a)(aK:o.dst=some d)(e:ee d n=true)(k:∀b,Fr n ((d,v)::l) b->wpList P ops Q rest b w'):wpList P ops Q (o::rest) a w:=by
 refine wpList_step λ K f=>?_;rw[if_pos c];unfold Oper.wp;rw[show(execOp a.eval o).run P w=_ from hy];show K (a.put o.dst v) w'
 rw[aK];exact f _ _ (k _ (ad.put e))
theorem jm(b:Region.wanted o (yielded ops a.tmps)=true)(hy:rz P o a w w')(aK:o.dst=none)(k:wpList P ops Q rest a w'):wpList P ops Q (o::rest) a w:=by
 refine wpList_step λ K c=>?_;rw[if_pos b];unfold Oper.wp;rw[show(execOp a.eval o).run P w=_ from hy];show K (a.put o.dst undef) w'
 rw[aK];exact c _ _ k
theorem aHJ{j bu:Nat}{b:Bool}(ad:Fr n l a)(c:o.guard=some (j,b))(aA:(ops[j]?).bind (·.dst)=some bu)(e:eb l bu=some (.bool b))(f:ee bu n=true):Region.wanted o (yielded ops a.tmps)=true:=by
 have g:bu<n:=ck f;have h:=ad.get bu _ e;have aj:=ad.size;have J:a.tmps[bu]? =some (.bool b):=by
  rw[iR (by omega)];simpa[dP,aj,g]using h
 simp[Region.wanted,c,yielded,aA,J]
theorem aHI{j bu:Nat}{b c:Bool}(ad:Fr n l a)(e:o.guard=some (j,b))(aA:(ops[j]?).bind (·.dst)=some bu)(f:eb l bu=some (.bool c))(g:(c==b)=false)(i:ee bu n=true):Region.wanted o (yielded ops a.tmps)=false:=by
 have k:bu<n:=ck i;have h:=ad.get bu _ f;have aj:=ad.size;have J:a.tmps[bu]? =some (.bool c):=by
  rw[iR (by omega)];simpa[dP,aj,k]using h
 simpa[Region.wanted,e,yielded,aA,J]using g
theorem aHK{j bu:Nat}{b:Bool}(ad:Fr n l a)(c:o.guard=some (j,b))(aA:(ops[j]?).bind (·.dst)=some bu)(e:eb l bu=some undef)(f:ee bu n=true):Region.wanted o (yielded ops a.tmps)=false:=by
 have g:bu<n:=ck f;have h:=ad.get bu _ e;have aj:=ad.size;have J:a.tmps[bu]? =some undef:=by
  rw[iR (by omega)];simpa[dP,aj,g]using h
 simp[Region.wanted,c,yielded,aA,J,undef]
theorem ss(c:Region.wanted o (yielded ops a.tmps)=false)(ad:Fr n l a)(aK:o.dst=some d)(e:ee d n=true)(k:∀b,Fr n ((d,undef)::l) b->wpList P ops Q rest b w):wpList P ops Q (o::rest) a w:=by
 refine wpList_step λ K f=>?_;rw[if_neg (by simp[c]),aK];exact f _ _ (k _ (ad.put e))
def zc(a:Act):List Operand->List Value->Prop
 |[],[]=>True
 |x::xs,v::vs=>a.eval x=v/\zc a xs vs
 |_,_=>False
theorem Nd:∀ {xs:List Operand}{vs:List Value},zc a xs vs->xs.map a.eval=vs
 |[],[],_=>rfl
 |x::xs,v::vs,h=>by rw[eu,h.1,Nd h.2]
theorem aHT{f:FuncId}{xs:List Operand}{b:Array TypeId}{vs:List Value}{R:Ending->World->Prop}{K:Act->World->Prop}
 (ap:o.op= .call { callee:=.value (.func f),args:=xs.toArray,argTypes:=b })(c:∀args w,(callFunc f args).run P w= .ok (.enter f args) w)
 (g:zc a xs vs)(hc:Calls P f vs.toArray w R)(k:∀e w',R e w'-> ∃v,e= .returned v/\K (a.put o.dst v) w'):o.wp P a w K Q:=by
 unfold Oper.wp
 have e:(execOp a.eval o).run P w= .ok (.enter f vs.toArray) w:=by
  have h:=Nd g;simp only[execOp,ap,resolve,gJ,h];simp[go_sem,Act.eval,Deferred.ofValue,invoke,c]
 rw[e]
 exact hc.mono λ e w' i=>by
  obtain⟨v,rfl,j⟩:=k e w' i;exact j
theorem KT{f:FuncId}{xs:List Operand}{c:Array TypeId}{vs:List Value}{R:Ending->World->Prop}(g:Region.wanted o (yielded ops a.tmps)=true)
 (ap:o.op= .call { callee:=.value (.func f),args:=xs.toArray,argTypes:=c })(h:∀args w,(callFunc f args).run P w= .ok (.enter f args) w)
 (i:zc a xs vs)(hc:Calls P f vs.toArray w R)(ad:Fr n l a)(aK:o.dst=some d)(j:ee d n=true)
 (k:∀e w',R e w'-> ∃v,e= .returned v/\ ∀b,Fr n ((d,v)::l) b->wpList P ops Q rest b w'):wpList P ops Q (o::rest) a w:=by
 refine wpList_step λ K m=>?_
 rw[if_pos g]
 refine aHT ap h i hc λ e w' p=>?_
 obtain⟨v,q,r⟩:=k e w' p
 rw[aK]
 exact⟨v,q,m _ _ (r _ (ad.put j))⟩
end
section
variable{P:Program}{ops:Array Oper}{Q:Exit->Act->World->Prop}{a:Act}{w w':World}{rest:List Oper}{o:Oper}{n:ct}{d:Nat}{l:List (Nat×Value)}{v:Value}
theorem aGs{f:FuncId}{b:Operand}{xs:List Operand}{c:Array TypeId}{vs cs:List Value}
 (ap:o.op= .call { callee:=.value b,args:=xs.toArray,argTypes:=c })(e:∀args w,(callFunc f args).run P w= .ok (.enter f args) w)(g:a.eval b= .func (.func f) #[] cs.toArray)
 (h:zc a xs vs):(execOp a.eval o).run P w= .ok (.enter f (vs++cs).toArray) w:=by
 have i:=Nd h
 simp only[execOp,ap,resolve,gJ,i,g]
 simp[Deferred.ofValue,invoke,e]
theorem ZA{f:FuncId}{b:Operand}{xs:List Operand}{g:Array TypeId}{vs cs:List Value}{R:Ending->World->Prop}(h:Region.wanted o (yielded ops a.tmps)=true)
 (ap:o.op= .call { callee:=.value b,args:=xs.toArray,argTypes:=g })(i:∀args w,(callFunc f args).run P w= .ok (.enter f args) w)(j:a.eval b= .func (.func f) #[] cs.toArray)
 (m:zc a xs vs)(hc:Calls P f (vs++cs).toArray w R)(ad:Fr n l a)(aK:o.dst=some d)(p:ee d n=true)
 (k:∀e w',R e w'-> ∃v,e= .returned v/\ ∀c,Fr n ((d,v)::l) c->wpList P ops Q rest c w'):wpList P ops Q (o::rest) a w:=by
 refine wpList_step λ K q=>?_
 rw[if_pos h]
 unfold Oper.wp
 rw[aGs ap i j m]
 refine hc.mono λ e w' r=>?_
 obtain⟨v,rfl,s⟩:=k e w' r
 rw[aK]
 exact q _ _ (s _ (ad.put p))
end
section
variable{P:Program}{Q:Exit->Act->World->Prop}{a:Act}{w:World}
theorem SM{c:Code}(b:Nat->Act->World->Prop)(k:Nat)(h:b k a w)(e:∀a w,¬b 0 a w)
 (round:∀k a w,b (k+1) a w-> ∀K:Act->World->Prop,(∀a w,b k a w->K a w)->c.wp P (Exit.then K Q) a w):(Code.loop c).wp P Q a w:=
 wp_loop_ghost b k h λ m a w d=>by
  cases m with
  |zero=>exact absurd d (e a w)
  |succ m=>exact round m a w d _ λ f w' h'=>⟨m,kU m,h'⟩
theorem aFi{fn:Func}{R:Ending->World->Prop}{n:Nat}{l:List (Nat×Value)}(b:fn.results= #[])(ad:Fr ⟨n,[]⟩ l a)(h:R (.returned (.tuple #[])) w):bodyPost P fn R .ret a w:=
 ⟨ad.defers,_,results_none b _ _ _,h⟩
theorem Ax{fn:Func}{R:Ending->World->Prop}{n:Nat}{t:Nat}{l:List (Nat×Value)}{v:Value}(b:fn.results= #[.tmp t])(ad:Fr ⟨n,[]⟩ l a)(c:eb l t=some v)(h:R (.returned v) w):bodyPost P fn R .ret a w:=
 ⟨ad.defers,_,results_tmp b _ _ _,by rw[ad.get _ _ c];exact h⟩
def Zm(P:Program)(a:Act)(w:World):ResultVar->Value->Prop
 | .tmp t,v=>a.tmps.getD t undef=v
 | .cell dW ty,v=>∃b p,a.tmps.getD dW undef= .pointer (some ⟨b,p,none⟩)/\
  ((∃cs:List Value,(∀w,(isAgg ty).run P w= .ok true w)/\(∀w,(Go.sizeOf ty).run P w= .ok cs.length w)/\fb w ⟨b,p,none⟩ cs/\v= .agg cs.toArray)\/
   ((∀w,(isAgg ty).run P w= .ok false w)/\w.cell? ⟨b,p,none⟩=some v))
def P3(P:Program)(a:Act)(w:World):List ResultVar->List Value->Prop
 |[],[]=>True
 |r::rs,v::vs=>Zm P a w r v/\P3 P a w rs vs
 |_,_=>False
def pack:List Value->Value
 |[v]=>v
 |vs=>.tuple vs.toArray
def P2(a:Act):ResultVar->Sem Value
 | .tmp t=>pure (a.tmps.getD t undef)
 | .cell dW t=>do loadVar t (<-asAddr (a.tmps.getD dW undef))
theorem aGx{r:ResultVar}{v:Value}(h:Zm P a w r v):(P2 a r).run P w= .ok v w:=by
 cases r with
 |tmp t=>exact congrArg (λ x=>Result.ok x w) h
 |cell dW ty=>
  obtain⟨b,p,e,J⟩:=h
  simp only[P2,e]
  rcases J with⟨cs,c,aj,hc,rfl⟩|⟨c,hc⟩
  ·have d:=run_loadCells_list (P:=P) w ⟨b,p,none⟩ cs (λ j u aA=>by rw[k3];exact hc j u aA)
   unfold loadCells at d
   simp[go_sem,loadVar,asAddr,c,aj,d]
  ·simp[go_sem,loadVar,asAddr,c,hc]
theorem aj7:∀ {rs:List ResultVar}{vs:List Value},P3 P a w rs vs->(rs.mapM (P2 a)).run P w= .ok vs w
 |[],[],_=>rfl
 |r::rs,v::vs,h=>by
  have b:=aGx h.1;have J:=aj7 h.2;rw[List.mapM_cons];simp only[Sem.run_bind,b,J,Result.andThen_ok];rfl
theorem aFg{fn:Func}{R:Ending->World->Prop}{n:Nat}{l:List (Nat×Value)}{rs:List ResultVar}{vs:List Value}(b:fn.results=rs.toArray)(ad:Fr ⟨n,[]⟩ l a)(c:P3 P a w rs vs)
 (h:R (.returned (pack vs)) w):bodyPost P fn R .ret a w:=by
 refine⟨ad.defers,pack vs,?_,h⟩
 have d:=aj7 c
 unfold results
 have e:(λ x=>match x with| .tmp t=>pure (a.tmps.getD t undef)| .cell dW t=>do loadVar t (<-asAddr (a.tmps.getD dW undef)):ResultVar->Sem Value)=P2 a:=by
  funext x;cases x<;>rfl
 rw[b,List.mapM_toArray]
 simp only[Sem.run_bind]
 show Result.andThen (((List.toArray <$> rs.mapM (λ x=>match x with| .tmp t=>pure (a.tmps.getD t undef)| .cell dW t=>do loadVar t (<-asAddr (a.tmps.getD dW undef)):ResultVar->Sem Value))).run P w) _=_
 rw[e,map_eq_pure_bind,Sem.run_bind,d]
 match vs with
 |[]=>rfl
 |[v]=>rfl
 |v::u::r=>rfl
end
section
variable{P:Program}{ops:Array Oper}{Q:Exit->Act->World->Prop}{a:Act}{w:World}{rest:List Oper}{o:Oper}{n:ct}{d:Nat}{l:List (Nat×Value)}
 {W:World}{M0 X:List Nat}{E:List a7}{D:List bA}
theorem bs.new(c:bs W M0 X w E D)(t:TypeId)(cs:List Value):bs W M0 X (w.alloc (.cells cs.toArray t)) (a7.b' w.heap.size t cs::E) D:=
 c.push _ (bj.alloc _ _ _) (asu w t cs) (λ k b=>by simp[a7.b']at b;subst b;exact⟨cu _,by simp⟩) (by simp[a7.b'])
theorem xQ{g p sz:Nat}{t tb:TypeId}{x y:Operand}{cs vs:List Value}{v:Value}(i:Nat)(e:bs W M0 X w E D)(hi:E[i]? =some (a7.b' g tb cs))(f:Region.wanted o (yielded ops a.tmps)=true)
 (h:v.cells=vs.toArray)(aj:∀w,(Go.sizeOf t).run P w= .ok sz w)(j:bP vs.length sz=true)(b:vs.all (·.oneCell')=true)(c:iI (p+vs.length) cs.length=true)
 (ap:o.op= .store t x y)(m:a.eval x= .pointer (some ⟨g,p,none⟩))(hy:a.eval y=v)(aK:o.dst=none)
 (k:∀w',bs W M0 X w' (E.set i (a7.b' g tb (lay cs p vs))) D->wpList P ops Q rest a w'):wpList P ops Q (o::rest) a w:=by
 obtain⟨w',b,J,q⟩:=abJ h aj j b c (e.e i hi) ap m hy
 exact jm f b aK (k w' (e.Qt i hi J q (by simp[a7.b']) (λ k r=>.inl r)))
theorem bs.Kg{α:Type}(b:bs W M0 X w E D)(e:TypeId)(size:Nat):bs W M0 X w (a7.row e size (.slice none 0 0) ([]:List α) []::E) D:=
 b.push _ (bj.refl _ _) (World.ownsRow_nil w 0 e size) (λ k c=>by simp[a7.row,Value.ownBlock]at c) (by simp[a7.row,Value.ownBlock])
theorem aDf(o:Option Nat):o.toList.Nodup:=by cases o<;>simp
theorem agO{e:TypeId}{z:Value}{sz bytes:Nat}(h:(P.info? e).map (λ i=>(i.zero,i.size,i.bytes))=some (some z,sz,bytes)):∃i,P.info? e=some i/\i.zero=some z/\i.size=sz/\i.bytes=bytes:=by
 cases hi:P.info? e with
 |none=>rw[hi]at h;cases h
 |some i=>
  rw[hi]at h
  simp only[fI,aD,b5]at h
  exact⟨i,rfl,h.1,h.2.1,h.2.2⟩
end
end aq
namespace aq
open Go Go.RowKit I
section
variable{P:Program}{ops:Array Oper}{C:World->Prop}{oN:Act->Prop}{a:Act}{w:World}{rest:List Oper}{o:Oper}{n:ct}{d:Nat}{l:List (Nat×Value)}{v:Value}
theorem qG(c:Region.wanted o (yielded ops a.tmps)=true)(hy:∀w,C w->bc P o a w v w)(ad:Fr n l a)(aK:o.dst=some d)(e:ee d n=true)(k:∀b,Fr n ((d,v)::l) b->wpQuiet P ops C oN rest b):wpQuiet P ops C oN (o::rest) a:=by
 unfold wpQuiet;rw[if_pos c];refine⟨v,λ w hc=>?_,?_⟩
 ·unfold Oper.quietAt
  rw[show(execOp a.eval o).run P w=_ from hy w hc]
  exact⟨rfl,rfl⟩
 ·rw[aK];exact k _ (ad.put e)
theorem qs(c:Region.wanted o (yielded ops a.tmps)=false)(ad:Fr n l a)(aK:o.dst=some d)(e:ee d n=true)(k:∀b,Fr n ((d,undef)::l) b->wpQuiet P ops C oN rest b):wpQuiet P ops C oN (o::rest) a:=by
 unfold wpQuiet;rw[if_neg (by simp[c]),aK];exact k _ (ad.put e)
theorem as2{id:Nat}{Q:Exit->Act->World->Prop}{l:List Oper}(b:P.follows .mixedOrders=true)(c:Region.lexB .any l.toArray=true)
 (h:wpQuiet P l.toArray (λ w'=>bj [] w w') (λ a=>∀w',bj [] w w'->Q .normal a w') l a):(Code.region id l.toArray true).wp P Q a w:=
 wp_region_quiet (C:=λ w'=>bj [] w w') b c (bj.drew [] w) (by
  refine Eq.mp ?_ h;rw[List.toList_toArray])|>λ h=>wp_mono h (λ e a w q=>q)
end
theorem avC{w w':World}{p:Addr}{v:Value}(h:bj [] w w')(hc:w.cell? p=some v):w'.cell? p=some v:=
 (World.cell?_of_block (h.block p.block (World.block_lt_of_cell? w p hc) (by simp))).trans hc
theorem FI{w w':World}{p:Addr}{cs:List Value}(h:bj [] w w')(hc:fb w p cs):fb w' p cs:=λ j u aA=>avC h (hc j u aA)
section
variable{P:Program}{Q:Exit->Act->World->Prop}{K:Act->World->Prop}{a:Act}{w:World}
theorem sY{i:Nat}(h:Q (.exit i) a w):Exit.then K Q (.exit i) a w:=h
theorem HE{i:Nat}(h:Q .normal a w):Exit.inBlock i Q (.exit i) a w:=by simpa[Exit.inBlock]using h
theorem Rr(h:Q .ret a w):Exit.then K Q .ret a w:=h
theorem anA{i:Nat}(h:Q .ret a w):Exit.inBlock i Q .ret a w:=h
theorem MI{id:Nat}{c:Code}(b:Act->World->Prop)(d:∀K:Act->World->Prop,(∀a w,b a w->K a w)->c.wp P (Exit.inBlock id (Exit.then K Q)) a w)(hy:∀a w,b a w->Q .normal a w):(Code.block id c).wp P Q a w:=by
 refine wp_block (wp_mono (d _ hy) ?_);intro e a w h;cases e with
 |exit i=>
  by_cases hi:i=id
  ·simpa[Exit.inBlock,Exit.then,hi]using h
  ·simpa[Exit.inBlock,Exit.then,hi]using h
 |_=>exact h
theorem oU{id:Nat}{l:List Oper}(h:wpList P l.toArray Q l a w):(Code.region id l.toArray false).wp P Q a w:=wp_region_lit h
end
section
variable{W w:World}{M0 X:List Nat}{E:List a7}{D:List bA}
def PB(D:List bA):List bA->Prop
 |[]=>True
 |y::r=>(∃i:Nat,D[i]? =some y)/\PB D r
theorem ai1{D:List bA}:∀ {a:List bA},PB D a-> ∀y∈a,y∈D
 |[],_,y,hy=>by simp at hy
 |z::r,h,y,hy=>by
  rcases cm.1 hy with rfl |e
  ·obtain⟨i,hi⟩:=h.1;exact bB hi
  ·exact ai1 h.2 y e
theorem bs.pick(h:bs W M0 X w E D){a:List bA}(aj:PB D a):bs W M0 X w E a:=h.less (ai1 aj)
theorem bs.aeL(h:bs W [] X w E D):bj [] W w:=h.bS
theorem bs.M3(h:bs W M0 X w E D)(i:Nat):bs W M0 X w (E.eraseIdx i) D:=h.drop (List.eraseIdx_sublist E i)
theorem bs.freeze{α:Type}{T:cY α}{e:TypeId}{A:Option Addr}{n c:Nat}{l:List α}{xs:List Value}(h:bs W M0 X w E D)(i j:Nat)(hi:E[i]? =some (a7.row e T.size (.slice A n c) l xs))(aA:D[j]? =some (bA.rows T xs l)) :
 bs W M0 X w (E.eraseIdx i) (bA.of (bY T) [.slice A n c] l::D):=by
 have b:=h.M3 i
 refine b.more (aGd (h.e i hi) (b.d j aA) ?_)
 intro k a d
 rcases b3.1 d with e1 |e1
 ·have f:=h.hP k e1
  rcases(h.lt k (ho.2 ⟨_,bB hi,a⟩)).2 with e2 |e2
  ·exact f.2 e2
  ·omega
 ·obtain⟨m,g⟩:=aM.1 hi
  have aZ:E=E.take i++E[i]::E.drop (i+1):=by simp
  have aK:=h.bu
  rw[aZ,g]at aK
  have e2:bT (E.take i++a7.row e T.size (.slice A n c) l xs::E.drop (i+1))=bT (E.take i)++((a7.row e T.size (.slice A n c) l xs).bz++bT (E.drop (i+1))):=by simp[bT]
  rw[e2,eK,eK]at aK
  rw[List.eraseIdx_eq_take_drop_succ]at e1
  rcases b3.1 (by simpa[bT]using e1:k∈bT (E.take i)++bT (E.drop (i+1)))with e3 |e3
  ·exact aK.2.2 k e3 k (b3.2 (.inl a)) rfl
  ·exact aK.2.1.2.2 k a k e3 rfl
theorem bs.afg{g:Nat}{t:TypeId}{cs:List Value}(h:bs W M0 X w E D)(i:Nat)(hi:E[i]? =some (a7.b' g t cs)):bs W M0 X w (E.eraseIdx i) (bA.i_ g cs::D):=by
 have b:=h.M3 i;refine b.more ⟨?_,Il (h.e i hi),λ j u aA=>?_⟩
 ·intro c
  have a:g∈(a7.b' g t cs).bz:=by simp[a7.b']
  rcases b3.1 c with e1 |e1
  ·have d:=h.hP g e1
   rcases(h.lt g (ho.2 ⟨_,bB hi,a⟩)).2 with e2 |e2
   ·exact d.2 e2
   ·omega
  ·obtain⟨f,e⟩:=aM.1 hi
   have aZ:E=E.take i++E[i]::E.drop (i+1):=by simp
   have aK:=h.bu
   rw[aZ,e]at aK
   have e2:bT (E.take i++a7.b' g t cs::E.drop (i+1))=bT (E.take i)++((a7.b' g t cs).bz++bT (E.drop (i+1))):=by simp[bT]
   rw[e2,eK,eK]at aK
   rw[List.eraseIdx_eq_take_drop_succ]at e1
   rcases b3.1 (by simpa[bT]using e1:g∈bT (E.take i)++bT (E.drop (i+1)))with e3 |e3
   ·exact aK.2.2 g e3 g (b3.2 (.inl a)) rfl
   ·exact aK.2.1.2.2 g a g e3 rfl
 ·have:=y1 (h.e i hi) aA
  simpa using this
end
end aq
namespace aq
open Go Go.RowKit I
def dG(n:Nat):List Nat->Array Bool
 |[]=>Array.replicate n false
 |i::d=>(dG n d).setIfInBounds i true
def E4(K:Act->World->Prop)(Q:Exit->Act->World->Prop):Exit->Act->World->Prop
 | .normal,a,w=>K a w
 |e,a,w=>Q e a w
section
variable{P:Program}{ops:Array Oper}{Q:Exit->Act->World->Prop}{a:Act}{w:World}{o:Oper}{n:ct}{f d i:Nat}{ds:List Nat}{l:List (Nat×Value)}{v:Value}
def Qo(ops:Array Oper)(ds:List Nat)(i:Nat):Bool:=Region.noSelect ops&&Region.free .any ops (dG ops.size ds) i&&(Region.ready .any ops (dG ops.size ds)).contains i
theorem aHS{K:Act->World->Prop}{Q:Exit->Act->World->Prop}(h:o.wp P a w K (E4 K Q)):o.wp P a w K Q:=by
 unfold Oper.wp at *;generalize(execOp a.eval o).run P w=r at *;cases r with
 |ok n w'=>
  cases n<;>simp only[Oper.upon]at h⊢ <;>
   first
    |exact h
    |exact Calls.mono h (λ e w'' b=>by cases e<;>first |exact b |exact b)
 |halt x w'=>cases x<;>simp only[Oper.upon]at h⊢ <;>exact h
theorem aab{K:Act->World->Prop}(hi:ops[i]? =some o)(h:wpList P ops (E4 K (NoPanic Q)) [o] a w):wpOp P ops (NoPanic Q) i K a w:=by
 unfold wpOp;simp only[hi];unfold wpList at h;split at h
 ·rename_i b
  rw[if_pos b]
  rcases h with h |⟨c,J⟩
  ·exact .inl (aHS h)
  ·exact .inr ⟨c,J.elim λ a h=>h.elim λ w h=>⟨a,w,h⟩⟩
 ·rename_i b
  rw[if_neg b]
  exact h
end
section
variable{P:Program}{o:Oper}{a:Act}{w:World}{t t':TypeId}{x y:Operand}{b7:Array Go.Field}{xs ys:Array Value}{b:Bool}
theorem RC(c:P.underlying t=some (.struct b7))(d:P.stoodInHeld t=false)(e:P.eqGuardType P.depth t=false)
 (f:(Op.eqFields 9999 xs ys b7.toList).run P w= .ok b w)(ap:o.op= .binOp .eql t x y t')(g:a.eval x= .agg xs)(hy:a.eval y= .agg ys):bc P o a w (.bool b) w:=by
 have ad:P.fieldsOf t=b7:=by simp[Program.fieldsOf,c]
 have h:=run_equalIn_struct (P:=P) w 9999 t xs ys (by rw[ad];exact c) d
 rw[ad,f]at h
 have h:(Op.equalIn 10000 t (Value.agg xs) (Value.agg ys)).run P w= .ok b w:=h
 simp only[bc,execOp,ap,g,hy]
 simp[go_sem,Op.equal,Op.maxDepth,h,run_eqGuard_agg w _ _ _ _ _ _ e]
theorem RE(c:P.underlying t=some (.struct b7))(d:P.stoodInHeld t=false)(e:P.eqGuardType P.depth t=false)
 (f:(Op.eqFields 9999 xs ys b7.toList).run P w= .ok b w)(ap:o.op= .binOp .neq t x y t')(g:a.eval x= .agg xs)(hy:a.eval y= .agg ys):bc P o a w (.bool (!b)) w:=by
 have ad:P.fieldsOf t=b7:=by simp[Program.fieldsOf,c]
 have h:=run_equalIn_struct (P:=P) w 9999 t xs ys (by rw[ad];exact c) d
 rw[ad,f]at h
 have h:(Op.equalIn 10000 t (Value.agg xs) (Value.agg ys)).run P w= .ok b w:=h
 simp only[bc,execOp,ap,g,hy]
 simp[go_sem,Op.equal,Op.maxDepth,h,run_eqGuard_agg w _ _ _ _ _ _ e]
theorem tA{d:Nat}:(Op.eqFields d xs ys []).run P w= .ok true w:=rfl
theorem nM{d:Nat}{f:Go.Field}{l:List Go.Field}{k:IntKind}{m n:Int}{e:Prop} [Decidable e](g:(f.name != "_")=true)(i:P.underlying f.type=some (.int k))(j:∀w,(isAgg f.type).run P w= .ok false w)
 (p:xs[f.offset]? =some (.int k m))(hy:ys[f.offset]? =some (.int k n))(h:(Op.eqFields (d+1) xs ys l).run P w= .ok (decide e) w):(Op.eqFields (d+1) xs ys (f::l)).run P w= .ok (decide (m=n/\e)) w:=by
 have q:f.name≠ "_" :=by simpa using g
 simp only[Op.eqFields,q,if_true,ne_eq,not_false_iff,part,Sem.run_bind,j,Result.andThen_ok,p,hy,hv,if_false,Sem.run_pure,run_equalIn_int w d f.type k k m n i]
 by_cases c:m=n
 ·subst c;simp[h]
 ·simp[c,show(m==n)=false from by simpa using c]
end
end aq
namespace aq
open Go Go.RowKit Go.ChangeShapes Go.WideShapes Go.Deep I
section
variable{H:Type}{enc:TypeId×Value->H}{P:Program}
theorem ac_(e:laidOutB P=true){W f:World}{hD:Nat->Bool}:∀ {b:List TypeId}{vs:List Value}{ds:List (DataW H)}{ps:List MemPlace},DataW.TrodAll enc P W 0 (λ _=>true) true b vs ds ps ->
 (b.all λ t=>P.readableRec t&&ee t P.types.size)=true->(∀p∈ps,W.sameAt f p)->(∀p∈ps,hD p.block=true)->DataW.TrodAll enc P f 0 hD true b vs ds ps
 |[],vs,ds,ps,h,_,_,_=>by obtain⟨rfl,rfl,rfl⟩:=trodAll_nil h;exact trodAll_mk0
 |t::b,vs,ds,ps,h,c,aj,g=>by
  obtain⟨v,l,d,i,p,q,rfl,rfl,rfl,j,k⟩:=trodAll_cons h;simp only[List.all_cons,bC]at c
  exact trodAll_cons_mk (WideElems.Trod_stays e c.1.1 (ck c.1.2) j (λ x a=>aj x (j3 _ a)) (λ x a=>g x (j3 _ a)))
   (ac_ e k c.2 (λ x a=>aj x (iZ _ a)) (λ x a=>g x (iZ _ a)))
theorem aDw{f:Func}{s:ChangeSpec}{W c:World}{args:Array Value}{ds gs:List (DataW H)}{before:List MemPlace}{tb:TypeId}
 (g:DataW.Whole enc P f.params.toList s.vars false W args.toList ds gs before)(y:laidOutB P=true)(z:(f.params.toList.all λ t=>P.readableRec t&&ee t P.types.size)=true)
 (m:s.vars=[])(h:s.fn H ds= { results:=[.lit (.bool true)],args:=ds })(af:P.underlying tb=some .bool)(d:f.resultTypes= #[tb])(A:bj [] W c) :
 s.post enc P f false true false false W args (.bool true) c:=by
 have i:=A.below
 have j:∀p∈before,p.block<W.heap.size:=λ p k=>g.lt p k
 have l:=g
 obtain⟨p,q,B,n,o,C,D⟩:=g
 rw[m]at n
 obtain⟨rfl,rfl⟩:=trodVars_none n
 simp only[gL]at o
 subst o
 have e:∀x∈before,(λ b=>decide (b<W.heap.size)) x.block=true:=λ x a=>by simpa using j x a
 have r:∀hD:Nat->Bool,(∀x∈before,hD x.block=true)->DataW.TrodAll enc P c 0 hD true f.params.toList args.toList ds before:=
  λ hD C9=>ac_ y B z (λ x a=>i.same (j x a)) C9
 have u:∀(b:Nat)(hD:Nat->Bool)(aK:Bool),DataW.TrodAll enc P c b hD aK f.resultTypes.toList ((Value.bool true).resultList f.resultTypes.size) [.lit (.bool true)] []:=λ b hD aK=>by
  rw[d];exact trodAll_cons_mk (p:=[]) (shut_bool af true) trodAll_mk0
 have v:∀hD:Nat->Bool,DataW.TrodVars enc P c hD s.vars [] []:=λ hD=>by rw[m];rfl
 refine⟨ds,[],before,[],before,[],l,?_,?_,?_,World.keptBut_mono (λ x a=>⟨a,Or.inr (by simpa using a)⟩) (i.frame (·∈before)),λ _=>?_⟩
 ·simp only[gL,h];exact u _ _ _
 ·simp only[gL,h];exact r _ e
 ·simp only[gL,h];exact v _
 ·refine⟨ok_one d rfl (okWide_bool_mk af true),_,_,([]++before)++[],⟨[]++before,[],trodAll_append (r (λ _=>true) (λ _ _=>rfl)) (u _ _ _),v _,rfl,?_,?_⟩,?_⟩
  ·intro b off k
   have w:MemPlace.cell b off∈before:=by simpa using k
   rw[i.frozen (j _ w)]
   exact C b off w
  ·intro E;simpa using D E
  ·intro x a _;simpa using a
theorem aj6{α:Type}{T:cY α}{F:Nat->Prop}{W:World}{b o:Nat}{R:α->Prop}:∀m:Nat,(∀i,i<m-> ∃cs d,fb W ⟨b,o+i*T.size,none⟩ cs/\T.rd F W cs d/\R d) ->
 ∃(l:List α)(xs:List Value),l.length=m/\dx T F W xs l/\fb W ⟨b,o,none⟩ xs/\ ∀d∈l,R d
 |0,_=>⟨[],[],rfl,rfl,λ j u aA=>by simp at aA,λ d aK=>by cases aK⟩
 |m+1,h=>by
  obtain⟨l,xs,a,J,f,g⟩:=aj6 m (λ i hi=>h i (by omega));obtain⟨cs,d,c1,c2,c3⟩:=h m (by omega);refine⟨l++[d],xs++cs,by simp[a],ajF (T:=T) c2 J,λ j u aA=>?_,λ e k=>?_⟩
  ·have c:=xK (T:=T) J
   rcases fN j xs.length with n |NR
   ·exact f j u (by simpa[lB,n]using aA)
   ·rw[fs NR]at aA
    have:=c1 (j-xs.length) u aA
    rw[c,a]at this
    rw[show o+j=o+m*T.size+(j-m*T.size) by rw[c,a]at NR;omega]
    simpa using this
  ·rcases b3.1 k with e1 |e1
   ·exact g e e1
   ·simp at e1;subst e1;exact c3
end
end aq
namespace aq
open Go Go.RowKit Go.ChangeShapes Go.WideShapes Go.Deep I
def hI{H:Type}(P:Program)(enc:TypeId×Value->H)(N:Nat)(t:TypeId){α:Type}(T:cY α)(R:α->Prop):Prop:=
 ∀(W:World)(n:Nat)(cs:List Value)(x:DataW H×List MemPlace),DataW.trod enc P W 0 (λ _=>true) true n t cs=some x->(∀p∈x.2,p.block<W.heap.size)->(∀m∈x.1.weights P t,m<=N)-> ∃d,T.rd (ii [] W) W cs d/\R d
def jD(n:Int):Prop:=-9223372036854775808<=n/\n<=9223372036854775807
section
variable{H:Type}{enc:TypeId×Value->H}{P:Program}{N:Nat}{t e:TypeId}
theorem Ay(a:P.underlying t=some .string):hI P enc N t jn (λ s=>s.length<=N):=by
 intro W n cs x h _ b;obtain⟨s,rfl,rfl,_⟩:=DataW.trod_string a h;exact⟨s.data.toList,rfl,b _ (by simp[DataW.weights])⟩
theorem ov(a:P.underlying t=some (.int .i64)):hI P enc N t (e9 .i64) jD:=by
 intro W n cs x h _ _;obtain⟨z,rfl,_,b⟩:=DataW.trod_int a h;exact⟨z,rfl,by simpa[jD,Lit.wf,IntKind.min,IntKind.max,IntKind.signed,IntKind.bits]using b⟩
theorem aFP(a:P.underlying t=some .bool):hI P enc N t aHf (λ _=>True):=by
 intro W n cs x h _ _;obtain⟨b,rfl,_⟩:=DataW.trod_bool a h;exact⟨b,rfl,trivial⟩
theorem ah2{d:DataW H}{m:Nat}(a:m∈d.weights P e):∀ {l:List (DataW H)},d∈l->m∈DataW.weightsAll P e l
 |[],h=>by cases h
 |x::r,h=>by
  simp only[DataW.weightsAll,b3];rcases cm.1 h with rfl |h
  ·exact .inl a
  ·exact .inr (ah2 a h)
theorem sx{α:Type}{T:cY α}{R:α->Prop}(w:P.underlying t=some (.slice e))(O:P.cellsOf e=T.size)(B:ee 0 T.size=true)(Q:hI P enc N e T R):hI P enc N t (bY T) (λ l=>l.length*P.bytesOf e<=N/\ ∀d∈l,R d):=by
 have B:0<T.size:=ck B;intro W n cs x h C E;rcases open_slice w h with⟨rfl,rfl⟩|⟨a,c,cap,m,S,D,y,rfl,_,U,G,V,I,hi⟩
 ·exact⟨[],⟨none,0,rfl,cu _,gD _,λ _=>rfl,λ h=>absurd rfl h⟩,by simp,λ d aK=>by cases aK⟩
 ·have X:m=cap:=by simpa using V
  subst X
  have f:x.2=MemPlace.row a (m*P.cellsOf e)++(dy m).flatMap y:=congrArg Prod.snd I
  have g:x.1= .slice ((dy c).map D) ((dy (m-c)).map λ j=>D (c+j)):=congrArg ke I
  have Y:(c+(m-c))*P.bytesOf e<=N:=by
   refine E _ ?_;rw[g];simp only[DataW.weights,w,hl,iS];exact jX
  have q:c*P.bytesOf e<=N:=gm (jx _ (Nat.le_add_right _ _)) Y
  by_cases Z:c=0
  ·subst Z
   exact⟨[],⟨some a,m,rfl,by simp,G,λ h=>(by cases h),λ h=>absurd rfl h⟩,by simp,λ d aK=>by cases aK⟩
  ·have K:∀i,i<c-> ∃cs d,(∀j u,cs[j]? =some u->W.cell? (a.add (i*T.size+j))=some u)/\cs.length=T.size/\T.rd (ii [] W) W cs d/\R d:=λ i z=>by
    have r:i<m:=by omega
    obtain⟨L,hc,wS⟩:=hi i r;obtain⟨d,aK,ef⟩:=Q W S L _ wS (λ p VT=>C p (by
     rw[f,b3];exact .inr (ho.2 ⟨i,by simpa using r,VT⟩))) (λ k hk=>E k (by
     rw[g];simp only[DataW.weights,w,cm,b3];exact .inr (.inl (ah2 hk (jv.2 ⟨i,by simpa using z,rfl⟩)))))
    rw[O]at hc;obtain⟨_,M,qb⟩:=World.cells?_some hc;refine⟨L,d,λ j u aA=>?_,M,aK,ef⟩;have wM:j<T.size:=by rw[<-M];exact(aM.1 aA).1
    have:=qb j wM;rw[aA,Go.Deep.add_add]at this;exact this
   have s:a.spot=none:=by
    obtain⟨cs,d,A,J,_⟩:=K 0 (by omega);have:=A 0 _ (aH (by omega));unfold World.cell? at this;split at this
    ·split at this
     ·cases this
     ·rename_i aj;simpa[Addr.add]using aj
    ·cases this
   obtain⟨ab,v,aLA⟩:=a;simp only at s;subst s;obtain⟨l,xs,A,J,al,a'⟩:=aj6 (T:=T) (F:=ii [] W) (W:=W) (b:=ab) (o:=v) (R:=R) c (λ i z=>by
    obtain⟨cs,d,c1,_,c3,c4⟩:=K i z;exact⟨cs,d,λ j u aA=>by have:=c1 j u aA;rw[k3]at this;simpa[jK]using this,c3,c4⟩)
   subst A;refine⟨l,⟨_,m,rfl,U,G,λ h=>(by cases h),λ _=>⟨rfl,⟨by simp,?_⟩,xs,J,al⟩⟩,q,a'⟩;have fg:MemPlace.cell ab v∈x.2:=by
    rw[f,b3];left;have:0<m*P.cellsOf e:=Nat.mul_pos (by omega) (by omega);simp only[MemPlace.row,jv,lf];exact⟨0,this,by simp⟩
   exact C _ fg
theorem ah3{m:Nat}:∀ {a:List TypeId}{l:List (DataW H)}{j:Nat}{u:TypeId}{d:DataW H},a[j]? =some u->l[j]? =some d->m∈d.weights P u->m∈DataW.weightsEach P a l
 |[],_,j,_,_,h,_,_=>by simp at h
 |_::_,[],j,_,_,_,h,_=>by simp at h
 |t::a,x::l,0,u,d,b,J,c=>by
  simp only[de,aD]at b J;subst b;subst J;simp only[DataW.weightsEach,b3];exact .inl c
 |t::a,x::l,j+1,u,d,b,J,c=>by
  simp only[DataW.weightsEach,b3];exact .inr (ah3 (j:=j) (by simpa using b) (by simpa using J) c)
theorem oY{b7:Array Go.Field}{W:World}{n:Nat}{cs:List Value}{x:DataW H×List MemPlace}(b:P.underlying t=some (.struct b7))(h:DataW.trod enc P W 0 (λ _=>true) true n t cs=some x)(g:∀p∈x.2,p.block<W.heap.size)(i:∀m∈x.1.weights P t,m<=N) :
 ∃a,cs.length=P.cellsOf t/\ ∀(j:Nat)(f:Go.Field),b7[j]? =some f-> ∃y,DataW.trod enc P W 0 (λ _=>true) true a f.type ((cs.drop f.offset).take (P.cellsOf f.type))=some y/\(∀p∈y.2,p.block<W.heap.size)/\(∀m∈y.1.weights P f.type,m<=N):=by
 obtain⟨ys,a,_,c,k,l,o⟩:=DataW.trod_struct b h
 refine⟨a,k,λ j f aA=>?_⟩
 have s:j<b7.size:=(ft.1 aA).1
 have hy:ys[j]? =some (ys[j]'(by omega)):=aH _
 refine⟨ys[j]'(by omega),by rw[o j f aA,hy],λ p q=>g p ?_,λ m r=>i m ?_⟩
 ·rw[c]
  exact ho.2 ⟨_,hC _,q⟩
 ·rw[c]
  simp only[DataW.weights,b]
  refine ah3 (j:=j) (u:=f.type) (d:=(ys[j]'(by omega)).1) ?_ ?_ r
  ·rw[iT,gS,aA];rfl
  ·rw[iT,hy];rfl
theorem fw{b7:Array Go.Field}{W:World}{b:Nat}{cs:List Value}(ad:∀(j:Nat)(f:Go.Field),b7[j]? =some f-> ∃y,DataW.trod enc P W 0 (λ _=>true) true b f.type ((cs.drop f.offset).take (P.cellsOf f.type))=some y/\(∀p∈y.2,p.block<W.heap.size)/\(∀m∈y.1.weights P f.type,m<=N))
 (j:Nat){f:Go.Field}(aA:b7[j]? =some f){t off k:Nat}(c:f.type=t)(ap:f.offset=off)(g:P.cellsOf t=k){r:List Value}(h:(cs.drop off).take k=r):∃y,DataW.trod enc P W 0 (λ _=>true) true b t r=some y/\(∀p∈y.2,p.block<W.heap.size)/\(∀m∈y.1.weights P t,m<=N):=by
 obtain⟨y,a,J,d⟩:=ad j f aA
 rw[c,ap]at a
 rw[c]at d
 rw[g,h]at a
 exact⟨y,a,J,d⟩
theorem acy{v:Array Value}{l:List Value}(h:(Value.agg v).cells.toList=l):v=l.toArray:=by
 have h:v.toList=l:=h;rw[<-h]
theorem SE{α:Type}{T:cY α}{R:α->Prop}{W:World}{v:Value}{d:DataW H}{ps:List MemPlace}(a:hI P enc N t T R)(h:DataW.Trod enc P W 0 (λ _=>true) true t v d ps)(b:∀p∈ps,p.block<W.heap.size)(c:∀m∈d.weights P t,m<=N):∃d',T.rd (ii [] W) W v.cells.toList d'/\R d':=by
 obtain⟨n,f⟩:=h;exact a W n _ _ f b c
end
end aq
namespace aq
open Go Go.RowKit I
inductive nD
 |i (k:IntKind)
 |b
 |s
 |ch
def nD.ok(P:Program)(t:TypeId):nD->Prop
 | .i k=>P.underlying t=some (.int k)
 | .b=>P.underlying t=some .bool
 | .s=>P.underlying t=some .string
 | .ch=>∃e,P.underlying t=some (.slice e)
structure mu where
 oA:List (Nat×nD)
 oY:List (Nat×Nat×Nat)
 KV:List (Nat×Option Nat)
def ZY(P:Program):List (Nat×nD)->Prop
 |[]=>True
 |p::r=>p.2.ok P p.1/\ZY P r
def Sb(P:Program)(s j off:Nat):Prop:=∃b7 f sz,P.underlying s=some (.struct b7)/\b7[j]? =some f/\f.offset=off/\sz≠0/\ ∀w,(Go.sizeOf f.type).run P w= .ok sz w
def TT(P:Program):List (Nat×Nat×Nat)->Prop
 |[]=>True
 |p::r=>Sb P p.1 p.2.1 p.2.2/\TT P r
def acv(P:Program)(t:Nat):Option Nat->Prop
 |none=>∀w,(isAgg t).run P w= .ok false w
 |some n=>(∀w,(isAgg t).run P w= .ok true w)/\ ∀w,(Go.sizeOf t).run P w= .ok n w
def ZE(P:Program):List (Nat×Option Nat)->Prop
 |[]=>True
 |p::r=>acv P p.1 p.2/\ZE P r
structure s6 (P:Program) (G:mu):Prop where
 oA:ZY P G.oA
 oY:TT P G.oY
 KV:ZE P G.KV
theorem ey{P:Program}{s j off sz:Nat}{b7:Array Go.Field}{f:Go.Field}(h:P.underlying s=some (.struct b7))(ad:b7[j]? =some f)(ap:f.offset=off)(aj:∀w,(Go.sizeOf f.type).run P w= .ok sz w)(a:bP sz 0=false):Sb P s j off:=
 ⟨b7,f,sz,h,ad,ap,(λ e=>by subst e;simp at a),aj⟩
def pf{β:Type}:List (Nat×β)->Nat->Option β
 |[],_=>none
 |p::r,t=>match bP p.1 t with
  |true=>some p.2
  |false=>pf r t
def J5:List (Nat×Nat×Nat)->Nat->Nat->Option Nat
 |[],_,_=>none
 |p::r,s,j=>match bP p.1 s&&bP p.2.1 j with
  |true=>some p.2.2
  |false=>J5 r s j
theorem Eb{P:Program}{l:List (Nat×nD)}(h:ZY P l){t:Nat}{k:nD}(a:pf l t=some k):k.ok P t:=by
 induction l with
 |nil=>simp[pf]at a
 |cons p r b=>
  simp only[pf]at a
  cases af:bP p.1 t with
  |true=>
   rw[af]at a
   simp only[aD]at a
   rw[<-a_ af,<-a];exact h.1
  |false=>rw[af]at a;exact b h.2 a
theorem akm{P:Program}{l:List (Nat×Option Nat)}(h:ZE P l){t:Nat}{k:Option Nat}(a:pf l t=some k):acv P t k:=by
 induction l with
 |nil=>simp[pf]at a
 |cons p r b=>
  simp only[pf]at a
  cases af:bP p.1 t with
  |true=>
   rw[af]at a
   simp only[aD]at a
   rw[<-a_ af,<-a];exact h.1
  |false=>rw[af]at a;exact b h.2 a
theorem avQ{P:Program}{l:List (Nat×Nat×Nat)}(h:TT P l){s j off:Nat}(a:J5 l s j=some off):Sb P s j off:=by
 induction l with
 |nil=>simp[J5]at a
 |cons p r b=>
  simp only[J5]at a
  cases af:bP p.1 s&&bP p.2.1 j with
  |true=>
   rw[af]at a
   simp only[aD]at a
   simp only[bC]at af
   rw[<-a_ af.1,<-a_ af.2,<-a];exact h.1
  |false=>rw[af]at a;exact b h.2 a
def jQ(w:World):List (Nat×Nat×List Value)->Prop
 |[]=>True
 |m::r=>fb w ⟨m.1,m.2.1,none⟩ m.2.2/\jQ w r
theorem gB{w:World}:jQ w []:=trivial
theorem gZ{w:World}{b p:Nat}{cs:List Value}{M:List (Nat×Nat×List Value)}(h:fb w ⟨b,p,none⟩ cs)(k:jQ w M):jQ w ((b,p,cs)::M):=⟨h,k⟩
theorem ah0{w:World}{M:List (Nat×Nat×List Value)}(h:jQ w M){i b p:Nat}{cs:List Value}(hi:M[i]? =some (b,p,cs)):fb w ⟨b,p,none⟩ cs:=by
 induction M generalizing i with
 |nil=>simp at hi
 |cons m r a=>
  cases i with
  |zero=>
   simp only[de,aD]at hi
   subst hi
   exact h.1
  |succ i=>exact a h.2 (by simpa using hi)
theorem k4{w:World}{g:Nat}{t:TypeId}{cs:List Value}(h:(a7.b' g t cs).ok w):fb w ⟨g,0,none⟩ cs:=λ j u aA=>by
 have:=y1 h aA;simpa using this
structure gM where
 t:Nat
 j:Nat
 want:Bool
 v:Value
def D6:List (Nat×Value)->Nat->List (Nat×Value)
 |[],_=>[]
 |p::r,d=>match bP p.1 d with
  |true=>D6 r d
  |false=>p::D6 r d
def sB:List gM->Nat->List gM
 |[],_=>[]
 |p::r,d=>match bP p.t d||bP p.j d with
  |true=>sB r d
  |false=>p::sB r d
def CR:List (Nat×Bool)->Nat->Bool->Bool
 |[],_,_=>false
 |p::r,j,b=>(bP p.1 j&&(p.2==b))||CR r j b
def J6:List gM->List (Nat×Bool)->Nat->Option Value
 |[],_,_=>none
 |p::r,cur,t=>match bP p.t t&&CR cur p.j p.want with
  |true=>some p.v
  |false=>J6 r cur t
def mG(a:Act):List gM->Prop
 |[]=>True
 |p::r=>(a.tmps.getD p.j undef= .bool p.want->a.tmps.getD p.t undef=p.v)/\mG a r
def jG(a:Act):List (Nat×Bool)->Prop
 |[]=>True
 |p::r=>a.tmps.getD p.1 undef= .bool p.2/\jG a r
theorem afZ{a:Act}{cur:List (Nat×Bool)}(h:jG a cur){j:Nat}{b:Bool}(bt:CR cur j b=true):a.tmps.getD j undef= .bool b:=by
 induction cur with
 |nil=>simp[CR]at bt
 |cons p r c=>
  simp only[CR,hM,bC,beq_iff_eq]at bt
  rcases bt with⟨d,J⟩|bt
  ·rw[<-a_ d,<-J];exact h.1
  ·exact c h.2 bt
theorem aBK{a:Act}{gs:List gM}(h:mG a gs){cur:List (Nat×Bool)}(hc:jG a cur){t:Nat}{v:Value}(b:J6 gs cur t=some v):a.tmps.getD t undef=v:=by
 induction gs with
 |nil=>simp[J6]at b
 |cons p r c=>
  simp only[J6]at b
  cases af:bP p.t t&&CR cur p.j p.want with
  |true=>
   rw[af]at b
   simp only[aD]at b
   simp only[bC]at af
   rw[<-a_ af.1,<-b]
   exact h.1 (afZ hc af.2)
  |false=>rw[af]at b;exact c h.2 b
def h9(fr:List (Nat×Value))(gs:List gM)(cur:List (Nat×Bool)):Operand->Option Value
 | .const v=>some v
 | .global g=>some (.pointer (some ⟨g,0,none⟩))
 | .tmp t=>match eb fr t with
   |some v=>some v
   |none=>J6 gs cur t
 | .func _=>none
theorem Pt{n:ct}{fr:List (Nat×Value)}{gs:List gM}{cur:List (Nat×Bool)}{a:Act}(ad:Fr n fr a)(c:mG a gs)(hc:jG a cur){x:Operand}{v:Value}(h:h9 fr gs cur x=some v):a.eval x=v:=by
 cases x with
 |const u=>simp only[h9,aD]at h;rw[<-h];rfl
 |global g=>simp only[h9,aD]at h;rw[<-h];rfl
 |func f=>simp[h9]at h
 |tmp t=>
  simp only[h9]at h
  cases b:eb fr t with
  |some u=>rw[b]at h;simp only[aD]at h;rw[<-h];exact ad.g b
  |none=>rw[b]at h;exact aBK c hc h
def GF(fr:List (Nat×Value))(gs:List gM)(cur:List (Nat×Bool)):List Operand->Option (List Value)
 |[]=>some []
 |x::r=>match h9 fr gs cur x,GF fr gs cur r with
  |some v,some vs=>some (v::vs)
  |_,_=>none
theorem XK{n:ct}{fr:List (Nat×Value)}{gs:List gM}{cur:List (Nat×Bool)}{a:Act}(ad:Fr n fr a)(b:mG a gs)(hc:jG a cur):∀ {xs:List Operand}{vs:List Value},GF fr gs cur xs=some vs->xs.map a.eval=vs
 |[],vs,h=>by simp only[GF,aD]at h;subst h;rfl
 |x::r,vs,h=>by
  simp only[GF]at h;split at h
  ·rename_i v us c J
   simp only[aD]at h
   subst h
   rw[eu,Pt ad b hc c,XK ad b hc J]
  ·cases h
def JP:Operand->Bool
 | .const (.int _ n)=>n !=0
 |_=>false
def mO:IntKind->IntKind->Bool
 | .i64,.i64 | .u8,.u8 | .i32,.i32 | .u64,.u64 | .u32,.u32 | .u16,.u16 | .i16,.i16 | .i8,.i8=>true
 |_,_=>false
theorem pa{j k:IntKind}(h:mO j k=true):j=k:=by cases j<;>cases k<;>simp_all [mO]
def lZ(k:IntKind):Bool:=mO k .i64
theorem l2{k:IntKind}(h:lZ k=true):k= .i64:=pa h
def acP(a:Option nD)(g_:Bool)(op:BinOp)(j k:IntKind)(m n:Int):Option Value:=
 match op with
 | .add=>match lZ j&&lZ k with|true=>some (.int .i64 (ar (m+n)))|false=>none
 | .sub=>match lZ j&&lZ k with|true=>some (.int .i64 (ar (m-n)))|false=>none
 | .mul=>match lZ j&&lZ k with|true=>some (.int .i64 (ar (m*n)))|false=>none
 | .quo=>match lZ j&&lZ k&&g_ with|true=>some (.int .i64 (ar (m.tdiv n)))|false=>none
 | .rem=>match lZ j&&lZ k&&g_ with|true=>some (.int .i64 (m.tmod n))|false=>none
 | .or=>match lZ j&&lZ k with|true=>some (.int .i64 (XN m n))|false=>none
 | .and=>match lZ j&&lZ k with|true=>some (.int .i64 (SD m n))|false=>none
 | .lss=>match mO j k with|true=>some (.bool (decide (m<n)))|false=>none
 | .leq=>match mO j k with|true=>some (.bool (decide (m<=n)))|false=>none
 | .gtr=>match mO j k with|true=>some (.bool (decide (n<m)))|false=>none
 | .geq=>match mO j k with|true=>some (.bool (decide (n<=m)))|false=>none
 | .eql=>match a with
   |some (.i i)=>match mO i j&&mO j k with|true=>some (.bool (decide (m=n)))|false=>none
   |_=>none
 | .neq=>match a with
   |some (.i i)=>match mO i j&&mO j k with|true=>some (.bool (!decide (m=n)))|false=>none
   |_=>none
 |_=>none
def acQ(a:Option nD)(op:BinOp)(p q:List UInt8):Option Value:=
 match op,a with
 | .eql,some .s=>some (.bool (decide (p=q)))
 | .neq,some .s=>some (.bool (!decide (p=q)))
 |_,_=>none
def acO(a:Option nD)(op:BinOp)(p q:Bool):Option Value:=
 match op,a with
 | .eql,some .b=>some (.bool (p==q))
 | .neq,some .b=>some (.bool (!(p==q)))
 |_,_=>none
def bin(a:Option nD)(g_:Bool)(op:BinOp):Value->Value->Option Value
 | .int j m,.int k n=>acP a g_ op j k m n
 | .string ⟨⟨p⟩⟩,.string ⟨⟨q⟩⟩=>acQ a op p q
 | .bool p,.bool q=>acO a op p q
 |_,_=>none
section
variable{P:Program}{o:Oper}{a:Act}{w:World}{x y:Operand}{t t':TypeId}
theorem acR{g:Option nD}(d:∀k,g=some k->k.ok P t){g_:Bool}(l:g_=true-> ∀k n,a.eval y= .int k n->n≠0){op:BinOp}{u v r:Value}(h:bin g g_ op u v=some r)(ap:o.op= .binOp op t x y t')(c:a.eval x=u)(hy:a.eval y=v):bc P o a w r w:=by
 unfold bin at h;split at h
 ·rename_i j m k n
  unfold acP at h
  split at h
  case h_1=>
   split at h
   ·rename_i af
    simp only[bC]at af
    obtain⟨b,J⟩:=af
    have b:=l2 b;have J:=l2 J
    subst b;subst J
    simp only[aD]at h
    subst h
    exact abH ap c hy
   ·cases h
  case h_2=>
   split at h
   ·rename_i af
    simp only[bC]at af
    obtain⟨b,J⟩:=af
    have b:=l2 b;have J:=l2 J
    subst b;subst J
    simp only[aD]at h
    subst h
    exact anS ap c hy
   ·cases h
  case h_3=>
   split at h
   ·rename_i af
    simp only[bC]at af
    obtain⟨b,J⟩:=af
    have b:=l2 b;have J:=l2 J
    subst b;subst J
    simp only[aD]at h
    subst h
    exact aK' ap c hy
   ·cases h
  case h_4=>
   split at h
   ·rename_i af
    simp only[bC]at af
    obtain⟨⟨b,J⟩,e⟩:=af
    have b:=l2 b;have J:=l2 J
    subst b;subst J
    simp only[aD]at h
    subst h
    have f:=l e _ _ hy
    exact anP ap c hy (by rw[ga,decide_eq_false_iff_not];exact f)
   ·cases h
  case h_5=>
   split at h
   ·rename_i af
    simp only[bC]at af
    obtain⟨⟨b,J⟩,e⟩:=af
    have b:=l2 b;have J:=l2 J
    subst b;subst J
    simp only[aD]at h
    subst h
    have f:=l e _ _ hy
    exact anQ ap c hy (by rw[ga,decide_eq_false_iff_not];exact f)
   ·cases h
  case h_6=>
   split at h
   ·rename_i af
    simp only[bC]at af
    obtain⟨b,J⟩:=af
    have b:=l2 b;have J:=l2 J
    subst b;subst J
    simp only[aD]at h
    subst h
    exact aLe ap c hy
   ·cases h
  case h_7=>
   split at h
   ·rename_i af
    simp only[bC]at af
    obtain⟨b,J⟩:=af
    have b:=l2 b;have J:=l2 J
    subst b;subst J
    simp only[aD]at h
    subst h
    exact aKR ap c hy
   ·cases h
  case h_8=>
   split at h
   ·rename_i af
    have af:=pa af
    subst af
    simp only[aD]at h
    subst h
    exact aK8 ap c hy
   ·cases h
  case h_9=>
   split at h
   ·rename_i af
    have af:=pa af
    subst af
    simp only[aD]at h
    subst h
    exact aK7 ap c hy
   ·cases h
  case h_10=>
   split at h
   ·rename_i af
    have af:=pa af
    subst af
    simp only[aD]at h
    subst h
    exact anJ ap c hy
   ·cases h
  case h_11=>
   split at h
   ·rename_i af
    have af:=pa af
    subst af
    simp only[aD]at h
    subst h
    exact aK3 ap c hy
   ·cases h
  case h_12=>
   split at h
   ·rename_i i
    have hi:=d _ rfl
    split at h
    ·rename_i af
     simp only[bC]at af
     have b:=pa af.1;have J:=pa af.2
     subst b;subst J
     simp only[aD]at h
     subst h
     exact aK1 hi ap c hy
    ·cases h
   ·cases h
  case h_13=>
   split at h
   ·rename_i i
    have hi:=d _ rfl
    split at h
    ·rename_i af
     simp only[bC]at af
     have b:=pa af.1;have J:=pa af.2
     subst b;subst J
     simp only[aD]at h
     subst h
     exact aLb hi ap c hy
    ·cases h
   ·cases h
  case h_14=>cases h
 ·rename_i p q
  unfold acQ at h
  split at h
  ·simp only[aD]at h
   subst h
   exact aK2 (d _ rfl) ap c hy
  ·simp only[aD]at h
   subst h
   exact aLc (d _ rfl) ap c hy
  ·cases h
 ·rename_i p q
  unfold acO at h
  split at h
  ·simp only[aD]at h
   subst h
   exact aK0 (d _ rfl) ap c hy
  ·simp only[aD]at h
   subst h
   exact aLa (d _ rfl) ap c hy
  ·cases h
 ·cases h
end
end aq
namespace aq
open Go Go.RowKit I
def nth{α:Type}:List α->Nat->Option α
 |[],_=>none
 |x::_,0=>some x
 |_::r,i+1=>nth r i
theorem cW{α:Type}:∀(l:List α)(i:Nat),nth l i=l[i]?
 |[],i=>by simp[nth]
 |x::r,0=>rfl
 |x::r,i+1=>by simp[nth,cW r i]
def Wo:Operand->Bool
 | .const (.bool b)=>b
 |_=>false
def Wl:Operand->Bool
 | .const (.bool b)=>!b
 |_=>false
def PA(x y:Operand)(b:Bool):Value->Value->Option Value
 | .bool p,.bool q=>match Wo x with
   |true=>some (.bool (b||q))
   |false=>match Wl y with
    |true=>some (.bool (b&&p))
    |false=>some (.bool (cond b p q))
 | .int j m,.int k n=>match mO j k with
   |true=>some (.int j (cond b m n))
   |false=>none
 | .string ⟨⟨p⟩⟩,.string ⟨⟨q⟩⟩=>some (cj (cond b p q))
 |_,_=>none
theorem azB{a:Act}{x:Operand}(h:Wo x=true):a.eval x= .bool true:=by
 unfold Wo at h;split at h
 ·subst h;rfl
 ·cases h
theorem azw{a:Act}{x:Operand}(h:Wl x=true):a.eval x= .bool false:=by
 unfold Wl at h;split at h
 ·rename_i b
  have:b=false:=by simpa using h
  subst this;rfl
 ·cases h
theorem aiZ{a:Act}{x y:Operand}{b:Bool}{u v r:Value}(h:PA x y b u v=some r)(c:b=true->a.eval x=u)(hy:b=false->a.eval y=v):(if b then a.eval x else a.eval y)=r:=by
 unfold PA at h;split at h
 ·rename_i p q
  split at h
  ·rename_i d
   simp only[aD]at h
   subst h
   cases b with
   |true=>rw[if_pos rfl,azB d];rfl
   |false=>rw[if_neg (by simp),hy rfl];rfl
  ·split at h
   ·rename_i ad
    simp only[aD]at h
    subst h
    cases b with
    |true=>rw[if_pos rfl,c rfl];rfl
    |false=>rw[if_neg (by simp),azw ad];rfl
   ·simp only[aD]at h
    subst h
    cases b with
    |true=>rw[if_pos rfl,c rfl];rfl
    |false=>rw[if_neg (by simp),hy rfl];rfl
 ·split at h
  ·rename_i e
   have:=pa e
   subst this
   simp only[aD]at h
   subst h
   cases b with
   |true=>rw[if_pos rfl,c rfl];rfl
   |false=>rw[if_neg (by simp),hy rfl];rfl
  ·cases h
 ·simp only[aD]at h
  subst h
  cases b with
  |true=>rw[if_pos rfl,c rfl];rfl
  |false=>rw[if_neg (by simp),hy rfl];rfl
 ·cases h
abbrev Out:=Value×List Nat×List (Nat×Nat)
def lm(aj:List Nat)(v:Value):Option Out:=some (v,aj,[])
def FG(G:mu)(M:List (Nat×Nat×List Value))(t m a:Nat)(aj:List Nat)(c c0:Nat):Option Out:=
 match nth M m,pf G.KV t with
 |some (b,off,cs),some none=>match nth cs a with
  |some v=>some (v,aj,[(c,b),(c0,off+a)])
  |none=>none
 |some (b,off,cs),some (some n)=>match iI (a+n) cs.length with
  |true=>some (.agg ((cs.drop a).take n).toArray,aj,[(c,b),(c0,off+a)])
  |false=>none
 |_,_=>none
def aeG(G:mu)(s d:Nat)(aj:List Nat):Value->Option Out
 | .int k m=>match lZ k,pf G.oA s,pf G.oA d with
   |true,some (.i .i64),some (.i .i64)=>lm aj (.int .i64 (ar m))
   |true,some (.i .i64),some (.i .u8)=>lm aj (.int .u8 ((rB m).toNat:Int))
   |_,_,_=>none
 |_=>none
def aeJ(G:mu)(t:Nat)(aj:List Nat):Value->Option Out
 | .string ⟨⟨p⟩⟩=>match pf G.oA t with
   |some .s=>lm aj (.int .i64 (p.length:Int))
   |_=>none
 | .slice _ n _=>match pf G.oA t with
   |some .ch=>lm aj (.int .i64 (n:Int))
   |_=>none
 |_=>none
def aeM(fr:List (Nat×Value))(gs:List gM)(cur:List (Nat×Bool))(c x y:Operand):List Nat->Option Out
 |0::aj=>match c with
  | .tmp a=>match h9 fr gs cur (.tmp a),h9 fr gs ((a,true)::cur) x,h9 fr gs ((a,false)::cur) y with
    |some (.bool b),some u,some v=>match PA x y b u v with
     |some r=>lm aj r
     |none=>none
    |_,_,_=>none
  |_=>none
 |_::aj=>match h9 fr gs cur c with
  |some (.bool b)=>match b with
   |true=>match h9 fr gs cur x with|some v=>lm aj v |none=>none
   |false=>match h9 fr gs cur y with|some v=>lm aj v |none=>none
  |_=>none
 |[]=>none
def rK(G:mu)(M:List (Nat×Nat×List Value))(aj:List Nat)(fr:List (Nat×Value))(gs:List gM)(cur:List (Nat×Bool)):Op->Option Out
 | .move x=>match h9 fr gs cur x with|some v=>lm aj v |none=>none
 | .assign x=>match h9 fr gs cur x with|some v=>lm aj v |none=>none
 | .pick c x y=>aeM fr gs cur c x y aj
 | .binOp op t x y _=>match h9 fr gs cur x,h9 fr gs cur y with
   |some u,some v=>match bin (pf G.oA t) (JP y) op u v with
    |some r=>lm aj r
    |none=>none
   |_,_=>none
 | .unOp .not _ x=>match h9 fr gs cur x with
   |some (.bool p)=>lm aj (.bool (!p))
   |_=>none
 | .convert s d x=>match h9 fr gs cur x with
   |some v=>aeG G s d aj v
   |none=>none
 | .load t x=>match h9 fr gs cur x,aj with
   |some (.pointer (some ⟨e,c0,none⟩)),m::a::b8=>FG G M t m a b8 e c0
   |_,_=>none
 | .fieldAddr s x j=>match h9 fr gs cur x,J5 G.oY s j with
   |some (.pointer (some ⟨b,p,none⟩)),some off=>lm aj (.pointer (some ⟨b,p+off,none⟩))
   |_,_=>none
 | .nilCheck x=>match h9 fr gs cur x with
   |some (.pointer (some p))=>lm aj (.pointer (some p))
   |_=>none
 | .extract x i=>match h9 fr gs cur x with
   |some (.tuple ⟨vs⟩)=>match nth vs i with
    |some v=>lm aj v
    |none=>none
   |_=>none
 | .makeFunc fn ⟨xs⟩ ⟨ys⟩=>match GF fr gs cur xs,GF fr gs cur ys with
   |some us,some vs=>lm aj (.func fn us.toArray vs.toArray)
   |_,_=>none
 | .call ⟨.builtin .len,⟨[x]⟩,⟨[t]⟩⟩=>match h9 fr gs cur x with
   |some v=>aeJ G t aj v
   |none=>none
 |_=>none
theorem mN{aj b8:List Nat}{u v:Value}{l:List (Nat×Nat)}(h:lm aj u=some (v,b8,l)):u=v:=by
 simp only[lm,aD,b5]at h;exact h.1
def nN:List (Nat×Nat)->Prop
 |[]=>True
 |p::r=>p.1=p.2/\nN r
section
variable{P:Program}{G:mu}{M:List (Nat×Nat×List Value)}{w:World}{a:Act}{o:Oper}
theorem aeF{n:ct}{fr:List (Nat×Value)}{gs:List gM}{cur:List (Nat×Bool)}{aj b8:List Nat}{v:Value}{l:List (Nat×Nat)}(q:s6 P G)(K:jQ w M)(ad:Fr n fr a)(C:mG a gs)(hc:jG a cur)
 {op:Op}(ap:o.op=op)(h:rK G M aj fr gs cur op=some (v,b8,l))(L:nN l):bc P o a w v w:=by
 have opn:∀ {x:Operand}{u:Value},h9 fr gs cur x=some u->a.eval x=u:=λ z=>Pt ad C hc z
 unfold rK at h
 split at h
 ·split at h
  ·rename_i z
   rw[<-mN h];exact vx ap (opn z)
  ·cases h
 ·split at h
  ·rename_i z
   rw[<-mN h];exact ym ap (opn z)
  ·cases h
 ·rename_i c x y
  unfold aeM at h
  split at h
  ·split at h
   ·rename_i H
    split at h
    ·rename_i b u N g J A
     split at h
     ·rename_i r I
      rw[<-mN h]
      have E:a.eval (.tmp H)= .bool b:=opn g
      have z:b=true->a.eval x=u:=λ af=>Pt ad C (show jG a ((H,true)::cur) from⟨by subst af;exact E,hc⟩) J
      have hy:b=false->a.eval y=N:=λ af=>Pt ad C (show jG a ((H,false)::cur) from⟨by subst af;exact E,hc⟩) A
      have O:=aiZ (a:=a) I z hy
      cases b with
      |true=>exact RG ap E (by simpa using O)
      |false=>exact RF ap E (by simpa using O)
     ·cases h
    ·cases h
   ·cases h
  ·split at h
   ·rename_i b g
    split at h
    ·split at h
     ·rename_i u J
      rw[<-mN h];exact RG ap (opn g) (opn J)
     ·cases h
    ·split at h
     ·rename_i u J
      rw[<-mN h];exact RF ap (opn g) (opn J)
     ·cases h
   ·cases h
  ·cases h
 ·rename_i op t x y t'
  split at h
  ·rename_i u N g J
   split at h
   ·rename_i r I
    rw[<-mN h]
    refine acR (λ k S=>Eb q.oA S) (λ F k n Q=>?_) I ap (opn g) (opn J)
    unfold JP at F
    split at F
    ·rename_i k' R
     have:a.eval (.const (.int k' R))= .int k' R:=rfl
     rw[this]at Q
     injection Q with _ e
     subst e
     simpa using F
    ·cases F
   ·cases h
  ·cases h
 ·rename_i x
  split at h
  ·rename_i p g
   rw[<-mN h];exact anO ap (opn g)
  ·cases h
 ·rename_i s d x
  split at h
  ·rename_i u g
   unfold aeG at h
   split at h
   ·rename_i k m
    split at h
    ·rename_i J A B
     have:=l2 J
     subst this
     rw[<-mN h];exact aKV (Eb q.oA A) (Eb q.oA B) ap (opn g)
    ·rename_i J A B
     have:=l2 J
     subst this
     rw[<-mN h];exact aKW (Eb q.oA A) (Eb q.oA B) ap (opn g)
    ·cases h
   ·cases h
  ·cases h
 ·rename_i t x
  split at h
  ·rename_i Ko c0 m D jM g
   have z:=opn g
   unfold FG at h
   split at h
   ·rename_i b off cs J A
    split at h
    ·rename_i u B
     simp only[aD,b5]at h
     obtain⟨rfl,_,rfl⟩:=h
     obtain⟨e1,e2,_⟩:=L
     simp only at e1 e2
     subst e1;subst e2
     rw[cW]at J B
     exact yn (akm q.KV A) ap z (ah0 K J D u B)
    ·cases h
   ·rename_i b off cs k J A
    split at h
    ·rename_i af
     simp only[aD,b5]at h
     obtain⟨rfl,_,rfl⟩:=h
     obtain⟨e1,e2,_⟩:=L
     simp only at e1 e2
     subst e1;subst e2
     rw[cW]at J
     have aj:=akm q.KV A
     have T:=ck af
     refine anM aj.1 aj.2 (by simp;omega) ap z (λ j u aA=>?_)
     have U:=ah0 K J
     rw[gI]at aA
     split at aA
     ·rw[iN]at aA
      have:=U (D+j) u aA
      simpa[jK]using this
     ·cases aA
    ·cases h
   ·cases h
  ·cases h
 ·rename_i s x j
  split at h
  ·rename_i b p off g J
   rw[<-mN h]
   obtain⟨b7,f,sz,V,W,X,Y,Z⟩:=avQ q.oY J
   rw[<-X]
   exact RD V W Z (by cases aI:bP sz 0 with|false=>rfl |true=>exact absurd (a_ aI) Y) ap (opn g)
  ·cases h
 ·rename_i x
  split at h
  ·rename_i p g
   rw[<-mN h];exact LY ap (opn g)
  ·cases h
 ·rename_i x i
  split at h
  ·rename_i vs g
   split at h
   ·rename_i u J
    rw[<-mN h]
    rw[cW]at J
    exact LX (vs:=vs) ap (opn g) J
   ·cases h
  ·cases h
 ·rename_i fn xs ys
  split at h
  ·rename_i us vs g J
   rw[<-mN h]
   have e1:=XK ad C hc g
   have e2:=XK ad C hc J
   simp only[bc,execOp,ap,Instr.makeFunc]
   rw[show(Array.map a.eval ⟨xs⟩)=us.toArray by rw[<-e1];simp,show(Array.map a.eval ⟨ys⟩)=vs.toArray by rw[<-e2];simp]
   rfl
  ·cases h
 ·rename_i x t
  split at h
  ·rename_i u g
   unfold aeJ at h
   split at h
   ·split at h
    ·rename_i J
     rw[<-mN h];exact anL (Eb q.oA J) ap (opn g)
    ·cases h
   ·split at h
    ·rename_i J
     rw[<-mN h]
     obtain⟨e,he⟩:=Eb q.oA J
     exact anK he ap (opn g)
    ·cases h
   ·cases h
  ·cases h
 ·cases h
end
end aq
namespace aq
open Go Go.RowKit I
def IL(ops:Array Oper)(j:Nat):Option Nat:=match nth ops.toList j with
 |some o=>o.dst
 |none=>none
theorem afC{ops:Array Oper}{j bu:Nat}(h:IL ops j=some bu):(ops[j]?).bind (·.dst)=some bu:=by
 unfold IL at h;rw[cW,gS]at h;split at h
 ·rename_i o ap
  rw[ap];exact h
 ·cases h
abbrev ar_:=List (Nat×Value)×List gM×List (Nat×Nat)
def bS(G:mu)(ops:Array Oper)(n:Nat)(M:List (Nat×Nat×List Value)):List Oper->List Nat->List (Nat×Value)->List gM->List (Nat×Nat)->Option ar_
 |[],_,fr,gs,l=>some (fr,gs,l)
 |o::rest,aj,fr,gs,l=>match o.dst with
  |none=>none
  |some d=>match ee d n with
   |false=>none
   |true=>match o.guard with
    |none=>match rK G M aj fr gs [] o.op with
     |some (v,b8,l')=>bS G ops n M rest b8 ((d,v)::fr) (sB gs d) (l'++l)
     |none=>none
    |some (j,want)=>match IL ops j with
     |none=>none
     |some bu=>match ee bu n with
      |false=>none
      |true=>match aj with
       |0::b8=>match bP bu d with
        |true=>none
        |false=>match rK G M b8 fr gs [(bu,want)] o.op with
         |some (v,a,l')=>bS G ops n M rest a (D6 fr d) (⟨d,bu,want,v⟩::sB gs d) (l'++l)
         |none=>none
       |_::b8=>match eb fr bu with
        |some (.bool b)=>match b==want with
         |true=>match rK G M b8 fr gs [] o.op with
          |some (v,a,l')=>bS G ops n M rest a ((d,v)::fr) (sB gs d) (l'++l)
          |none=>none
         |false=>bS G ops n M rest b8 ((d,undef)::fr) (sB gs d) l
        |some (.tuple ⟨[]⟩)=>bS G ops n M rest b8 ((d,undef)::fr) (sB gs d) l
        |_=>none
       |[]=>none
def Fx(fr:List (Nat×Value)):List Nat->Option (List (Nat×Value))
 |[]=>some []
 |t::r=>match eb fr t,Fx fr r with
  |some v,some vs=>some ((t,v)::vs)
  |_,_=>none
def dup(l:List Nat):List (Nat×Nat):=l.map λ x=>(x,x)
def mE(G:mu)(ops:Array Oper)(n:Nat)(M:List (Nat×Nat×List Value))(os:List Oper)(aj:List Nat)(fr:List (Nat×Value))(eQ:List Nat):Option (List (Nat×Value)×List (Nat×Nat)):=
 match bS G ops n M os aj fr [] []with
 |some (fr',_,l)=>match Fx fr' eQ with
  |some k=>some (k,l)
  |none=>none
 |none=>none
theorem M2:∀l:List Nat,nN (dup l)
 |[]=>trivial
 |x::r=>⟨rfl,M2 r⟩
theorem za:∀ {l l':List (Nat×Nat)},nN (l++l')->nN l/\nN l'
 |[],_,h=>⟨trivial,h⟩
 |_::_,_,h=>⟨⟨h.1,(za h.2).1⟩,(za h.2).2⟩
theorem S0{fr:List (Nat×Value)}:∀ {eQ:List Nat}{k:List (Nat×Value)},Fx fr eQ=some k->K9 fr k
 |[],k,h=>by simp only[Fx,aD]at h;subst h;trivial
 |t::r,k,h=>by
  simp only[Fx]at h;split at h
  ·rename_i v vs a J
   simp only[aD]at h
   subst h
   exact⟨a,S0 J⟩
  ·cases h
theorem aDC{a:Act}{n:ct}{d:Nat}{v:Value}(aj:a.tmps.size=n)(aK:ee d n=true):(a.put (some d) v).tmps.getD d undef=v:=by
 have b:d<n:=ck aK;simp[Act.put,aj,b]
theorem PI{a:Act}{d t:Nat}{v:Value}(h:t≠d):(a.put (some d) v).tmps.getD t undef=a.tmps.getD t undef:=by
 simp only[Act.put,dP];rw[fe,if_neg (λ e=>h e.symm)]
theorem zh{a:Act}{d:Nat}{v:Value}:∀ {gs:List gM},mG a gs->mG (a.put (some d) v) (sB gs d)
 |[],_=>trivial
 |p::r,h=>by
  simp only[sB];cases af:bP p.t d||bP p.j d with
  |true=>exact zh h.2
  |false=>
   simp only[hQ]at af
   have b:p.t≠d:=λ e=>by rw[e]at af;simp at af
   have J:p.j≠d:=λ e=>by rw[e]at af;simp at af
   refine⟨?_,zh h.2⟩
   rw[PI b,PI J];exact h.1
theorem W4{d t:Nat}{v:Value}:∀ {fr:List (Nat×Value)},eb (D6 fr d) t=some v->t≠d/\eb fr t=some v
 |[],h=>by simp[D6,eb]at h
 |p::r,h=>by
  simp only[D6]at h;cases af:bP p.1 d with
  |true=>
   rw[af]at h
   obtain⟨a,J⟩:=W4 h
   refine⟨a,?_⟩
   have e:=a_ af
   simp only[eb]
   cases hc:bP p.1 t with
   |true=>exact absurd ((a_ hc).symm.trans e) a
   |false=>exact J
  |false=>
   rw[af]at h
   simp only[eb]at h⊢
   cases hc:bP p.1 t with
   |true=>
    rw[hc]at h
    refine⟨λ e=>?_,h⟩
    rw[a_ hc,e]at af
    simp at af
   |false=>
    rw[hc]at h
    exact W4 h
theorem Fr.P4{n:ct}{d:Nat}{fr:List (Nat×Value)}{a:Act}{v:Value}(ad:Fr n fr a):Fr n (D6 fr d) (a.put (some d) v):=
 ⟨by simpa[Act.put]using ad.size,ad.defers,λ t u h=>by obtain⟨b,J⟩:=W4 h;rw[PI b];exact ad.get t u J⟩
def Gj:Op->Bool
 | .load _ _=>true
 |_=>false
theorem avc{G:mu}{M:List (Nat×Nat×List Value)}{aj:List Nat}{fr:List (Nat×Value)}{gs:List gM}{cur:List (Nat×Bool)}{op:Op}(h:Gj op=false):rK G M aj fr gs cur op=rK G [] aj fr gs cur op:=by
 cases op with
 |load t x=>simp[Gj]at h
 |unOp u t x=>cases u<;>rfl
 |call c=>
  unfold rK
  split<;>first |rfl |(rename_i e;cases e;done)|(rename_i e;cases e;rfl)
 |_=>rfl
theorem Tm{P:Program}{G:mu}{M:List (Nat×Nat×List Value)}{C:World->Prop}{a:Act}{o:Oper}{n:ct}{fr:List (Nat×Value)}{gs:List gM}{cur:List (Nat×Bool)}{aj b8:List Nat}{v:Value}{l:List (Nat×Nat)}(b:s6 P G)(e:∀w,C w->jQ w M)(ad:Fr n fr a)(c:mG a gs)(hc:jG a cur)
 (h:rK G M aj fr gs cur o.op=some (v,b8,l))(d:nN l):(∀w,C w->bc P o a w v w)/\(Gj o.op=false-> ∀w,bc P o a w v w):=
 ⟨λ w f=>aeF b (e w f) ad c hc rfl h d,λ g w=>aeF b (M:=[]) trivial ad c hc rfl (by rw[<-avc g];exact h) d⟩
theorem alb{ops:Array Oper}{o:Oper}{a:Act}{n:ct}{l:List (Nat×Value)}{j bu:Nat}{want:Bool}(ad:Fr n l a)(c:o.guard=some (j,want))(aA:(ops[j]?).bind (·.dst)=some bu)(d:ee bu n=true) :
 Region.wanted o (yielded ops a.tmps)=true↔a.tmps.getD bu undef= .bool want:=by
 have e:bu<n:=ck d
 have aj:=ad.size
 have J:a.tmps[bu]? =some (a.tmps.getD bu undef):=by
  rw[iR (by omega)];simp[dP,aj,e]
 simp only[Region.wanted,c,yielded,aA,ae,J,beq_iff_eq]
 constructor
 ·intro h
  split at h
  ·rename_i b af
   simp only[aD]at h af
   rw[af,h]
  ·cases h
 ·intro h
  rw[h]
def ash(P:Program)(ops:Array Oper)(C:World->Prop)(o:Oper)(d:Nat)(a:Act)(u:Value):Prop:=
 o.dst=some d/\((Region.wanted o (yielded ops a.tmps)=true/\(∀w,C w->bc P o a w u w)/\(Gj o.op=false-> ∀w,bc P o a w u w))\/(Region.wanted o (yielded ops a.tmps)=false/\u=undef))
section
variable{P:Program}{G:mu}{ops:Array Oper}{n:ct}{M:List (Nat×Nat×List Value)}{C:World->Prop}
theorem TI(y:s6 P G)(z:∀w,C w->jQ w M){o:Oper}{rest:List Oper}{aj:List Nat}{fr:List (Nat×Value)}{gs:List gM}{l s:List (Nat×Nat)}{gg:List (Nat×Value)}{A:List gM}{a:Act}
 (ad:Fr n fr a)(c:mG a gs)(h:bS G ops n M (o::rest) aj fr gs l=some (gg,A,s))(K:nN s)
 (B:∀ {os:List Oper}{aj:List Nat}{fr:List (Nat×Value)}{gs:List gM}{l:List (Nat×Nat)},bS G ops n M os aj fr gs l=some (gg,A,s)->nN l) :
 ∃d u b8 fr' E l',ash P ops C o d a u/\Fr n fr' (a.put (some d) u)/\mG (a.put (some d) u) E/\bS G ops n M rest b8 fr' E l'=some (gg,A,s):=by
 rw[bS]at h
 split at h
 ·cases h
 ·rename_i d aK
  split at h
  ·cases h
  ·rename_i g
   split at h
   ·rename_i f
    split at h
    ·rename_i v b8 l' i
     have k:=(za (B h)).1
     exact⟨d,v,b8,_,_,_,⟨aK,.inl ⟨QB f,Tm (cur:=[]) y z ad c trivial i k⟩⟩,ad.put g,zh c,h⟩
    ·cases h
   ·rename_i j want f
    split at h
    ·cases h
    ·rename_i bu H
     have m:=afC H
     split at h
     ·cases h
     ·rename_i p
      split at h
      ·rename_i b8
       split at h
       ·cases h
       ·rename_i F
        split at h
        ·rename_i v t l' i
         have k:=(za (B h)).1
         have I:bu≠d:=λ e=>by rw[e]at F;simp at F
         by_cases x:a.tmps.getD bu undef= .bool want
         ·refine⟨d,v,t,_,_,_,⟨aK,.inl ⟨(alb ad f m p).2 x,Tm (cur:=[(bu,want)]) y z ad c ⟨x,trivial⟩ i k⟩⟩,ad.P4,(show mG (a.put (some d) v) (⟨d,bu,want,v⟩::sB gs d) from⟨λ _=>aDC ad.size g,zh c⟩),h⟩
         ·refine⟨d,undef,t,_,_,_,⟨aK,.inr ⟨by rw[gX];exact λ J=>x ((alb ad f m p).1 J),rfl⟩⟩,ad.P4,(show mG (a.put (some d) undef) (⟨d,bu,want,v⟩::sB gs d) from⟨λ D=>?_,zh c⟩),h⟩
          simp only at D
          rw[PI I]at D
          exact absurd D x
        ·cases h
      ·rename_i q b8 L
       split at h
       ·rename_i b af
        split at h
        ·rename_i r
         have r:b=want:=by simpa using r
         subst r
         split at h
         ·rename_i v t l' i
          have k:=(za (B h)).1
          exact⟨d,v,t,_,_,_,⟨aK,.inl ⟨aHJ ad f m af p,Tm (cur:=[]) y z ad c trivial i k⟩⟩,ad.put g,zh c,h⟩
         ·cases h
        ·rename_i r
         exact⟨d,undef,b8,_,_,_,⟨aK,.inr ⟨aHI ad f m af r p,rfl⟩⟩,ad.put g,zh c,h⟩
       ·rename_i af
        exact⟨d,undef,b8,_,_,_,⟨aK,.inr ⟨aHK ad f m af p,rfl⟩⟩,ad.put g,zh c,h⟩
       ·cases h
      ·cases h
theorem zb{gg:List (Nat×Value)}{c:List gM}{b:List (Nat×Nat)}(a:nN b):∀ {os:List Oper}{aj:List Nat}{fr:List (Nat×Value)}{gs:List gM}{l:List (Nat×Nat)},bS G ops n M os aj fr gs l=some (gg,c,b)->nN l
 |[],aj,fr,gs,l,h=>by
  simp only[bS,aD,b5]at h;rw[h.2.2];exact a
 |o::rest,aj,fr,gs,l,h=>by
  rw[bS]at h;split at h
  ·cases h
  ·split at h
   ·cases h
   ·split at h
    ·split at h
     ·exact(za (zb a h)).2
     ·cases h
    ·split at h
     ·cases h
     ·split at h
      ·cases h
      ·split at h
       ·split at h
        ·cases h
        ·split at h
         ·exact(za (zb a h)).2
         ·cases h
       ·split at h
        ·split at h
         ·split at h
          ·exact(za (zb a h)).2
          ·cases h
         ·exact zb a h
        ·exact zb a h
        ·cases h
       ·cases h
theorem akq{w:World}{Q:Exit->Act->World->Prop}(g:s6 P G)(i:jQ w M){gg:List (Nat×Value)}{q:List gM}{j:List (Nat×Nat)}(c:nN j):∀(k:Nat){rest:List Oper}{aj:List Nat}{fr:List (Nat×Value)}{gs:List gM}{l:List (Nat×Nat)}{a:Act},
 Fr n fr a->mG a gs->bS G ops n M (rest.take k) aj fr gs l=some (gg,q,j)->(∀m,Fr n gg m->wpList P ops Q (rest.drop k) m w)->wpList P ops Q rest a w
 |0,rest,aj,fr,gs,l,a,ad,_,h,b=>by
  simp only[List.take_zero,bS,aD,b5]at h;have:=b a (by rw[<-h.1];exact ad);simpa using this
 |k+1,[],aj,fr,gs,l,a,ad,_,h,b=>by
  simp only[List.take_nil,bS,aD,b5]at h;have:=b a (by rw[<-h.1];exact ad);simpa using this
 |k+1,o::rest,aj,fr,gs,l,a,ad,r,h,b=>by
  rw[jC]at h;obtain⟨d,u,b8,fr',x,l',⟨aK,s⟩,t,v,h'⟩:=TI (C:=λ w'=>w'=w) g (λ w' e=>by subst e;exact i) ad r h c (zb c);have next:=akq g i c k t v h' (by simpa using b)
  refine wpList_step λ K p=>?_;rcases s with⟨f,hy,_⟩|⟨f,rfl⟩
  ·rw[if_pos f]
   unfold Oper.wp
   rw[show(execOp a.eval o).run P w=_ from hy w rfl]
   show K (a.put o.dst u) w
   rw[aK]
   exact p _ _ next
  ·rw[if_neg (by simp[f]),aK]
   exact p _ _ next
theorem ajm{f:Act->Prop}(g:s6 P G)(i:∀w,C w->jQ w M){gg:List (Nat×Value)}{p:List gM}{j:List (Nat×Nat)}(c:nN j):∀(k:Nat){rest:List Oper}{aj:List Nat}{fr:List (Nat×Value)}{gs:List gM}{l:List (Nat×Nat)}{a:Act},
 Fr n fr a->mG a gs->bS G ops n M (rest.take k) aj fr gs l=some (gg,p,j)->(∀m,Fr n gg m->wpQuiet P ops C f (rest.drop k) m)->wpQuiet P ops C f rest a
 |0,rest,aj,fr,gs,l,a,ad,_,h,b=>by
  simp only[List.take_zero,bS,aD,b5]at h;have:=b a (by rw[<-h.1];exact ad);simpa using this
 |k+1,[],aj,fr,gs,l,a,ad,_,h,b=>by
  simp only[List.take_nil,bS,aD,b5]at h;have:=b a (by rw[<-h.1];exact ad);simpa using this
 |k+1,o::rest,aj,fr,gs,l,a,ad,q,h,b=>by
  rw[jC]at h;obtain⟨d,u,b8,fr',v,l',⟨aK,r⟩,s,t,h'⟩:=TI (C:=C) g i ad q h c (zb c);have next:=ajm g i c k s t h' (by simpa using b)
  unfold wpQuiet;rcases r with⟨e,hy,_⟩|⟨e,rfl⟩
  ·rw[if_pos e]
   refine⟨u,λ w hc=>?_,?_⟩
   ·unfold Oper.quietAt
    rw[show(execOp a.eval o).run P w=_ from hy w hc]
    exact⟨rfl,rfl⟩
   ·rw[aK];exact next
  ·rw[if_neg (by simp[e]),aK]
   exact next
theorem TJ{os:List Oper}{aj:List Nat}{fr:List (Nat×Value)}{eQ:List Nat}{k:List (Nat×Value)}{L:List (Nat×Nat)}(h:mE G ops n M os aj fr eQ=some (k,L)):∃gg a,bS G ops n M os aj fr [] []=some (gg,a,L)/\K9 gg k:=by
 unfold mE at h;split at h
 ·rename_i fr' b l c
  split at h
  ·rename_i k' J
   simp only[aD,b5]at h
   obtain⟨rfl,rfl⟩:=h
   exact⟨fr',b,c,S0 J⟩
  ·cases h
 ·cases h
theorem hD(k:Nat)(eQ aj:List Nat){w:World}{Q:Exit->Act->World->Prop}{rest:List Oper}{fr fr':List (Nat×Value)}{L:List Nat}{a:Act}(c:s6 P G)(d:jQ w M)(ad:Fr n fr a)(e:mE G ops n M (rest.take k) aj fr eQ=some (fr',dup L))
 (next:∀b,Fr n fr' b->wpList P ops Q (rest.drop k) b w):wpList P ops Q rest a w:=by
 obtain⟨gg,h,f,J⟩:=TJ e
 exact akq (gs:=[]) c d (M2 L) k ad trivial f λ b g=>next b (g.sub J)
theorem aDZ(k:Nat)(eQ aj:List Nat){c:Act->Prop}{rest:List Oper}{fr fr':List (Nat×Value)}{L:List Nat}{a:Act}(d:s6 P G)(e:∀w,C w->jQ w M)(ad:Fr n fr a)(f:mE G ops n M (rest.take k) aj fr eQ=some (fr',dup L))
 (next:∀b,Fr n fr' b->wpQuiet P ops C c (rest.drop k) b):wpQuiet P ops C c rest a:=by
 obtain⟨gg,i,g,J⟩:=TJ f
 exact ajm (gs:=[]) d e (M2 L) k ad trivial g λ b h=>next b (h.sub J)
end
def eX:List Nat->Nat->Bool
 |[],_=>false
 |i::r,j=>bP i j||eX r j
section
variable{P:Program}{ops:Array Oper}{Q:Exit->Act->World->Prop}{md:Region.Mode}{S:World->Prop}{p:Nat}
def xY(P:Program)(md:Region.Mode)(ops:Array Oper)(Q:Exit->Act->World->Prop)(p:Nat)(S:World->Prop):Nat->Array Bool->Act->World->Prop
 |0,listed,a,w=>Region.ready md ops listed=[]/\Q .normal a w
 |cz+1,listed,a,w=>
  (Region.ready md ops listed=[]->Q .normal a w)/\
  ∀i∈Region.ready md ops listed,wpOp P ops Q i (λ b w'=>((listed.setIfInBounds i true).getD p false=false->S w')/\xY P md ops Q p S cz (listed.setIfInBounds i true) b w') a w
theorem alm:∀(cz:Nat)(listed:Array Bool)(a:Act)(w:World),xY P md ops Q p S cz listed a w->wpAny P md ops Q cz listed a w
 |0,_,_,_,h=>h
 |cz+1,_,_,_,h=>⟨h.1,λ i hi=>wpOp_mono (λ b w' h'=>alm cz _ b w' h'.2) (h.2 i hi)⟩
theorem akj{a:Array Bool}{i p:Nat}(h:a.getD p false=true):(a.setIfInBounds i true).getD p false=true:=by
 simp only[dP,fe]at h⊢;split
 ·rename_i e
  subst e
  split
  ·rfl
  ·rename_i b
   rw[hA (by omega)]at h
   cases h
 ·exact h
theorem alj{c:Nat}{d:World->Prop}:∀(cz:Nat)(listed:Array Bool)(a:Act)(w:World),listed.getD p false=true->xY P md ops Q c d cz listed a w->xY P md ops Q p S cz listed a w
 |0,_,_,_,_,h=>h
 |cz+1,_,_,_,b,h=>⟨h.1,λ i hi=>wpOp_mono (λ e w' h'=>⟨λ ad=>absurd ((akj b).symm.trans ad) (by simp),alj cz _ e w' (akj b) h'.2⟩) (h.2 i hi)⟩
def nK:List Oper->Nat->Nat->List Nat->List Nat
 |[],_,_,acc=>acc
 |o::r,k,i,acc=>nK r (k+1) i (match o.after.toList.any λ e=>Region.binds .any e&&(bP e.on i||eX acc e.on)with|true=>k::acc |false=>acc)
theorem r7{l:List Nat}{j:Nat}(h:eX l j=true):j∈l:=by
 induction l with
 |nil=>simp[eX]at h
 |cons i r a=>
  simp only[eX,hM]at h
  rcases h with h |h
  ·rw[a_ h];simp
  ·exact ez _ (a h)
def EV(ops:Array Oper)(i:Nat)(U:List Nat):Prop:=∀u∈U,∃o,ops[u]? =some o/\ ∃e∈o.after,Region.binds .any e=true/\(e.on=i\/e.on∈U)
theorem S3{ops:Array Oper}{i:Nat}:∀ {l:List Oper}{k:Nat}{acc:List Nat},(∀m o,l[m]? =some o->ops[k+m]? =some o)->EV ops i acc->EV ops i (nK l k i acc)
 |[],_,_,_,h=>h
 |o::r,k,acc,d,h=>by
  rw[nK];refine S3 (λ m a f=>by have:=d (m+1) a (by simpa using f);rwa [show k+(m+1)=k+1+m by omega]at this) ?_;split
  ·rename_i af
   intro u hu
   rcases cm.1 hu with rfl |hu
   ·simp only[h7,bC,hM]at af
    obtain⟨e,b,c,J⟩:=af
    refine⟨o,by simpa using d 0 o rfl,e,by simpa using b,c,?_⟩
    rcases J with J |J
    ·exact .inl (a_ J)
    ·exact .inr (ez _ (r7 J))
   ·obtain⟨a,g,e,b,c,J⟩:=h u hu
    exact⟨a,g,e,b,c,J.imp id (ez _)⟩
  ·exact h
def Z7(ops:Array Oper)(p i:Nat)(ds:List Nat):Bool:=(match nth ops.toList p with
 |none=>true
 |some _=>eX (nK ops.toList 0 i []) p)&&(nK ops.toList 0 i []).all λ u=>!(dG ops.size ds).getD u false
theorem Z8{ops:Array Oper}{p i:Nat}{ds:List Nat}(h:Z7 ops p i ds=true):EV ops i (nK ops.toList 0 i [])/\(ops[p]? =none\/p∈nK ops.toList 0 i [])/\ ∀u∈nK ops.toList 0 i [],(dG ops.size ds).getD u false=false:=by
 unfold Z7 at h;rw[bC]at h;refine⟨S3 (λ m o c=>by simpa using c) (λ u a=>by simp at a),?_,λ u a=>?_⟩
 ·have b:=h.1
  rw[cW,gS]at b
  split at b
  ·rename_i d;exact .inl d
  ·exact .inr (r7 b)
 ·have:=jN.1 h.2 u a
  simpa using this
theorem aHQ{i:Nat}{oi:Oper}{v:Value}(hi:ops[i]? =some oi)(C:∀(j:Nat)(o:Oper) cs b,ops[j]? =some o->o.op≠ .select cs b)(N:p≠i)
 (O:∀c a w,Q (.panic c) (a.put oi.dst v) w->Q (.panic c) a w){U:List Nat}(R:EV ops i U)(A:ops[p]? =none\/p∈U) :
 ∀(n:Nat)(listed:Array Bool)(a:Act)(w:World),
  (∀j f,ops[j]? =some f->j≠i->listed.getD j true=false->(∀e∈f.after,Region.binds .any e=true->e.on≠i)->oi.apart ops f=true) ->
  listed.getD p false=false->(∀u∈U,listed.getD u false=false)->i∈Region.ready .any ops listed->YieldsIf P ops S oi v a->S w ->
  xY P .any ops Q p S n (listed.setIfInBounds i true) (a.put oi.dst v) w->xY P .any ops Q p S (n+1) listed a w:=by
 intro n
 induction n with
 |zero=>
  intro listed a w _ _ _ g hy q H
  refine⟨λ h=>(by rw[h]at g;cases g),λ j aA=>?_⟩
  by_cases d:j=i
  ·subst d;exact hy.wpOp hi q ⟨λ _=>q,H⟩
  ·have:=ready_mono aA d
   rw[H.1]at this
   cases this
 |succ n T=>
  intro listed a w D y r g hy q H
  refine⟨λ h=>(by rw[h]at g;cases g),λ j aA=>?_⟩
  by_cases d:j=i
  ·subst d;exact hy.wpOp hi q ⟨λ _=>q,H⟩
  ·have l:=H.2 j (ready_mono aA d)
   obtain⟨E,f,s,F⟩:=mem_ready.1 aA
   have G:∀e∈f.after,Region.binds .any e=true->e.on≠i:=λ e z af heq=>by
    have l:=F e z af;have I:=(mem_ready.1 g).1;rw[heq]at l;rcases fN i listed.size with h' |h'
    ·simp[h']at I l;rw[I]at l;cases l
    ·simp[hA h']at l
   have K:j∉U:=λ V=>by
    obtain⟨eE,B,e,z,af,J⟩:=R j V;rw[s]at B;simp only[aD]at B;subst B;rcases J with J |J
    ·exact G e z af J
    ·have m:=F e z af
     rw[r _ J]at m
     cases m
   have t:j≠p:=λ e=>by
    subst e;rcases A with h |h
    ·rw[s]at h;cases h
    ·exact K h
   have W:∀u∈U,(listed.setIfInBounds j true).getD u false=false:=λ u L=>by
    have:=r u L;have X:j≠u:=λ e=>K (e▸L);simp only[dP,fe,if_neg X]at this⊢;exact this
   have Y:(listed.setIfInBounds j true).getD p false=false:=by
    simp only[dP,fe,if_neg t]at y⊢;exact y
   have x:((listed.setIfInBounds i true).setIfInBounds j true).getD p false=false:=by
    simp only[dP,fe,if_neg t,if_neg (Ne.symm N)]at y⊢;exact y
   have J:=wpOp_putIf s (D j f s d E G) (λ cs b=>C i oi cs b hi) (λ cs b=>C j f cs b s) O hy l
   have Z:∀k ok,ops[k]? =some ok->k≠i->(listed.setIfInBounds j true).getD k true=false ->
    (∀e∈ok.after,Region.binds .any e=true->e.on≠i)->oi.apart ops ok=true:=λ k ok hk Jj r jL=>by
    refine D k ok hk Jj ?_ jL
    by_cases M:j=k
    ·subst M;exact E
    ·rw[getD_set_ne true M]at r;exact r
   refine wpOp_mono (λ aQ w' m=>⟨λ _=>m.2.1 x,T (listed.setIfInBounds j true) aQ w' Z Y W (ready_mono g (Ne.symm d)) m.1 (m.2.1 x) ?_⟩) J
   rw[jc _ _ d]
   exact m.2.2
theorem ali{i:Nat}{oi:Oper}{v:Value}(hi:ops[i]? =some oi)(u:∀(j:Nat)(o:Oper) cs b,ops[j]? =some o->o.op≠ .select cs b)(D:p≠i)
 (E:∀c a w,Q (.panic c) (a.put oi.dst v) w->Q (.panic c) a w) :
 ∀(m:Nat)(listed:Array Bool)(a:Act)(w:World),
  (∀j f,ops[j]? =some f->j≠i->listed.getD j true=false->(∀e∈f.after,Region.binds .any e=true->e.on≠i)->oi.apart ops f=true) ->
  (listed.getD p false=false->S w)->i∈Region.ready .any ops listed->YieldsIf P ops (λ _=>True) oi v a ->
  xY P .any ops Q p S m (listed.setIfInBounds i true) (a.put oi.dst v) w->xY P .any ops Q p S (m+1) listed a w:=by
 have q:∀(r:Array Bool)(b:Bool),(r.setIfInBounds i true).getD p b=r.getD p b:=λ r b=>by
  simp only[dP,fe,if_neg (Ne.symm D)]
 intro m
 induction m with
 |zero=>
  intro listed a w _ s g hy H
  refine⟨λ h=>(by rw[h]at g;cases g),λ j aA=>?_⟩
  by_cases d:j=i
  ·subst d;exact hy.wpOp hi trivial ⟨λ h=>s (by rwa [q]at h),H⟩
  ·have:=ready_mono aA d
   rw[H.1]at this
   cases this
 |succ m F=>
  intro listed a w x s g hy H
  refine⟨λ h=>(by rw[h]at g;cases g),λ j aA=>?_⟩
  by_cases d:j=i
  ·subst d;exact hy.wpOp hi trivial ⟨λ h=>s (by rwa [q]at h),H⟩
  ·have l:=H.2 j (ready_mono aA d)
   obtain⟨y,f,t,G⟩:=mem_ready.1 aA
   have I:∀e∈f.after,Region.binds .any e=true->e.on≠i:=λ e K af heq=>by
    have l:=G e K af;have z:=(mem_ready.1 g).1;rw[heq]at l;rcases fN i listed.size with h' |h'
    ·simp[h']at z l;rw[z]at l;cases l
    ·simp[hA h']at l
   have J:=wpOp_putIf t (x j f t d y I) (λ cs b=>u i oi cs b hi) (λ cs b=>u j f cs b t) E hy l
   have L:∀k ok,ops[k]? =some ok->k≠i->(listed.setIfInBounds j true).getD k true=false ->
    (∀e∈ok.after,Region.binds .any e=true->e.on≠i)->oi.apart ops ok=true:=λ k ok M N A O=>by
    refine x k ok M N ?_ O
    by_cases B:j=k
    ·subst B;exact y
    ·rw[getD_set_ne true B]at A;exact A
   have C:∀w',(((listed.setIfInBounds i true).setIfInBounds j true).getD p false=false->S w')->(listed.setIfInBounds j true).getD p false=false->S w':=λ w' R T=>
    R (by rw[jc _ _ (Ne.symm d),q];exact T)
   refine wpOp_mono (λ U w' n=>⟨C w' n.2.1,F (listed.setIfInBounds j true) U w' L (C w' n.2.1) (ready_mono g (Ne.symm d)) n.1 ?_⟩) J
   rw[jc _ _ d]
   exact n.2.2
end
def fi(P:Program)(ops:Array Oper)(Q:Exit->Act->World->Prop)(p:Nat)(S:World->Prop)(f:Nat)(ds:List Nat)(a:Act)(w:World):Prop:=((dG ops.size ds).getD p false=false->S w)/\xY P .any ops (NoPanic Q) p S f (dG ops.size ds) a w
def D0(ops:List Oper):List Nat->Option (List Oper)
 |[]=>some []
 |i::r=>match nth ops i,D0 ops r with
  |some o,some os=>some (o::os)
  |_,_=>none
def ait(ops:Array Oper)(i:Nat):Bool:=match nth ops.toList i with
 |some o=>!Gj o.op
 |none=>false
def G_(ops:Array Oper)(p:Nat):List Nat->List Nat->Bool
 |_,[]=>true
 |ds,i::r=>Qo ops ds i&&(Z7 ops p i ds||ait ops i)&& !bP p i&&G_ ops p (i::ds) r
def KM:List Nat->List Nat->List Nat
 |[],ds=>ds
 |i::r,ds=>KM r (i::ds)
section
variable{P:Program}{G:mu}{ops:Array Oper}{n:ct}{M:List (Nat×Nat×List Value)}{S:World->Prop}{Q:Exit->Act->World->Prop}{a:Act}{w:World}{f p:Nat}{ds:List Nat}
theorem aB5(i:Nat):dG ops.size (i::ds)=(dG ops.size ds).setIfInBounds i true:=rfl
theorem fi.wpAny(h:fi P ops Q p S f ds a w):Go.wpAny P .any ops (NoPanic Q) f (dG ops.size ds) a w:=alm f _ a w h.2
theorem Mr(hc:(Region.ready .any ops (dG ops.size ds)).isEmpty=true)(h:Q .normal a w)(c:(dG ops.size ds).getD p false=false->S w):fi P ops Q p S f ds a w:=by
 refine⟨c,?_⟩;have b:=List.isEmpty_iff.1 hc;cases f with
 |zero=>exact⟨b,NoPanic.normal h⟩
 |succ f=>exact⟨λ _=>NoPanic.normal h,by rw[b];simp⟩
theorem fi.next(c:Nat)(d:World->Prop)(b:(dG ops.size ds).getD p false=true)(h:fi P ops Q c d f ds a w):fi P ops Q p S f ds a w:=
 ⟨λ ad=>absurd (b.symm.trans ad) (by simp),alj f _ a w b h.2⟩
theorem acD(A:s6 P G)(B:∀w,S w->jQ w M)(k:S w){gg:List (Nat×Value)}{K:List gM}{D:List (Nat×Nat)}(m:nN D):∀(is:List Nat){os:List Oper}{aj ds:List Nat}{fr:List (Nat×Value)}{gs:List gM}{l:List (Nat×Nat)}{a:Act},
 (dG ops.size ds).getD p false=false->D0 ops.toList is=some os->G_ ops p ds is=true->Fr n fr a->mG a gs->bS G ops n M os aj fr gs l=some (gg,K,D)->(∀E,Fr n gg E->fi P ops Q p S f (KM is ds) E w)->fi P ops Q p S (f+is.length) ds a w
 |[],os,aj,ds,fr,gs,l,a,_,ap,_,ad,_,h,q=>by
  simp only[D0,aD]at ap;subst ap;simp only[bS,aD,b5]at h;exact q a (by rw[<-h.1];exact ad)
 |i::is,os,aj,ds,fr,gs,l,a,r,ap,F,ad,L,h,q=>by
  simp only[D0]at ap;split at ap
  ·rename_i o N g J
   simp only[aD]at ap
   subst ap
   rw[cW,gS]at g
   simp only[G_,bC,ga]at F
   obtain⟨⟨⟨b,j⟩,H⟩,s⟩:=F
   have t:p≠i:=λ e=>by rw[e]at H;simp at H
   obtain⟨d,u,b8,fr',U,l',⟨aK,I⟩,O,R,h'⟩:=TI (C:=S) A B ad L h m (zb m)
   have T:(dG ops.size (i::ds)).getD p false=false:=by
    rw[aB5];simp only[dP,fe,if_neg (Ne.symm t)]at r⊢;exact r
   have next:=acD A B k m is T J s O R h' q
   simp only[Qo,bC]at b
   refine⟨λ _=>k,?_⟩
   have:=next.2
   rw[show f+(i::is).length=f+is.length+1 by simp[jK]]
   rw[hM]at j
   rcases j with j |Ju
   ·refine aHQ (v:=u) g (Region.noSelect_spec b.1.1) t (λ c a w h=>h) (Z8 j).1 (Z8 j).2.1 (f+is.length) _ a w (Region.free_spec g b.1.2) r (Z8 j).2.2 (by simpa using b.2) (I.imp (λ⟨x,y,_⟩=>⟨x,y⟩) id) k ?_
    rw[aK]
    exact this
   ·have z:Gj o.op=false:=by
     unfold ait at Ju;rw[cW,gS,g]at Ju;simpa using Ju
    refine ali (v:=u) g (Region.noSelect_spec b.1.1) t (λ c a w h=>h) (f+is.length) _ a w (Region.free_spec g b.1.2) (λ _=>k) (by simpa using b.2) (I.imp (λ⟨x,_,y⟩=>⟨x,λ w _=>y z w⟩) id) ?_;rw[aK];exact this
  ·cases ap
theorem asm(is:List Nat)(k:Nat)(eQ aj:List Nat){os:List Oper}{fr fr':List (Nat×Value)}{L:List Nat}(d:s6 P G)(e:∀w,S w->jQ w M)(ad:Fr n fr a)(c:bP is.length k=true)(g:(dG ops.size ds).getD p false=false)(hi:D0 ops.toList is=some os)(h:G_ ops p ds is=true)
 (i:mE G ops n M os aj fr eQ=some (fr',dup L))(j:S w)(next:∀b,Fr n fr' b->fi P ops Q p S f (KM is ds) b w):fi P ops Q p S (f+k) ds a w:=by
 have c:=a_ c
 subst c
 obtain⟨gg,o,l,J⟩:=TJ i
 exact acD (gs:=[]) d e j (M2 L) is g hi h ad trivial l λ b m=>next b (m.sub J)
theorem mB(i:Nat){o:Oper}(hi:ops[i]? =some o)(hc:(Region.ready .any ops (dG ops.size ds)==[i])=true)(d:(dG ops.size ds).getD p false=false->S w)(h:wpList P ops (E4 (fi P ops Q p S f (i::ds)) (NoPanic Q)) [o] a w):fi P ops Q p S (f+1) ds a w:=by
 have b:=eq_of_beq hc;refine⟨d,⟨λ c=>(by rw[b]at c;cases c),λ j aA=>?_⟩⟩;rw[b]at aA;have:j=i:=by simpa using aA
 subst this;exact aab hi h
theorem acz(i j:Nat){o b:Oper}(hi:ops[i]? =some o)(aA:ops[j]? =some b)(hc:(Region.ready .any ops (dG ops.size ds)==[i,j])=true)(g:(dG ops.size ds).getD p false=false->S w)(h:wpList P ops (E4 (fi P ops Q p S f (i::ds)) (NoPanic Q)) [o] a w)
 (h':wpList P ops (E4 (fi P ops Q p S f (j::ds)) (NoPanic Q)) [b] a w):fi P ops Q p S (f+1) ds a w:=by
 have c:=eq_of_beq hc
 refine⟨g,⟨λ d=>(by rw[c]at d;cases d),λ q e=>?_⟩⟩
 rw[c]at e
 have:q=i\/q=j:=by simpa using e
 rcases this with rfl |rfl
 ·exact aab hi h
 ·exact aab aA h'
theorem ka(h:fi P ops Q p S f ds a w):wpList P ops (E4 (fi P ops Q p S f ds) (NoPanic Q)) [] a w:=h
end
end aq
namespace aq
open Go Go.RowKit I
theorem SF(p q:List UInt8):((⟨⟨p⟩⟩:ByteArray)==⟨⟨q⟩⟩)=decide (p=q):=by
 show((⟨p⟩:Array UInt8)==⟨q⟩)=_
 rw[hT];simp
structure lL (cJ:Type) [DecidableEq cJ] where
 enc:cJ->Value
 desc:TypeDesc
 same:∀a b,Instr.sameNow desc (enc a) (enc b)=some (decide (b=a))
 bits:∀a,Instr.sameBits 10000 (enc a) (enc a)=true
 check:∀(P:Program)(w:World)(e:Bool)(t:TypeId)(a:cJ),P.underlying t=some desc->(Instr.checkKey e 10000 t (enc a)).run P w= .ok () w
def az':lL Int where
 enc n:=.int .i64 n
 desc:=.int .i64
 same a b:=by
  simp only[Instr.sameNow,if_true,aD];rw[hT];simp only[beq_iff_eq,decide_eq_true_iff];exact eq_comm
 bits a:=by
  have h:∀n,Instr.sameBits n (.int .i64 a) (.int .i64 a)=true:=λ n=>by cases n<;>simp[Instr.sameBits]
  exact h 10000
 check P w e t a h:=by
  have h':∀n:Nat,(Instr.checkKey e (n+1) t (.int .i64 a)).run P w= .ok () w:=λ n=>by simp[Instr.checkKey,run_underlying h]
  exact h' 9999
def mQ:lL (List UInt8) where
 enc s:=cj s
 desc:=.string
 same a b:=by
  simp only[Instr.sameNow,aD];have e:decide (a=b)=decide (b=a):=by rw[decide_eq_decide];exact eq_comm
  exact(SF a b).trans e
 bits a:=by
  have h:∀n,Instr.sameBits n (cj a) (cj a)=true:=λ n=>by
   have e:((⟨⟨a⟩⟩:ByteArray)==⟨⟨a⟩⟩)=true:=(SF a a).trans (by simp);cases n<;>(simp only[Instr.sameBits];exact e)
  exact h 10000
 check P w e t a h:=by
  have h':∀n:Nat,(Instr.checkKey e (n+1) t (cj a)).run P w= .ok () w:=λ n=>by simp[Instr.checkKey,run_underlying h]
  exact h' 9999
section
variable{cJ β:Type} [DecidableEq cJ](K:lL cJ)(bS:β->Value)
def R'(es:List MapEntry)(d:List (cJ×β)):Prop:=es.map (λ e=>(e.key,e.val))=d.map (λ p=>(K.enc p.1,bS p.2))
def aco(w:World)(r:Nat)(d:List (cJ×β)):Prop:=∃es clock,w.heap[r]? =some (.map es clock)/\R' K bS es.toList d/\(es.toList.map (·.born)).Pairwise (·< ·)/\ ∀e∈es.toList,e.born<clock
def a7.map(r:Nat)(d:List (cJ×β)):a7 where
 bz:=[r]
 ok w:=aco K bS w r d
 law w w' h a:=by
  obtain⟨es,c,b,J⟩:=a;exact⟨es,c,(h r (by simp)).trans b,J⟩
def bA.map(r:Nat)(d:List (cJ×β)):bA where
 ok M w:=r∉M/\r<w.heap.size/\aco K bS w r d
 law M jE w w' a f h:=by
  obtain⟨b,J,es,c,g,i⟩:=h;exact⟨λ j=>by rcases f r j with e |e;exact b e;omega,dQ J a.size,es,c,(a.block r J b).trans g,i⟩
end
section
variable{cJ β:Type} [DecidableEq cJ]{K:lL cJ}{bS:β->Value}
variable{P:Program}{o:Oper}{a:Act}{w:World}{x y z:Operand}{t kt CA:TypeId}{r:Nat}{d:List (cJ×β)}{k:cJ}{v:β}
theorem aK9(ap:o.op= .makeMap t none):bc P o a w (.map (some w.heap.size)) (w.alloc (.map #[] 0)):=by
 simp only[bc,execOp,ap,Sem.run_bind];rfl
end
end aq
namespace aq
open Go Go.RowKit I
def acd(E:List a7):Prop:=∀(i:Nat)(x:a7),E[i]? =some x->x.bz.Nodup/\ ∀(j:Nat)(y:a7),E[j]? =some y->i≠j-> ∀k∈x.bz,k∉y.bz
theorem TL:∀ {E:List a7},(bT E).Nodup->acd E
 |[],_=>λ i x h=>by simp at h
 |e::E,h=>by
  have h':(e.bz++bT E).Nodup:=by simpa[bT]using h
  rw[eK]at h';obtain⟨l,J,d⟩:=h';have f:=TL J;intro i x a;cases i with
  |zero=>
   simp only[de,aD]at a
   subst a
   refine⟨l,λ j y hy g k b c=>?_⟩
   cases j with
   |zero=>exact g rfl
   |succ j=>exact d k b k (ho.2 ⟨y,bB (by simpa using hy),c⟩) rfl
  |succ i=>
   have a:E[i]? =some x:=by simpa using a
   refine⟨(f i x a).1,λ j y hy g k b c=>?_⟩
   cases j with
   |zero=>
    simp only[de,aD]at hy
    subst hy
    exact d k c k (ho.2 ⟨x,bB a,b⟩) rfl
   |succ j=>exact(f i x a).2 j y (by simpa using hy) (by omega) k b c
theorem aiz:∀ {E:List a7},acd E->(bT E).Nodup
 |[],_=>by simp[bT]
 |e::E,h=>by
  have e1:bT (e::E)=e.bz++bT E:=by simp[bT]
  rw[e1,eK];refine⟨(h 0 e rfl).1,aiz λ i x c=>⟨(h (i+1) x (by simpa using c)).1,λ j y hy l k d=>(h (i+1) x (by simpa using c)).2 (j+1) y (by simpa using hy) (by omega) k d⟩,λ a f b af g=>?_⟩;subst g;obtain⟨x,c,d⟩:=ho.1 af;obtain⟨i,hi,rfl⟩:=iv.1 c;exact(h 0 e rfl).2 (i+1) E[i] (by simp[hi]) (by omega) a f d
def G5(E:List a7):List Nat->Option (List a7)
 |[]=>some []
 |i::r=>match nth E i,G5 E r with
  |some x,some xs=>some (x::xs)
  |_,_=>none
def Od:List Nat->Nat->Bool
 |[],_=>false
 |i::r,j=>bP i j||Od r j
def Kd:List Nat->Bool
 |[]=>true
 |i::r=>!Od r i&&Kd r
theorem azo{l:List Nat}{j:Nat}(h:Od l j=false):j∉l:=by
 induction l with
 |nil=>simp
 |cons i r a=>
  simp only[Od,hQ]at h
  intro b
  rcases cm.1 b with rfl |e
  ·simp at h
  ·exact a h.2 e
theorem aie:∀ {l:List Nat},Kd l=true->l.Nodup
 |[],_=>by simp
 |i::r,h=>by
  simp only[Kd,bC,ga]at h;exact iO.2 ⟨azo h.1,aie h.2⟩
theorem Qa{E:List a7}:∀ {is:List Nat}{b:List a7},G5 E is=some b-> ∀(m:Nat)(x:a7),b[m]? =some x-> ∃i:Nat,is[m]? =some i/\E[i]? =some x
 |[],b,h,m,x,a=>by simp only[G5,aD]at h;subst h;simp at a
 |i::r,b,h,m,x,a=>by
  simp only[G5]at h;split at h
  ·rename_i y ys c J
   simp only[aD]at h
   subst h
   cases m with
   |zero=>
    simp only[de,aD]at a
    subst a
    exact⟨i,rfl,by rw[<-cW];exact c⟩
   |succ m=>obtain⟨q,d,e⟩:=Qa J m x (by simpa using a);exact⟨q,by simpa using d,e⟩
  ·cases h
section
variable{W w w':World}{M0 X:List Nat}{E:List a7}{D:List bA}
theorem bs.sel(h:bs W M0 X w E D)(is:List Nat){c:List a7}(o:Kd is=true)(aj:G5 E is=some c):bs W M0 X w c D:=by
 have f:∀x∈c,x∈E:=λ x a=>by
  obtain⟨m,p,rfl⟩:=iv.1 a;obtain⟨i,_,hi⟩:=Qa aj m _ (aH p);exact bB hi
 have ad:∀k∈bT c,k∈bT E:=λ k b=>by
  obtain⟨x,a,q⟩:=ho.1 b;exact ho.2 ⟨x,f x a,q⟩
 have aK:=TL h.bu;have g:=aie o;refine⟨h.bS,h.hP,λ k b=>h.lt k (ad k b),λ x a=>h.ok x (f x a),aiz λ m x a=>?_,λ y hy=>y.law _ _ w w (bj.refl _ _) (λ k b=>.inl ?_) (h.rd y hy)⟩
 ·obtain⟨i,hi,l⟩:=Qa aj m x a
  refine⟨(aK i x l).1,λ d y hy r k b=>?_⟩
  obtain⟨j,aA,s⟩:=Qa aj d y hy
  refine(aK i x l).2 j y s (λ e=>?_) k b
  subst e
  obtain⟨l1,e1⟩:=aM.1 hi
  obtain⟨n,e2⟩:=aM.1 aA
  rcases Nat.lt_or_gt_of_ne r with bw |bw
  ·exact(jt.1 g m d l1 n bw) (e1.trans e2.symm)
  ·exact(jt.1 g d m n l1 bw) (e2.trans e1.symm)
 ·rcases b3.1 b with e |e
  ·exact b3.2 (.inl e)
  ·exact b3.2 (.inr (ad k e))
theorem FL(A B:List a7):bT (A++B)=bT A++bT B:=by simp[bT]
theorem bs.into(h:bs W M0 X w E D)(m:Nat):bs w (bT (E.take m)) (X++bT (E.drop m)) w (E.take m) D:=by
 have aZ:bT E=bT (E.take m)++bT (E.drop m):=by rw[<-FL,jd]
 have aK:=h.bu;rw[aZ,eK]at aK;refine⟨bj.refl _ _,λ k a=>?_,λ k a=>⟨(h.lt k (by rw[aZ];simp[a])).1,.inl a⟩,λ x c=>h.ok x (List.mem_of_mem_take c),aK.1,λ y hy=>y.law _ _ w w (bj.refl _ _) (λ k a=>.inl ?_) (h.rd y hy)⟩
 ·rcases b3.1 a with e |e
  ·refine⟨dQ (h.hP k e).1 h.bS.size,λ b=>?_⟩
   have:=(h.lt k (by rw[aZ];simp[b])).2
   rcases this with e2 |e2
   ·exact(h.hP k e).2 e2
   ·have:=(h.hP k e).1;omega
  ·exact⟨(h.lt k (by rw[aZ];simp[e])).1,λ b=>aK.2.2 k b k e rfl⟩
 ·rw[aZ]
  simp only[b3]at a⊢
  rcases a with(e |e)|e<;>simp[e]
def Sc:List bA->Prop
 |[]=>True
 |y::r=>(∀M jE w w',y.ok M w->y.ok jE w')/\Sc r
theorem ace:∀ {D:List bA},Sc D-> ∀y∈D,∀M jE w w',y.ok M w->y.ok jE w'
 |[],_,y,hy=>by simp at hy
 |z::r,h,y,hy=>by
  rcases cm.1 hy with rfl |e
  ·exact h.1
  ·exact ace h.2 y e
theorem bs.acJ(h:bs W M0 X w E D)(m:Nat){l:List Nat}{d:List a7}{i:List bA}(k:bs w (bT (E.take m)) l w' d i)(n:∀y∈i,y.ok (X++bT (d++E.drop m)) w'):bs W M0 X w' (d++E.drop m) (i++D):=by
 have aZ:bT E=bT (E.take m)++bT (E.drop m):=by rw[<-FL,jd]
 have aK:=h.bu;rw[aZ,eK]at aK;have j:∀b∈bT (E.take m),b<w.heap.size/\(b∈M0\/W.heap.size<=b):=λ b af=>h.lt b (by rw[aZ];simp[af]);have f:∀b∈bT (E.drop m),b<w.heap.size/\(b∈M0\/W.heap.size<=b):=λ b af=>h.lt b (by rw[aZ];simp[af]);have g:=k.bS;have o:∀b∈bT d,b∉bT (E.drop m):=λ b af c=>by
  rcases(k.lt b af).2 with e |e
  ·exact aK.2.2 b e b c rfl
  ·have:=(f b c).1;omega
 refine⟨h.bS.trans g (λ b af=>(j b af).2),h.hP,λ b af=>?_,λ x p=>?_,?_,λ y hy=>?_⟩
 ·rw[FL]at af
  rcases b3.1 af with e |e
  ·refine⟨(k.lt b e).1,?_⟩
   rcases(k.lt b e).2 with e2 |e2
   ·exact(j b e2).2
   ·exact .inr (gm h.bS.size e2)
  ·exact⟨dQ (f b e).1 g.size,(f b e).2⟩
 ·rcases b3.1 p with e |e
  ·exact k.ok x e
  ·refine x.law w w' (λ b af=>?_) (h.ok x (List.mem_of_mem_drop e))
   have c:b∈bT (E.drop m):=ho.2 ⟨x,e,af⟩
   exact g.block b (f b c).1 (λ q=>aK.2.2 b q b c rfl)
 ·rw[FL,eK]
  exact⟨k.bu,aK.2.1,λ a r b af e=>by subst e;exact o a r af⟩
 ·rcases b3.1 hy with e |e
  ·exact n y e
  ·refine y.law _ _ w w' (g.mono λ b af=>?_) (λ b af=>?_) (h.rd y e)
   ·rw[aZ];simp[af]
   ·rw[FL]at af
    rw[aZ]
    simp only[b3]at af⊢
    rcases af with e1 |e1 |e1
    ·simp[e1]
    ·rcases(k.lt b e1).2 with e2 |e2
     ·simp[e2]
     ·exact .inr e2
    ·simp[e1]
theorem bs.back(h:bs W M0 X w E D)(m:Nat){a:List a7}{c:List bA}(k:bs w (bT (E.take m)) (X++bT (E.drop m)) w' a c):bs W M0 X w' (a++E.drop m) (c++D):=
 h.acJ m k λ y hy=>y.law _ _ w' w' (bj.refl _ _) (λ b af=>.inl (by
  rw[FL]at af;simp only[b3]at af⊢;rcases af with e |e |e<;>simp[e])) (k.rd y hy)
theorem bs.gf(h:bs W M0 X w E D)(m:Nat){c:List Nat}{b:List a7}{a:List bA}(d:Sc a)(k:bs w (bT (E.take m)) c w' b a):bs W M0 X w' (b++E.drop m) (a++D):=
 h.acJ m k λ y hy=>ace d y hy _ _ _ _ (k.rd y hy)
end
end aq
namespace aq
open Go Go.RowKit I
section
variable{P:Program}{ops:Array Oper}{Q:Exit->Act->World->Prop}{a:Act}{w:World}{rest:List Oper}{o:Oper}{n:ct}{d:Nat}{l:List (Nat×Value)}
 {W:World}{M0 X:List Nat}{E:List a7}{D:List bA}
theorem bs.aj4(h:bs W M0 X w E D){α:Type}{T:cY α}{xs:List Value}{li:List α}(b:dx T (ii (X++bT E) w) w xs li):bs W M0 X w E (bA.rows T xs li::D):=h.more b
theorem P'{α:Type}{T:cY α}{t e:TypeId}{x y:Operand}{z:Value}{bytes m c:Nat}{v:Value}{li ml l':List α}{xs cs:List Value}{dW:Addr}(i:Nat)(s:bs W M0 X w E D)(hi:E[i]? =some (a7.row e T.size v li xs))
 (G:P.underlying t=some (.slice e))(kE:(P.info? e).map (λ i=>(i.zero,i.size,i.bytes))=some (some z,T.size,bytes))(H:z.cells.size=T.size)(I:0<T.size)
 (K:bD bytes li ml=some l')(L:ml.length=m)(M:0<bytes)
 (N:dx T (ii (X++bT E) w) w xs li)(hcs:dx T (ii (X++bT E) w) w cs ml)(O:∀j u,cs[j]? =some u->w.cell? (dW.add j)=some u)
 (R:Region.wanted o (yielded ops a.tmps)=true)
 (ap:o.op= .call { callee:=.builtin .append,args:=#[x,y],argTypes:=#[t,t] })(S:a.eval x=v)(hy:a.eval y= .slice (some dW) m c)(ad:Fr n l a)(aK:o.dst=some d)(U:ee d n=true)
 (k:∀g A b w',bj v.ownBlock.toList w w'->Fr n ((d,.slice A l'.length b)::l) g->bs W M0 X w' (E.set i (a7.row e T.size (.slice A l'.length b) l' (xs++cs))) (bA.rows T (xs++cs) l'::D)->wpList P ops Q rest g w'):wpList P ops Q (o::rest) a w:=by
 obtain⟨V,Y,h,C8,qc⟩:=agO kE
 obtain⟨Z,rfl⟩:=Mt K
 have lh:w.ownsRow 0 e T.size v li.length xs:=s.e i hi
 subst L
 have p:li.length+ml.length<=maxLen:=by
  have J:=lj (li.length+ml.length) M;simp only[maxLen];omega
 obtain⟨B,w',gj,J,C,_,df⟩:=run_append_own_at (P:=P) w 0 t o.type e V z T.size bytes G Y h C8 qc H I v li.length xs lh dW ml.length c cs (xK T hcs)
  O (GX T hcs) p Z (gD _)
 have F:(a7.row e T.size B (li++ml) (xs++cs)).ok w':=by
  show w'.ownsRow 0 e T.size B (li++ml).length (xs++cs)
  rw[dS];exact J
 obtain⟨A,b,rfl,_⟩:=KN F
 have o7:bc P o a w (.slice A (li++ml).length b) w':=by
  simp only[bc,execOp,ap,resolve,invoke,builtin,Sem.run_bind,Sem.run_pure,Result.andThen_ok,gJ,eu,hK,S,hy,gj]
 have zt:=s.aj4 (KE T hcs N)
 refine fH R o7 ad aK U λ g dO=>k g A b w' (bj.grown C) dO (zt.Qt i hi (bj.grown C) F (aDf _) λ q aJ=>?_)
 have f:(Value.slice A (li++ml).length b).ownBlock=some q:=by simpa[a7.row]using aJ
 rcases df with e5 |e5
 ·left;simpa[a7.row,<-e5]using f
 ·right
  rw[e5]at f
  injection f with f
  subst f
  refine⟨cu _,?_⟩
  rcases J.2 with⟨r,_⟩|⟨g',cap,cur,r,_,fy,_⟩
  ·rw[r]at e5;simp[Value.ownBlock]at e5
  ·rw[r]at e5
   have:g'=w.heap.size:=by simpa[Value.ownBlock]using e5
   subst this
   exact(ft.1 fy).1
theorem KS{α:Type}{T:cY α}{t e:TypeId}{x y:Operand}{z:Value}{bytes g m c:Nat}{v:Value}{li ml l':List α}{xs cs:List Value}(i j q:Nat)(h:bs W M0 X w E D)(hi:E[i]? =some (a7.row e T.size v li xs))(aA:E[j]? =some (a7.b' g e cs))(r:D[q]? =some (bA.rows T xs li))
 (s:P.underlying t=some (.slice e))(kE:(P.info? e).map (λ i=>(i.zero,i.size,i.bytes))=some (some z,T.size,bytes))(B:z.cells.size=T.size)(C:ee 0 T.size=true)
 (F:bD bytes li ml=some l')(G:ml.length=m)(H:ee 0 bytes=true)(hcs:dx T (ii (X++bT E) w) w cs ml)
 (I:Region.wanted o (yielded ops a.tmps)=true)
 (ap:o.op= .call { callee:=.builtin .append,args:=#[x,y],argTypes:=#[t,t] })(J:a.eval x=v)(hy:a.eval y= .slice (some ⟨g,0,none⟩) m c)(ad:Fr n l a)(aK:o.dst=some d)(K:ee d n=true)
 (k:∀b A f p w',Fr n ((d,.slice A l'.length f)::l) b->bs W M0 X w' ((E.set i (a7.row e T.size (.slice A l'.length f) l' p)).eraseIdx j) (bA.rows T p l'::D)->wpList P ops Q rest b w'):wpList P ops Q (o::rest) a w:=by
 have af:=h.e j aA
 exact P' i h hi s kE B (ck C) F G (ck H) (h.d q r) hcs (λ j u L=>by rw[k3];simpa using y1 af L) I ap J hy ad aK K
  λ b A f w' _ M N=>k b A f _ w' M (N.M3 j)
theorem Zz{α:Type}{T:cY α}{t e:TypeId}{x y:Operand}{z:Value}{bytes g m c:Nat}{v:Value}{li ml l':List α}{xs cs:List Value}(i j q:Nat)(h:bs W M0 X w E D)(hi:E[i]? =some (a7.row e T.size v li xs))(aA:E[j]? =some (a7.b' g e cs))(r:D[q]? =some (bA.rows T xs li))
 (s:P.underlying t=some (.slice e))(kE:(P.info? e).map (λ i=>(i.zero,i.size,i.bytes))=some (some z,T.size,bytes))(B:z.cells.size=T.size)(C:ee 0 T.size=true)
 (F:bD bytes li ml=some l')(G:ml.length=m)(H:ee 0 bytes=true)(hcs:dx T (ii (X++bT E) w) w cs ml)
 (I:Region.wanted o (yielded ops a.tmps)=true)
 (ap:o.op= .call { callee:=.builtin .append,args:=#[x,y],argTypes:=#[t,t] })(J:a.eval x=v)(hy:a.eval y= .slice (some ⟨g,0,none⟩) m c)(ad:Fr n l a)(aK:o.dst=some d)(K:ee d n=true)
 (k:∀b A f p w',bj v.ownBlock.toList w w'->Fr n ((d,.slice A l'.length f)::l) b->bs W M0 X w' ((E.set i (a7.row e T.size (.slice A l'.length f) l' p)).eraseIdx j) (bA.rows T p l'::D)->wpList P ops Q rest b w'):wpList P ops Q (o::rest) a w:=by
 have af:=h.e j aA
 exact P' i h hi s kE B (ck C) F G (ck H) (h.d q r) hcs (λ j u L=>by rw[k3];simpa using y1 af L) I ap J hy ad aK K
  λ b A f w' M N O=>k b A f _ w' M N (O.M3 j)
theorem aKS{t e:TypeId}{x y:Operand}{v:Value}{sz k:Nat}{xs:List Value}{z:Value}{bytes:Nat}(b:P.underlying t=some (.slice e))(kE:(P.info? e).map (λ i=>(i.zero,i.size,i.bytes))=some (some z,sz,bytes))(c:w.ownsRow 0 e sz v k xs)
 (ap:o.op= .call { callee:=.builtin .append,args:=#[x,y],argTypes:=#[t,t] })(f:a.eval x=v)(hy:a.eval y= .slice none 0 0):bc P o a w v w:=by
 obtain⟨g,h,j,C8,qc⟩:=agO kE
 have m:=run_append_owned_none (P:=P) (w:=w) 0 t o.type e g sz b h v k xs c
 simp only[bc,execOp,ap,resolve,invoke,builtin,Sem.run_bind,Sem.run_pure,Result.andThen_ok,gJ,eu,hK,f,hy,m]
theorem aGH{α:Type}{T:cY α}{t e:TypeId}{x y:Operand}{z:Value}{bytes c:Nat}{v:Value}{li ml l':List α}{xs:List Value}{nz:Option Addr}(i q p:Nat)(g:bs W M0 X w E D)(hi:E[i]? =some (a7.row e T.size v li xs))(S:D[q]? =some (bA.rows T xs li))(U:D[p]? =some (bA.of (bY T) [.slice nz ml.length c] ml))
 (m:P.underlying t=some (.slice e))(kE:(P.info? e).map (λ i=>(i.zero,i.size,i.bytes))=some (some z,T.size,bytes))(K:z.cells.size=T.size)(L:ee 0 T.size=true)
 (r:bD bytes li ml=some l')(M:ee 0 bytes=true)
 (s:Region.wanted o (yielded ops a.tmps)=true)
 (ap:o.op= .call { callee:=.builtin .append,args:=#[x,y],argTypes:=#[t,t] })(B:a.eval x=v)(hy:a.eval y= .slice nz ml.length c)(ad:Fr n l a)(aK:o.dst=some d)(C:ee d n=true)
 (k:∀f A b N w',bj v.ownBlock.toList w w'->Fr n ((d,.slice A l'.length b)::l) f->bs W M0 X w' (E.set i (a7.row e T.size (.slice A l'.length b) l' N)) (bA.rows T N l'::D)->wpList P ops Q rest f w'):wpList P ops Q (o::rest) a w:=by
 have F:=g.d q S
 have G:(bY T).rd (ii (X++bT E) w) w [.slice nz ml.length c] ml:=g.d p U
 obtain⟨dY,c1,e1,e2,e3,e4,e5⟩:=G
 simp only[hh,Value.slice.injEq,and_true,true_and]at e1
 obtain⟨rfl,rfl⟩:=e1
 by_cases O:ml=[]
 ·subst O
  cases nz with
  |none=>
   have V:=e4 rfl
   subst V
   have Y:w.ownsRow 0 e T.size v li.length xs:=g.e i hi
   have Z:(a7.row e T.size v li xs).ok w:=g.e i hi
   obtain⟨A,b,rfl,_⟩:=KN Z
   obtain⟨_,rfl⟩:=Mt r
   refine fH s (aKS m kE Y ap B hy) ad aK C λ f h=>?_
   have R:li++[]=li:=gL li
   refine k f A b xs w (bj.refl _ w) (by rw[R];exact h) ?_
   rw[R]
   have aZ:E.set i (a7.row e T.size (.slice A li.length b) li xs)=E:=by
    obtain⟨bw,he⟩:=aM.1 hi;rw[<-he,lr]
   rw[aZ]
   exact g.more F
  |some dW=>
   exact P' (cs:=[]) i g hi m kE K (ck L) r rfl (ck M) F rfl (λ j u H=>by simp at H) s ap B hy ad aK C λ f A b w' I h J=>k f A b _ w' I h J
 ·obtain⟨g1,g2,cs,g3,g4⟩:=e5 O
  rw[g1]at hy
  exact P' (cs:=cs) i g hi m kE K (ck L) r rfl (ck M) F g3 (λ j u H=>by rw[k3];exact g4 j u H) s ap B hy ad aK C λ f A b w' I h J=>k f A b _ w' I h J
theorem aGG{α:Type}{T:cY α}{t e:TypeId}{x y:Operand}{z:Value}{bytes c:Nat}{v:Value}{li ml l':List α}{xs:List Value}{nz:Option Addr}(i q p:Nat)(h:bs W M0 X w E D)(hi:E[i]? =some (a7.row e T.size v li xs))(j:D[q]? =some (bA.rows T xs li))(m:D[p]? =some (bA.of (bY T) [.slice nz ml.length c] ml))
 (r:P.underlying t=some (.slice e))(kE:(P.info? e).map (λ i=>(i.zero,i.size,i.bytes))=some (some z,T.size,bytes))(s:z.cells.size=T.size)(u:ee 0 T.size=true)
 (B:bD bytes li ml=some l')(C:ee 0 bytes=true)
 (F:Region.wanted o (yielded ops a.tmps)=true)
 (ap:o.op= .call { callee:=.builtin .append,args:=#[x,y],argTypes:=#[t,t] })(G:a.eval x=v)(hy:a.eval y= .slice nz ml.length c)(ad:Fr n l a)(aK:o.dst=some d)(H:ee d n=true)
 (k:∀b A f g w',Fr n ((d,.slice A l'.length f)::l) b->bs W M0 X w' (E.set i (a7.row e T.size (.slice A l'.length f) l' g)) (bA.rows T g l'::D)->wpList P ops Q rest b w'):wpList P ops Q (o::rest) a w:=
 aGH i q p h hi j m r kE s u B C F ap G hy ad aK H λ b A f g w' _=>k b A f g w'
theorem AC{x:Value}{y:Nat}{code:BoundsCode}{k:IntKind}{i:Int}(b:x= .int k i)(h:0<=i/\i<=y):(Instr.sliceBound x y code).run P w= .ok i.toNat w:=by
 subst b;simp[Instr.sliceBound,asIntOf,h]
end
end aq
namespace aq
open Go Go.RowKit I
section
variable{α:Type}{T:cY α}
theorem Zc{F:Nat->Prop}{w:World}{d':α}{b:List Value}(h':T.rd F w b d'):∀ {li:List α}{xs:List Value}{i:Nat},dx T F w xs li->i<li.length->dx T F w (xs.take (i*T.size)++b++xs.drop (i*T.size+T.size)) (li.set i d')
 |[],_,i,_,hi=>by simp at hi
 |d::r,xs,0,h,_=>by
  obtain⟨cs,ys,rfl,a,J⟩:=h;have c:=T.len a;refine⟨b,ys,?_,h',J⟩;simp[<-c]
 |d::r,xs,i+1,h,hi=>by
  obtain⟨cs,ys,rfl,a,J⟩:=h;have c:=T.len a;have e:=Zc h' J (i:=i) (by simpa using hi);refine⟨cs,_,?_,a,e⟩;have e1:(i+1)*T.size=cs.length+i*T.size:=by rw[jr];omega
  rw[e1,kl,hF (by omega),show cs.length+i*T.size-cs.length=i*T.size by omega,List.drop_append,ix (l:=cs) (by omega),
   show cs.length+i*T.size+T.size-cs.length=i*T.size+T.size by omega]
  simp
end
theorem ZL{β:Type}{L vs:List β}{p N:Nat}(b:p+vs.length<=N)(J:N<=L.length):(L.take p++vs++L.drop (p+vs.length)).take N=(L.take N).take p++vs++(L.take N).drop (p+vs.length):=by
 have a:(L.take p++vs).length=p+vs.length:=by rw[dS,fP];omega
 rw[kl,hF (by omega),a,List.take_take,lD (by omega),List.drop_take]
section
variable{P:Program}{ops:Array Oper}{Q:Exit->Act->World->Prop}{a:Act}{w:World}{rest:List Oper}{o:Oper}{n:ct}{d:Nat}{l:List (Nat×Value)}
 {W:World}{M0 X:List Nat}{E:List a7}{D:List bA}
theorem aeR{xs cs:List Value}{p:Nat}(h:∀j u,cs[j]? =some u->xs[p+j]? =some u):(xs.drop p).take cs.length=cs:=by
 apply j4;intro j;rw[gI];by_cases aA:j<cs.length
 ·rw[if_pos aA,iN,aH aA]
  exact h j _ (aH aA)
 ·rw[if_neg aA,gz (by omega)]
theorem aGV{α:Type}{T:cY α}{t e:TypeId}{x y:Operand}{A:Option Addr}{c kk sz:Nat}{li:List α}{xs cs0 vs:List Value}{z:Int}{S d':α}{v:Value}(i q:Nat)(C:bs W M0 X w E D)(hi:E[i]? =some (a7.row e T.size (.slice A li.length c) li xs))(aJ:D[q]? =some (bA.rows T xs li))
 (ah:idx li z=some S)(hcs:T.rd (ii (X++bT E) w) w cs0 S)(U:fb w ⟨dm A,fG A+z.toNat*T.size,none⟩ cs0)(hw:Region.wanted o (yielded ops a.tmps)=true)
 (ag:v.cells=vs.toArray)(aj:∀w,(Go.sizeOf t).run P w= .ok sz w)(ai:bP vs.length sz=true)(h1:vs.all (·.oneCell')=true)(F:iI (kk+vs.length) cs0.length=true)
 (Js:T.rd (ii (X++bT E) w) w (lay cs0 kk vs) d')
 (ap:o.op= .store t x y)(G:a.eval x= .pointer (some ⟨dm A,fG A+z.toNat*T.size+kk,none⟩))(hy:a.eval y=v)(aK:o.dst=none)
 (k:∀f w',bj (Value.slice A li.length c).ownBlock.toList w w'->bs W M0 X w' (E.set i (a7.row e T.size (.slice A li.length c) (li.set z.toNat d') f)) (bA.rows T f (li.set z.toNat d')::D)->wpList P ops Q rest a w'):wpList P ops Q (o::rest) a w:=by
 obtain⟨z0,V,z2⟩:=lk ah
 have h:vs.length=sz:=a_ ai
 have F8:kk+vs.length<=cs0.length:=ck F
 have lV:=T.len hcs
 have H:w.ownsRow 0 e T.size (.slice A li.length c) li.length xs:=C.e i hi
 have I:dx T (ii (X++bT E) w) w xs li:=C.d q aJ
 rcases H.2 with⟨_,cH⟩|⟨g,cap,cur,e1,_,Y,m,tL,zo,J⟩
 ·omega
 simp only[Value.slice.injEq,true_and]at e1
 obtain⟨rfl,rfl⟩:=e1
 have K:dm (some ⟨g,0,none⟩)=g:=rfl
 have L:fG (some ⟨g,0,none⟩)=0:=rfl
 simp only[K,L,ji]at G U
 have Z:(z.toNat+1)*T.size<=li.length*T.size:=jx _ V
 have aL6:li.length*T.size<=c*T.size:=jx _ m
 have agC:(z.toNat+1)*T.size=z.toNat*T.size+T.size:=by rw[jr,Nat.one_mul]
 have tX:xs.length=li.length*T.size:=H.1
 have r:(xs.drop (z.toNat*T.size)).take cs0.length=cs0:=aeR λ j u aA=>by
  have:=U j u aA;have wM:j<cs0.length:=(aM.1 aA).1;rw[World.ownsRow.cellAt H (z.toNat*T.size+j) (by omega)]at this;exact this
 have s:=run_storeCells_at P g (z.toNat*T.size+kk) e vs 0 cur w Y (by omega) (λ u hu=>jN.1 h1 u hu)
 simp only[lC]at s
 obtain⟨p,aE⟩:∃p,p=z.toNat*T.size+kk:=⟨_,rfl⟩
 rw[<-aE]at s G
 have aLZ:cur.toList.length=c*T.size:=by simpa using zo
 obtain⟨f,M⟩:∃f,f=xs.take p++vs++xs.drop (p+vs.length):=⟨_,rfl⟩
 have N:f=xs.take (z.toNat*T.size)++lay cs0 kk vs++xs.drop (z.toNat*T.size+T.size):=by
  rw[M,WV _ _ _ F8];have O:xs=xs.take (z.toNat*T.size)++(cs0++xs.drop (z.toNat*T.size+T.size)):=by
   conv=>lhs;rw[<-jd (z.toNat*T.size) xs]
   congr 1;rw[<-jd cs0.length (xs.drop (z.toNat*T.size)),r,List.drop_drop,lV]
  have B:(xs.take (z.toNat*T.size)).length=z.toNat*T.size:=by rw[fP];omega
  conv=>lhs;rw[O]
  rw[kl,hF (by rw[B];omega),B,List.drop_append,ix (l:=xs.take (z.toNat*T.size)) (by rw[B];omega),B,
   show p-z.toNat*T.size=kk by omega,show p+vs.length-z.toNat*T.size=kk+vs.length by omega,List.take_append_of_le_length (by omega),List.drop_append_of_le_length (by omega)]
  simp
 have R:f.length=li.length*T.size:=by
  rw[M];simp only[dS,fP,kp];omega
 have n3:(a7.row e T.size (.slice (some ⟨g,0,none⟩) li.length c) (li.set z.toNat d') f).ok (w.setRow g (cur.toList.take p++vs++cur.toList.drop (p+vs.length)).toArray):=by
  show World.ownsRow _ 0 e T.size _ (li.set z.toNat d').length f
  rw[iP];refine⟨R,.inr ⟨g,c,(cur.toList.take p++vs++cur.toList.drop (p+vs.length)).toArray,rfl,gD _,?_,m,tL,?_,?_⟩⟩
  ·simp only[World.setRow,ju,if_true,Y]
   rfl
  ·simp only[List.size_toArray,dS,fP,kp];omega
  ·rw[List.toList_toArray,M,<-J]
   exact ZL (by omega) (by omega)
 have V8:rz P o a w (w.setRow g (cur.toList.take p++vs++cur.toList.drop (p+vs.length)).toArray):=by
  simp only[rz,execOp,ap,G,hy];simp only[gT,h]at s⊢;have fT:=ag;unfold Value.cells at fT;simp[go_sem,Instr.storeAt,storeVar,aj,fT,h,s]
 have zt:=C.aj4 (T:=T) (xs:=f) (li:=li.set z.toNat d') (by rw[N];exact Zc Js I V)
 have jb:bj (Value.slice (some ⟨g,0,none⟩) li.length c).ownBlock.toList w (w.setRow g (cur.toList.take p++vs++cur.toList.drop (p+vs.length)).toArray):=⟨rfl,rfl,rfl,by simp[World.setRow],λ b _ az=>by
  simp only[World.setRow,ju];rw[if_neg (by simpa[Value.ownBlock,eq_comm]using az)]⟩
 exact jm hw V8 aK (k f _ jb (zt.Qt i hi jb n3 (by simp[a7.row,Value.ownBlock]) (λ b af=>.inl (by simpa[a7.row]using af))))
theorem aGW{α:Type}{T:cY α}{t e:TypeId}{x y:Operand}{A:Option Addr}{c kk sz:Nat}{li b:List α}{xs cs0 vs:List Value}{z:Int}{h d':α}{v:Value}(i q:Nat)(C1:some (li.set z.toNat d')=some b)(j:bs W M0 X w E D)(hi:E[i]? =some (a7.row e T.size (.slice A li.length c) li xs))(m:D[q]? =some (bA.rows T xs li))
 (p:idx li z=some h)(hcs:T.rd (ii (X++bT E) w) w cs0 h)(r:fb w ⟨dm A,fG A+z.toNat*T.size,none⟩ cs0)(s:Region.wanted o (yielded ops a.tmps)=true)
 (u:v.cells=vs.toArray)(aj:∀w,(Go.sizeOf t).run P w= .ok sz w)(B:bP vs.length sz=true)(C:vs.all (·.oneCell')=true)(g:iI (kk+vs.length) cs0.length=true)
 (F:T.rd (ii (X++bT E) w) w (lay cs0 kk vs) d')
 (ap:o.op= .store t x y)(G:a.eval x= .pointer (some ⟨dm A,fG A+z.toNat*T.size+kk,none⟩))(hy:a.eval y=v)(aK:o.dst=none)
 (k:∀f w',li.length=b.length->bj (Value.slice A li.length c).ownBlock.toList w w'->bs W M0 X w' (E.set i (a7.row e T.size (.slice A li.length c) b f)) (bA.rows T f b::D)->wpList P ops Q rest a w'):wpList P ops Q (o::rest) a w:=by
 obtain rfl:=dT C1
 exact aGV i q j hi m p hcs r s u aj B C g F ap G hy aK λ f w'=>k f w' (by rw[iP])
theorem aGt{A:Option Addr}{m c sz:Nat}{t e:TypeId}{lo hi:Option Value}{i j:Int}(b:P.underlying t=some (.slice e))(aj:∀w,(Go.sizeOf e).run P w= .ok sz w)
 (f:(lo=none/\i=0)\/lo=some (.int .i64 i))(kD:(hi=none/\j=m)\/hi=some (.int .i64 j))(h:0<=i/\i<=j/\j<=m)(g:m<=c) :
 (Instr.slice t (.slice A m c) lo hi none).run P w= .ok (.slice (if c=i.toNat then A else A.map (·.add (i.toNat*sz))) (j.toNat-i.toNat) (c-i.toNat)) w:=by
 have af:(Instr.sliceBounds true m c lo hi none).run P w= .ok (i.toNat,j.toNat,c) w:=by
  have bO:∀code,(Instr.sliceBound (.int .i64 j) c code).run P w= .ok j.toNat w:=λ code=>AC rfl (by omega);have k:∀code,(Instr.sliceBound (.int .i64 i) j.toNat code).run P w= .ok i.toNat w:=λ code=>AC rfl (by omega);have gd:j=m-> ∀code,(Instr.sliceBound (.int .i64 i) m code).run P w= .ok i.toNat w:=λ e code=>AC rfl (by omega);rcases f with⟨rfl,rfl⟩|rfl<;>rcases kD with⟨rfl,aA⟩|rfl
  ·simp[Instr.sliceBounds,aA]
  ·simp[Instr.sliceBounds,bO]
  ·simp[Instr.sliceBounds,gd aA,aA]
  ·simp[Instr.sliceBounds,bO,k]
 simp[Instr.slice,run_underlying b,af,aj]
theorem RB{A:Option Addr}{m c sz:Nat}{t e:TypeId}{x:Operand}{lo hi:Option Operand}{i j:Int}(g:P.underlying t=some (.slice e))(aj:∀w,(Go.sizeOf e).run P w= .ok sz w)(ap:o.op= .slice t x lo hi none)(k:a.eval x= .slice A m c)
 (p:(lo=none/\i=0)\/ ∃z,lo=some z/\a.eval z= .int .i64 i)(kD:(hi=none/\j=m)\/ ∃z,hi=some z/\a.eval z= .int .i64 j)(h:0<=i/\i<=j/\j<=m)(b:m<=c) :
 bc P o a w (.slice (if c=i.toNat then A else A.map (·.add (i.toNat*sz))) (j.toNat-i.toNat) (c-i.toNat)) w:=by
 have q:=aGt (P:=P) (w:=w) (A:=A) (m:=m) (c:=c) (lo:=lo.map a.eval) (hi:=hi.map a.eval) g aj (i:=i) (j:=j)
  (p.imp (λ h=>⟨by rw[h.1];rfl,h.2⟩) (λ⟨z,f,J⟩=>by rw[f,fI,J])) (kD.imp (λ h=>⟨by rw[h.1];rfl,h.2⟩) (λ⟨z,f,J⟩=>by rw[f,fI,J])) h b
 simp only[bc,execOp,ap,k,Instr.sliceAt,Sem.run_bind,run_underlying g,Result.andThen_ok,iz,q]
 rfl
theorem S1{α:Type}{l r:List α}{i j:Int}(h:cut l i j=some r):(0<=i/\i<=j/\j<=l.length)/\r=(l.take j.toNat).drop i.toNat:=by
 unfold cut at h;split at h
 ·rename_i b;exact⟨b,by simpa using h.symm⟩
 ·cases h
theorem uG{α:Type}{T:cY α}{F:Nat->Prop}{w:World}:∀ {l:List α}{xs:List Value}(i j:Nat),dx T F w xs l->dx T F w ((xs.take (j*T.size)).drop (i*T.size)) ((l.take j).drop i)
 |[],xs,i,j,h=>by
  have h:xs=[]:=h;subst h;have e:(([]:List α).take j).drop i=[]:=by simp
  rw[e];show List.drop _ (lu _ _)=[]
  simp
 |d::r,xs,i,0,h=>by
  have e:((d::r).take 0).drop i=[]:=by simp
  rw[e];show List.drop _ (lu _ _)=[]
  simp
 |d::r,xs,0,j+1,h=>by
  obtain⟨cs,ys,rfl,b,J⟩:=h;have f:=T.len b;have c:=uG 0 j J;simp only[Nat.zero_mul,fK]at c⊢;rw[jC,show(j+1)*T.size=cs.length+j*T.size by rw[jr];omega,kl,hF (by omega),show cs.length+j*T.size-cs.length=j*T.size by omega];exact⟨cs,_,rfl,b,c⟩
 |d::r,xs,i+1,j+1,h=>by
  obtain⟨cs,ys,rfl,b,J⟩:=h;have f:=T.len b;have c:=uG i j J
  rw[jC,List.drop_succ_cons,show(j+1)*T.size=cs.length+j*T.size by rw[jr];omega,kl,hF (by omega),show cs.length+j*T.size-cs.length=j*T.size by omega,
   show(i+1)*T.size=cs.length+i*T.size by rw[jr];omega,List.drop_append,ix (l:=cs) (by omega),show cs.length+i*T.size-cs.length=i*T.size by omega,jy]
  exact c
end
end aq
namespace aq
open Go Go.RowKit I
section
variable{P:Program}{ops:Array Oper}{Q:Exit->Act->World->Prop}{a:Act}{w:World}{rest:List Oper}{o:Oper}{n:ct}{d:Nat}{l:List (Nat×Value)}
 {W:World}{M0 X:List Nat}{E:List a7}{D:List bA}
theorem Fr.lN(ad:Fr n l a)(t:Nat){b c:Bool}(f:eb l t=some (.bool b))(af:b=c):Fr n ((t,.bool c)::l) a:=
 ⟨ad.size,ad.defers,λ u v h=>by
  simp only[eb]at h;cases e:bP t u with
  |true=>
   rw[e]at h
   simp only[aD]at h
   rw[<-a_ e,<-h,<-af]
   exact ad.get t _ f
  |false=>rw[e]at h;exact ad.get u v h⟩
theorem Ak{t:TypeId}{cs:List Value}(c:Region.wanted o (yielded ops a.tmps)=true)(hy:bc P o a w (.pointer (some ⟨w.heap.size,0,none⟩)) (w.alloc (.cells cs.toArray t)))(ad:Fr n l a)(e:bs W M0 X w E D)
 (aK:o.dst=some d)(f:ee d n=true)(k:∀b g w',bj [] w w'->Fr n ((d,.pointer (some ⟨g,0,none⟩))::l) b->bs W M0 X w' (a7.b' g t cs::E) D->wpList P ops Q rest b w'):wpList P ops Q (o::rest) a w:=
 fH c hy ad aK f λ b h=>k b _ _ (bj.alloc _ _ _) h (e.new t cs)
theorem ail{t:TypeId}{cs:List Value}{m:Nat}(c:Region.wanted o (yielded ops a.tmps)=true)(hy:bc P o a w (.slice (some ⟨w.heap.size,0,none⟩) m m) (w.alloc (.cells cs.toArray t)))(ad:Fr n l a)(e:bs W M0 X w E D)
 (aK:o.dst=some d)(f:ee d n=true)(k:∀b g w',bj [] w w'->Fr n ((d,.slice (some ⟨g,0,none⟩) m m)::l) b->bs W M0 X w' (a7.b' g t cs::E) D->wpList P ops Q rest b w'):wpList P ops Q (o::rest) a w:=
 fH c hy ad aK f λ b h=>k b _ _ (bj.alloc _ _ _) h (e.new t cs)
theorem aKU{t e:TypeId}{sz:Nat}(b:P.underlying t=some (.slice e))(aj:∀w,(Go.sizeOf e).run P w= .ok sz w)(ap:o.op= .buildSlice t 0 (List.toArray [])) :
 bc P o a w (.slice (some ⟨w.heap.size,0,none⟩) 0 0) (w.alloc (.cells (List.toArray []) e)):=by
 simp only[bc,execOp,ap,Instr.buildSlice,Sem.run_bind,Sem.run_pure,aj,Result.andThen_ok,run_underlying b]
 simp[Instr.fill,newRow,go_sem]
theorem asl{S:World->Prop}{f p:Nat}{ds:List Nat}{v:Value}(i:Nat)(hi:ops[i]? =some o)(g:(Qo ops ds i&& !bP p i)=true)(r:Region.wanted o (yielded ops a.tmps)=true)(hy:∀w',bc P o a w' v w')(j:S w)
 (ad:Fr n l a)(aK:o.dst=some d)(s:ee d n=true)(k:∀m,Fr n ((d,v)::l) m->fi P ops Q p S f (i::ds) m w):fi P ops Q p S (f+1) ds a w:=by
 simp only[bC,ga]at g
 obtain⟨b,q⟩:=g
 have t:p≠i:=λ e=>by rw[e]at q;simp at q
 simp only[Qo,bC]at b
 refine⟨λ _=>j,?_⟩
 refine ali (v:=v) hi (Region.noSelect_spec b.1.1) t (λ c a w h=>h) f _ a w (Region.free_spec hi b.1.2) (λ _=>j) (by simpa using b.2) (.inl ⟨r,λ w _=>hy w⟩) ?_
 rw[aK]
 exact(k _ (ad.put s)).2
theorem bs.swap{x y:a7}(h:bs W M0 X w (x::y::E) D):bs W M0 X w (y::x::E) D:=by
 have ad:∀k,k∈bT (y::x::E)↔k∈bT (x::y::E):=λ k=>by
  simp only[bT,ig,b3];exact⟨λ h=>by rcases h with h |h |h<;>simp[h],λ h=>by rcases h with h |h |h<;>simp[h]⟩
 refine⟨h.bS,h.hP,λ k i=>h.lt k ((ad k).1 i),λ z f=>h.ok z (by simp only[cm]at f⊢;rcases f with h |h |h<;>simp[h]),?_,λ z f=>z.law _ _ w w (bj.refl _ _) (λ k i=>.inl (by
  rcases b3.1 i with e |e
  ·exact b3.2 (.inl e)
  ·exact b3.2 (.inr ((ad k).1 e)))) (h.rd z f)⟩
 have aK:=h.bu;have e1:bT (x::y::E)=x.bz++(y.bz++bT E):=by simp[bT]
 have e2:bT (y::x::E)=y.bz++(x.bz++bT E):=by simp[bT]
 rw[e1,eK,eK]at aK;rw[e2,eK,eK];obtain⟨j,⟨m,p,q⟩,c⟩:=aK;exact⟨m,⟨j,p,λ a g b af=>c a g b (by simp[af])⟩,λ a g b af=>by
  rcases b3.1 af with e |e
  ·exact λ e3=>c b e a (by simp[g]) e3.symm
  ·exact q a g b e⟩
end
section
variable{P:Program}{o:Oper}{a:Act}{w:World}{xs ys:Array Value}
theorem aec{d sz:Nat}{f:Go.Field}{l:List Go.Field}{us vs:List Value}{e q:Prop} [Decidable e] [Decidable q](c:(f.name != "_")=true)(g:∀w,(isAgg f.type).run P w= .ok true w)(aj:∀w,(Go.sizeOf f.type).run P w= .ok sz w)
 (i:xs.extract f.offset (f.offset+sz)=us.toArray)(hy:ys.extract f.offset (f.offset+sz)=vs.toArray)(j:(Op.equalIn (d+1) f.type (.agg us.toArray) (.agg vs.toArray)).run P w= .ok (decide q) w)
 (h:(Op.eqFields (d+1) xs ys l).run P w= .ok (decide e) w):(Op.eqFields (d+1) xs ys (f::l)).run P w= .ok (decide (q/\e)) w:=by
 have k:f.name≠ "_" :=by simpa using c
 simp only[Op.eqFields,k,if_true,ne_eq,not_false_iff,part,Sem.run_bind,g,aj,Result.andThen_ok,i,hy,Sem.run_pure,j]
 by_cases b:q
 ·simp[b,h]
 ·simp[b]
theorem aed{d:Nat}{t:TypeId}{b7:Array Go.Field}{q:Prop} [Decidable q](b:P.underlying t=some (.struct b7))(c:P.stoodInHeld t=false)(h:(Op.eqFields d xs ys b7.toList).run P w= .ok (decide q) w):(Op.equalIn (d+1) t (.agg xs) (.agg ys)).run P w= .ok (decide q) w:=by
 have ad:P.fieldsOf t=b7:=by simp[Program.fieldsOf,b]
 have h':=run_equalIn_struct (P:=P) w d t xs ys (by rw[ad];exact b) c;rw[ad,h]at h';exact h'
theorem y'{d:Nat}{f:Go.Field}{l:List Go.Field}{m n:List UInt8}{e:Prop} [Decidable e](c:(f.name != "_")=true)(g:P.underlying f.type=some .string)(i:∀w,(isAgg f.type).run P w= .ok false w)
 (j:xs[f.offset]? =some (cj m))(hy:ys[f.offset]? =some (cj n))(h:(Op.eqFields (d+1) xs ys l).run P w= .ok (decide e) w):(Op.eqFields (d+1) xs ys (f::l)).run P w= .ok (decide (m=n/\e)) w:=by
 have k:f.name≠ "_" :=by simpa using c
 have heq:(Op.equalIn (d+1) f.type (cj m) (cj n)).run P w= .ok (decide (m=n)) w:=by
  simp only[Op.equalIn,Sem.run_bind,run_underlying g,Result.andThen_ok];rw[<-SF m n];rfl
 simp only[Op.eqFields,k,if_true,ne_eq,not_false_iff,part,Sem.run_bind,i,Result.andThen_ok,j,hy,hv,if_false,Sem.run_pure,heq]
 by_cases b:m=n
 ·subst b;simp[h]
 ·simp[b]
end
section
variable{P:Program}{ops:Array Oper}{Q:Exit->Act->World->Prop}{a:Act}{w:World}{rest:List Oper}{o:Oper}{n:ct}{d:Nat}{l:List (Nat×Value)}
 {W:World}{M0 X:List Nat}{E:List a7}{D:List bA}
theorem ajK{F:Nat->Prop}{w:World}:∀s:List UInt8,dx Qu F w (s.map λ b=>Value.int .u8 (b.toNat:Int)) s
 |[]=>rfl
 |b::r=>⟨[.int .u8 (b.toNat:Int)],_,rfl,rfl,ajK r⟩
end
end aq
namespace aq
open Go Go.RowKit I
section
variable{P:Program}{Q:Exit->Act->World->Prop}{a:Act}{w:World}
theorem MK{c:Operand}{x y:Code}{t:Bool}{ρ:Type}{p q:Option ρ}{r:ρ}(hc:a.eval c= .bool t)(h:cond t p q=some r)(b:t=true->p=some r->x.wp P Q a w)(ad:t=false->q=some r->y.wp P Q a w):(Code.cond c x y).wp P Q a w:=
 wp_cond_split hc (λ e=>b e (SX e h)) (λ e=>ad e (SV e h))
end
end aq
namespace aq
open Go Go.RowKit I
section
variable{P:Program}{ops:Array Oper}{Q:Exit->Act->World->Prop}{a:Act}{w w0 w':World}{rest:List Oper}{o:Oper}{n:ct}{d:Nat}{l:List (Nat×Value)}
 {W:World}{M0 X:List Nat}{E:List a7}{D:List bA}
theorem aLd{t:TypeId}{x:Operand}{m:Int}(ap:o.op= .unOp .neg t x)(b:a.eval x= .int .i64 m):bc P o a w (.int .i64 (ar (0-m))) w:=by
 rw[<-xW];simp only[bc,execOp,ap,b];simp[go_sem]
theorem bs.Po(h:bs W M0 X w E D){g:Nat}{t:TypeId}{cs:List Value}{x:a7}(i j:Nat)(hi:E[i]? =some (a7.b' g t cs))(aA:E[j]? =some x)(b:i≠j):g∉x.bz:=λ c=>
 (TL h.bu i _ hi).2 j x aA b g (by simp[a7.b']) c
theorem Na{M:List Nat}{p:Addr}{cs:List Value}(h:bj M w w')(b:p.block∉M)(c:p.block<w.heap.size)(hc:fb w p cs):fb w' p cs:=hc.law (h.block p.block c b)
theorem Kh{t:TypeId}{cs:List Value}{m:Nat}(c:Region.wanted o (yielded ops a.tmps)=true)(hy:bc P o a w (.slice (some ⟨w.heap.size,0,none⟩) m m) (w.alloc (.cells cs.toArray t)))(ad:Fr n l a)(e:bs W M0 X w E D)
 (aK:o.dst=some d)(f:ee d n=true)(k:∀b g w',bj [] w w'->w.heap.size<=g->Fr n ((d,.slice (some ⟨g,0,none⟩) m m)::l) b->bs W M0 X w' (a7.b' g t cs::E) D->wpList P ops Q rest b w'):wpList P ops Q (o::rest) a w:=
 fH c hy ad aK f λ b h=>k b _ _ (bj.alloc _ _ _) (cu _) h (e.new t cs)
end
end aq
namespace aq
open Go Go.RowKit I
def qB:List Oper->Bool
 |[]=>true
 |o::r=>(match o.op with
  | .defer _=>false
  |_=>true)&&qB r
theorem Pl:∀ {l:List Oper},qB l=true-> ∀o∈l,∀c,o.op≠ .defer c
 |[],_,o,ap,_=>by simp at ap
 |p::r,h,o,ap,c=>by
  simp only[qB,bC]at h;rcases cm.1 ap with rfl |e
  ·intro e2
   rw[e2]at h
   exact absurd h.1 (by simp)
  ·exact Pl h.2 o e c
def Rd(ro:Option Nat):Fence:={ Fence.wide with round:=ro }
theorem Zd{ro:Option Nat}{q:Prop}:(Rd ro).depth.isSome=true->q:=λ h=>by simp[Rd,Fence.wide]at h
section
variable{P:Program}{ops:Array Oper}{Q:Exit->Act->World->Prop}{K:Act->World->Prop}{a:Act}{w:World}{o:Oper}{ro:Option Nat}{n:Nat}
theorem XJ(aK:∀c,o.op≠ .defer c)(h:o.wp P a w K Q):o.wpIn (Rd ro) n P a w K Q:=by
 unfold Oper.wpIn;refine⟨λ _ _=>trivial,?_⟩;rw[Oper.semAt_eq _ _ _ aK];unfold Oper.wp at h;generalize(execOp a.eval o).run P w=r at *;cases r with
 |ok x w'=>
  cases x<;>simp only[Oper.upon,Oper.uponIn]at h⊢ <;>first
   |exact h
   |exact⟨Zd,(callsIn_wide (n:=n-1)).2 h⟩
   |exact⟨Zd,λ c cs _=>let⟨v,w',r,s⟩:=h c cs;⟨v,w',r,stepsIn_wide.2 s⟩⟩
 |halt x w'=>cases x<;>simp only[Oper.upon,Oper.uponIn]at h⊢ <;>exact h
theorem OO(b:∀a w,¬Q .outgrown a w):∀ {os:List Oper}{a:Act}{w:World},qB os=true->wpList P ops Q os a w->wpListIn (Rd ro) n P ops Q os a w
 |[],_,_,_,h=>h
 |o::r,a,w,aK,h=>by
  have c:=aK;simp only[qB,bC]at c;simp only[wpList]at h;simp only[wpListIn];split
  ·rename_i d
   rw[if_pos d]at h
   rcases h with h |⟨_,e,w',h⟩
   ·exact XJ (Pl aK o (by simp)) (Oper.wp_mono (λ a w h=>OO b c.2 h) h)
   ·exact absurd h (b _ _)
  ·rename_i d
   rw[if_neg d]at h
   exact⟨λ _ _=>trivial,OO b c.2 h⟩
theorem aBD(k:Nat){lo:List Oper}(aK:qB (lo.take k)=true)(h:wpList P ops (Exit.then (wpListIn (Rd ro) n P ops Q (lo.drop k)) (λ _ _ _=>False)) (lo.take k) a w):wpListIn (Rd ro) n P ops Q lo a w:=by
 have key:∀(os rest:List Oper)(a:Act)(w:World),qB os=true->wpList P ops (Exit.then (wpListIn (Rd ro) n P ops Q rest) (λ _ _ _=>False)) os a w->wpListIn (Rd ro) n P ops Q (os++rest) a w:=by
  intro os;induction os with
  |nil=>intro rest a w _ h;exact h
  |cons o r f=>
   intro rest a w aK h
   have c:=aK
   simp only[qB,bC]at c
   simp only[wpList]at h
   simp only[jf,wpListIn]
   split
   ·rename_i d
    rw[if_pos d]at h
    rcases h with h |⟨_,j,w',h⟩
    ·have g:=XJ (ro:=ro) (n:=n) (Pl aK o (by simp)) (Oper.wp_mono (λ a w h=>f rest a w c.2 h) h)
     refine⟨g.1,?_⟩
     have J:=g.2
     revert J
     generalize(o.semAt (Rd ro).round a.eval).run P w=i
     intro J
     cases i with
     |ok x w'=>
      cases x<;>simp only[Oper.uponIn]at J⊢ <;>first
       |exact J
       |exact⟨J.1,CallsIn.mono J.2 (λ e w'' b=>by cases e<;>first |exact b |exact absurd b (by simp[Exit.then,LetsOut]))⟩
       |exact⟨J.1,RoundIn.mono J.2 (λ e w'' b=>by cases e<;>first |exact b |exact absurd b (by simp[Exit.then,LetsOut]))⟩
     |halt x w'=>cases x<;>simp only[Oper.uponIn]at J⊢ <;>first |exact J |exact absurd J (by simp[Exit.then])
    ·exact absurd h (by simp[Exit.then])
   ·rename_i d
    rw[if_neg d]at h
    exact⟨λ _ _=>trivial,f rest _ _ c.2 h⟩
 have:=key (lo.take k) (lo.drop k) a w aK h;rwa [jd]at this
theorem aDa(c:∀a w,¬Q .outgrown a w)(aK:qB ops.toList=true){i:Nat}(h:wpOp P ops Q i K a w):wpOpIn (Rd ro) n P ops Q i K a w:=by
 unfold wpOp at h;unfold wpOpIn;split
 ·rename_i d
  rw[d]at h
  exact h
 ·rename_i o ap
  rw[ap]at h
  have e:o∈ops.toList:=by
   have:=bB (l:=ops.toList) (i:=i) (a:=o) (by rw[gS];exact ap);exact this
  simp only at h
  split
  ·rename_i b
   rw[if_pos b]at h
   rcases h with h |⟨_,f,w',h⟩
   ·exact XJ (Pl aK o e) h
   ·exact absurd h (c _ _)
  ·rename_i b
   rw[if_neg b]at h
   exact⟨λ _ _=>trivial,h⟩
theorem acB(b:∀a w,¬Q .outgrown a w)(aK:qB ops.toList=true):∀ {f:Nat}{ls:Array Bool}{a:Act}{w:World},wpAny P .any ops Q f ls a w->wpAnyIn (Rd ro) n P .any ops Q f ls a w
 |0,_,_,_,h=>h
 |f+1,ls,a,w,h=>⟨h.1,λ i hi=>aDa b aK (wpOp_mono (λ a w h=>acB b aK h) (h.2 i hi))⟩
end
def gv(ro:Option Nat)(n:Nat)(P:Program)(c:Code)(Q:Exit->Act->World->Prop)(a:Act)(w:World):Prop:=(∀a w,¬Q .outgrown a w)->c.wpIn (Rd ro) n P Q a w
section
variable{P:Program}{Q:Exit->Act->World->Prop}{a:Act}{w:World}{ro:Option Nat}{n:Nat}
theorem QH(h:Q .normal a w):gv ro n P .skip Q a w:=λ _=>wpIn_skip h
theorem aag{id:Nat}(h:Q (.exit id) a w):gv ro n P (.exit id) Q a w:=λ _=>wpIn_exit h
theorem nc{x y:Code}(h:∀K:Act->World->Prop,(∀a w,gv ro n P y Q a w->K a w)->gv ro n P x (Exit.then K Q) a w):gv ro n P (.seq x y) Q a w:=
 λ b=>wpIn_seq (h _ (λ _ _ h=>h b) b)
theorem aaf{c:Operand}{x y:Code}{t:Bool}(hc:a.eval c= .bool t)(d:t=true->gv ro n P x Q a w)(ad:t=false->gv ro n P y Q a w):gv ro n P (.cond c x y) Q a w:=
 λ b=>wpIn_cond_split hc (λ e=>d e b) (λ e=>ad e b)
theorem aHV{c:Operand}{x y:Code}{b:Bool}(hc:a.eval c= .bool b)(af:b=false)(h:gv ro n P y Q a w):gv ro n P (.cond c x y) Q a w:=λ d=>wpIn_cond_false (by rw[hc,af]) (h d)
theorem aad{id:Nat}{c:Code}(h:gv ro n P c (Exit.inBlock id Q) a w):gv ro n P (.block id c) Q a w:=λ b=>wpIn_block (h b)
theorem aae{id:Nat}{c:Code}(b:Act->World->Prop)(d:∀K:Act->World->Prop,(∀a w,b a w->K a w)->gv ro n P c (Exit.inBlock id (Exit.then K Q)) a w)(hy:∀a w,b a w->Q .normal a w):gv ro n P (.block id c) Q a w:=by
 intro f;refine wpIn_block (wpIn_mono (d _ hy f) ?_);intro e a w h;cases e with
 |exit i=>
  by_cases hi:i=id
  ·simpa[Exit.inBlock,Exit.then,hi]using h
  ·simpa[Exit.inBlock,Exit.then,hi]using h
 |_=>exact h
theorem alp{c:Code}(b:Nat->Act->World->Prop)(k:Nat)(h:b k a w)(f:∀a w,¬b 0 a w)
 (round:∀k a w,b (k+1) a w-> ∀K:Act->World->Prop,(∀a w,b k a w->K a w)->gv ro n P c (Exit.then K Q) a w):gv ro n P (.loop c) Q a w:=by
 intro g
 refine wpIn_loop (λ a w=>∃n,b n a w) (λ a w=>leastOf (λ n=>b n a w)) ⟨k,h⟩ ?_
 intro a w i
 have d:=(leastOf_spec i).1
 cases e:leastOf (λ n=>b n a w)with
 |zero=>rw[e]at d;exact absurd d (f a w)
 |succ m=>
  rw[e]at d
  exact round m a w d _ (λ j w' h'=>⟨⟨m,h'⟩,Nat.lt_succ_of_le ((leastOf_spec ⟨m,h'⟩).2 m h')⟩) g
theorem pA{id:Nat}{l:List Oper}(aK:qB l=true)(h:wpList P l.toArray Q l a w):gv ro n P (.region id l.toArray false) Q a w:=λ b=>wpIn_region_lit (OO b aK h)
theorem alo{id m:Nat}{lo:List Oper}(p:Nat)(S:World->World->Prop)(c:P.follows .mixedOrders=true)(b:bP lo.length m=true)(aK:qB lo=true)(h:∀w',bj [] w w'->fi P lo.toArray Q p (S w') m [] a w'):gv ro n P (.region id lo.toArray true) Q a w:=by
 have b:=a_ b;subst b;intro d;exact wpIn_mono (Q:=NoPanic Q) (wpIn_region_any c (acB (Q:=NoPanic Q) (λ a w=>d a w) aK (h _ (bj.drew [] w)).wpAny)) NoPanic.imp
theorem aHW{id:Nat}{l:List Oper}(h:(∀a w,¬Q .outgrown a w)->wpListIn (Rd ro) n P l.toArray Q l a w):gv ro n P (.region id l.toArray false) Q a w:=λ b=>wpIn_region_lit (h b)
end
def a7.obj(g:Nat)(o:Obj):a7 where
 bz:=[g]
 ok w:=w.heap[g]? =some o
 law w w' h a:=(h g (by simp)).trans a
section
variable{W w:World}{M0 X:List Nat}{E:List a7}{D:List bA}
theorem avD(w:World)(g:Nat)(o:Obj):bj [g] w (w.putObj g o):=
 ⟨rfl,rfl,rfl,by simp,λ k _ a=>World.putObj_heap_other (by simpa using a)⟩
theorem bs.putObj{g:Nat}{o:Obj}(b:bs W M0 X w E D)(i:Nat)(hi:E[i]? =some (a7.obj g o))(a:Obj):bs W M0 X (w.putObj g a) (E.set i (a7.obj g a)) D:=
 b.Qt i hi (avD w g a) (by
  have h:w.heap[g]? =some o:=b.e i hi;exact World.putObj_heap_same (ft.1 h).1) (by simp[a7.obj]) (λ k c=>.inl c)
theorem bs.newObj(b:bs W M0 X w E D)(o:Obj):bs W M0 X (w.alloc o) (a7.obj w.heap.size o::E) D:=
 b.push _ (bj.alloc _ _ _) (World.alloc_heap_new w o) (λ k a=>by simp[a7.obj]at a;subst a;exact⟨cu _,by simp⟩) (by simp[a7.obj])
end
def mark(r:Nat):Deferred:={ target:=.collected r,args:=#[] }
theorem ad_{P:Program}{f:FuncId}{fn:Func}{c:Code}{vs:List Value}{w:World}{R:Ending->World->Prop}{n:Nat}
 (ad:P.funcs[f]? =some fn)(af:fn.body=some c)(b:fn.ntmps=n)(d:iI vs.length n=true)
 (h:∀a,Fr ⟨n,[]⟩ (tz 0 vs) a->c.wp P (bodyPostM Fence.wide 0 P fn R) a w):Calls P f vs.toArray w R:=by
 refine(callsIn_wide (n:=0)).1 (callsIn_of_wp_marks ad af trivial (wpIn_wide.2 ?_))
 rw[b]
 exact h _ (Fr.init vs n d)
section
variable{P:Program}{a:Act}{w:World}{W:World}{M0 X:List Nat}{E:List a7}{D:List bA}{fn:Func}{R:Ending->World->Prop}{l:List (Nat×Value)}{n g t u:Nat}{v fa:Value}
theorem ahX(i:Nat)(ad:Fr ⟨n,[mark g]⟩ l a)(b:bs W M0 X w E D)(hi:E[i]? =some (a7.obj g (.deferred (some []))))(h:∀w',bs W M0 X w' (E.set i (a7.obj g (.deferred none))) D-> ∃v,(results fn a.tmps).run P w'= .ok v w'/\R (.returned v) w') :
 bodyPostM Fence.wide 0 P fn R .ret a w:=by
 show LeavesInM Fence.wide 0 P fn a.tmps R a.defers .returning w
 rw[ad.defers]
 exact⟨by simp,.inl ⟨g,_,rfl,run_takeDeferred (b.e i hi),h _ (b.putObj i hi _)⟩⟩
theorem aBT(i:Nat)(b:fn.results= #[.tmp t])(ad:Fr ⟨n,[mark g]⟩ l a)(c:bs W M0 X w E D)(hi:E[i]? =some (a7.obj g (.deferred (some []))))(d:eb l t=some v)
 (h:∀w',bs W M0 X w' (E.set i (a7.obj g (.deferred none))) D->R (.returned v) w'):bodyPostM Fence.wide 0 P fn R .ret a w:=
 ahX i ad c hi λ w' e=>⟨_,results_tmp b _ _ _,by rw[ad.get _ _ d];exact h w' e⟩
theorem aBU(i:Nat)(b:fn.results= #[.tmp t,.tmp u])(ad:Fr ⟨n,[mark g]⟩ l a)(c:bs W M0 X w E D)(hi:E[i]? =some (a7.obj g (.deferred (some []))))(d:eb l t=some v)(e:eb l u=some fa)
 (h:∀w',bs W M0 X w' (E.set i (a7.obj g (.deferred none))) D->R (.returned (.tuple #[v,fa])) w'):bodyPostM Fence.wide 0 P fn R .ret a w:=
 ahX i ad c hi λ w' f=>⟨_,results_tmp2 b _ _ _,by rw[ad.get _ _ d,ad.get _ _ e];exact h w' f⟩
end
theorem auT{P:Program}{f:FuncId}{fn:Func}{c:Code}{vs:List Value}{w:World}{R:Ending->World->Prop}{n:Nat}
 (ad:P.funcs[f]? =some fn)(af:fn.body=some c)(b:fn.ntmps=n)(d:iI vs.length n=true)(e:∀w,¬R .outgrown w)
 (h:∀a,Fr ⟨n,[]⟩ (tz 0 vs) a->gv none 1 P c (bodyPost P fn R) a w):CallsIn (Rd none) 1 P f vs.toArray w R:=by
 refine callsIn_of_wp ad af trivial ?_
 rw[b]
 exact h _ (Fr.init vs n d) (λ a w h=>e w h)
theorem asr{P:Program}{fn:Func}{R:Ending->World->Prop}{a:Act}{w:World}(h:bodyPost P fn R .ret a w):bodyPost P fn R .normal a w:=h
theorem ak8{n:Nat}(h:n<=maxLen):I.ar ((n:Int)-1)=(n:Int)-1:=by
 unfold I.ar;simp only[maxLen]at h;omega
theorem azf{a pre rem:List Int}{x:Int}(h:a=(x::rem).reverse++pre):I.idx a (rem.length:Int)=some x:=by
 subst h;unfold I.idx;rw[if_pos (by omega)];simp
def acg(P:Program)(f:FuncId):Prop:=∀(a:List Int->World->Prop)(b:List Int)(A:Option Addr)(c fm L:Nat)(w0:World),
 (∀rem w,a rem w-> ∃W M0 X E,bs W M0 X w E [bA.i_ fm [.slice A b.length c],bA.of (bY (e9 .i64)) [.slice A b.length c] b]) ->
 (∀x rem w,a (x::rem) w->YieldAt (Rd none) 0 P L #[.int .i64 (rem.length:Int),.int .i64 x] w (λ e w'=>e= .returned (.bool true)/\a rem w')) ->
 a b.reverse w0->CallsIn (Rd none) 1 P f #[.func (.yield L) #[] #[],.pointer (some ⟨fm,0,none⟩)] w0 (λ e w'=>(∃v,e= .returned v)/\a [] w')
section
variable{P:Program}{ops:Array Oper}{Q:Exit->Act->World->Prop}{a:Act}{w:World}{rest:List Oper}{o:Oper}{n:ct}{d L:Nat}{l:List (Nat×Value)}
theorem aGy{b:Operand}{xs:List Operand}{c:Array TypeId}{vs:List Value}(ap:o.op= .call { callee:=.value b,args:=xs.toArray,argTypes:=c })(e:a.eval b= .func (.yield L) #[] #[])(f:zc a xs vs) :
 (execOp a.eval o).run P w=(Instr.yield L vs.toArray).run P w:=by
 have g:=Nd f
 simp only[execOp,ap,resolve,gJ,g,e]
 simp[Deferred.ofValue,invoke]
theorem aLk{b:Operand}{xs:List Operand}{f:Array TypeId}{vs:List Value}{R:Ending->World->Prop}(g:Region.wanted o (yielded ops a.tmps)=true)(ap:o.op= .call { callee:=.value b,args:=xs.toArray,argTypes:=f })
 (h:a.eval b= .func (.yield L) #[] #[])(i:zc a xs vs)(hy:YieldAt (Rd none) 0 P L vs.toArray w R)(ad:Fr n l a)(aK:o.dst=some d)(j:ee d n=true)
 (k:∀e w',R e w'-> ∃v,e= .returned v/\ ∀c,Fr n ((d,v)::l) c->wpListIn (Rd none) 1 P ops Q rest c w'):wpListIn (Rd none) 1 P ops Q (o::rest) a w:=by
 refine wpListIn_step λ K m=>?_
 rw[if_pos g]
 refine⟨λ _ _=>trivial,?_⟩
 obtain⟨fn,tmps,assign,body,p,J⟩:=hy
 rw[Oper.semAt_eq _ _ _ (by rw[ap];simp),aGy ap h i,p]
 refine⟨Zd,RoundIn.mono J ?_⟩
 intro e w' q
 obtain⟨v,rfl,r⟩:=k e w' q
 rw[aK]
 exact m _ _ (r _ (ad.put j))
end
section
variable{P:Program}{Q:Exit->Act->World->Prop}{a:Act}{w:World}{W:World}{M0 X:List Nat}{E:List a7}{D:List bA}
theorem ac4{β:Type}{p r f j n fm c:Nat}{A:Option Addr}{l:List (Nat×Value)}{l1:Int->Int->List (Nat×Value)}{assign body:Code}(q:β->List a7)(k:β->List bA)(d:List Int->β->Prop)(s:List Int)(b0:β)(Z bx:Nat)
 (tR:acg P p)(MY:∀args w,(callFunc p args).run P w= .ok (.enter p args) w)
 (ad:Fr ⟨n,[]⟩ l a)(au:eb l r=some (.func (.func p) #[] #[.pointer (some ⟨fm,0,none⟩)]))(VR:ee f n=true)(F:ee j n=true)
 (hm:bs W M0 X w (q b0) (k b0))(aI:d s.reverse b0)
 (kF:∀b,(k b)[Z]? =some (bA.i_ fm [.slice A s.length c]))(wQ:∀b,(k b)[bx]? =some (bA.of (bY (e9 .i64)) [.slice A s.length c] s))
 (ax:∀L i x w m (K:Act->World->Prop),Fr ⟨n,[]⟩ ((j,.int .i64 x)::(f,.int .i64 i)::l) m->(∀Cr,Fr ⟨n,[]⟩ (l1 i x) Cr->K Cr w)->gv (some L) 0 P assign (Exit.then K (λ _ _ _=>False)) m w)
 (af:∀L g R S T b i x rem w m (K:Exit->Act->World->Prop),d (x::rem) b->Fr ⟨n,[]⟩ (l1 i x) m->bs W M0 X w (a7.obj g R::a7.obj S T::q b) (k b) ->
  (∀t Cr w',d rem t->bs W M0 X w' (a7.obj g R::a7.obj S T::q t) (k t)->K .normal Cr w')->gv (some L) 0 P body K m w)
 (G:∀g b m w',d [] b->Fr ⟨n,[mark g]⟩ l m->bs W M0 X w' (a7.obj g (.deferred (some []))::q b) (k b)->Q .normal m w') :
 (Code.rangeFunc (.tmp r) #[f,j] assign body).wp P Q a w:=by
 refine(wpIn_wide (n:=2)).1 (wpIn_rangeFunc λ fn _=>?_)
 obtain⟨rec,o⟩:∃rec:LoopState->Loop,rec=λ hd=>{ state:=hd,pending:=none,fn,tmps:=a.tmps,params:=#[f,j],assign,body,defers:=w.heap.size }:=⟨_,rfl⟩
 obtain⟨Cp,u⟩:∃Cp,(w.alloc (.deferred (some []))).alloc (.loop (rec .ready))=Cp:=⟨_,rfl⟩
 have H:bs W M0 X Cp (a7.obj (w.heap.size+1) (.loop (rec .ready))::a7.obj w.heap.size (.deferred (some []))::q b0) (k b0):=by
  have:=(hm.newObj (.deferred (some []))).newObj (.loop (rec .ready));rw[u]at this;simpa using this
 refine⟨w.heap.size+1,[mark w.heap.size],Cp,{ target:=.fn (.func p) #[.pointer (some ⟨fm,0,none⟩)],args:=#[.func (.yield (w.heap.size+1)) #[] #[]] },Cp,p,
  #[.func (.yield (w.heap.size+1)) #[] #[],.pointer (some ⟨fm,0,none⟩)],Cp,?_,?_,λ _ _=>trivial,?_,λ _=>by decide,?_⟩
 ·rw[<-u,o];exact run_enterLoop_outer _ _ _ _ _
 ·have I':=ad.g au
  simp only[resolve,I']
  simp[go_sem]
 ·simp[invoke,go_sem,MY]
 ·refine CallsIn.mono (tR (λ rem w'=>∃b,d rem b/\bs W M0 X w' (a7.obj (w.heap.size+1) (.loop (rec .ready))::a7.obj w.heap.size (.deferred (some []))::q b) (k b)) s A c fm (w.heap.size+1) Cp ?_ ?_ ⟨b0,aI,H⟩) ?_
  ·rintro rem w' ⟨b,_,C⟩
   exact⟨_,_,_,_,C.less λ y hy=>by
    simp only[cm,hR,or_false]at hy;rcases hy with rfl |rfl
    ·exact bB (kF b)
    ·exact bB (wQ b)⟩
  ·rintro x rem w' ⟨b,I,C⟩
   have U:w'.heap[w.heap.size+1]? =some (.loop (rec .ready)):=C.e 0 rfl
   have hy:=run_yield (P:=P) (args:=#[.int .i64 (rem.length:Int),.int .i64 x]) U (by rw[o];rfl)
   rw[o]at hy
   refine⟨fn,_,assign,body,hy,roundIn_of_wpIn trivial ?_⟩
   have J:Fr ⟨n,[]⟩ ((j,.int .i64 x)::(f,.int .i64 (rem.length:Int))::l) ⟨((#[f,j]:Array Tmp).zip #[Value.int .i64 (rem.length:Int),.int .i64 x]).foldl (λ tmps (x:Tmp×Value)=>tmps.setIfInBounds x.1 x.2) a.tmps,[]⟩:=by
    have V:=(ad.put (v:=.int .i64 (rem.length:Int)) VR).put (v:=.int .i64 x) F;have e:((#[f,j]:Array Tmp).zip #[Value.int .i64 (rem.length:Int),.int .i64 x]).foldl (λ tmps (x:Tmp×Value)=>tmps.setIfInBounds x.1 x.2) a.tmps=((a.put (some f) (.int .i64 (rem.length:Int))).put (some j) (.int .i64 x)).tmps:=by simp[Act.put]
    refine⟨?_,rfl,?_⟩
    ·simp only[e];exact V.size
    ·simp only[e];exact V.get
   refine ax (w.heap.size+1) _ _ w' _ _ J ?_ (λ a w h=>h)
   intro Cr M
   have zt:=C.putObj 0 rfl (.loop { rec .ready with state:=.busy })
   refine⟨_,run_beginRound U (by rw[o]),?_⟩
   refine af (w.heap.size+1) _ _ _ _ b _ x rem _ Cr _ I M zt ?_ (λ a w h=>h)
   intro t a3 N lY z
   have O:N.heap[w.heap.size+1]? =some (.loop { rec .ready with state:=.busy }):=z.e 0 rfl
   refine⟨_,_,run_endRound none O,rfl,t,lY,?_⟩
   have B:=z.putObj 0 rfl (.loop (rec .ready))
   rw[o]at B⊢
   exact B
  ·rintro e N ⟨⟨v,rfl⟩,b,I,z⟩
   have O:N.heap[w.heap.size+1]? =some (.loop (rec .ready)):=z.e 0 rfl
   have Y:=run_endLoop (P:=P) O (by rw[o];simp)
   rw[o]at Y
   refine⟨none,_,Y,?_⟩
   have B:=z.putObj 0 rfl (.loop { rec .ready with state:=.exhausted })
   rw[o]at B
   refine G w.heap.size b _ _ I ⟨ad.size,?_,ad.get⟩ (B.drop (List.sublist_cons_self _ _))
   show[mark w.heap.size]++a.defers=[mark w.heap.size]
   rw[ad.defers];rfl
end
end aq
namespace aq
open Go Go.RowKit I
def bA.aHd:bA:=⟨λ _ _=>True,λ _ _ _ _ _ _ _=>trivial⟩
def bA.aiH{α:Type}(o:Option α)(f:α->bA):bA:=match o with
 |none=>bA.aHd
 |some x=>f x
section
variable{P:Program}{ops:Array Oper}{Q:Exit->Act->World->Prop}{a:Act}{w:World}{rest:List Oper}{o:Oper}{n:ct}{d:Nat}{l:List (Nat×Value)}
 {W:World}{M0 X:List Nat}{E:List a7}{D:List bA}
theorem bs.none(h:bs W M0 X w E D){α:Type}(f:α->bA):bs W M0 X w E (bA.aiH (Option.none:Option α) f::D):=h.more (y:=bA.aiH (Option.none:Option α) f) trivial
theorem aKY{t e:TypeId}{sz:Nat}{x:Operand}{lo hi:Option Operand}(b:P.underlying t=some (.slice e))(aj:∀w,(Go.sizeOf e).run P w= .ok sz w)(ap:o.op= .slice t x lo hi none)(c:a.eval x= .slice none 0 0)
 (f:(lo=none/\(0 :Int)=0)\/ ∃z,lo=some z/\a.eval z= .int .i64 0)(kD:(hi=none/\(0 :Int)=(0 :Nat))\/ ∃z,hi=some z/\a.eval z= .int .i64 0):bc P o a w (.slice none 0 0) w:=by
 have h:=RB (P:=P) (w:=w) b aj ap c f kD (i:=0) (j:=0) ⟨kj _,kj _,by omega⟩ (cu 0)
 simpa using h
theorem aKX{t e:TypeId}{A:Option Addr}{m c:Nat}{x:Operand}(b:P.underlying t=some (.slice e))(ap:o.op= .call { callee:=.builtin .cap,args:=#[x],argTypes:=#[t] })(f:a.eval x= .slice A m c):bc P o a w (.int .i64 c) w:=by
 simp[bc,execOp,ap,resolve,invoke,builtin,Builtin.cap_,f,run_underlying b,goInt]
theorem aLi{t t':TypeId}{x y:Operand}{k:IntKind}{m:Int}{n:Nat}(c:iI n 64=true)(ap:o.op= .binOp .shr t x y t')(e:a.eval x= .int .u64 m)(hy:a.eval y= .int k (n:Int)):bc P o a w (.int .u64 (xM m n)) w:=by
 have b:=ck c;unfold xM;simp only[bc,execOp,ap,e,hy];simp[go_sem,b]
end
end aq
namespace aq
open Go Go.RowKit I
section
variable{P:Program}{W w w':World}{M0 X:List Nat}{E:List a7}{D:List bA}{n:ct}{l:List (Nat×Value)}{a:Act}{o:Oper}{ops:Array Oper}{rest:List Oper}{Q:Exit->Act->World->Prop}{d:Nat}
theorem aGu{A:Option Addr}{m c sz:Nat}{t e:TypeId}{j:Int}(b:P.underlying t=some (.slice e))(aj:∀w,(Go.sizeOf e).run P w= .ok sz w)(h:0<=j/\j<=c) :
 (Instr.slice t (.slice A m c) none (some (.int .i64 j)) (some (.int .i64 j))).run P w= .ok (.slice (if j.toNat=0 then A else A.map (·.add (0*sz))) j.toNat j.toNat) w:=by
 have bO:∀code,(Instr.sliceBound (.int .i64 j) c code).run P w= .ok j.toNat w:=λ code=>AC rfl (by omega)
 have f:∀code,(Instr.sliceBound (.int .i64 j) j.toNat code).run P w= .ok j.toNat w:=λ code=>AC rfl (by omega)
 have af:(Instr.sliceBounds true m c none (some (.int .i64 j)) (some (.int .i64 j))).run P w= .ok (0,j.toNat,j.toNat) w:=by
  simp[Instr.sliceBounds,bO,f]
 simp[Instr.slice,run_underlying b,af,aj]
end
end aq
namespace Go.Value
abbrev q{α:Type}(A:Option Addr)(c:Nat)(l:List α):Value:=.slice A l.length c
end Go.Value
namespace aq
open Go Go.RowKit I
abbrev iC:=Option Addr
abbrev oM:=List Value
abbrev EZ:=List Int
theorem wn{ops:Array Oper}{a:Act}{o:Oper}(b:o.guard=none:=by rfl):Region.wanted o (yielded ops a.tmps)=true:=QB b
section
variable{W w:World}{M0 X:List Nat}{E lJ:List a7}{D gu:List bA}{n:ct}{l l' new fr gg:List (Nat×Value)}{a:Act}
theorem Fr.cut(ad:Fr n l a)(h:Fx l (l'.map (·.1))=some l':=by kernel_rfl):Fr n l' a:=ad.sub (S0 h)
def G4(D:List bA):List Nat->Option (List bA)
 |[]=>some []
 |i::r=>match nth D i,G4 D r with
  |some y,some ys=>some (y::ys)
  |_,_=>none
theorem akg:∀ {is:List Nat}{gu:List bA},G4 D is=some gu->PB D gu
 |[],gu,h=>by simp only[G4,aD]at h;subst h;trivial
 |i::r,gu,h=>by
  simp only[G4]at h;split at h
  ·rename_i y ys b J
   simp only[aD]at h
   subst h
   exact⟨⟨i,by rw[<-cW];exact b⟩,akg J⟩
  ·cases h
theorem bs.hS(h:bs W M0 X w E D)(is:List Nat)(e:G4 D is=some gu:=by kernel_rfl):bs W M0 X w E gu:=h.pick (akg e)
theorem bs.uK(h:bs W M0 X w E D)(dR is:List Nat)(e1:Kd dR=true:=by kernel_rfl)(e2:G5 E dR=some lJ:=by kernel_rfl)(e:G4 D is=some gu:=by kernel_rfl):bs W M0 X w lJ gu:=(h.sel dR e1 e2).hS is e
theorem oi{α:Type}{a b:α}(h:some a=some b):a=b:=dT h
theorem os{α:Type}{a b:α}(h:some a=some b):b=a:=(dT h).symm
def pY:List (Nat×Value)->List (Nat×Value)->List (Nat×Value)
 |[],r=>r
 |x::l,r=>x::pY l r
def wz:List (Nat×Value)->Nat->Bool
 |[],_=>false
 |p::r,j=>bP p.1 j||wz r j
def Kn:List (Nat×Value)->List (Nat×Value)->List (Nat×Value)
 |_,[]=>[]
 |new,p::r=>match wz new p.1 with
  |true=>Kn new r
  |false=>p::Kn (p::new) r
def nL(new fr:List (Nat×Value)):List (Nat×Value):=pY new (Kn new fr)
theorem ahT{t:Nat}{r:List (Nat×Value)}:∀ {l:List (Nat×Value)},eb (pY l r) t=cond (wz l t) (eb l t) (eb r t)
 |[]=>by simp[pY,wz]
 |p::l=>by
  simp only[pY,eb,wz];cases bP p.1 t with
  |true=>simp
  |false=>simp only[hX];exact ahT
theorem W3{t:Nat}:∀ {r new:List (Nat×Value)},wz new t=false->eb (Kn new r) t=eb r t
 |[],_,_=>rfl
 |p::r,new,h=>by
  simp only[Kn,eb];cases af:bP p.1 t with
  |true=>
   have:p.1=t:=a_ af
   rw[this,h]
   simp only[eb,this,Nat.beq_refl]
  |false=>
   cases wz new p.1 with
   |true=>simp only;exact W3 h
   |false=>simp only[eb,af];exact W3 (by simp only[wz,af,hX];exact h)
theorem Fr.MV(ad:Fr n (nL new fr) a):Fr n (pY new fr) a:=⟨ad.size,ad.defers,λ t v b=>ad.get t v (by
 unfold nL;rw[ahT]at b⊢;cases c:wz new t with
 |true=>rw[c]at b;exact b
 |false=>rw[c]at b;rw[W3 c];exact b)⟩
def Nc(G:mu)(ops:Array Oper)(n:Nat)(M:List (Nat×Nat×List Value))(is aj:List Nat)(fr:List (Nat×Value))(eQ:List Nat):Option (List (Nat×Value)×List (Nat×Nat)):=
 match D0 ops.toList is with
 |some os=>mE G ops n M os aj fr eQ
 |none=>none
theorem avE{G:mu}{ops:Array Oper}{n:Nat}{M:List (Nat×Nat×List Value)}{is aj:List Nat}{fr:List (Nat×Value)}{eQ:List Nat}{r:List (Nat×Value)×List (Nat×Nat)}(h:Nc G ops n M is aj fr eQ=some r):∃os,D0 ops.toList is=some os/\mE G ops n M os aj fr eQ=some r:=by
 unfold Nc at h;split at h
 ·rename_i os b;exact⟨os,b,h⟩
 ·cases h
end
end aq
namespace I
structure Kind where
 Kind:Int
 ak:List UInt8
 deriving DecidableEq
structure Handler where
 From:Int
 To:Int
 At:Int
 ak:List UInt8
 deriving DecidableEq
structure Method where
 Name:List UInt8
 Static:Bool
 cr:List Kind
 Returns:Kind
 hJ:Int
 hG:Int
 Code:List UInt8
 cy:List Handler
structure Field where
 Name:List UInt8
 Kind:Kind
 deriving DecidableEq
structure ak where
 Name:List UInt8
 cR:List UInt8
 Fields:List Field
 bf:List Method
structure Target where
 ak:Int
 Method:Int
 deriving DecidableEq
structure aP where
 aY:List ak
 aW:List Int
 Fields:List (List Field)
 Names:List (List (List UInt8))
 aX:List (List Target)
structure bp where
 l:List ak
 bV:List ((List UInt8)×Int)
 dl:List Int
structure aR where
 Words:List Int
 av:Int
 aL:Int
 aU:Int
 aT:Int
 aS:List Int
 Next:Int
structure b4 where
 K:aP
structure bg where
 H:aR
 S:b4
 av:List Int
 aL:List Int
 dz:List (Int×Bool)
end I
namespace I
open Go
def Ea:aq.cY Kind where
 size:=2
 rd _ _ cs d:=cs=[.int .i64 d.Kind,aq.cj d.ak]
 len h:=by subst h;rfl
 one h v a:=by subst h;simp only[cm,hR,or_false]at a;rcases a with rfl |rfl<;>rfl
 law _ h:=h
def D':aq.cY Handler where
 size:=4
 rd _ _ cs d:=cs=[.int .i64 d.From,.int .i64 d.To,.int .i64 d.At,aq.cj d.ak]
 len h:=by subst h;rfl
 one h v a:=by subst h;simp only[cm,hR,or_false]at a;rcases a with rfl |rfl |rfl |rfl<;>rfl
 law _ h:=h
def qQ:aq.cY Method where
 size:=9
 rd F w cs d:=∃a c1 b c2,cs=[aq.cj d.Name,.bool d.Static,.slice a d.cr.length c1,.int .i64 d.Returns.Kind,aq.cj d.Returns.ak,.int .i64 d.hJ,.int .i64 d.hG,aq.cj d.Code,.slice b d.cy.length c2]/\(aq.bY I.Ea).rd F w [.slice a d.cr.length c1] d.cr/\(aq.bY I.D').rd F w [.slice b d.cy.length c2] d.cy
 len h:=by obtain⟨a,c1,b,c2,c,_⟩:=h;subst c;rfl
 one h v e:=by obtain⟨a,c1,b,c2,c,_⟩:=h;subst c;simp only[cm,hR,or_false]at e;rcases e with rfl |rfl |rfl |rfl |rfl |rfl |rfl |rfl |rfl<;>rfl
 law f h:=by obtain⟨a,c1,b,c2,c,g,J⟩:=h;exact⟨a,c1,b,c2,c,(aq.bY I.Ea).law f g,(aq.bY I.D').law f J⟩
def jo:aq.cY Field where
 size:=3
 rd _ _ cs d:=cs=[aq.cj d.Name,.int .i64 d.Kind.Kind,aq.cj d.Kind.ak]
 len h:=by subst h;rfl
 one h v a:=by subst h;simp only[cm,hR,or_false]at a;rcases a with rfl |rfl |rfl<;>rfl
 law _ h:=h
def kn:aq.cY ak where
 size:=4
 rd F w cs d:=∃a c1 b c2,cs=[aq.cj d.Name,aq.cj d.cR,.slice a d.Fields.length c1,.slice b d.bf.length c2]/\(aq.bY I.jo).rd F w [.slice a d.Fields.length c1] d.Fields/\(aq.bY I.qQ).rd F w [.slice b d.bf.length c2] d.bf
 len h:=by obtain⟨a,c1,b,c2,c,_⟩:=h;subst c;rfl
 one h v e:=by obtain⟨a,c1,b,c2,c,_⟩:=h;subst c;simp only[cm,hR,or_false]at e;rcases e with rfl |rfl |rfl |rfl<;>rfl
 law f h:=by obtain⟨a,c1,b,c2,c,g,J⟩:=h;exact⟨a,c1,b,c2,c,(aq.bY I.jo).law f g,(aq.bY I.qQ).law f J⟩
def ko:aq.cY Target where
 size:=2
 rd _ _ cs d:=cs=[.int .i64 d.ak,.int .i64 d.Method]
 len h:=by subst h;rfl
 one h v a:=by subst h;simp only[cm,hR,or_false]at a;rcases a with rfl |rfl<;>rfl
 law _ h:=h
def aHj:aq.cY aP where
 size:=5
 rd F w cs d:=∃a c1 b c2 c c3 e c4 f c5,cs=[.slice a d.aY.length c1,.slice b d.aW.length c2,.slice c d.Fields.length c3,.slice e d.Names.length c4,.slice f d.aX.length c5]/\(aq.bY I.kn).rd F w [.slice a d.aY.length c1] d.aY/\(aq.bY (aq.e9 .i64)).rd F w [.slice b d.aW.length c2] d.aW/\(aq.bY (aq.bY I.jo)).rd F w [.slice c d.Fields.length c3] d.Fields/\(aq.bY (aq.bY aq.jn)).rd F w [.slice e d.Names.length c4] d.Names/\(aq.bY (aq.bY I.ko)).rd F w [.slice f d.aX.length c5] d.aX
 len h:=by obtain⟨a,c1,b,c2,c,c3,e,c4,f,c5,g,_⟩:=h;subst g;rfl
 one h v j:=by obtain⟨a,c1,b,c2,c,c3,e,c4,f,c5,g,_⟩:=h;subst g;simp only[cm,hR,or_false]at j;rcases j with rfl |rfl |rfl |rfl |rfl<;>rfl
 law i h:=by obtain⟨a,c1,b,c2,c,c3,e,c4,f,c5,g,k,J,l,m,n⟩:=h;exact⟨a,c1,b,c2,c,c3,e,c4,f,c5,g,(aq.bY I.kn).law i k,(aq.bY (aq.e9 .i64)).law i J,(aq.bY (aq.bY I.jo)).law i l,(aq.bY (aq.bY aq.jn)).law i m,(aq.bY (aq.bY I.ko)).law i n⟩
def aHi:aq.cY aR where
 size:=7
 rd F w cs d:=∃a c1 b c2,cs=[.slice a d.Words.length c1,.int .i64 d.av,.int .i64 d.aL,.int .i64 d.aU,.int .i64 d.aT,.slice b d.aS.length c2,.int .i64 d.Next]/\(aq.bY (aq.e9 .i64)).rd F w [.slice a d.Words.length c1] d.Words/\(aq.bY (aq.e9 .i64)).rd F w [.slice b d.aS.length c2] d.aS
 len h:=by obtain⟨a,c1,b,c2,c,_⟩:=h;subst c;rfl
 one h v e:=by obtain⟨a,c1,b,c2,c,_⟩:=h;subst c;simp only[cm,hR,or_false]at e;rcases e with rfl |rfl |rfl |rfl |rfl |rfl |rfl<;>rfl
 law f h:=by obtain⟨a,c1,b,c2,c,g,J⟩:=h;exact⟨a,c1,b,c2,c,(aq.bY (aq.e9 .i64)).law f g,(aq.bY (aq.e9 .i64)).law f J⟩
end I
namespace Go.Value
abbrev c0(g:Nat):Value:=.pointer (some ⟨g,0,none⟩)
abbrev i(n:Int):Value:=.int .i64 n
end Go.Value
namespace Go.Proofs.YteeliipnilghaaaGreat
open Go Go.RowKit
abbrev ch{α:Type}(T:aq.cY α)(A:Option Addr)(c:Nat)(l:List α):aq.bA:=aq.bA.of (aq.bY T) [.slice A l.length c] l
def rN:aq.mu:=⟨[(3,.i .i64),(4,.b),(5,.i .u8),(9,.s),(22,.ch),(25,.ch),(26,.ch),(27,.ch),(28,.ch),(31,.i .i64),(73,.ch),(119,.ch),(120,.ch),(121,.ch),(124,.ch),(126,.ch),(129,.ch),(132,.ch),(202,.ch),(204,.ch)],[(24,0,0),(24,1,1),(24,2,2),(24,3,3),(24,4,4),(24,5,5),(24,6,6),(30,0,0),(30,1,1),(30,2,2),(30,3,3),(30,4,4),(69,0,0),(72,0,0),(72,1,7),(72,2,12),(72,3,13),(72,4,14),(117,0,0),(117,1,1),(117,2,2),(128,0,0),(128,1,1),(131,0,0),(131,1,1),(131,2,2),(131,3,3),(131,4,5),(131,5,6),(131,6,7),(131,7,8),(134,0,0),(134,1,1),(134,2,2),(134,3,3),(136,0,0),(136,1,1),(157,0,0),(157,1,1),(157,2,2),(157,3,3)],[(3,none),(4,none),(5,none),(9,none),(22,none),(24,some 7),(25,none),(26,none),(27,none),(28,none),(30,some 5),(60,none),(69,some 5),(70,none),(113,none),(115,none),(118,none),(120,none),(121,none),(124,none),(126,none),(128,some 2),(129,none),(131,some 9),(132,none),(134,some 4),(136,some 3),(157,some 4),(166,some 2)]⟩
theorem rO:aq.s6 Tryz.prog rN:=⟨⟨Tryz.underlying3,Tryz.underlying4,Tryz.underlying5,Tryz.underlying9,⟨_,Tryz.underlying22⟩,⟨_,Tryz.underlying25⟩,⟨_,Tryz.underlying26⟩,⟨_,Tryz.underlying27⟩,⟨_,Tryz.underlying28⟩,Tryz.underlying31,⟨_,Tryz.underlying73⟩,⟨_,Tryz.underlying119⟩,⟨_,Tryz.underlying120⟩,⟨_,Tryz.underlying121⟩,⟨_,Tryz.underlying124⟩,⟨_,Tryz.underlying126⟩,⟨_,Tryz.underlying129⟩,⟨_,Tryz.underlying132⟩,⟨_,Tryz.underlying202⟩,⟨_,Tryz.underlying204⟩,trivial⟩,⟨aq.ey Tryz.underlying24 rfl rfl Tryz.sizeOf22 rfl,aq.ey Tryz.underlying24 rfl rfl Tryz.sizeOf3 rfl,aq.ey Tryz.underlying24 rfl rfl Tryz.sizeOf3 rfl,aq.ey Tryz.underlying24 rfl rfl Tryz.sizeOf3 rfl,aq.ey Tryz.underlying24 rfl rfl Tryz.sizeOf3 rfl,aq.ey Tryz.underlying24 rfl rfl Tryz.sizeOf22 rfl,aq.ey Tryz.underlying24 rfl rfl Tryz.sizeOf3 rfl,aq.ey Tryz.underlying30 rfl rfl Tryz.sizeOf25 rfl,aq.ey Tryz.underlying30 rfl rfl Tryz.sizeOf22 rfl,aq.ey Tryz.underlying30 rfl rfl Tryz.sizeOf26 rfl,aq.ey Tryz.underlying30 rfl rfl Tryz.sizeOf27 rfl,aq.ey Tryz.underlying30 rfl rfl Tryz.sizeOf28 rfl,aq.ey Tryz.underlying69 rfl rfl Tryz.sizeOf30 rfl,aq.ey Tryz.underlying72 rfl rfl Tryz.sizeOf24 rfl,aq.ey Tryz.underlying72 rfl rfl Tryz.sizeOf69 rfl,aq.ey Tryz.underlying72 rfl rfl Tryz.sizeOf22 rfl,aq.ey Tryz.underlying72 rfl rfl Tryz.sizeOf22 rfl,aq.ey Tryz.underlying72 rfl rfl Tryz.sizeOf70 rfl,aq.ey Tryz.underlying117 rfl rfl Tryz.sizeOf25 rfl,aq.ey Tryz.underlying117 rfl rfl Tryz.sizeOf115 rfl,aq.ey Tryz.underlying117 rfl rfl Tryz.sizeOf22 rfl,aq.ey Tryz.underlying128 rfl rfl Tryz.sizeOf3 rfl,aq.ey Tryz.underlying128 rfl rfl Tryz.sizeOf9 rfl,aq.ey Tryz.underlying131 rfl rfl Tryz.sizeOf9 rfl,aq.ey Tryz.underlying131 rfl rfl Tryz.sizeOf4 rfl,aq.ey Tryz.underlying131 rfl rfl Tryz.sizeOf126 rfl,aq.ey Tryz.underlying131 rfl rfl Tryz.sizeOf128 rfl,aq.ey Tryz.underlying131 rfl rfl Tryz.sizeOf3 rfl,aq.ey Tryz.underlying131 rfl rfl Tryz.sizeOf3 rfl,aq.ey Tryz.underlying131 rfl rfl Tryz.sizeOf9 rfl,aq.ey Tryz.underlying131 rfl rfl Tryz.sizeOf129 rfl,aq.ey Tryz.underlying134 rfl rfl Tryz.sizeOf9 rfl,aq.ey Tryz.underlying134 rfl rfl Tryz.sizeOf9 rfl,aq.ey Tryz.underlying134 rfl rfl Tryz.sizeOf124 rfl,aq.ey Tryz.underlying134 rfl rfl Tryz.sizeOf132 rfl,aq.ey Tryz.underlying136 rfl rfl Tryz.sizeOf9 rfl,aq.ey Tryz.underlying136 rfl rfl Tryz.sizeOf128 rfl,aq.ey Tryz.underlying157 rfl rfl Tryz.sizeOf3 rfl,aq.ey Tryz.underlying157 rfl rfl Tryz.sizeOf3 rfl,aq.ey Tryz.underlying157 rfl rfl Tryz.sizeOf3 rfl,aq.ey Tryz.underlying157 rfl rfl Tryz.sizeOf9 rfl,trivial⟩,⟨Tryz.isAgg3,Tryz.isAgg4,Tryz.isAgg5,Tryz.isAgg9,Tryz.isAgg22,⟨Tryz.isAgg24,Tryz.sizeOf24⟩,Tryz.isAgg25,Tryz.isAgg26,Tryz.isAgg27,Tryz.isAgg28,⟨Tryz.isAgg30,Tryz.sizeOf30⟩,Tryz.isAgg60,⟨Tryz.isAgg69,Tryz.sizeOf69⟩,Tryz.isAgg70,Tryz.isAgg113,Tryz.isAgg115,Tryz.isAgg118,Tryz.isAgg120,Tryz.isAgg121,Tryz.isAgg124,Tryz.isAgg126,⟨Tryz.isAgg128,Tryz.sizeOf128⟩,Tryz.isAgg129,⟨Tryz.isAgg131,Tryz.sizeOf131⟩,Tryz.isAgg132,⟨Tryz.isAgg134,Tryz.sizeOf134⟩,⟨Tryz.isAgg136,Tryz.sizeOf136⟩,⟨Tryz.isAgg157,Tryz.sizeOf157⟩,⟨Tryz.isAgg166,Tryz.sizeOf166⟩,trivial⟩⟩
theorem azs:(Tryz.prog.info? 3).map (λ i=>(i.zero,i.size,i.bytes))=some (some (.int .i64 0),1,8):=by kernel_rfl
theorem Wh:(Tryz.prog.info? 9).map (λ i=>(i.zero,i.size,i.bytes))=some (some (aq.cj []),1,16):=by kernel_rfl
theorem azr:(Tryz.prog.info? 136).map (λ i=>(i.zero,i.size,i.bytes))=some (some (.agg #[aq.cj [],.int .i64 0,aq.cj []]),3,40):=by kernel_rfl
theorem Wg:(Tryz.prog.info? 166).map (λ i=>(i.zero,i.size,i.bytes))=some (some (.agg #[.int .i64 0,.int .i64 0]),2,16):=by kernel_rfl
theorem aDr:∀w,(aq.placesOf Tryz.prog 166).run Tryz.prog w= .ok #[(0,1),(1,1)] w:=λ w=>by kernel_rfl
theorem au5{o:Oper}{a:Act}{w:World}{t':TypeId}{x y:Operand}{X Y:I.Kind}(ap:o.op= .binOp .eql 128 x y t')(b:a.eval x= .agg #[.int .i64 X.Kind,aq.cj X.ak])(hy:a.eval y= .agg #[.int .i64 Y.Kind,aq.cj Y.ak]):aq.bc Tryz.prog o a w (.bool (decide (X=Y))) w:=by
 have aK:decide (X=Y)=decide (X.Kind=Y.Kind/\X.ak=Y.ak/\True):=by rcases X with⟨_,_⟩;rcases Y with⟨_,_⟩;simp
 rw[aK];exact aq.RC Tryz.underlying128 (by kernel_rfl) (by kernel_rfl) (aq.nM rfl Tryz.underlying3 Tryz.isAgg3 rfl rfl (aq.y' rfl Tryz.underlying9 Tryz.isAgg9 rfl rfl (by simp[aq.tA]))) ap b hy
theorem au9{o:Oper}{a:Act}{w:World}{t':TypeId}{x y:Operand}{X Y:I.Kind}(ap:o.op= .binOp .neq 128 x y t')(b:a.eval x= .agg #[.int .i64 X.Kind,aq.cj X.ak])(hy:a.eval y= .agg #[.int .i64 Y.Kind,aq.cj Y.ak]):aq.bc Tryz.prog o a w (.bool (!decide (X=Y))) w:=by
 have aK:decide (X=Y)=decide (X.Kind=Y.Kind/\X.ak=Y.ak/\True):=by rcases X with⟨_,_⟩;rcases Y with⟨_,_⟩;simp
 rw[aK];exact aq.RE Tryz.underlying128 (by kernel_rfl) (by kernel_rfl) (aq.nM rfl Tryz.underlying3 Tryz.isAgg3 rfl rfl (aq.y' rfl Tryz.underlying9 Tryz.isAgg9 rfl rfl (by simp[aq.tA]))) ap b hy
theorem au3{o:Oper}{a:Act}{w:World}{t':TypeId}{x y:Operand}{X Y:I.Field}(ap:o.op= .binOp .eql 136 x y t')(b:a.eval x= .agg #[aq.cj X.Name,.int .i64 X.Kind.Kind,aq.cj X.Kind.ak])(hy:a.eval y= .agg #[aq.cj Y.Name,.int .i64 Y.Kind.Kind,aq.cj Y.Kind.ak]):aq.bc Tryz.prog o a w (.bool (decide (X=Y))) w:=by
 have aK:decide (X=Y)=decide (X.Name=Y.Name/\(X.Kind.Kind=Y.Kind.Kind/\X.Kind.ak=Y.Kind.ak/\True)/\True):=by rcases X with⟨_,⟨_,_⟩⟩;rcases Y with⟨_,⟨_,_⟩⟩;simp
 rw[aK];exact aq.RC Tryz.underlying136 (by kernel_rfl) (by kernel_rfl) (aq.y' rfl Tryz.underlying9 Tryz.isAgg9 rfl rfl (aq.aec (us:=[.int .i64 X.Kind.Kind,aq.cj X.Kind.ak]) (vs:=[.int .i64 Y.Kind.Kind,aq.cj Y.Kind.ak]) (q:=X.Kind.Kind=Y.Kind.Kind/\X.Kind.ak=Y.Kind.ak/\True) rfl Tryz.isAgg128 Tryz.sizeOf128 rfl rfl (aq.aed Tryz.underlying128 (by kernel_rfl) (aq.nM rfl Tryz.underlying3 Tryz.isAgg3 rfl rfl (aq.y' rfl Tryz.underlying9 Tryz.isAgg9 rfl rfl (by simp[aq.tA])))) (by simp[aq.tA]))) ap b hy
theorem au7{o:Oper}{a:Act}{w:World}{t':TypeId}{x y:Operand}{X Y:I.Field}(ap:o.op= .binOp .neq 136 x y t')(b:a.eval x= .agg #[aq.cj X.Name,.int .i64 X.Kind.Kind,aq.cj X.Kind.ak])(hy:a.eval y= .agg #[aq.cj Y.Name,.int .i64 Y.Kind.Kind,aq.cj Y.Kind.ak]):aq.bc Tryz.prog o a w (.bool (!decide (X=Y))) w:=by
 have aK:decide (X=Y)=decide (X.Name=Y.Name/\(X.Kind.Kind=Y.Kind.Kind/\X.Kind.ak=Y.Kind.ak/\True)/\True):=by rcases X with⟨_,⟨_,_⟩⟩;rcases Y with⟨_,⟨_,_⟩⟩;simp
 rw[aK];exact aq.RE Tryz.underlying136 (by kernel_rfl) (by kernel_rfl) (aq.y' rfl Tryz.underlying9 Tryz.isAgg9 rfl rfl (aq.aec (us:=[.int .i64 X.Kind.Kind,aq.cj X.Kind.ak]) (vs:=[.int .i64 Y.Kind.Kind,aq.cj Y.Kind.ak]) (q:=X.Kind.Kind=Y.Kind.Kind/\X.Kind.ak=Y.Kind.ak/\True) rfl Tryz.isAgg128 Tryz.sizeOf128 rfl rfl (aq.aed Tryz.underlying128 (by kernel_rfl) (aq.nM rfl Tryz.underlying3 Tryz.isAgg3 rfl rfl (aq.y' rfl Tryz.underlying9 Tryz.isAgg9 rfl rfl (by simp[aq.tA])))) (by simp[aq.tA]))) ap b hy
theorem au4{o:Oper}{a:Act}{w:World}{t':TypeId}{x y:Operand}{X Y:I.Handler}(ap:o.op= .binOp .eql 157 x y t')(b:a.eval x= .agg #[.int .i64 X.From,.int .i64 X.To,.int .i64 X.At,aq.cj X.ak])(hy:a.eval y= .agg #[.int .i64 Y.From,.int .i64 Y.To,.int .i64 Y.At,aq.cj Y.ak]):aq.bc Tryz.prog o a w (.bool (decide (X=Y))) w:=by
 have aK:decide (X=Y)=decide (X.From=Y.From/\X.To=Y.To/\X.At=Y.At/\X.ak=Y.ak/\True):=by rcases X with⟨_,_,_,_⟩;rcases Y with⟨_,_,_,_⟩;simp
 rw[aK];exact aq.RC Tryz.underlying157 (by kernel_rfl) (by kernel_rfl) (aq.nM rfl Tryz.underlying3 Tryz.isAgg3 rfl rfl (aq.nM rfl Tryz.underlying3 Tryz.isAgg3 rfl rfl (aq.nM rfl Tryz.underlying3 Tryz.isAgg3 rfl rfl (aq.y' rfl Tryz.underlying9 Tryz.isAgg9 rfl rfl (by simp[aq.tA]))))) ap b hy
theorem au8{o:Oper}{a:Act}{w:World}{t':TypeId}{x y:Operand}{X Y:I.Handler}(ap:o.op= .binOp .neq 157 x y t')(b:a.eval x= .agg #[.int .i64 X.From,.int .i64 X.To,.int .i64 X.At,aq.cj X.ak])(hy:a.eval y= .agg #[.int .i64 Y.From,.int .i64 Y.To,.int .i64 Y.At,aq.cj Y.ak]):aq.bc Tryz.prog o a w (.bool (!decide (X=Y))) w:=by
 have aK:decide (X=Y)=decide (X.From=Y.From/\X.To=Y.To/\X.At=Y.At/\X.ak=Y.ak/\True):=by rcases X with⟨_,_,_,_⟩;rcases Y with⟨_,_,_,_⟩;simp
 rw[aK];exact aq.RE Tryz.underlying157 (by kernel_rfl) (by kernel_rfl) (aq.nM rfl Tryz.underlying3 Tryz.isAgg3 rfl rfl (aq.nM rfl Tryz.underlying3 Tryz.isAgg3 rfl rfl (aq.nM rfl Tryz.underlying3 Tryz.isAgg3 rfl rfl (aq.y' rfl Tryz.underlying9 Tryz.isAgg9 rfl rfl (by simp[aq.tA]))))) ap b hy
theorem au6{o:Oper}{a:Act}{w:World}{t':TypeId}{x y:Operand}{X Y:I.Target}(ap:o.op= .binOp .eql 166 x y t')(b:a.eval x= .agg #[.int .i64 X.ak,.int .i64 X.Method])(hy:a.eval y= .agg #[.int .i64 Y.ak,.int .i64 Y.Method]):aq.bc Tryz.prog o a w (.bool (decide (X=Y))) w:=by
 have aK:decide (X=Y)=decide (X.ak=Y.ak/\X.Method=Y.Method/\True):=by rcases X with⟨_,_⟩;rcases Y with⟨_,_⟩;simp
 rw[aK];exact aq.RC Tryz.underlying166 (by kernel_rfl) (by kernel_rfl) (aq.nM rfl Tryz.underlying3 Tryz.isAgg3 rfl rfl (aq.nM rfl Tryz.underlying3 Tryz.isAgg3 rfl rfl (by simp[aq.tA]))) ap b hy
theorem au_{o:Oper}{a:Act}{w:World}{t':TypeId}{x y:Operand}{X Y:I.Target}(ap:o.op= .binOp .neq 166 x y t')(b:a.eval x= .agg #[.int .i64 X.ak,.int .i64 X.Method])(hy:a.eval y= .agg #[.int .i64 Y.ak,.int .i64 Y.Method]):aq.bc Tryz.prog o a w (.bool (!decide (X=Y))) w:=by
 have aK:decide (X=Y)=decide (X.ak=Y.ak/\X.Method=Y.Method/\True):=by rcases X with⟨_,_⟩;rcases Y with⟨_,_⟩;simp
 rw[aK];exact aq.RE Tryz.underlying166 (by kernel_rfl) (by kernel_rfl) (aq.nM rfl Tryz.underlying3 Tryz.isAgg3 rfl rfl (aq.nM rfl Tryz.underlying3 Tryz.isAgg3 rfl rfl (by simp[aq.tA]))) ap b hy
section
open aq
variable{n:ct}{fr:List (Nat×Value)}{w:World}{a:Act}
theorem aD0(k:Nat)(aj:List Nat){ops:Array Oper}{C:World->Prop}{b:Act->Prop}{rest:List Oper}{M:List (Nat×Nat×List Value)}(fr':List (Nat×Value))(L:List Nat)(d:∀w,C w->jQ w M)(ad:Fr n fr a)
 (next:∀c,Fr n fr' c->wpQuiet Tryz.prog ops C b (rest.drop k) c)(e:mE rN ops n M (rest.take k) aj fr (fr'.map (·.1))=some (fr',dup L):=by kernel_rfl):wpQuiet Tryz.prog ops C b rest a:=aDZ k _ aj rO d ad e next
theorem rg(aj:List Nat){id:Nat}{lo:List Oper}{Q:Exit->Act->World->Prop}{M:List (Nat×Nat×List Value)}(fr':List (Nat×Value))(L:List Nat)(c:jQ w M)(ad:Fr n fr a)
 (next:∀b,Fr n fr' b->Q .normal b w)(d:mE rN lo.toArray n M lo aj fr (fr'.map (·.1))=some (fr',dup L):=by kernel_rfl):(Code.region id lo.toArray false).wp Tryz.prog Q a w:=by
 refine oU (hD lo.length _ aj rO c ad (by rw[jP];exact d) λ b e=>?_)
 rw[hV]
 exact next b e
theorem K7(aj:List Nat){id:Nat}{lo:List Oper}{c:Code}{Q:Exit->Act->World->Prop}(fr':List (Nat×Value))(ad:Fr n fr a)
 (next:∀b,Fr n fr' b->c.wp Tryz.prog Q b w)(d:mE rN lo.toArray n [] lo aj fr (fr'.map (·.1))=some (fr',dup []):=by kernel_rfl):(Code.seq (.region id lo.toArray false) c).wp Tryz.prog Q a w:=wp_seq_k λ _ e=>rg aj fr' [] gB ad (λ b f=>e _ _ (next b f)) d
theorem k5(k:Nat)(aj:List Nat){ops:Array Oper}{Q:Exit->Act->World->Prop}{rest:List Oper}(c:List (Nat×Value))(ad:Fr n fr a)
 (next:∀b,Fr n (pY c fr) b->wpList Tryz.prog ops Q (rest.drop k) b w)(d:mE rN ops n [] (rest.take k) aj fr ((nL c fr).map (·.1))=some (nL c fr,dup []):=by kernel_rfl):wpList Tryz.prog ops Q rest a w:=hD k _ aj rO gB ad d λ b h=>next b h.MV
theorem tw(k:Nat)(aj:List Nat){ops:Array Oper}{Q:Exit->Act->World->Prop}{rest:List Oper}{M:List (Nat×Nat×List Value)}(c:List (Nat×Value))(L:List Nat)(d:jQ w M)(ad:Fr n fr a)
 (next:∀b,Fr n (pY c fr) b->wpList Tryz.prog ops Q (rest.drop k) b w)(e:mE rN ops n M (rest.take k) aj fr ((nL c fr).map (·.1))=some (nL c fr,dup L):=by kernel_rfl):wpList Tryz.prog ops Q rest a w:=hD k _ aj rO d ad e λ b h=>next b h.MV
theorem adx(aj:List Nat){id:Nat}{lo:List Oper}{Q:Exit->Act->World->Prop}{M:List (Nat×Nat×List Value)}(c:List (Nat×Value))(L:List Nat)(d:jQ w M)(ad:Fr n fr a)
 (next:∀b,Fr n (pY c fr) b->Q .normal b w)(e:mE rN lo.toArray n M lo aj fr ((nL c fr).map (·.1))=some (nL c fr,dup L):=by kernel_rfl):(Code.region id lo.toArray false).wp Tryz.prog Q a w:=rg aj _ L d ad (λ b h=>next b h.MV) e
theorem ady(aj:List Nat){id:Nat}{lo:List Oper}{Q:Exit->Act->World->Prop}(b:List (Nat×Value))(ad:Fr n fr a)
 (next:∀c,Fr n (pY b fr) c->Q .normal c w)(d:mE rN lo.toArray n [] lo aj fr ((nL b fr).map (·.1))=some (nL b fr,dup []):=by kernel_rfl):(Code.region id lo.toArray false).wp Tryz.prog Q a w:=adx aj b [] gB ad next d
theorem p7(aj:List Nat){id:Nat}{lo:List Oper}{c:Code}{Q:Exit->Act->World->Prop}(b:List (Nat×Value))(ad:Fr n fr a)
 (next:∀d,Fr n (pY b fr) d->c.wp Tryz.prog Q d w)(e:mE rN lo.toArray n [] lo aj fr ((nL b fr).map (·.1))=some (nL b fr,dup []):=by kernel_rfl):(Code.seq (.region id lo.toArray false) c).wp Tryz.prog Q a w:=wp_seq_k λ _ f=>adx aj b [] gB ad (λ d g=>f _ _ (next d g)) e
variable{ops:Array Oper}{Q:Exit->Act->World->Prop}{S:World->Prop}{f p:Nat}{ds:List Nat}{M:List (Nat×Nat×List Value)}
theorem a0(is:List Nat)(k:Nat)(aj:List Nat)(fr':List (Nat×Value))(L:List Nat)(c:∀w,S w->jQ w M)(ad:Fr n fr a)(d:S w)(next:∀b,Fr n fr' b->fi Tryz.prog ops Q p S f (KM is ds) b w)
 (e:bP is.length k=true:=by kernel_rfl)(g:(dG ops.size ds).getD p false=false:=by kernel_rfl)(h:G_ ops p ds is=true:=by kernel_rfl)(i:Nc rN ops n M is aj fr (fr'.map (·.1))=some (fr',dup L):=by kernel_rfl):fi Tryz.prog ops Q p S (f+k) ds a w:=by
 obtain⟨os,j,J⟩:=avE i
 exact asm is k _ aj rO c ad e g j h J d next
theorem dW(is:List Nat)(k:Nat)(aj:List Nat)(c:List (Nat×Value))(L:List Nat)(d:∀w,S w->jQ w M)(ad:Fr n fr a)(e:S w)(next:∀b,Fr n (pY c fr) b->fi Tryz.prog ops Q p S f (KM is ds) b w)
 (g:bP is.length k=true:=by kernel_rfl)(i:(dG ops.size ds).getD p false=false:=by kernel_rfl)(j:G_ ops p ds is=true:=by kernel_rfl)(l:Nc rN ops n M is aj fr ((nL c fr).map (·.1))=some (nL c fr,dup L):=by kernel_rfl):fi Tryz.prog ops Q p S (f+k) ds a w:=
 a0 is k aj _ L d ad e (λ b h=>next b h.MV) g i j l
end
end Go.Proofs.YteeliipnilghaaaGreat
namespace Go.Proofs.YteeliipnilghaaaGreat
open Go Go.RowKit
theorem nG:Tryz.prog.cellsOf 3=1:=by kernel_rfl
theorem atv:Tryz.prog.cellsOf 4=1:=by kernel_rfl
theorem y6:Tryz.prog.cellsOf 9=1:=by kernel_rfl
theorem SY:Tryz.prog.cellsOf 22=1:=by kernel_rfl
theorem atp:Tryz.prog.cellsOf 24=7:=by kernel_rfl
theorem atq:Tryz.prog.cellsOf 25=1:=by kernel_rfl
theorem atr:Tryz.prog.cellsOf 26=1:=by kernel_rfl
theorem ats:Tryz.prog.cellsOf 27=1:=by kernel_rfl
theorem att:Tryz.prog.cellsOf 28=1:=by kernel_rfl
theorem atu:Tryz.prog.cellsOf 30=5:=by kernel_rfl
theorem atk:Tryz.prog.cellsOf 120=1:=by kernel_rfl
theorem atl:Tryz.prog.cellsOf 121=1:=by kernel_rfl
theorem adj:Tryz.prog.cellsOf 124=1:=by kernel_rfl
theorem atm:Tryz.prog.cellsOf 126=1:=by kernel_rfl
theorem MQ:Tryz.prog.cellsOf 128=2:=by kernel_rfl
theorem atn:Tryz.prog.cellsOf 129=1:=by kernel_rfl
theorem adk:Tryz.prog.cellsOf 131=9:=by kernel_rfl
theorem ato:Tryz.prog.cellsOf 132=1:=by kernel_rfl
theorem adl:Tryz.prog.cellsOf 134=4:=by kernel_rfl
theorem adm:Tryz.prog.cellsOf 136=3:=by kernel_rfl
theorem adn:Tryz.prog.cellsOf 157=4:=by kernel_rfl
theorem ado:Tryz.prog.cellsOf 166=2:=by kernel_rfl
theorem asL:Tryz.prog.bytesOf 3=8:=by kernel_rfl
theorem asM:Tryz.prog.bytesOf 9=16:=by kernel_rfl
theorem asC:Tryz.prog.bytesOf 120=24:=by kernel_rfl
theorem asD:Tryz.prog.bytesOf 121=24:=by kernel_rfl
theorem asE:Tryz.prog.bytesOf 124=24:=by kernel_rfl
theorem asF:Tryz.prog.bytesOf 128=24:=by kernel_rfl
theorem asG:Tryz.prog.bytesOf 131=128:=by kernel_rfl
theorem asH:Tryz.prog.bytesOf 134=80:=by kernel_rfl
theorem asI:Tryz.prog.bytesOf 136=40:=by kernel_rfl
theorem asJ:Tryz.prog.bytesOf 157=40:=by kernel_rfl
theorem asK:Tryz.prog.bytesOf 166=16:=by kernel_rfl
theorem ahJ{l:List Value}(h:l.length=2):∃a0 a,l=[a0,a]:=match l,h with|[a0,a],_=>⟨a0,a,rfl⟩
theorem aBv{l:List Value}(h:l.length=3):∃a0 a b,l=[a0,a,b]:=match l,h with|[a0,a,b],_=>⟨a0,a,b,rfl⟩
theorem ahK{l:List Value}(h:l.length=4):∃a0 a b a3,l=[a0,a,b,a3]:=match l,h with|[a0,a,b,a3],_=>⟨a0,a,b,a3,rfl⟩
theorem aBw{l:List Value}(h:l.length=5):∃a0 a b a3 a4,l=[a0,a,b,a3,a4]:=match l,h with|[a0,a,b,a3,a4],_=>⟨a0,a,b,a3,a4,rfl⟩
theorem aBx{l:List Value}(h:l.length=7):∃a0 a b a3 a4 a5 c,l=[a0,a,b,a3,a4,a5,c]:=match l,h with|[a0,a,b,a3,a4,a5,c],_=>⟨a0,a,b,a3,a4,a5,c,rfl⟩
theorem aBy{l:List Value}(h:l.length=9):∃a0 a b a3 a4 a5 c d e,l=[a0,a,b,a3,a4,a5,c,d,e]:=match l,h with|[a0,a,b,a3,a4,a5,c,d,e],_=>⟨a0,a,b,a3,a4,a5,c,d,e,rfl⟩
section
variable{H:Type}{enc:TypeId×Value->H}{N:Nat}
theorem PV:aq.hI Tryz.prog enc N 22 (aq.bY (aq.e9 .i64)) (λ l=>l.length*8<=N/\ ∀a∈l,aq.jD a):=by
 have h:=aq.sx (enc:=enc) (N:=N) Tryz.underlying22 nG (by decide) (aq.ov Tryz.underlying3);rw[asL]at h;exact h
def acp(N:Nat)(d:I.aR):Prop:=(d.Words.length*8<=N/\ ∀a∈d.Words,aq.jD a)/\aq.jD d.av/\aq.jD d.aL/\aq.jD d.aU/\aq.jD d.aT/\(d.aS.length*8<=N/\ ∀a∈d.aS,aq.jD a)/\aq.jD d.Next
theorem aFL:aq.hI Tryz.prog enc N 24 I.aHi (acp N):=by
 intro W n cs x h g i;obtain⟨fZ,a,ad⟩:=aq.oY Tryz.underlying24 h g i;replace a:=a.trans atp;obtain⟨a0,b,c,a3,a4,a5,d,rfl⟩:=aBx a;obtain⟨EO,j,k,w0⟩:=aq.fw ad 0 rfl rfl rfl SY (r:=[a0]) rfl;obtain⟨l,e,m⟩:=(PV) W _ _ _ j k w0;obtain⟨nz,ev,o⟩:=aq.m' e;obtain rfl:a0=_:=(ei o).1;obtain⟨cE,p,q,s⟩:=aq.fw ad 1 rfl rfl rfl nG (r:=[b]) rfl;obtain⟨t,u,v⟩:=(aq.ov Tryz.underlying3) W _ _ _ p q s;have e1:[b]=_:=u;obtain rfl:b=_:=(ei e1).1;obtain⟨lG,J,w,y⟩:=aq.fw ad 2 rfl rfl rfl nG (r:=[c]) rfl;obtain⟨z,A,B⟩:=(aq.ov Tryz.underlying3) W _ _ _ J w y;have e2:[c]=_:=A;obtain rfl:c=_:=(ei e2).1;obtain⟨sZ,C,D,E⟩:=aq.fw ad 3 rfl rfl rfl nG (r:=[a3]) rfl;obtain⟨F,hb,G⟩:=(aq.ov Tryz.underlying3) W _ _ _ C D E;have e3:[a3]=_:=hb;obtain rfl:a3=_:=(ei e3).1;obtain⟨HI,K,L,M⟩:=aq.fw ad 4 rfl rfl rfl nG (r:=[a4]) rfl;obtain⟨O,oo,P⟩:=(aq.ov Tryz.underlying3) W _ _ _ K L M;have e4:[a4]=_:=oo;obtain rfl:a4=_:=(ei e4).1;obtain⟨Q,R,su,S⟩:=aq.fw ad 5 rfl rfl rfl SY (r:=[a5]) rfl;obtain⟨T,f,U⟩:=(PV) W _ _ _ R su S;obtain⟨V,c5,e5⟩:=aq.m' f;obtain rfl:a5=_:=(ei e5).1;obtain⟨X,Y,Z,Z2⟩:=aq.fw ad 6 rfl rfl rfl nG (r:=[d]) rfl;obtain⟨d6,Za,zE⟩:=(aq.ov Tryz.underlying3) W _ _ _ Y Z Z2;have e6:[d]=_:=Za;obtain rfl:d=_:=(ei e6).1;exact⟨⟨l,t,z,F,O,T,d6⟩,⟨nz,ev,V,c5,rfl,e,f⟩,⟨m,v,B,G,P,U,zE⟩⟩
def HX(N:Nat)(d:I.Kind):Prop:=aq.jD d.Kind/\d.ak.length<=N
theorem Zi:aq.hI Tryz.prog enc N 128 I.Ea (HX N):=by
 intro W n cs x h c d;obtain⟨t,a,ad⟩:=aq.oY Tryz.underlying128 h c d;replace a:=a.trans MQ;obtain⟨a0,b,rfl⟩:=ahJ a;obtain⟨u,e,f,w0⟩:=aq.fw ad 0 rfl rfl rfl nG (r:=[a0]) rfl;obtain⟨g,i,j⟩:=(aq.ov Tryz.underlying3) W _ _ _ e f w0;have k:[a0]=_:=i;obtain rfl:a0=_:=(ei k).1;obtain⟨cE,l,m,o⟩:=aq.fw ad 1 rfl rfl rfl y6 (r:=[b]) rfl;obtain⟨p,q,s⟩:=(aq.Ay Tryz.underlying9) W _ _ _ l m o;have e1:[b]=_:=q;obtain rfl:b=_:=(ei e1).1;exact⟨⟨g,p⟩,rfl,⟨j,s⟩⟩
def HW(N:Nat)(d:I.Field):Prop:=d.Name.length<=N/\HX N d.Kind
theorem aFJ:aq.hI Tryz.prog enc N 136 I.jo (HW N):=by
 intro W n cs x h d e;obtain⟨u,a,ad⟩:=aq.oY Tryz.underlying136 h d e;replace a:=a.trans adm;obtain⟨a0,b,c,rfl⟩:=aBv a;obtain⟨v,f,g,w0⟩:=aq.fw ad 0 rfl rfl rfl y6 (r:=[a0]) rfl;obtain⟨i,j,k⟩:=(aq.Ay Tryz.underlying9) W _ _ _ f g w0;have l:[a0]=_:=j;obtain rfl:a0=_:=(ei l).1;obtain⟨cE,m,o,p⟩:=aq.fw ad 1 rfl rfl rfl MQ (r:=[b,c]) rfl;obtain⟨q,s,t⟩:=Zi W _ _ _ m o p;have e1:[b,c]=_:=s;simp only[hh,and_true]at e1;obtain⟨rfl,rfl⟩:=e1;exact⟨⟨i,q⟩,rfl,⟨k,t⟩⟩
theorem ajN:aq.hI Tryz.prog enc N 124 (aq.bY I.jo) (λ l=>l.length*40<=N/\ ∀a∈l,HW N a):=by
 have h:=aq.sx (enc:=enc) (N:=N) Tryz.underlying124 adm (by decide) aFJ;rw[asI]at h;exact h
theorem aFS:aq.hI Tryz.prog enc N 126 (aq.bY I.Ea) (λ l=>l.length*24<=N/\ ∀a∈l,HX N a):=by
 have h:=aq.sx (enc:=enc) (N:=N) Tryz.underlying126 MQ (by decide) Zi;rw[asF]at h;exact h
def Si(N:Nat)(d:I.Handler):Prop:=aq.jD d.From/\aq.jD d.To/\aq.jD d.At/\d.ak.length<=N
theorem aFK:aq.hI Tryz.prog enc N 157 I.D' (Si N):=by
 intro W n cs x h d e;obtain⟨F,a,ad⟩:=aq.oY Tryz.underlying157 h d e;replace a:=a.trans adn;obtain⟨a0,b,c,a3,rfl⟩:=ahK a;obtain⟨G,f,g,w0⟩:=aq.fw ad 0 rfl rfl rfl nG (r:=[a0]) rfl;obtain⟨i,j,k⟩:=(aq.ov Tryz.underlying3) W _ _ _ f g w0;have l:[a0]=_:=j;obtain rfl:a0=_:=(ei l).1;obtain⟨cE,m,o,p⟩:=aq.fw ad 1 rfl rfl rfl nG (r:=[b]) rfl;obtain⟨q,s,t⟩:=(aq.ov Tryz.underlying3) W _ _ _ m o p;have e1:[b]=_:=s;obtain rfl:b=_:=(ei e1).1;obtain⟨K,J,u,v⟩:=aq.fw ad 2 rfl rfl rfl nG (r:=[c]) rfl;obtain⟨w,y,z⟩:=(aq.ov Tryz.underlying3) W _ _ _ J u v;have e2:[c]=_:=y;obtain rfl:c=_:=(ei e2).1;obtain⟨L,A,B,C⟩:=aq.fw ad 3 rfl rfl rfl y6 (r:=[a3]) rfl;obtain⟨D,hb,E⟩:=(aq.Ay Tryz.underlying9) W _ _ _ A B C;have e3:[a3]=_:=hb;obtain rfl:a3=_:=(ei e3).1;exact⟨⟨i,q,w,D⟩,rfl,⟨k,t,z,E⟩⟩
theorem aFT:aq.hI Tryz.prog enc N 129 (aq.bY I.D') (λ l=>l.length*40<=N/\ ∀a∈l,Si N a):=by
 have h:=aq.sx (enc:=enc) (N:=N) Tryz.underlying129 adn (by decide) aFK;rw[asJ]at h;exact h
def Mn(N:Nat)(d:I.Method):Prop:=d.Name.length<=N/\True/\(d.cr.length*24<=N/\ ∀a∈d.cr,HX N a)/\HX N d.Returns/\aq.jD d.hJ/\aq.jD d.hG/\d.Code.length<=N/\(d.cy.length*40<=N/\ ∀a∈d.cy,Si N a)
theorem aFN:aq.hI Tryz.prog enc N 131 I.qQ (Mn N):=by
 intro W n cs x h o p;obtain⟨fZ,b,ad⟩:=aq.oY Tryz.underlying131 h o p;replace b:=b.trans adk;obtain⟨a0,c,k,a3,a4,a5,d,e,l,rfl⟩:=aBy b;obtain⟨EO,q,s,w0⟩:=aq.fw ad 0 rfl rfl rfl y6 (r:=[a0]) rfl;obtain⟨t,u,v⟩:=(aq.Ay Tryz.underlying9) W _ _ _ q s w0;have w:[a0]=_:=u;obtain rfl:a0=_:=(ei w).1;obtain⟨cE,y,z,A⟩:=aq.fw ad 1 rfl rfl rfl atv (r:=[c]) rfl;obtain⟨B,C,D⟩:=(aq.aFP Tryz.underlying4) W _ _ _ y z A;have e1:[c]=_:=C;obtain rfl:c=_:=(ei e1).1;obtain⟨lG,J,E,F⟩:=aq.fw ad 2 rfl rfl rfl atm (r:=[k]) rfl;obtain⟨G,m,K⟩:=(aFS) W _ _ _ J E F;obtain⟨L,c2,e2⟩:=aq.m' m;obtain rfl:k=_:=(ei e2).1;obtain⟨sZ,M,O,P⟩:=aq.fw ad 3 rfl rfl rfl MQ (r:=[a3,a4]) rfl;obtain⟨Q,hb,R⟩:=Zi W _ _ _ M O P;have e3:[a3,a4]=_:=hb;simp only[hh,and_true]at e3;obtain⟨rfl,rfl⟩:=e3;obtain⟨HI,S,T,U⟩:=aq.fw ad 4 rfl rfl rfl nG (r:=[a5]) rfl;obtain⟨V,oo,X⟩:=(aq.ov Tryz.underlying3) W _ _ _ S T U;have e4:[a5]=_:=oo;obtain rfl:a5=_:=(ei e4).1;obtain⟨Y,Z,su,xV⟩:=aq.fw ad 5 rfl rfl rfl nG (r:=[d]) rfl;obtain⟨d5,uE,o'⟩:=(aq.ov Tryz.underlying3) W _ _ _ Z su xV;have e5:[d]=_:=uE;obtain rfl:d=_:=(ei e5).1;obtain⟨aKP,eC,xF,Z2⟩:=aq.fw ad 6 rfl rfl rfl y6 (r:=[e]) rfl;obtain⟨d6,Za,zE⟩:=(aq.Ay Tryz.underlying9) W _ _ _ eC xF Z2;have e6:[e]=_:=Za;obtain rfl:e=_:=(ei e6).1;obtain⟨aMN,hp,Ao,f⟩:=aq.fw ad 7 rfl rfl rfl atn (r:=[l]) rfl;obtain⟨d7,a,g⟩:=(aFT) W _ _ _ hp Ao f;obtain⟨i,j,e7⟩:=aq.m' a;obtain rfl:l=_:=(ei e7).1;exact⟨⟨t,B,G,Q,V,d5,d6,d7⟩,⟨L,c2,i,j,rfl,m,a⟩,⟨v,D,K,R,X,o',zE,g⟩⟩
theorem aFU:aq.hI Tryz.prog enc N 132 (aq.bY I.qQ) (λ l=>l.length*128<=N/\ ∀a∈l,Mn N a):=by
 have h:=aq.sx (enc:=enc) (N:=N) Tryz.underlying132 adk (by decide) aFN;rw[asG]at h;exact h
def HV(N:Nat)(d:I.ak):Prop:=d.Name.length<=N/\d.cR.length<=N/\(d.Fields.length*40<=N/\ ∀a∈d.Fields,HW N a)/\(d.bf.length*128<=N/\ ∀a∈d.bf,Mn N a)
theorem aFI:aq.hI Tryz.prog enc N 134 I.kn (HV N):=by
 intro W n cs x h e f;obtain⟨K,a,ad⟩:=aq.oY Tryz.underlying134 h e f;replace a:=a.trans adl;obtain⟨a0,b,c,a3,rfl⟩:=ahK a;obtain⟨L,g,i,w0⟩:=aq.fw ad 0 rfl rfl rfl y6 (r:=[a0]) rfl;obtain⟨j,k,l⟩:=(aq.Ay Tryz.underlying9) W _ _ _ g i w0;have m:[a0]=_:=k;obtain rfl:a0=_:=(ei m).1;obtain⟨cE,o,p,q⟩:=aq.fw ad 1 rfl rfl rfl y6 (r:=[b]) rfl;obtain⟨s,t,u⟩:=(aq.Ay Tryz.underlying9) W _ _ _ o p q;have e1:[b]=_:=t;obtain rfl:b=_:=(ei e1).1;obtain⟨M,J,v,w⟩:=aq.fw ad 2 rfl rfl rfl adj (r:=[c]) rfl;obtain⟨y,d,z⟩:=(ajN) W _ _ _ J v w;obtain⟨A,c2,e2⟩:=aq.m' d;obtain rfl:c=_:=(ei e2).1;obtain⟨O,B,C,D⟩:=aq.fw ad 3 rfl rfl rfl ato (r:=[a3]) rfl;obtain⟨E,hb,F⟩:=(aFU) W _ _ _ B C D;obtain⟨G,c3,e3⟩:=aq.m' hb;obtain rfl:a3=_:=(ei e3).1;exact⟨⟨j,s,y,E⟩,⟨A,c2,G,c3,rfl,d,hb⟩,⟨l,u,z,F⟩⟩
theorem aFV:aq.hI Tryz.prog enc N 25 (aq.bY I.kn) (λ l=>l.length*80<=N/\ ∀a∈l,HV N a):=by
 have h:=aq.sx (enc:=enc) (N:=N) Tryz.underlying25 adl (by decide) aFI;rw[asH]at h;exact h
theorem aFW:aq.hI Tryz.prog enc N 26 (aq.bY (aq.bY I.jo)) (λ l=>l.length*24<=N/\ ∀a∈l,(a.length*40<=N/\ ∀b∈a,HW N b)):=by
 have h:=aq.sx (enc:=enc) (N:=N) Tryz.underlying26 adj (by decide) (ajN);rw[asE]at h;exact h
theorem aFQ:aq.hI Tryz.prog enc N 120 (aq.bY aq.jn) (λ l=>l.length*16<=N/\ ∀a∈l,a.length<=N):=by
 have h:=aq.sx (enc:=enc) (N:=N) Tryz.underlying120 y6 (by decide) (aq.Ay Tryz.underlying9);rw[asM]at h;exact h
theorem aFX:aq.hI Tryz.prog enc N 27 (aq.bY (aq.bY aq.jn)) (λ l=>l.length*24<=N/\ ∀a∈l,(a.length*16<=N/\ ∀b∈a,b.length<=N)):=by
 have h:=aq.sx (enc:=enc) (N:=N) Tryz.underlying27 atk (by decide) (aFQ);rw[asC]at h;exact h
def Mo(N:Nat)(d:I.Target):Prop:=aq.jD d.ak/\aq.jD d.Method
theorem aFO:aq.hI Tryz.prog enc N 166 I.ko (Mo N):=by
 intro W n cs x h c d;obtain⟨t,a,ad⟩:=aq.oY Tryz.underlying166 h c d;replace a:=a.trans ado;obtain⟨a0,b,rfl⟩:=ahJ a;obtain⟨u,e,f,w0⟩:=aq.fw ad 0 rfl rfl rfl nG (r:=[a0]) rfl;obtain⟨g,i,j⟩:=(aq.ov Tryz.underlying3) W _ _ _ e f w0;have k:[a0]=_:=i;obtain rfl:a0=_:=(ei k).1;obtain⟨cE,l,m,o⟩:=aq.fw ad 1 rfl rfl rfl nG (r:=[b]) rfl;obtain⟨p,q,s⟩:=(aq.ov Tryz.underlying3) W _ _ _ l m o;have e1:[b]=_:=q;obtain rfl:b=_:=(ei e1).1;exact⟨⟨g,p⟩,rfl,⟨j,s⟩⟩
theorem aFR:aq.hI Tryz.prog enc N 121 (aq.bY I.ko) (λ l=>l.length*16<=N/\ ∀a∈l,Mo N a):=by
 have h:=aq.sx (enc:=enc) (N:=N) Tryz.underlying121 ado (by decide) aFO;rw[asK]at h;exact h
theorem aFY:aq.hI Tryz.prog enc N 28 (aq.bY (aq.bY I.ko)) (λ l=>l.length*24<=N/\ ∀a∈l,(a.length*16<=N/\ ∀b∈a,Mo N b)):=by
 have h:=aq.sx (enc:=enc) (N:=N) Tryz.underlying28 atl (by decide) (aFR);rw[asD]at h;exact h
def Mm(N:Nat)(d:I.aP):Prop:=(d.aY.length*80<=N/\ ∀a∈d.aY,HV N a)/\(d.aW.length*8<=N/\ ∀a∈d.aW,aq.jD a)/\(d.Fields.length*24<=N/\ ∀a∈d.Fields,(a.length*40<=N/\ ∀b∈a,HW N b))/\(d.Names.length*24<=N/\ ∀a∈d.Names,(a.length*16<=N/\ ∀b∈a,b.length<=N))/\(d.aX.length*24<=N/\ ∀a∈d.aX,(a.length*16<=N/\ ∀b∈a,Mo N b))
theorem aFM:aq.hI Tryz.prog enc N 30 I.aHj (Mm N):=by
 intro W n cs x h g i;obtain⟨S,a,ad⟩:=aq.oY Tryz.underlying30 h g i;replace a:=a.trans atu;obtain⟨a0,b,c,a3,a4,rfl⟩:=aBw a;obtain⟨T,j,k,w0⟩:=aq.fw ad 0 rfl rfl rfl atq (r:=[a0]) rfl;obtain⟨l,d,m⟩:=(aFV) W _ _ _ j k w0;obtain⟨nz,ev,o⟩:=aq.m' d;obtain rfl:a0=_:=(ei o).1;obtain⟨cE,p,q,s⟩:=aq.fw ad 1 rfl rfl rfl SY (r:=[b]) rfl;obtain⟨t,e,u⟩:=(PV) W _ _ _ p q s;obtain⟨v,c1,e1⟩:=aq.m' e;obtain rfl:b=_:=(ei e1).1;obtain⟨U,J,w,y⟩:=aq.fw ad 2 rfl rfl rfl atr (r:=[c]) rfl;obtain⟨z,f,A⟩:=(aFW) W _ _ _ J w y;obtain⟨B,c2,e2⟩:=aq.m' f;obtain rfl:c=_:=(ei e2).1;obtain⟨V,C,D,E⟩:=aq.fw ad 3 rfl rfl rfl ats (r:=[a3]) rfl;obtain⟨F,hb,G⟩:=(aFX) W _ _ _ C D E;obtain⟨K,c3,e3⟩:=aq.m' hb;obtain rfl:a3=_:=(ei e3).1;obtain⟨X,L,M,O⟩:=aq.fw ad 4 rfl rfl rfl att (r:=[a4]) rfl;obtain⟨P,oo,Q⟩:=(aFY) W _ _ _ L M O;obtain⟨R,c4,e4⟩:=aq.m' oo;obtain rfl:a4=_:=(ei e4).1;exact⟨⟨l,t,z,F,P⟩,⟨nz,ev,v,c1,B,c2,K,c3,R,c4,rfl,d,e,f,hb,oo⟩,⟨m,u,A,G,Q⟩⟩
end
end Go.Proofs.YteeliipnilghaaaGreat
namespace a8
open Go Go.RowKit aq I
inductive aF (El:Nat->Type):Type
 |p (v:Value)
 |b (i o:Nat)
 |x (t:Nat) (d:El t) (o:Nat)
 |s (t:Nat) (l:List (El t))
 |q (t:Nat) (l:List (El t))
 |r (i g:Nat)
 |v (i g:Nat) (lo hi:Int)
 |e (i g k t:Nat) (j:Int) (d:El t) (o:Nat)
 |w (i g o:Nat)
 |m (i:Nat)
 |n (kt vt:Nat) (d:List (El kt×El vt))
 |f (fn:Fn) (cs:List (aF El))
 |h (fn:Fn) (us:List (aF El))
 |a (l:List (aF El))
 |u (l:List (aF El))
 |i (t:Nat) (y:aF El)
 |pp (i g sz:Nat) (dR:List Int)
 |Av (i g sz:Nat) (q:Int)
inductive aC (El:Nat->Type):Type
 |c (ty:Nat) (cs:List (aF El))
 |r (t g k:Nat) (l:List (El t))
 |k (t sz g:Nat) (cs:List (aF El))
 |z (t g k:Nat) (l:List (El t))
 |m (kt vt:Nat) (d:List (El kt×El vt))
 |o (XG:Obj)
 |no (g:Nat)
structure hZ (cJ:Type) where
 dec:DecidableEq cJ
 r9: @lL cJ dec
structure bZ (El:Nat->Type) (t:Nat) where
 ty:cY (El t)
 agg:Bool
 cs:El t->List (aF El)
 hs:List (aF El)->Option (El t)
 eq:Option (El t->El t->Bool)
 key:Option (hZ (El t))
structure bN where
 El:Nat->Type
 es:List (Σ t,bZ El t)
def aHh{α:Type}:cY α where
 size:=0
 rd _ _ _ _:=False
 len h:=h.elim
 one h:=h.elim
 law _ h:=h
def bZ.no{El:Nat->Type}{t:Nat}:bZ El t:=⟨aHh,true,λ _=>[],λ _=>none,none,none⟩
def fD{El:Nat->Type}:List (Σ t,bZ El t)->(t:Nat)->bZ El t
 |[],_=>bZ.no
 |e::r,t=>match kS e.1 t with
  |isTrue h=>h▸e.2
  |isFalse _=>fD r t
def bN.e(T:bN)(t:Nat):bZ T.El t:=fD T.es t
def bN.ty(T:bN)(t:Nat):cY (T.El t):=(T.e t).ty
def bW{El:Nat->Type}:Option (aC El)->Nat
 |some (.r _ g _ _)=>g
 |some (.k _ _ g _)=>g
 |some (.z _ g _ _)=>g
 |some (.no g)=>g
 |_=>0
def gQ{El:Nat->Type}:Option (aC El)->Nat
 |some (.r _ _ k _)=>k
 |some (.z _ _ k _)=>k
 |_=>0
def jj{El:Nat->Type}:Option (aC El)->Option (Σ t,List (El t))
 |some (.r t _ _ l)=>some ⟨t,l⟩
 |some (.z t _ _ l)=>some ⟨t,l⟩
 |_=>none
def jk(T:bN):Option (aC T.El)->Nat
 |some (.r t _ _ _)=>(T.ty t).size
 |some (.k _ sz _ _)=>sz
 |some (.z t _ _ _)=>(T.ty t).size
 |_=>0
def kJ:Value->Prop
 | .slice _ _ _=>True
 |_=>False
def w1:Value->Prop
 | .pointer (some _)=>True
 |_=>False
def Am(agg:Bool)(xs:List Value):Value:=match agg with
 |true=>.agg ⟨xs⟩
 |false=>xs.headD undef
section
variable(T:bN)(F:Nat->Prop)(w:World)
def Co(t:Nat)(d:T.El t)(v:Value):Prop:=∃xs,(T.ty t).rd F w xs d/\v=Am (T.e t).agg xs
def jB{kt vt:Nat}(K:hZ (T.El kt)):List MapEntry->List (T.El kt×T.El vt)->Prop
 |[],[]=>True
 |e::es,p::d=>e.key= @lL.enc _ K.dec K.r9 p.1/\Co T F w vt p.2 e.val/\jB K es d
 |_,_=>False
def yA(kt vt r:Nat)(d:List (T.El kt×T.El vt)):Prop:=∃K,(T.e kt).key=some K/\ ∃es clock,w.heap[r]? =some (.map es clock)/\jB T F w K es.toList d/\(es.toList.map (·.born)).Pairwise (·< ·)/\ ∀e∈es.toList,e.born<clock
end
section
variable{T:bN}{F F':Nat->Prop}{w w':World}
theorem jB.law(a:∀k,F k->F' k/\w'.heap[k]? =w.heap[k]?){kt vt:Nat}{K:hZ (T.El kt)}:∀ {es:List MapEntry}{d:List (T.El kt×T.El vt)},jB T F w K es d->jB T F' w' K es d
 |[],[],_=>trivial
 |[],_::_,h=>h.elim
 |_::_,[],h=>h.elim
 |e::es,p::d,h=>by
  obtain⟨b,⟨xs,J,c⟩,f⟩:=h;exact⟨b,⟨xs,(T.ty vt).law a J,c⟩,jB.law a f⟩
theorem yA.law(a:∀k,F k->F' k/\w'.heap[k]? =w.heap[k]?){kt vt r:Nat}{d:List (T.El kt×T.El vt)}(aj:w'.heap[r]? =w.heap[r]?)(h:yA T F w kt vt r d):yA T F' w' kt vt r d:=by
 obtain⟨K,b,es,cl,J,c,e⟩:=h;exact⟨K,b,es,cl,aj.trans J,c.law a,e⟩
end
def vH{El:Nat->Type}(ρ:List Value)(bl:List (aC El))(i g sz:Nat)(q:Int)(v:Value):Prop:=w1 v/\ ∃h,ρ[i]? =some h/\g<=bW bl[i]? /\(g=bW bl[i]? -> ∃A n c,h= .slice A n c/\0<=q/\q<n/\v= .pointer (some ⟨dm A,q.toNat*sz,none⟩))
def tc{El:Nat->Type}(ρ:List Value)(bl:List (aC El))(i g sz:Nat):List Int->List Value->Prop
 |[],vs=>vs=[]
 |q::r,vs=>∃u us,vs=u::us/\vH ρ bl i g sz q u/\tc ρ bl i g sz r us
section
variable(T:bN)(F:Nat->Prop)(w:World)(ρ:List Value)(bl:List (aC T.El))
mutual
def ao:aF T.El->Value->Prop
 | .p u,v=>v=u
 | .b i o,v=>∃g,ρ[i]? =some (.pointer (some ⟨g,0,none⟩))/\v= .pointer (some ⟨g,o,none⟩)
 | .x t d o,v=>∃a q cs,v= .pointer (some ⟨a,q+o,none⟩)/\F a/\(T.ty t).rd F w cs d/\fb w ⟨a,q,none⟩ cs
 | .s t l,v=>(bY (T.ty t)).rd F w [v] l
 | .q t l,v=>(bY (T.ty t)).rd F w [v] l/\ ∃A,v= .slice A l.length l.length
 | .r i g,v=>kJ v/\ ∃h,ρ[i]? =some h/\g<=bW bl[i]? /\(g=bW bl[i]? ->v=h)
 | .v i g lo hi,v=>kJ v/\ ∃h,ρ[i]? =some h/\g<=bW bl[i]? /\(g=bW bl[i]? -> ∃A n c B,h= .slice A n c/\0<=lo/\lo<=hi/\hi<=n/\v= .slice B (hi.toNat-lo.toNat) (c-lo.toNat)/\(lo=0 ->B=A)/\(lo<hi->B=A.map (·.add (lo.toNat*jk T bl[i]?))))
 | .e i g k t j d o,v=>w1 v/\ ∃h,ρ[i]? =some h/\g<=bW bl[i]? /\(g=bW bl[i]? ->(∃A n c,h= .slice A n c/\0<=j/\j<n/\v= .pointer (some ⟨dm A,j.toNat*jk T bl[i]? +o,none⟩))/\k<=gQ bl[i]? /\(k=gQ bl[i]? -> ∃l,jj bl[i]? =some ⟨t,l⟩/\idx l j=some d))
 | .w i g o,v=>w1 v/\ ∃h,ρ[i]? =some h/\g<=bW bl[i]? /\(g=bW bl[i]? -> ∃A n c,h= .slice A n c/\0<n/\v= .pointer (some ⟨dm A,o,none⟩))
 | .m i,v=>∃r,ρ[i]? =some (.map (some r))/\v= .map (some r)
 | .n kt vt d,v=>∃r,v= .map (some r)/\F r/\yA T F w kt vt r d
 | .f fn cs,v=>∃vs,v= .func fn #[] ⟨vs⟩/\a1 cs vs
 | .h fn us,v=>∃vs,v= .func fn ⟨vs⟩ #[]/\a1 us vs
 | .a l,v=>∃vs,v= .agg ⟨vs⟩/\a1 l vs
 | .u l,v=>∃vs,v= .tuple ⟨vs⟩/\a1 l vs
 | .i t y,v=>∃u,v= .iface t u/\ao y u
 | .pp i g sz dR,v=>∃A c,v= .slice A dR.length c/\dR.length<=c/\(A=none->c=0)/\(dR≠[]->A=some ⟨dm A,fG A,none⟩/\F (dm A)/\ ∃xs,tc ρ bl i g sz dR xs/\fb w ⟨dm A,fG A,none⟩ xs)
 | .Av i g sz q,v=>∃a o u,v= .pointer (some ⟨a,o,none⟩)/\F a/\vH ρ bl i g sz q u/\fb w ⟨a,o,none⟩ [u]
def a1:List (aF T.El)->List Value->Prop
 |[],vs=>vs=[]
 |y::r,vs=>∃u us,vs=u::us/\ao y u/\a1 r us
end
end
structure mx (T:bN) (ρ ρ':List Value) (bl bl':List (aC T.El)):Prop where
 at_:∀(i:Nat)(h:Value),ρ[i]? =some h-> ∃h',ρ'[i]? =some h'/\(¬kJ h->h'=h)/\bW bl[i]? <=bW bl'[i]? /\(bW bl'[i]? =bW bl[i]? ->h'=h/\jk T bl'[i]? =jk T bl[i]? /\gQ bl[i]? <=gQ bl'[i]? /\(gQ bl'[i]? =gQ bl[i]? ->jj bl'[i]? =jj bl[i]?))
theorem mx.refl{T:bN}{ρ:List Value}{bl:List (aC T.El)}:mx T ρ ρ bl bl:=⟨λ i h hi=>⟨h,hi,λ _=>rfl,cu _,λ _=>⟨rfl,rfl,cu _,λ _=>rfl⟩⟩⟩
theorem mx.trans{T:bN}{ρ ρ' f:List Value}{bl bl' c:List (aC T.El)}(h:mx T ρ ρ' bl bl')(k:mx T ρ' f bl' c):mx T ρ f bl c:=⟨λ i v hi=>by
 obtain⟨g,j,J,l,a⟩:=h.at_ i v hi;obtain⟨d,m,n,o,b⟩:=k.at_ i g j;refine⟨d,m,λ aj=>?_,gm l o,λ e=>?_⟩
 ·have e1:=J aj
  rw[n (by rw[e1];exact aj),e1]
 ·have e1:bW bl'[i]? =bW bl[i]? :=by omega
  have e2:bW c[i]? =bW bl'[i]? :=by omega
  refine⟨(b e2).1.trans (a e1).1,(b e2).2.1.trans (a e1).2.1,gm (a e1).2.2.1 (b e2).2.2.1,λ e3=>?_⟩
  have p:=(a e1).2.2.1
  have q:=(b e2).2.2.1
  exact((b e2).2.2.2 (by omega)).trans ((a e1).2.2.2 (by omega))⟩
section
variable{T:bN}{F F':Nat->Prop}{w w':World}{ρ ρ':List Value}{bl bl':List (aC T.El)}
theorem vH.later{i g sz:Nat}{q:Int}{v:Value}(a:mx T ρ ρ' bl bl')(h:vH ρ bl i g sz q v):vH ρ' bl' i g sz q v:=by
 obtain⟨b,u,c,J,d⟩:=h;obtain⟨f,j,_,k,l⟩:=a.at_ i _ c;refine⟨b,f,j,gm J k,λ e=>?_⟩;have e1:bW bl'[i]? =bW bl[i]? :=by omega
 rw[(l e1).1];exact d (by omega)
theorem tc.imp{El a:Nat->Type}{bl:List (aC El)}{bl':List (aC a)}{i g b g' sz:Nat}(hi:∀q v,vH ρ bl i g sz q v->vH ρ' bl' b g' sz q v):∀ {dR:List Int}{xs:List Value},tc ρ bl i g sz dR xs->tc ρ' bl' b g' sz dR xs
 |[],_,h=>h
 |q::r,xs,h=>by
  obtain⟨u,us,rfl,c,J⟩:=h;exact⟨u,us,rfl,hi _ _ c,tc.imp hi J⟩
theorem tc.at_{i g sz:Nat}:∀ {dR:List Int}{xs:List Value}{m:Nat}{q:Int},tc ρ bl i g sz dR xs->dR[m]? =some q-> ∃u,xs[m]? =some u/\vH ρ bl i g sz q u
 |[],_,m,q,_,a=>by simp at a
 |p::r,xs,0,q,h,a=>by
  obtain⟨u,us,rfl,b,J⟩:=h;simp only[de,aD]at a;subst a;exact⟨u,rfl,b⟩
 |p::r,xs,m+1,q,h,a=>by
  obtain⟨u,us,rfl,b,J⟩:=h;simpa using tc.at_ J (by simpa using a)
mutual
theorem ao.later(f:∀k,F k->F' k/\w'.heap[k]? =w.heap[k]?)(m:mx T ρ ρ' bl bl'):∀(y:aF T.El){v:Value},ao T F w ρ bl y v->ao T F' w' ρ' bl' y v
 | .p _,_,h=>by simpa only[ao]using h
 | .b i o,v,h=>by
   simp only[ao]at h⊢;obtain⟨g,b,J⟩:=h;obtain⟨h',n,C,_⟩:=m.at_ i _ b;exact⟨g,by rw[n,C (by simp[kJ])],J⟩
 | .x t d o,v,h=>by
   simp only[ao]at h⊢;obtain⟨a,q,cs,b,J,p,D⟩:=h;exact⟨a,q,cs,b,(f a J).1,(T.ty t).law f p,D.law (f a J).2⟩
 | .s t l,v,h=>by
   simp only[ao]at h⊢;exact(bY (T.ty t)).law f h
 | .q t l,v,h=>by
   simp only[ao]at h⊢;exact⟨(bY (T.ty t)).law f h.1,h.2⟩
 | .r i g,v,h=>by
   simp only[ao]at h⊢;obtain⟨z,u,b,J,p⟩:=h;obtain⟨B,n,_,x,s⟩:=m.at_ i _ b;refine⟨z,B,n,gm J x,λ e=>?_⟩;have e1:bW bl'[i]? =bW bl[i]? :=by omega
   rw[(s e1).1];exact p (by omega)
 | .v i g lo hi,v,h=>by
   simp only[ao]at h⊢;obtain⟨z,u,b,J,p⟩:=h;obtain⟨B,n,_,x,s⟩:=m.at_ i _ b;refine⟨z,B,n,gm J x,λ e=>?_⟩;have e1:bW bl'[i]? =bW bl[i]? :=by omega
   rw[(s e1).1,(s e1).2.1];exact p (by omega)
 | .e i g k t j d o,v,h=>by
   simp only[ao]at h⊢;obtain⟨z,u,b,J,p⟩:=h;obtain⟨B,n,_,x,s⟩:=m.at_ i _ b;refine⟨z,B,n,gm J x,λ e=>?_⟩;have e1:bW bl'[i]? =bW bl[i]? :=by omega
   obtain⟨E,G,H,I⟩:=s e1;obtain⟨K,L,hb⟩:=p (by omega);rw[E,G];refine⟨K,gm L H,λ e=>?_⟩;rw[I (by omega)];exact hb (by omega)
 | .w i g o,v,h=>by
   simp only[ao]at h⊢;obtain⟨z,u,b,J,p⟩:=h;obtain⟨B,n,_,x,s⟩:=m.at_ i _ b;refine⟨z,B,n,gm J x,λ e=>?_⟩;have e1:bW bl'[i]? =bW bl[i]? :=by omega
   rw[(s e1).1];exact p (by omega)
 | .m i,v,h=>by
   simp only[ao]at h⊢;obtain⟨g,b,J⟩:=h;obtain⟨h',n,C,_⟩:=m.at_ i _ b;exact⟨g,by rw[n,C (by simp[kJ])],J⟩
 | .n kt vt d,v,h=>by
   simp only[ao]at h⊢;obtain⟨r,b,J,p⟩:=h;exact⟨r,b,(f r J).1,p.law f (f r J).2⟩
 | .f fn cs,v,h=>by
   simp only[ao]at h⊢;obtain⟨vs,b,J⟩:=h;exact⟨vs,b,a1.later f m cs J⟩
 | .h fn us,v,h=>by
   simp only[ao]at h⊢;obtain⟨vs,b,J⟩:=h;exact⟨vs,b,a1.later f m us J⟩
 | .a l,v,h=>by
   simp only[ao]at h⊢;obtain⟨vs,b,J⟩:=h;exact⟨vs,b,a1.later f m l J⟩
 | .u l,v,h=>by
   simp only[ao]at h⊢;obtain⟨vs,b,J⟩:=h;exact⟨vs,b,a1.later f m l J⟩
 | .i t y,v,h=>by
   simp only[ao]at h⊢;obtain⟨u,b,J⟩:=h;exact⟨u,b,ao.later f m y J⟩
 | .pp i g sz dR,v,h=>by
   simp only[ao]at h⊢;obtain⟨A,c,e1,e2,e3,e4⟩:=h;refine⟨A,c,e1,e2,e3,λ M=>?_⟩;obtain⟨n,C,xs,x,s⟩:=e4 M;exact⟨n,(f _ C).1,xs,x.imp λ q v=>vH.later m,s.law (f _ C).2⟩
 | .Av i g sz q,v,h=>by
   simp only[ao]at h⊢;obtain⟨a,o,u,e1,e2,e3,e4⟩:=h;exact⟨a,o,u,e1,(f _ e2).1,e3.later m,e4.law (f _ e2).2⟩
theorem a1.later(a:∀k,F k->F' k/\w'.heap[k]? =w.heap[k]?)(b:mx T ρ ρ' bl bl'):∀(l:List (aF T.El)){vs:List Value},a1 T F w ρ bl l vs->a1 T F' w' ρ' bl' l vs
 |[],_,h=>by simpa only[a1]using h
 |y::r,vs,h=>by
  simp only[a1]at h⊢;obtain⟨u,us,c,J,d⟩:=h;exact⟨u,us,c,ao.later a b y J,a1.later a b r d⟩
end
theorem a1.len:∀ {l:List (aF T.El)}{vs:List Value},a1 T F w ρ bl l vs->vs.length=l.length
 |[],_,h=>by simp only[a1]at h;subst h;rfl
 |y::r,vs,h=>by
  simp only[a1]at h;obtain⟨u,us,rfl,_,a⟩:=h;simp[a1.len a]
theorem a1.at_:∀ {l:List (aF T.El)}{vs:List Value}{i:Nat}{y:aF T.El},a1 T F w ρ bl l vs->l[i]? =some y-> ∃v,vs[i]? =some v/\ao T F w ρ bl y v
 |[],_,i,y,_,hi=>by simp at hi
 |z::r,vs,0,y,h,hi=>by
  simp only[a1]at h;obtain⟨u,us,rfl,J,_⟩:=h;simp only[de,aD]at hi;subst hi;exact⟨u,rfl,J⟩
 |z::r,vs,i+1,y,h,hi=>by
  simp only[a1]at h;obtain⟨u,us,rfl,_,a⟩:=h;simpa using a1.at_ a (by simpa using hi)
theorem a1.bD:∀ {l l':List (aF T.El)}{vs a:List Value},a1 T F w ρ bl l vs->a1 T F w ρ bl l' a->a1 T F w ρ bl (l++l') (vs++a)
 |[],_,_,_,h,h'=>by simp only[a1]at h;subst h;exact h'
 |y::r,l',vs,a,h,h'=>by
  simp only[a1]at h;obtain⟨u,us,rfl,J,b⟩:=h;simp only[jf,a1];exact⟨u,us++a,rfl,J,a1.bD b h'⟩
theorem a1.drop:∀ {l:List (aF T.El)}{vs:List Value}(n:Nat),a1 T F w ρ bl l vs->a1 T F w ρ bl (l.drop n) (vs.drop n)
 |l,vs,0,h=>by simpa using h
 |[],vs,n+1,h=>by simp only[a1]at h;subst h;simp[a1]
 |y::r,vs,n+1,h=>by
  simp only[a1]at h;obtain⟨u,us,rfl,J,a⟩:=h;simpa using a1.drop n a
theorem a1.take:∀ {l:List (aF T.El)}{vs:List Value}(n:Nat),a1 T F w ρ bl l vs->a1 T F w ρ bl (l.take n) (vs.take n)
 |l,vs,0,h=>by simp[a1]
 |[],vs,n+1,h=>by simp only[a1]at h;subst h;simp[a1]
 |y::r,vs,n+1,h=>by
  simp only[a1]at h;obtain⟨u,us,rfl,J,a⟩:=h;simp only[jC,a1];exact⟨u,us.take n,rfl,J,a1.take n a⟩
end
end a8
