/- Part 1 of the proof that is ended in the last text: small logic, what the functions compute, walks, plain laws. -/
import Derived.WalkKit
import Derived.Deep.LoopGhost
import Derived.Deep.Quiet
import Derived.Maps.AppendAt
import Derived.KernelRfl
import Derived.Deep.RegionHeld3
import Derived.Laws.StructEq
import Derived.Carry
import Derived.ChangeSame
import Derived.OpenShut
import Derived.Deep.Slices
import Derived.Deep.Fields
import Derived.ChangeMaps5
import Derived.Lib.LaidTab
import Derived.OrdersHeld
import Derived.MapKept
import Derived.Laws.OwnMore
import Derived.Laws.IdiomStrings
import Derived.RangeFuncRecord
import Derived.RangeFuncSeq
import Derived.RangeFuncIn
import Derived.RangeFuncLeaves
import Derived.OrdersIn
import Derived.TacticsIn
import Derived.Deep.OwnRows
import Derived.Lib.AppendZeros
import Derived.ArgAppend
import Derived.Test.YteeliipnilghaaaGreatChecked
open Array renaming getD_eq_getD_getElem?->ek,getElem?_eq_getElem->jh,getElem?_eq_none->hJ,getElem?_eq_some_iff->fJ,getElem?_modify->jO,getElem?_setIfInBounds->fe,getElem?_toList->ht,setIfInBounds_comm->jt
open Bool renaming and_eq_true->bH,eq_false_iff->hz,eq_iff_iff->ie,false_eq_true->hG,false_or->iu,not_eq_true'->gI,or_eq_false_iff->h0,or_eq_true->hV
open Int renaming eq_ofNat_of_zero_le->lh,le_refl->k2
open List renaming all_eq_true->kh,any_eq_true->h2,append_assoc->hM,append_nil->hp,cons.inj->eE,cons.injEq->hA,cons_append->jv,drop_length->iL,drop_of_length_le->iQ,drop_zero->gS,eq_nil_of_length_eq_zero->hf,ext_getElem?->kL,flatMap_cons->iN,getElem?_append->mm,getElem?_append_right->fI,getElem?_cons_zero->dG,getElem?_drop->je,getElem?_eq_getElem->aJ,getElem?_eq_none->gH,getElem?_eq_some_iff->aO,getElem?_map->jb,getElem?_take->gT,getElem_mem->hh,length_append->dJ,length_cons->de,length_drop->k8,length_map->fW,length_range->iq,length_set->kb,length_take->gw,map_cons->eu,map_nil->hS,map_toArray->gX,mem_append->b_,mem_append_left->kz,mem_append_right->js,mem_cons->cR,mem_cons_of_mem->dX,mem_cons_self->iD,mem_flatMap->hF,mem_iff_getElem->iP,mem_map->hB,mem_of_getElem?->bE,mem_of_mem_drop->mA,mem_range->kS,nil_append->ju,nodup_append->eQ,nodup_cons->im,not_mem_nil->h4,pairwise_iff_getElem->jr,range->dM,replicate->fN,set_getElem_self->me,take->mf,take_append->k6,take_append_drop->ja,take_length->jZ,take_of_length_le->hQ,take_succ_cons->ke
open Nat renaming add_assoc->kg,add_mul->jy,add_zero->ky,beq->bS,ble->jc,blt->ez,decEq->lu,eq_of_beq_eq_true->bd,le_mul_of_pos_right->l2,le_of_ble_eq_true->cv,le_refl->cC,le_trans->gJ,lt_of_lt_of_le->en,lt_or_ge->gg,lt_succ_self->lv,min_eq_left->lJ,mul_le_mul_right->j1,zero_add->jx,zero_le->gK
open Option renaming bind_some->ae,map_none->iW,map_some->fm,some.inj->ei,some.injEq->aF
open Prod renaming fst->kQ,mk.injEq->ca
namespace I
def ax(n:Int):Int:=(n+9223372036854775808)%18446744073709551616-9223372036854775808
def GM(n:Int):Int:=n%18446744073709551616
def XZ(a b:Int):Int:=ax ((BitVec.ofInt 64 a|||BitVec.ofInt 64 b).toNat:Int)
def SH(a b:Int):Int:=ax ((BitVec.ofInt 64 a&&&BitVec.ofInt 64 b).toNat:Int)
def w7(a:Int)(n:Nat):Int:=a / 2^n
def oX(n:Int):UInt8:=UInt8.ofNat (n%256).toNat
def idx{α:Type}(l:List α)(i:Int):Option α:=if 0<=i then l[i.toNat]? else none
def C9(b:Bool):Option Unit:=if b then some ()else none
def bF{α:Type}(bytes:Nat)(l m:List α):Option (List α):=if(l.length+m.length)*bytes<=140737488355328 then some (l++m)else none
def bytesOf(s:List UInt8):Option (List UInt8):=if s.length<=140737488355328 then some s else none
def za{α:Type}(z:α)(bytes:Nat)(n:Int):Option (List α):=if 0<=n/\bytes*n.toNat<=140737488355328 then some (fN n.toNat z)else none
def HQ{α:Type}(z:α)(bytes:Nat)(n:Int):Option (List α):=if 0<n/\bytes*n.toNat<=140737488355328 then some (fN n.toNat z)else none
def cut{α:Type}(l:List α)(i j:Int):Option (List α):=if 0<=i/\i<=j/\j<=l.length then some ((l.take j.toNat).drop i.toNat)else none
theorem S3{α:Type}{b:Bool}{x y:Option α}{r:α}(af:b=true)(h:cond b x y=some r):x=some r:=by subst af;exact h
theorem S2{α:Type}{b:Bool}{x y:Option α}{r:α}(af:b=false)(h:cond b x y=some r):y=some r:=by subst af;exact h
theorem fM{α β:Type}{o:Option α}{f:α->Option β}{r:β}(h:o.bind f=some r):∃x,o=some x/\f x=some r:=by
 cases o with
 |none=>cases h
 |some x=>exact⟨x,rfl,h⟩
theorem lc{α:Type}{l:List α}{i:Int}{d:α}(h:idx l i=some d):0<=i/\i.toNat<l.length/\l[i.toNat]? =some d:=by
 unfold idx at h;split at h
 ·rename_i a
  exact⟨a,(aO.1 h).1,h⟩
 ·cases h
theorem L7{α:Type}{bytes:Nat}{l m r:List α}(h:bF bytes l m=some r):(l.length+m.length)*bytes<=140737488355328/\r=l++m:=by
 unfold bF at h;split at h
 ·rename_i a;exact⟨a,by simpa using h.symm⟩
 ·cases h
theorem aCr{α:Type}{z:α}{bytes:Nat}{n:Int}{r:List α}(h:za z bytes n=some r):0<=n/\bytes*n.toNat<=140737488355328/\r=fN n.toNat z:=by
 unfold za at h;split at h
 ·rename_i a;exact⟨a.1,a.2,by simpa using h.symm⟩
 ·cases h
theorem asH{α:Type}{z:α}{bytes:Nat}{n:Int}{r:List α}(h:HQ z bytes n=some r):0<n/\bytes*n.toNat<=140737488355328/\r=fN n.toNat z:=by
 unfold HQ at h;split at h
 ·rename_i a;exact⟨a.1,a.2,by simpa using h.symm⟩
 ·cases h
theorem XL{b:Bool}{u:Unit}(h:C9 b=some u):b=true:=by
 unfold C9 at h;split at h
 ·assumption
 ·cases h
theorem asJ(n:Int):((oX n).toNat:Int)=n%256:=by
 unfold oX;have a:0<=n%256:=Int.emod_nonneg _ (by omega);have b:n%256<256:=Int.emod_lt_of_pos _ (by omega);simp only[UInt8.toNat_ofNat'];omega
end I
namespace I
def join{cM α:Type}(k:cM)(b:cM->Option α):Option α:=b k
end I
namespace I
section
variable{cM β:Type} [DecidableEq cM]
def cJ:List (cM×β)->cM->Option β
 |[],_=>none
 |p::r,k=>if p.1=k then some p.2 else cJ r k
def gA:List (cM×β)->cM->β->List (cM×β)
 |[],k,v=>[(k,v)]
 |p::r,k,v=>if p.1=k then(k,v)::r else p::gA r k v
def pk:List (cM×β)->cM->Option Nat
 |[],_=>none
 |p::r,k=>if p.1=k then some 0 else(pk r k).map (·+1)
end
end I
namespace I
inductive Way (ρ α:Type)
 |go (a:α)
 |out (r:ρ)
def ch{ρ α:Type}(x:Option (Way ρ α))(k:α->Option ρ):Option ρ:=match x with
 |none=>none
 |some (.go a)=>k a
 |some (.out r)=>some r
def cY{ρ α β:Type}(x:Option (Way ρ α))(k:α->Option (Way ρ β)):Option (Way ρ β):=match x with
 |none=>none
 |some (.go a)=>k a
 |some (.out r)=>some (.out r)
def adF{ρ α:Type}(k:α->Option ρ):Way ρ α->Option ρ
 | .go a=>k a
 | .out r=>some r
theorem aG4{ρ α:Type}{x:Option (Way ρ α)}{k:α->Option ρ}{r:ρ}(h:ch x k=some r):∃y,x=some y/\adF k y=some r:=by
 cases x with
 |none=>cases h
 |some y=>cases y<;>exact⟨_,rfl,h⟩
@[simp] theorem qK {ρ α:Type} (a:α) (k:α->Option ρ):ch (some (.go a)) k=k a:=rfl
@[simp] theorem akz {ρ α:Type} (r:ρ) (k:α->Option ρ):ch (some (.out r)) k=some r:=rfl
@[simp] theorem oy {ρ α β:Type} (a:α) (k:α->Option (Way ρ β)):cY (some (.go a)) k=k a:=rfl
@[simp] theorem aM6 {ρ α β:Type} (r:ρ) (k:α->Option (Way ρ β)):cY (some (.out r)) k=some (.out r):=rfl
end I
namespace I
end I
namespace aw
open Go Go.RowKit
def eh:List (Nat×Value)->Nat->Option Value
 |[],_=>none
 |p::r,t=>match bS p.1 t with
  |true=>some p.2
  |false=>eh r t
structure cB where
 n:Nat
 ds:List Deferred
instance:Coe cB Nat:=⟨cB.n⟩
structure Fr (n:cB) (l:List (Nat×Value)) (a:Act):Prop where
 size:a.tmps.size=n.n
 defers:a.defers=n.ds
 get:∀t v,eh l t=some v->a.tmps.getD t undef=v
theorem Fr.g{n:cB}{l:List (Nat×Value)}{a:Act}{t:Nat}{v:Value}(ad:Fr n l a)(h:eh l t=some v):a.eval (.tmp t)=v:=ad.get t v h
theorem Fr.put{n:cB}{d:Nat}{l:List (Nat×Value)}{a:Act}{v:Value}(ad:Fr n l a)(aL:ez d n=true):Fr n ((d,v)::l) (a.put (some d) v):=by
 have b:d<n:=cv aL;refine⟨by simpa[Act.put]using ad.size,ad.defers,λ t u h=>?_⟩;have aj:=ad.size;simp only[eh]at h;cases af:bS d t with
 |true=>
  rw[af]at h
  simp only[aF]at h
  have e:d=t:=bd af
  subst e;subst h
  simp[Act.put,aj,b]
 |false=>
  rw[af]at h
  have e:d≠t:=by intro e;subst e;simp at af
  have:=ad.get t u h
  simp only[Act.put,ek]at this⊢
  rw[fe,if_neg e]
  exact this
def KM(l:List (Nat×Value)):List (Nat×Value)->Prop
 |[]=>True
 |p::r=>eh l p.1=some p.2/\KM l r
theorem aB5{l l':List (Nat×Value)}(h:KM l l'):∀t v,eh l' t=some v->eh l t=some v:=by
 induction l' with
 |nil=>intro t v a;simp[eh]at a
 |cons p r b=>
  intro t v a
  simp only[eh]at a
  cases af:bS p.1 t with
  |true=>
   rw[af]at a
   have e:p.1=t:=bd af
   simp only[aF]at a
   rw[<-e,<-a];exact h.1
  |false=>rw[af]at a;exact b h.2 t v a
theorem Fr.sub{n:cB}{l l':List (Nat×Value)}{a:Act}(ad:Fr n l a)(h:KM l l'):Fr n l' a:=
 ⟨ad.size,ad.defers,λ t v b=>ad.get t v (aB5 h t v b)⟩
def tf:Nat->List Value->List (Nat×Value)
 |_,[]=>[]
 |k,v::r=>(k,v)::tf (k+1) r
theorem aB4(vs:List Value):∀k t v,eh (tf k vs) t=some v->k<=t/\vs[t-k]? =some v:=by
 induction vs with
 |nil=>intro k t v h;simp[tf,eh]at h
 |cons u r a=>
  intro k t v h
  simp only[tf,eh]at h
  cases af:bS k t with
  |true=>
   rw[af]at h
   have e:k=t:=bd af
   subst e
   simpa using h
  |false=>
   rw[af]at h
   have e:k≠t:=by intro e;subst e;simp at af
   obtain⟨b,J⟩:=a (k+1) t v h
   refine⟨by omega,?_⟩
   have:t-k=(t- (k+1))+1:=by omega
   rw[this];simpa using J
theorem Fr.init(vs:List Value)(n:Nat)(h:jc vs.length n=true):Fr ⟨n,[]⟩ (tf 0 vs) { tmps:=vs.toArray++Array.replicate (n-vs.toArray.size) undef,defers:=[] }:=by
 have b:vs.length<=n:=by simpa using h
 refine⟨by simp;omega,rfl,λ t v c=>?_⟩;obtain⟨_,J⟩:=aB4 vs 0 t v c;have a:t<vs.length:=by
  rcases gg t vs.length with h |h
  ·exact h
  ·rw[gH (by simpa using h)]at J;cases J
 have ap:vs[t]? =some v:=by simpa using J
 rw[ek];rw[aJ a,aF]at ap;simp[Array.getElem?_append,a,ap]
theorem enter{P:Program}{f:FuncId}{fn:Func}{c:Code}{vs:List Value}{w:World}{R:Ending->World->Prop}{n:Nat}
 (ad:P.funcs[f]? =some fn)(af:fn.body=some c)(b:fn.ntmps=n)(d:jc vs.length n=true)
 (h:∀a,Fr ⟨n,[]⟩ (tf 0 vs) a->c.wp P (bodyPost P fn R) a w):Calls P f vs.toArray w R:=by
 refine calls_of_wp ad af ?_
 rw[b]
 exact h _ (Fr.init vs n d)
structure bp (M:List Nat) (w w':World):Prop where
 os:w'.os=w.os
 tape:w'.tape=w.tape
 output:w'.output=w.output
 size:w.heap.size<=w'.heap.size
 block:∀k,k<w.heap.size->k∉M->w'.heap[k]? =w.heap[k]?
theorem bp.refl(M:List Nat)(w:World):bp M w w:=⟨rfl,rfl,rfl,cC _,λ _ _ _=>rfl⟩
theorem bp.trans{M jD:List Nat}{a b c:World}(h:bp M a b)(k:bp jD b c)(f:∀x∈jD,x∈M\/a.heap.size<=x):bp M a c:=
 ⟨k.os.trans h.os,k.tape.trans h.tape,k.output.trans h.output,gJ h.size k.size,λ i hi d=>
  (k.block i (en hi h.size) (λ g=>by rcases f i g with e |e;exact d e;omega)).trans (h.block i hi d)⟩
theorem bp.drew(M:List Nat)(w:World):bp M w w.drew:=⟨rfl,rfl,rfl,cC _,λ _ _ _=>rfl⟩
theorem bp.alloc(M:List Nat)(w:World)(o:Obj):bp M w (w.alloc o):=⟨rfl,rfl,rfl,by simp,λ k a _=>Below.heap_alloc _ _ _ a⟩
theorem bp.set(w:World)(a:Addr)(u:Value):bp [a.block] w (w.setCell a u):=
 ⟨rfl,rfl,rfl,by simp[World.setCell],λ k _ b=>Below.heap_setCell _ _ _ _ (by simpa using b)⟩
theorem bp.mono{M jD:List Nat}{a b:World}(h:bp M a b)(c:∀x∈M,x∈jD):bp jD a b:=⟨h.os,h.tape,h.output,h.size,λ k d e=>h.block k d (λ f=>e (c k f))⟩
theorem bp.grown{w w':World}{row:Option Nat}(h:w.grownBy w' row):bp row.toList w w':=
 ⟨h.os,h.tape,h.output,h.size,λ k a b=>h.block k a (λ e=>b (by rw[<-e];simp))⟩
theorem bp.below{w w':World}(h:bp [] w w'):Below w.heap.size w w':=⟨h.os,h.tape,h.output,h.size,λ k a=>h.block k a (by simp)⟩
structure ba where
 bB:List Nat
 ok:World->Prop
 law:∀w w',(∀k∈bB,w'.heap[k]? =w.heap[k]?)->ok w->ok w'
structure bD where
 ok:List Nat->World->Prop
 law:∀M jD w w',bp M w w'->(∀k∈jD,k∈M\/w.heap.size<=k)->ok M w->ok jD w'
def bX(E:List ba):List Nat:=E.flatMap ba.bB
structure bw (W:World) (M0 X:List Nat) (w:World) (E:List ba) (D:List bD):Prop where
 bW:bp M0 W w
 hL:∀k∈X,k<W.heap.size/\k∉M0
 lt:∀k∈bX E,k<w.heap.size/\(k∈M0\/W.heap.size<=k)
 ok:∀x∈E,x.ok w
 bz:(bX E).Nodup
 rd:∀y∈D,y.ok (X++bX E) w
section
variable{W w w':World}{M0 X:List Nat}{E:List ba}{D:List bD}
theorem bw.start(M0 X:List Nat)(w:World)(E:List ba)(D:List bD)(c:∀k∈X,k<w.heap.size/\k∉M0)(a:∀k∈bX E,k<w.heap.size/\k∈M0)(d:∀x∈E,x.ok w)(e:(bX E).Nodup)(f:∀y∈D,y.ok (X++bX E) w) :
 bw w M0 X w E D:=⟨bp.refl _ _,c,λ k b=>⟨(a k b).1,.inl (a k b).2⟩,d,e,f⟩
theorem bw.eV(h:bw W M0 X w E D)(b:bp [] w w'):bw W M0 X w' E D:=
 ⟨h.bW.trans b (by simp),h.hL,λ k a=>⟨en (h.lt k a).1 b.size,(h.lt k a).2⟩,
  λ x c=>x.law w w' (λ k a=>b.block k (h.lt k (hF.2 ⟨x,c,a⟩)).1 (by simp)) (h.ok x c),h.bz,
  λ y hy=>y.law (X++bX E) _ w w' (b.mono (by simp)) (λ k a=>.inl a) (h.rd y hy)⟩
theorem bw.drew(h:bw W M0 X w E D):bw W M0 X w.drew E D:=h.eV (bp.drew _ _)
theorem bw.push(h:bw W M0 X w E D)(x:ba)(f:bp [] w w')(i:x.ok w')(ad:∀k∈x.bB,w.heap.size<=k/\k<w'.heap.size)(j:x.bB.Nodup):bw W M0 X w' (x::E) D:=by
 have c:=h.eV f;refine⟨c.bW,h.hL,λ k d=>?_,λ y hy=>?_,?_,λ y hy=>?_⟩
 ·rcases b_.1 (by simpa[bX]using d:k∈x.bB++bX E)with e |e
  ·exact⟨(ad k e).2,.inr (gJ h.bW.size (ad k e).1)⟩
  ·exact c.lt k e
 ·rcases cR.1 hy with rfl |e
  ·exact i
  ·exact c.ok y e
 ·have:bX (x::E)=x.bB++bX E:=by simp[bX]
  rw[this,eQ]
  refine⟨j,h.bz,λ a l b af e=>?_⟩
  subst e
  have:=(ad a l).1
  have:=(h.lt a af).1
  omega
 ·refine y.law (X++bX E) _ w w' (f.mono (by simp)) (λ k d=>?_) (h.rd y hy)
  have g:k∈X++(x.bB++bX E):=by simpa[bX]using d
  simp only[b_]at g
  rcases g with e |e |e
  ·exact .inl (by simp[e])
  ·exact .inr (ad k e).1
  ·exact .inl (by simp[e])
theorem bw.drop(h:bw W M0 X w E D){b:List ba}(aj:List.Sublist b E):bw W M0 X w b D:=by
 have ad:List.Sublist (bX b) (bX E):=by
  unfold bX;clear h;induction aj with
  |slnil=>simp
  |cons a _ c=>simpa using c.trans (List.sublist_append_right _ _)
  |cons_cons a _ c=>simpa using List.Sublist.append_left c a.bB
 exact⟨h.bW,h.hL,λ k d=>h.lt k (ad.subset d),λ x f=>h.ok x (aj.subset f),h.bz.sublist ad,
  λ y hy=>y.law (X++bX E) _ w w (bp.refl _ _) (λ k d=>.inl (by rcases b_.1 d with e |e;exact b_.2 (.inl e);exact b_.2 (.inr (ad.subset e)))) (h.rd y hy)⟩
theorem bw.gP(h:bw W M0 X w E D){A B:List ba}{x d:ba}(a6:E=A++x::B)(f:bp x.bB w w')(u:d.ok w')(v:d.bB.Nodup)
 (ad:∀k∈d.bB,k∈x.bB\/(w.heap.size<=k/\k<w'.heap.size)):bw W M0 X w' (A++d::B) D:=by
 subst a6
 have c:bX (A++x::B)=bX A++(x.bB++bX B):=by simp[bX]
 have ak:bX (A++d::B)=bX A++(d.bB++bX B):=by simp[bX]
 have p:=h.bz
 rw[c,eQ,eQ]at p
 obtain⟨l,⟨C,m,g⟩,n⟩:=p
 have o:∀k∈x.bB,k<w.heap.size/\(k∈M0\/W.heap.size<=k):=λ k hk=>h.lt k (by rw[c];simp[hk])
 refine⟨h.bW.trans f (λ k hk=>(o k hk).2),h.hL,λ k hk=>?_,λ y hy=>?_,?_,λ y hy=>?_⟩
 ·rw[ak]at hk
  simp only[b_]at hk
  rcases hk with hk |hk |hk
  ·have:=h.lt k (by rw[c];simp[hk]);exact⟨en this.1 f.size,this.2⟩
  ·rcases ad k hk with e |e
   ·exact⟨en (o k e).1 f.size,(o k e).2⟩
   ·exact⟨e.2,.inr (gJ h.bW.size e.1)⟩
  ·have:=h.lt k (by rw[c];simp[hk]);exact⟨en this.1 f.size,this.2⟩
 ·have i:∀z,z∈A\/z∈B->z.ok w':=λ z q=>by
   have r:z∈A++x::B:=by rcases q with e |e<;>simp[e]
   refine z.law w w' (λ k hk=>f.block k (h.lt k (hF.2 ⟨z,r,hk⟩)).1 (λ s=>?_)) (h.ok z r);rcases q with e |e
   ·exact n k (hF.2 ⟨z,e,hk⟩) k (by simp[s]) rfl
   ·exact g k s k (hF.2 ⟨z,e,hk⟩) rfl
  simp only[b_,cR]at hy;rcases hy with hy |rfl |hy
  ·exact i y (.inl hy)
  ·exact u
  ·exact i y (.inr hy)
 ·rw[ak,eQ,eQ]
  have t:∀k∈d.bB,∀b,(b∈bX A\/b∈bX B)->k≠b:=λ k hk b af e=>by
   subst e;rcases ad k hk with e |e
   ·rcases af with af |af
    ·exact n k af k (by simp[e]) rfl
    ·exact g k e k af rfl
   ·have:=(h.lt k (by rw[c];rcases af with af |af<;>simp[af])).1
    omega
  exact⟨l,⟨v,m,λ a j b af=>t a j b (.inr af)⟩,λ a j b af=>by
   rcases b_.1 af with af |af
   ·exact λ e=>t b af a (.inl j) e.symm
   ·exact n a j b (by simp[af])⟩
 ·refine y.law (X++bX (A++x::B)) _ w w' (f.mono (λ k hk=>by rw[c];simp[hk])) (λ k hk=>?_) (h.rd y hy)
  rw[ak]at hk
  simp only[b_]at hk
  rcases hk with hk |hk |hk |hk
  ·exact .inl (by simp[hk])
  ·exact .inl (by rw[c];simp[hk])
  ·rcases ad k hk with e |e
   ·exact .inl (by rw[c];simp[e])
   ·exact .inr e.1
  ·exact .inl (by rw[c];simp[hk])
theorem bw.more(h:bw W M0 X w E D){y:bD}(hy:y.ok (X++bX E) w):bw W M0 X w E (y::D):=
 ⟨h.bW,h.hL,h.lt,h.ok,h.bz,λ z a=>by rcases cR.1 a with rfl |e;exact hy;exact h.rd z e⟩
theorem bw.less(h:bw W M0 X w E D){a:List bD}(aj:∀y∈a,y∈D):bw W M0 X w E a:=⟨h.bW,h.hL,h.lt,h.ok,h.bz,λ y hy=>h.rd y (aj y hy)⟩
theorem bw.e(h:bw W M0 X w E D)(i:Nat){x:ba}(hi:E[i]? =some x):x.ok w:=h.ok x (bE hi)
theorem bw.d(h:bw W M0 X w E D)(i:Nat){y:bD}(hi:D[i]? =some y):y.ok (X++bX E) w:=h.rd y (bE hi)
theorem bD.less{y:bD}{M jD:List Nat}(h:y.ok M w)(a:∀k∈jD,k∈M):y.ok jD w:=y.law M jD w w (bp.refl _ _) (λ k b=>.inl (a k b)) h
theorem bw.Qa(h:bw W M0 X w E D)(i:Nat){x a:ba}(hi:E[i]? =some x)(b:bp x.bB w w')(c:a.ok w')(d:a.bB.Nodup)
 (ad:∀k∈a.bB,k∈x.bB\/(w.heap.size<=k/\k<w'.heap.size)):bw W M0 X w' (E.set i a) D:=by
 obtain⟨e,rfl⟩:=aO.1 hi
 have a6:E=E.take i++E[i]::E.drop (i+1):=by simp
 have:=h.gP a6 b c d ad
 rwa [List.set_eq_take_append_cons_drop,if_pos e]
end
end aw
namespace aw
open Go Go.RowKit I
abbrev ct(l:List UInt8):Value:=.string ⟨⟨l⟩⟩
structure c9 (α:Type) where
 size:Nat
 rd:(Nat->Prop)->World->List Value->α->Prop
 len:∀ {F w cs d},rd F w cs d->cs.length=size
 one:∀ {F w cs d},rd F w cs d-> ∀v∈cs,v.oneCell'=true
 law:∀ {F F' w w' cs d},(∀k,F k->F' k/\w'.heap[k]? =w.heap[k]?)->rd F w cs d->rd F' w' cs d
def ib(M:List Nat)(w:World):Nat->Prop:=λ k=>k∉M/\k<w.heap.size
def bD.of{α:Type}(T:c9 α)(cs:List Value)(d:α):bD where
 ok M w:=T.rd (ib M w) w cs d
 law M jD w w' b c h:=T.law (λ k a=>⟨⟨λ f=>by rcases c k f with e |e;exact a.1 e;exact absurd a.2 (by omega),en a.2 b.size⟩,b.block k a.2 a.1⟩) h
def e7(k:IntKind):c9 Int where
 size:=1
 rd _ _ cs d:=cs=[.int k d]
 len h:=by subst h;rfl
 one h v a:=by subst h;simp at a;subst a;rfl
 law _ h:=h
def Qb:c9 UInt8 where
 size:=1
 rd _ _ cs d:=cs=[.int .u8 (d.toNat:Int)]
 len h:=by subst h;rfl
 one h v a:=by subst h;simp at a;subst a;rfl
 law _ h:=h
def aHH:c9 Bool where
 size:=1
 rd _ _ cs d:=cs=[.bool d]
 len h:=by subst h;rfl
 one h v a:=by subst h;simp at a;subst a;rfl
 law _ h:=h
def jn:c9 (List UInt8) where
 size:=1
 rd _ _ cs d:=cs=[ct d]
 len h:=by subst h;rfl
 one h v a:=by subst h;simp at a;subst a;rfl
 law _ h:=h
section
variable{α:Type}(T:c9 α)
def dE(F:Nat->Prop)(w:World):List Value->List α->Prop
 |xs,[]=>xs=[]
 |xs,d::r=>∃cs ys,xs=cs++ys/\T.rd F w cs d/\dE F w ys r
theorem w5{F:Nat->Prop}{w:World}:∀ {l:List α}{xs:List Value},dE T F w xs l->xs.length=l.length*T.size
 |[],xs,h=>by simp only[dE]at h;subst h;simp
 |d::r,xs,h=>by
  obtain⟨cs,ys,rfl,a,J⟩:=h;rw[dJ,T.len a,w5 J,de,jy];omega
theorem Gn{F:Nat->Prop}{w:World}:∀ {l:List α}{xs:List Value},dE T F w xs l-> ∀v∈xs,v.oneCell'=true
 |[],xs,h=>by simp only[dE]at h;subst h;simp
 |d::r,xs,h=>by
  obtain⟨cs,ys,rfl,a,J⟩:=h;intro v b;rcases b_.1 b with e |e
  ·exact T.one a v e
  ·exact Gn J v e
theorem ov{F F':Nat->Prop}{w w':World}(a:∀k,F k->F' k/\w'.heap[k]? =w.heap[k]?):∀ {l:List α}{xs:List Value},dE T F w xs l->dE T F' w' xs l
 |[],xs,h=>h
 |d::r,xs,h=>by
  obtain⟨cs,ys,rfl,b,J⟩:=h;exact⟨cs,ys,rfl,T.law a b,ov a J⟩
theorem aj0{F:Nat->Prop}{w:World}{d:α}{cs:List Value}(aL:T.rd F w cs d):∀ {l:List α}{xs:List Value},dE T F w xs l->dE T F w (xs++cs) (l++[d])
 |[],xs,h=>by simp only[dE]at h;subst h;exact⟨cs,[],by simp,aL,rfl⟩
 |e::r,xs,h=>by
  obtain⟨c,ys,rfl,a,J⟩:=h;exact⟨c,ys++cs,by simp,a,aj0 aL J⟩
theorem Kg{F:Nat->Prop}{w:World}{l':List α}{a:List Value}(h':dE T F w a l'):∀ {l:List α}{xs:List Value},dE T F w xs l->dE T F w (xs++a) (l++l')
 |[],xs,h=>by simp only[dE]at h;subst h;simpa using h'
 |e::r,xs,h=>by
  obtain⟨c,ys,rfl,b,J⟩:=h;exact⟨c,ys++a,by simp,b,Kg h' J⟩
theorem Kh{F:Nat->Prop}{w:World}:∀ {l:List α}{xs:List Value}{i:Nat}{d:α},dE T F w xs l->l[i]? =some d ->
 ∃cs,T.rd F w cs d/\ ∀j u,cs[j]? =some u->xs[i*T.size+j]? =some u
 |[],_,i,d,_,hi=>by simp at hi
 |e::r,xs,0,d,h,hi=>by
  obtain⟨cs,ys,rfl,a,_⟩:=h;simp only[dG,aF]at hi;subst hi;refine⟨cs,a,λ j u aA=>?_⟩;have f:j<cs.length:=by
   rcases gg j cs.length with h |h
   ·exact h
   ·rw[gH h]at aA;cases aA
  simpa[mm,f]using aA
 |e::r,xs,i+1,d,h,hi=>by
  obtain⟨cs,ys,rfl,a,J⟩:=h;obtain⟨c,hc,aA⟩:=Kh (i:=i) J (by simpa using hi);refine⟨c,hc,λ j u g=>?_⟩;have b:=T.len a;have k:(i+1)*T.size+j=cs.length+(i*T.size+j):=by rw[jy];omega
  rw[k,fI (by omega)];simpa using aA j u g
def fa(w:World)(a:Addr)(xs:List Value):Prop:=∀j u,xs[j]? =some u->w.cell? ⟨a.block,a.off+j,none⟩=some u
theorem fa.law{w w':World}{a:Addr}{xs:List Value}(h:fa w a xs)(af:w'.heap[a.block]? =w.heap[a.block]?):fa w' a xs:=
 λ j u aA=>(World.cell?_of_block (a:=⟨a.block,a.off+j,none⟩) af).trans (h j u aA)
def dv(A:Option Addr):Nat:=(A.getD ⟨0,0,none⟩).block
def fF(A:Option Addr):Nat:=(A.getD ⟨0,0,none⟩).off
def b3:c9 (List α) where
 size:=1
 rd F w cs l:=∃A c,cs=[.slice A l.length c]/\l.length<=c/\c<=maxLen/\(A=none->c=0)/\
  (l≠[]->A=some ⟨dv A,fF A,none⟩/\F (dv A)/\ ∃xs,dE T F w xs l/\fa w ⟨dv A,fF A,none⟩ xs)
 len h:=by obtain⟨A,c,rfl,_⟩:=h;rfl
 one h v b:=by obtain⟨A,c,rfl,_⟩:=h;simp at b;subst b;rfl
 law a h:=by
  obtain⟨A,c,d,ap,e,f,g⟩:=h;refine⟨A,c,d,ap,e,f,λ i=>?_⟩;obtain⟨j,ak,xs,aS,bN⟩:=g i;exact⟨j,(a _ ak).1,xs,ov T a aS,bN.law (a _ ak).2⟩
theorem l_{F:Nat->Prop}{w:World}{v:Value}{l:List α}(h:(b3 T).rd F w [v] l):∃A c,v= .slice A l.length c:=by
 obtain⟨A,c,a,_⟩:=h;exact⟨A,c,by simpa using a⟩
theorem Dm{F:Nat->Prop}{w:World}{A:Option Addr}{n c:Nat}{l:List α}{i:Int}{d:α}(h:(b3 T).rd F w [.slice A n c] l)(hi:idx l i=some d) :
 A=some ⟨dv A,fF A,none⟩/\(0<=i/\i<n)/\ ∃cs,T.rd F w cs d/\fa w ⟨dv A,fF A+i.toNat*T.size,none⟩ cs:=by
 obtain⟨e,a,J⟩:=lc hi
 obtain⟨cj,p,b,aS,bN,dq,eH⟩:=h
 simp only[hA,Value.slice.injEq,and_true]at b
 obtain⟨rfl,rfl,rfl⟩:=b
 obtain⟨f,q,xs,g,k⟩:=eH (λ m=>by rw[m]at a;simp at a)
 obtain⟨cs,hc,o⟩:=Kh T g J
 refine⟨f,⟨e,by omega⟩,cs,hc,λ j u aA=>?_⟩
 have:=k (i.toNat*T.size+j) u (o j u aA)
 simpa[kg]using this
end
def ba.cg(g:Nat)(t:TypeId)(cs:List Value):ba where
 bB:=[g]
 ok w:=w.heap[g]? =some (.cells cs.toArray t (0,0))
 law w w' h a:=(h g (by simp)).trans a
def ba.row{α:Type}(e:TypeId)(size:Nat)(v:Value)(l:List α)(xs:List Value):ba where
 bB:=v.ownBlock.toList
 ok w:=w.ownsRow 0 e size v l.length xs
 law w w' h a:=by
  refine⟨a.1,?_⟩;rcases a.2 with b |⟨g,cap,cur,rfl,af,c,rest⟩
  ·exact .inl b
  ·exact .inr ⟨g,cap,cur,rfl,af,(h g (by simp[Value.ownBlock])).trans c,rest⟩
def bD.rows{α:Type}(T:c9 α)(xs:List Value)(l:List α):bD where
 ok M w:=dE T (ib M w) w xs l
 law M jD w w' b c h:=ov T (λ k a=>⟨⟨λ d=>by rcases c k d with e |e;exact a.1 e;exact absurd a.2 (by omega),en a.2 b.size⟩,b.block k a.2 a.1⟩) h
theorem Kp{α:Type}{w:World}{e:TypeId}{size:Nat}{v:Value}{l:List α}{xs:List Value}(h:(ba.row e size v l xs).ok w):∃A c,v= .slice A l.length c/\l.length<=c/\c<=maxLen/\(A=none->c=0)/\(A≠none->A=some ⟨dv A,0,none⟩):=by
 have h':w.ownsRow 0 e size v l.length xs:=h;rcases h'.2 with⟨rfl,a⟩|⟨g,cap,cur,rfl,_,_,b,J,_⟩
 ·exact⟨none,0,by rw[a],by omega,gK _,λ _=>rfl,λ h=>absurd rfl h⟩
 ·exact⟨some ⟨g,0,none⟩,cap,rfl,b,J,(λ h=>by cases h),λ _=>rfl⟩
theorem aGv{α:Type}{T:c9 α}{M:List Nat}{w:World}{e:TypeId}{A:Option Addr}{n c:Nat}{l:List α}{xs:List Value}(h:(ba.row e T.size (.slice A n c) l xs).ok w)(f:(bD.rows T xs l).ok M w)
 (i:∀k∈(Value.slice A n c).ownBlock.toList,k∉M):(bD.of (b3 T) [.slice A n c] l).ok M w:=by
 have h':w.ownsRow 0 e T.size (.slice A n c) l.length xs:=h
 have m:dE T (ib M w) w xs l:=f
 show(b3 T).rd (ib M w) w _ l
 rcases h'.2 with⟨a,o⟩|⟨g,cap,cur,a,_,p,b,q,aj,s⟩
 ·have r:l=[]:=hf o
  simp only[Value.slice.injEq]at a
  obtain⟨rfl,rfl,rfl⟩:=a
  subst r
  exact⟨none,0,rfl,by simp,gK _,λ _=>rfl,λ h=>absurd rfl h⟩
 ·simp only[Value.slice.injEq]at a
  obtain⟨rfl,rfl,rfl⟩:=a
  refine⟨_,_,rfl,b,q,(λ h=>by cases h),λ _=>⟨rfl,⟨i g (by simp[Value.ownBlock]),(fJ.1 p).1⟩,xs,m,λ j u aA=>?_⟩⟩
  have d:=h'.cells (g:=g) rfl j u aA
  simpa[Addr.add,dv,fF]using(by
   have e:(⟨g,0,none⟩:Addr).add j=⟨g,0+j,none⟩:=by unfold Addr.add;split<;>simp_all
   rw[e]at d;exact d:w.cell? ⟨g,0+j,none⟩=some u)
theorem yd{w:World}{g:Nat}{t:TypeId}{cs:List Value}(h:(ba.cg g t cs).ok w){j:Nat}{v:Value}(aA:cs[j]? =some v):w.cell? ⟨g,j,none⟩=some v:=by
 have h':w.heap[g]? =some (.cells cs.toArray t (0,0)):=h;simp[World.cell?,h',aA]
theorem HV{w:World}{g:Nat}{t:TypeId}{cs:List Value}(h:(ba.cg g t cs).ok w):g<w.heap.size:=by
 have h':w.heap[g]? =some (.cells cs.toArray t (0,0)):=h;exact(fJ.1 h').1
theorem asN(w:World)(t:TypeId)(cs:List Value):(ba.cg w.heap.size t cs).ok (w.alloc (.cells cs.toArray t)):=heap_alloc_new w _
def bD.iX(g:Nat)(cs:List Value):bD where
 ok M w:=g∉M/\g<w.heap.size/\fa w ⟨g,0,none⟩ cs
 law M jD w w' a b h:=⟨λ c=>by rcases b g c with e |e;exact h.1 e;exact absurd h.2.1 (by omega),en h.2.1 a.size,h.2.2.law (a.block g h.2.1 h.1)⟩
theorem mX{α:Type}{T:c9 α}{F:Nat->Prop}{w:World}{cs:List Value}{l:List α}(h:(b3 T).rd F w cs l):∃A c,cs=[.slice A l.length c]:=by
 obtain⟨A,c,a,_⟩:=h;exact⟨A,c,a⟩
theorem aGu{α:Type}{T:c9 α}{M:List Nat}{w:World}{e:TypeId}{A:Option Addr}{n c:Nat}{l:List α}{xs:List Value}{i:Int}{d:α}(h:(ba.row e T.size (.slice A n c) l xs).ok w)(f:(bD.rows T xs l).ok M w)(hi:idx l i=some d) :
 A=some ⟨dv A,fF A,none⟩/\(0<=i/\i<n)/\ ∃cs,T.rd (ib M w) w cs d/\fa w ⟨dv A,fF A+i.toNat*T.size,none⟩ cs:=by
 obtain⟨k,p,J⟩:=lc hi
 have h':w.ownsRow 0 e T.size (.slice A n c) l.length xs:=h
 have m:dE T (ib M w) w xs l:=f
 rcases h'.2 with⟨a,q⟩|⟨g,cap,cur,a,_,r,_⟩
 ·omega
 ·simp only[Value.slice.injEq]at a
  obtain⟨rfl,rfl,rfl⟩:=a
  obtain⟨cs,hc,o⟩:=Kh T m J
  refine⟨rfl,⟨k,by omega⟩,cs,hc,λ j u aA=>?_⟩
  have b:=h'.cells (g:=g) rfl _ u (o j u aA)
  have ak:(⟨g,0,none⟩:Addr).add (i.toNat*T.size+j)=⟨g,0+(i.toNat*T.size+j),none⟩:=by unfold Addr.add;split<;>simp_all
  rw[ak]at b
  show w.cell? ⟨g,0+i.toNat*T.size+j,none⟩=some u
  rw[kg];exact b
end aw
namespace aw
open Go Go.RowKit I
theorem ah3(p q:List UInt8):(p==q)=decide (p=q):=by
 rw[ie];simp
section
variable{P:Program}{o:Oper}{a:Act}{w:World}
abbrev bg(P:Program)(o:Oper)(a:Act)(w:World)(v:Value)(w':World):Prop:=(execOp a.eval o).run P w= .ok (.value v) w'
abbrev rh(P:Program)(o:Oper)(a:Act)(w:World)(w':World):Prop:=(execOp a.eval o).run P w= .ok .skip w'
theorem uU{x:Operand}{v:Value}(b:o.op= .move x)(c:a.eval x=v):bg P o a w v w:=by
 simp only[bg,execOp,b,c];rfl
theorem xC{x:Operand}{v:Value}(b:o.op= .assign x)(c:a.eval x=v):bg P o a w v w:=by
 simp only[bg,execOp,b,c];rfl
theorem RF{c x y:Operand}{v:Value}(b:o.op= .pick c x y)(hc:a.eval c= .bool true)(d:a.eval x=v):bg P o a w v w:=by
 simp only[bg,execOp,b,hc,d];rfl
theorem RE{c x y:Operand}{v:Value}(b:o.op= .pick c x y)(hc:a.eval c= .bool false)(hy:a.eval y=v):bg P o a w v w:=by
 simp only[bg,execOp,b,hc,hy];rfl
section
variable{x y:Operand}{t t':TypeId}{k:IntKind}{m n:Int}
theorem aLo(b:o.op= .binOp .add t x y t')(c:a.eval x= .int k m)(hy:a.eval y= .int k n):bg P o a w (.int k (k.wrap (m+n))) w:=by
 simp only[bg,execOp,b,c,hy];simp[go_sem]
theorem aLT(b:o.op= .binOp .sub t x y t')(c:a.eval x= .int k m)(hy:a.eval y= .int k n):bg P o a w (.int k (k.wrap (m-n))) w:=by
 simp only[bg,execOp,b,c,hy];simp[go_sem]
theorem aLI(b:o.op= .binOp .mul t x y t')(c:a.eval x= .int k m)(hy:a.eval y= .int k n):bg P o a w (.int k (k.wrap (m*n))) w:=by
 simp only[bg,execOp,b,c,hy];simp[go_sem]
theorem aLR(b:o.op= .binOp .quo t x y t')(c:a.eval x= .int k m)(hy:a.eval y= .int k n)(d:n≠0):bg P o a w (.int k (k.wrap (m.tdiv n))) w:=by
 simp only[bg,execOp,b,c,hy];simp[go_sem,d]
theorem aLG(b:o.op= .binOp .lss t x y t')(c:a.eval x= .int k m)(hy:a.eval y= .int k n):bg P o a w (.bool (decide (m<n))) w:=by
 simp only[bg,execOp,b,c,hy];simp[go_sem]
theorem aLF(b:o.op= .binOp .leq t x y t')(c:a.eval x= .int k m)(hy:a.eval y= .int k n):bg P o a w (.bool (decide (m<=n))) w:=by
 simp only[bg,execOp,b,c,hy];simp[go_sem]
theorem an6(b:o.op= .binOp .gtr t x y t')(c:a.eval x= .int k m)(hy:a.eval y= .int k n):bg P o a w (.bool (decide (n<m))) w:=by
 simp only[bg,execOp,b,c,hy];simp[go_sem]
theorem aLB(b:o.op= .binOp .geq t x y t')(c:a.eval x= .int k m)(hy:a.eval y= .int k n):bg P o a w (.bool (decide (n<=m))) w:=by
 simp only[bg,execOp,b,c,hy];simp[go_sem]
theorem aLz(b:P.underlying t=some (.int k))(c:o.op= .binOp .eql t x y t')(d:a.eval x= .int k m)(hy:a.eval y= .int k n):bg P o a w (.bool (decide (m=n))) w:=by
 have:=run_underlying (P:=P) b;simp only[bg,execOp,c,d,hy];simp[go_sem,this];rfl
theorem aLL(b:P.underlying t=some (.int k))(c:o.op= .binOp .neq t x y t')(d:a.eval x= .int k m)(hy:a.eval y= .int k n):bg P o a w (.bool (!decide (m=n))) w:=by
 have:=run_underlying (P:=P) b;simp only[bg,execOp,c,d,hy];simp[go_sem,this];rfl
end
section
variable{x y:Operand}{t t':TypeId}{p q:Bool}
theorem aGN(b:P.underlying t=some .bool)(p q:Bool)(w:World):(binOp .eql t (.bool p) (.bool q)).run P w= .ok (.bool (p==q)) w:=by
 have h:∀d:Nat,(Op.equalIn (d+1) t (.bool p) (.bool q)).run P w= .ok (p==q) w:=λ d=>by
  simp[Op.equalIn,run_underlying b]
 simp only[binOp];simp[Op.equal,Op.maxDepth,h 9999]
theorem aGO(b:P.underlying t=some .bool)(p q:Bool)(w:World):(binOp .neq t (.bool p) (.bool q)).run P w= .ok (.bool (!(p==q))) w:=by
 have h:∀d:Nat,(Op.equalIn (d+1) t (.bool p) (.bool q)).run P w= .ok (p==q) w:=λ d=>by
  simp[Op.equalIn,run_underlying b]
 simp only[binOp];simp[Op.equal,Op.maxDepth,h 9999]
theorem aLy(b:P.underlying t=some .bool)(c:o.op= .binOp .eql t x y t')(d:a.eval x= .bool p)(hy:a.eval y= .bool q):bg P o a w (.bool (p==q)) w:=by
 simp only[bg,execOp,c,d,hy];simp[go_sem,aGN b]
theorem aLK(b:P.underlying t=some .bool)(c:o.op= .binOp .neq t x y t')(d:a.eval x= .bool p)(hy:a.eval y= .bool q):bg P o a w (.bool (!(p==q))) w:=by
 simp only[bg,execOp,c,d,hy];simp[go_sem,aGO b]
theorem an'(b:o.op= .unOp .not t x)(c:a.eval x= .bool p):bg P o a w (.bool (!p)) w:=by
 simp only[bg,execOp,b,c];simp[go_sem]
end
section
variable{x y:Operand}{t t':TypeId}{p q:List UInt8}
theorem aLA(b:P.underlying t=some .string)(c:o.op= .binOp .eql t x y t')(d:a.eval x=ct p)(hy:a.eval y=ct q):bg P o a w (.bool (decide (p=q))) w:=by
 have:=run_underlying (P:=P) b;simp only[bg,execOp,c,d,hy];simp[go_sem,this];exact ah3 p q
theorem aLM(b:P.underlying t=some .string)(c:o.op= .binOp .neq t x y t')(d:a.eval x=ct p)(hy:a.eval y=ct q):bg P o a w (.bool (!decide (p=q))) w:=by
 have:=run_underlying (P:=P) b;simp only[bg,execOp,c,d,hy];simp[go_sem,this];exact ah3 p q
theorem an8{b:TypeId}(c:P.underlying b=some .string)(d:o.op= .call { callee:=.builtin .len,args:=#[x],argTypes:=#[b] })(e:a.eval x=ct p):bg P o a w (.int .i64 p.length) w:=by
 simp only[bg,execOp,d,resolve,invoke,gX,eu,hS,e];simp[go_sem,Builtin.len_,run_underlying c,goInt]
theorem an7{b:TypeId}{A:Option Addr}{n c:Nat}{e:TypeId}(d:P.underlying b=some (.slice e))(f:o.op= .call { callee:=.builtin .len,args:=#[x],argTypes:=#[b] })(g:a.eval x= .slice A n c):bg P o a w (.int .i64 n) w:=by
 simp only[bg,execOp,f,resolve,invoke,gX,eu,hS,g];simp[go_sem,Builtin.len_,run_underlying d,goInt]
theorem aLD{i:Nat}{b:UInt8}(c:P.underlying t=some .string)(d:o.op= .index t x y)(f:a.eval x=ct p)(hy:a.eval y= .int .i64 i)(af:p[i]? =some b):bg P o a w (.int .u8 b.toNat) w:=by
 simp only[bg,execOp,d,f,hy];obtain⟨g,J⟩:=aO.1 af;have e:(⟨⟨p⟩⟩:ByteArray)[i]? =some b:=by
  show(if h:i<_ then some _ else none)=_
  rw[dif_pos (show i<(⟨⟨p⟩⟩:ByteArray).size from g)];exact congrArg some J
 simp[go_sem,Instr.index,run_underlying c,e]
theorem ab5{k k':IntKind}{n:Int}(b:P.underlying t=some (.int k))(c:P.underlying t'=some (.int k'))(d:o.op= .convert t t' x)(e:a.eval x= .int k n):bg P o a w (.int k' (k'.wrap n)) w:=by
 simp only[bg,execOp,d,e];simp[go_sem,convert,run_underlying b,run_underlying c]
end
end
theorem xh(n:Int):IntKind.i64.wrap n=ax n:=by rw[IntKind.wrap_i64];rfl
theorem ald(n:Int):IntKind.u8.wrap n=((oX n).toNat:Int):=by rw[asJ,IntKind.wrap_u8]
section
variable{P:Program}{o:Oper}{a:Act}{w:World}{x y:Operand}{t t':TypeId}{m n:Int}
theorem ab4(b:o.op= .binOp .add t x y t')(c:a.eval x= .int .i64 m)(hy:a.eval y= .int .i64 n):bg P o a w (.int .i64 (ax (m+n))) w:=by rw[<-xh];exact aLo b c hy
theorem aod(b:o.op= .binOp .sub t x y t')(c:a.eval x= .int .i64 m)(hy:a.eval y= .int .i64 n):bg P o a w (.int .i64 (ax (m-n))) w:=by rw[<-xh];exact aLT b c hy
theorem aLJ(b:o.op= .binOp .mul t x y t')(c:a.eval x= .int .i64 m)(hy:a.eval y= .int .i64 n):bg P o a w (.int .i64 (ax (m*n))) w:=by rw[<-xh];exact aLI b c hy
theorem aob(c:o.op= .binOp .rem t x y t')(d:a.eval x= .int .i64 m)(hy:a.eval y= .int .i64 n)(b:(!decide (n=0))=true):bg P o a w (.int .i64 (m.tmod n)) w:=by
 have b:n≠0:=by simpa using b
 simp only[bg,execOp,c,d,hy];simp[go_sem,b]
theorem aoa(b:o.op= .binOp .quo t x y t')(c:a.eval x= .int .i64 m)(hy:a.eval y= .int .i64 n)(d:(!decide (n=0))=true):bg P o a w (.int .i64 (ax (m.tdiv n))) w:=by rw[<-xh];exact aLR b c hy (by simpa using d)
theorem aLt(b:P.underlying t=some (.int .i64))(c:P.underlying t'=some (.int .i64))(d:o.op= .convert t t' x)(e:a.eval x= .int .i64 m):bg P o a w (.int .i64 (ax m)) w:=by
 have h:=ab5 (P:=P) (w:=w) b c d e;rwa [xh]at h
theorem aLu(b:P.underlying t=some (.int .i64))(c:P.underlying t'=some (.int .u8))(d:o.op= .convert t t' x)(e:a.eval x= .int .i64 m):bg P o a w (.int .u8 ((oX m).toNat:Int)) w:=by
 have h:=ab5 (P:=P) (w:=w) b c d e;rwa [ald]at h
theorem Mx(a:Act)(g:Nat):a.eval (.global g)= .pointer (some ⟨g,0,none⟩):=rfl
theorem Ly{vs:List Value}{i:Nat}{v:Value}(b:o.op= .extract x i)(c:a.eval x= .tuple vs.toArray)(d:vs[i]? =some v):bg P o a w v w:=by
 simp only[bg,execOp,b,c];simp[go_sem,Instr.extract,d]
theorem Lz{p:Addr}(b:o.op= .nilCheck x)(c:a.eval x= .pointer (some p)):bg P o a w (.pointer (some p)) w:=by
 simp only[bg,execOp,b,c];rfl
end
end aw
namespace aw
open Go Go.RowKit I
theorem kY(b o n:Nat):(⟨b,o,none⟩:Addr).add n=⟨b,o+n,none⟩:=by
 unfold Addr.add;split<;>simp_all
section
variable{P:Program}{o:Oper}{a:Act}{w:World}{x y:Operand}{t e s:TypeId}
theorem aLE{i:Int}{b:UInt8}{p:List UInt8}(c:P.underlying t=some .string)(d:o.op= .index t x y)(f:a.eval x=ct p)(hy:a.eval y= .int .i64 i)(af:idx p i=some b):bg P o a w (.int .u8 b.toNat) w:=by
 obtain⟨g,h,J⟩:=lc af;obtain⟨n,rfl⟩:=lh g;exact aLD c d f hy (by simpa using J)
theorem pO{A:Option Addr}{n c sz:Nat}{i:Int}(d:P.underlying t=some (.slice e))(aj:∀w,(Go.sizeOf e).run P w= .ok sz w)
 (f:o.op= .indexAddr t x y)(b:a.eval x= .slice A n c)(hy:a.eval y= .int .i64 i)(g:A=some ⟨dv A,fF A,none⟩)(hi:0<=i/\i<n) :
 bg P o a w (.pointer (some ⟨dv A,fF A+i.toNat*sz,none⟩)) w:=by
 obtain⟨h,l⟩:=hi
 obtain⟨k,rfl⟩:=lh h
 have j:k<n:=by omega
 rw[g]at b
 simp only[bg,execOp,f,b,hy]
 simp[go_sem,Instr.indexAt,run_underlying d,j,aj,kY]
theorem RC{cb:Array Field}{f:Field}{j b p sz:Nat}(d:P.underlying s=some (.struct cb))(ad:cb[j]? =some f)(aj:∀w,(Go.sizeOf f.type).run P w= .ok sz w)(g:bS sz 0=false)
 (h:o.op= .fieldAddr s x j)(i:a.eval x= .pointer (some ⟨b,p,none⟩)):bg P o a w (.pointer (some ⟨b,p+f.offset,none⟩)) w:=by
 have c:sz≠0:=by intro e;subst e;simp at g
 simp only[bg,execOp,h,i]
 simp[go_sem,Instr.fieldAt,run_underlying d,ad,fieldPlace,aj,c,kY]
theorem xD{b p:Nat}{v:Value}(c:∀w,(isAgg t).run P w= .ok false w)(d:o.op= .load t x)(f:a.eval x= .pointer (some ⟨b,p,none⟩))(hc:w.cell? ⟨b,p,none⟩=some v):bg P o a w v w:=by
 simp only[bg,execOp,d,f];simp[go_sem,Instr.loadAt,loadVar,c,hc]
theorem an9{b p sz:Nat}{cs:List Value}(c:∀w,(isAgg t).run P w= .ok true w)(aj:∀w,(Go.sizeOf t).run P w= .ok sz w)(d:cs.length=sz)(f:o.op= .load t x)
 (g:a.eval x= .pointer (some ⟨b,p,none⟩))(hc:fa w ⟨b,p,none⟩ cs):bg P o a w (.agg cs.toArray) w:=by
 have h:=run_loadCells_list (P:=P) w ⟨b,p,none⟩ cs (λ j u aA=>by rw[kY];exact hc j u aA)
 rw[d]at h
 unfold loadCells at h
 simp only[bg,execOp,f,g]
 simp[go_sem,Instr.loadAt,loadVar,c,aj,h]
theorem Rz{v:Value}{cs:List Value}(c:v.cells=cs.toArray)(d:o.op= .box t x)(f:a.eval x=v):bg P o a w (.pointer (some ⟨w.heap.size,0,none⟩)) (w.alloc (.cells cs.toArray t)):=by
 have b:=c;unfold Value.cells at b;simp only[bg,execOp,d,f];simp[go_sem,Instr.box,newVar,newRow,b]
theorem AM{z:Value}{cs:List Value}(c:∀w,(zeroValue t).run P w= .ok z w)(d:z.cells=cs.toArray)(f:o.op= .alloc t):bg P o a w (.pointer (some ⟨w.heap.size,0,none⟩)) (w.alloc (.cells cs.toArray t)):=by
 have b:=d;unfold Value.cells at b;simp only[bg,execOp,f];simp[go_sem,Instr.alloc,newVar,newRow,c,b]
end
def lay:List Value->Nat->List Value->List Value
 |l,0,cs=>cs++l.drop cs.length
 |[],_+1,_=>[]
 |u::l,n+1,cs=>u::lay l n cs
theorem W9:∀(l:List Value)(n:Nat)(cs:List Value),n+cs.length<=l.length->lay l n cs=l.take n++cs++l.drop (n+cs.length)
 |l,0,cs,_=>by simp[lay]
 |[],n+1,cs,h=>by simp at h
 |u::l,n+1,cs,h=>by
  have:=W9 l n cs (by simp at h;omega);simp only[lay,this,ke,jv];have e:n+1+cs.length=(n+cs.length)+1:=by omega
  rw[e,List.drop_succ_cons]
section
variable{P:Program}{o:Oper}{a:Act}{w:World}{x y:Operand}{t e s:TypeId}
theorem ab6{g p sz:Nat}{tb:TypeId}{cs vs:List Value}{v:Value}(j:v.cells=vs.toArray)(aj:∀w,(Go.sizeOf t).run P w= .ok sz w)(l:bS vs.length sz=true)(m:vs.all (·.oneCell')=true)
 (c:jc (p+vs.length) cs.length=true)(af:(ba.cg g tb cs).ok w)(n:o.op= .store t x y)(q:a.eval x= .pointer (some ⟨g,p,none⟩))(hy:a.eval y=v) :
 ∃w',rh P o a w w'/\bp [g] w w'/\(ba.cg g tb (lay cs p vs)).ok w':=by
 have d:w.heap[g]? =some (.cells cs.toArray tb (0,0)):=af
 have b:vs.length=sz:=bd l
 have f:p+vs.length<=cs.length:=cv c
 have h:=run_storeCells_at P g p tb vs 0 cs.toArray w d (by simpa using f) (λ u r=>kh.1 m u r)
 simp only[ky]at h
 refine⟨w.setRow g (lay cs p vs).toArray,?_,?_,?_⟩
 ·simp only[rh,execOp,n,q,hy]
  rw[W9 _ _ _ f]
  simp only[hM,b]at h
  have i:=j
  unfold Value.cells at i
  simp[go_sem,Instr.storeAt,storeVar,aj,i,b,h]
 ·refine⟨rfl,rfl,rfl,by simp[World.setRow],λ k _ z=>?_⟩
  simp only[World.setRow,jO]
  rw[if_neg (by simpa[eq_comm]using z)]
 ·show(w.setRow g _).heap[g]? =_
  simp[World.setRow,jO,d]
end
section
variable{P:Program}{o:Oper}{a:Act}{w:World}{x y:Operand}{t e:TypeId}
def ML(a:Act):List (Nat×Operand)->List (Nat×Value)->Prop
 |[],[]=>True
 |(i,x)::xs,(j,v)::vs=>(a.eval x=v/\i=j)/\ML a xs vs
 |_,_=>False
theorem TS:∀ {xs:List (Nat×Operand)}{vs:List (Nat×Value)},ML a xs vs->xs.map (λ p=>(p.1,a.eval p.2))=vs
 |[],[],_=>rfl
 |(i,x)::xs,(j,v)::vs,h=>by
  obtain⟨⟨b,rfl⟩,J⟩:=h;rw[eu,TS J,b]
def placesOf(P:Program)(t:TypeId):Sem (Array (Nat×Nat)):=(match P.underlying t with|some (.struct cb)=>cb |_=>#[]).mapM λ(f:Field)=>do pure (f.offset,<-Go.sizeOf f.type)
theorem aLr{z:Value}{cb:Array Field}{pl:Array (Nat×Nat)}{xs:List (Nat×Operand)}{vs:List (Nat×Value)}{cs:List Value}(d:∀w,(zeroValue t).run P w= .ok z w)(b:P.underlying t=some (.struct cb))
 (f:∀w,(placesOf P t).run P w= .ok pl w)(g:o.op= .build t xs.toArray)(h:ML a xs vs)(j:Instr.fill (λ i=>pl[i]?) z.cells vs=some cs.toArray):bg P o a w (.agg cs.toArray) w:=by
 have c:=f w
 simp only[placesOf,b]at c
 have k:=TS h
 simp only[bg,execOp,g,Instr.build,Sem.run_bind,d,Result.andThen_ok,run_underlying b,c,gX]
 have e:(xs.map λ(i,x)=>(i,a.eval x))=vs:=k
 simp only[e,j]
 rfl
theorem D'{z:Value}{sz n:Nat}{xs:List (Nat×Operand)}{vs:List (Nat×Value)}{cs:List Value}(d:P.underlying t=some (.slice e))(aj:∀w,(Go.sizeOf e).run P w= .ok sz w)(f:∀w,(zeroValue e).run P w= .ok z w)
 (b:jc (n*sz) 16777216=true)(c:bS (n*sz) 0=false)(g:o.op= .buildSlice t n xs.toArray)(h:ML a xs vs)
 (j:Instr.fill (λ i=>some (i*sz,sz)) ((Array.range (n*sz)).map (z.cells[·%z.cells.size]!)) vs=some cs.toArray) :
 bg P o a w (.slice (some ⟨w.heap.size,0,none⟩) n n) (w.alloc (.cells cs.toArray e)):=by
 have k:=TS h
 have l:(xs.map λ(i,x)=>(i,a.eval x))=vs:=k
 have J: ¬(n*sz>2^24):=by have:=cv b;omega
 have ap:n*sz≠0:=by intro m;rw[m]at c;simp at c
 simp only[bg,execOp,g,Instr.buildSlice,Sem.run_bind,Sem.run_pure,aj,f,Result.andThen_ok,run_underlying d,gX,l,if_neg J,if_neg ap,j]
 rfl
theorem aLO{t':TypeId}{m n:Int}(b:o.op= .binOp .or t x y t')(c:a.eval x= .int .i64 m)(hy:a.eval y= .int .i64 n):bg P o a w (.int .i64 (XZ m n)) w:=by
 unfold XZ;rw[<-xh];simp only[bg,execOp,b,c,hy];rfl
theorem aLp{t':TypeId}{m n:Int}(b:o.op= .binOp .and t x y t')(c:a.eval x= .int .i64 m)(hy:a.eval y= .int .i64 n):bg P o a w (.int .i64 (SH m n)) w:=by
 unfold SH;rw[<-xh];simp only[bg,execOp,b,c,hy];rfl
theorem an_{fn:Fn}{xs:List Operand}{vs:List Value}(b:o.op= .makeFunc fn #[] xs.toArray)(c:xs.map a.eval=vs):bg P o a w (.func fn #[] vs.toArray) w:=by
 simp only[bg,execOp,b,Instr.makeFunc,gX,c];rfl
end
end aw
namespace aw
open Go Go.RowKit I
section
variable{P:Program}{ops:Array Oper}{Q:Exit->Act->World->Prop}{a:Act}{w w':World}{rest:List Oper}{o:Oper}{n:cB}{d:Nat}{l:List (Nat×Value)}{v:Value}
theorem Qk(b:o.guard=none):Region.wanted o (yielded ops a.tmps)=true:=by simp[Region.wanted,b]
theorem fG(c:Region.wanted o (yielded ops a.tmps)=true)(hy:bg P o a w v w')(ad:Fr n l a)(aL:o.dst=some d)(e:ez d n=true)(k:∀b,Fr n ((d,v)::l) b->wpList P ops Q rest b w'):wpList P ops Q (o::rest) a w:=by
 refine wpList_step λ K f=>?_;rw[if_pos c];unfold Oper.wp;rw[show(execOp a.eval o).run P w=_ from hy];show K (a.put o.dst v) w'
 rw[aL];exact f _ _ (k _ (ad.put e))
theorem jm(b:Region.wanted o (yielded ops a.tmps)=true)(hy:rh P o a w w')(aL:o.dst=none)(k:wpList P ops Q rest a w'):wpList P ops Q (o::rest) a w:=by
 refine wpList_step λ K c=>?_;rw[if_pos b];unfold Oper.wp;rw[show(execOp a.eval o).run P w=_ from hy];show K (a.put o.dst undef) w'
 rw[aL];exact c _ _ k
theorem aId{j bz:Nat}{b:Bool}(ad:Fr n l a)(c:o.guard=some (j,b))(aA:(ops[j]?).bind (·.dst)=some bz)(e:eh l bz=some (.bool b))(f:ez bz n=true):Region.wanted o (yielded ops a.tmps)=true:=by
 have g:bz<n:=cv f;have h:=ad.get bz _ e;have aj:=ad.size;have J:a.tmps[bz]? =some (.bool b):=by
  rw[jh (by omega)];simpa[ek,aj,g]using h
 simp[Region.wanted,c,yielded,aA,J]
theorem aIc{j bz:Nat}{b c:Bool}(ad:Fr n l a)(e:o.guard=some (j,b))(aA:(ops[j]?).bind (·.dst)=some bz)(f:eh l bz=some (.bool c))(g:(c==b)=false)(i:ez bz n=true):Region.wanted o (yielded ops a.tmps)=false:=by
 have k:bz<n:=cv i;have h:=ad.get bz _ f;have aj:=ad.size;have J:a.tmps[bz]? =some (.bool c):=by
  rw[jh (by omega)];simpa[ek,aj,k]using h
 simpa[Region.wanted,e,yielded,aA,J]using g
theorem aIe{j bz:Nat}{b:Bool}(ad:Fr n l a)(c:o.guard=some (j,b))(aA:(ops[j]?).bind (·.dst)=some bz)(e:eh l bz=some undef)(f:ez bz n=true):Region.wanted o (yielded ops a.tmps)=false:=by
 have g:bz<n:=cv f;have h:=ad.get bz _ e;have aj:=ad.size;have J:a.tmps[bz]? =some undef:=by
  rw[jh (by omega)];simpa[ek,aj,g]using h
 simp[Region.wanted,c,yielded,aA,J,undef]
theorem ss(c:Region.wanted o (yielded ops a.tmps)=false)(ad:Fr n l a)(aL:o.dst=some d)(e:ez d n=true)(k:∀b,Fr n ((d,undef)::l) b->wpList P ops Q rest b w):wpList P ops Q (o::rest) a w:=by
 refine wpList_step λ K f=>?_;rw[if_neg (by simp[c]),aL];exact f _ _ (k _ (ad.put e))
def yr(a:Act):List Operand->List Value->Prop
 |[],[]=>True
 |x::xs,v::vs=>a.eval x=v/\yr a xs vs
 |_,_=>False
theorem MO:∀ {xs:List Operand}{vs:List Value},yr a xs vs->xs.map a.eval=vs
 |[],[],_=>rfl
 |x::xs,v::vs,h=>by rw[eu,h.1,MO h.2]
theorem aIo{f:FuncId}{xs:List Operand}{b:Array TypeId}{vs:List Value}{R:Ending->World->Prop}{K:Act->World->Prop}
 (c:o.op= .call { callee:=.value (.func f),args:=xs.toArray,argTypes:=b })(g:∀args w,(callFunc f args).run P w= .ok (.enter f args) w)
 (h:yr a xs vs)(hc:Calls P f vs.toArray w R)(k:∀e w',R e w'-> ∃v,e= .returned v/\K (a.put o.dst v) w'):o.wp P a w K Q:=by
 unfold Oper.wp
 have e:(execOp a.eval o).run P w= .ok (.enter f vs.toArray) w:=by
  have i:=MO h;simp only[execOp,c,resolve,gX,i];simp[go_sem,Act.eval,Deferred.ofValue,invoke,g]
 rw[e]
 exact hc.mono λ e w' j=>by
  obtain⟨v,rfl,m⟩:=k e w' j;exact m
theorem zN{f:FuncId}{xs:List Operand}{c:Array TypeId}{vs:List Value}{R:Ending->World->Prop}(g:Region.wanted o (yielded ops a.tmps)=true)
 (h:o.op= .call { callee:=.value (.func f),args:=xs.toArray,argTypes:=c })(i:∀args w,(callFunc f args).run P w= .ok (.enter f args) w)
 (j:yr a xs vs)(hc:Calls P f vs.toArray w R)(ad:Fr n l a)(aL:o.dst=some d)(m:ez d n=true)
 (k:∀e w',R e w'-> ∃v,e= .returned v/\ ∀b,Fr n ((d,v)::l) b->wpList P ops Q rest b w'):wpList P ops Q (o::rest) a w:=by
 refine wpList_step λ K p=>?_
 rw[if_pos g]
 refine aIo h i j hc λ e w' q=>?_
 obtain⟨v,r,s⟩:=k e w' q
 rw[aL]
 exact⟨v,r,p _ _ (s _ (ad.put m))⟩
end
section
variable{P:Program}{ops:Array Oper}{Q:Exit->Act->World->Prop}{a:Act}{w w':World}{rest:List Oper}{o:Oper}{n:cB}{d:Nat}{l:List (Nat×Value)}{v:Value}
theorem aGK{f:FuncId}{b:Operand}{xs:List Operand}{c:Array TypeId}{vs cs:List Value}
 (e:o.op= .call { callee:=.value b,args:=xs.toArray,argTypes:=c })(g:∀args w,(callFunc f args).run P w= .ok (.enter f args) w)(h:a.eval b= .func (.func f) #[] cs.toArray)
 (i:yr a xs vs):(execOp a.eval o).run P w= .ok (.enter f (vs++cs).toArray) w:=by
 have j:=MO i
 simp only[execOp,e,resolve,gX,j,h]
 simp[Deferred.ofValue,invoke,g]
theorem ZP{f:FuncId}{b:Operand}{xs:List Operand}{g:Array TypeId}{vs cs:List Value}{R:Ending->World->Prop}(h:Region.wanted o (yielded ops a.tmps)=true)
 (i:o.op= .call { callee:=.value b,args:=xs.toArray,argTypes:=g })(j:∀args w,(callFunc f args).run P w= .ok (.enter f args) w)(m:a.eval b= .func (.func f) #[] cs.toArray)
 (p:yr a xs vs)(hc:Calls P f (vs++cs).toArray w R)(ad:Fr n l a)(aL:o.dst=some d)(q:ez d n=true)
 (k:∀e w',R e w'-> ∃v,e= .returned v/\ ∀c,Fr n ((d,v)::l) c->wpList P ops Q rest c w'):wpList P ops Q (o::rest) a w:=by
 refine wpList_step λ K r=>?_
 rw[if_pos h]
 unfold Oper.wp
 rw[aGK i j m p]
 refine hc.mono λ e w' s=>?_
 obtain⟨v,rfl,t⟩:=k e w' s
 rw[aL]
 exact r _ _ (t _ (ad.put q))
end
section
variable{P:Program}{Q:Exit->Act->World->Prop}{a:Act}{w:World}
theorem SS{c:Code}(b:Nat->Act->World->Prop)(k:Nat)(h:b k a w)(e:∀a w,¬b 0 a w)
 (round:∀k a w,b (k+1) a w-> ∀K:Act->World->Prop,(∀a w,b k a w->K a w)->c.wp P (Exit.then K Q) a w):(Code.loop c).wp P Q a w:=
 wp_loop_ghost b k h λ m a w d=>by
  cases m with
  |zero=>exact absurd d (e a w)
  |succ m=>exact round m a w d _ λ f w' h'=>⟨m,lv m,h'⟩
theorem aFA{fn:Func}{R:Ending->World->Prop}{n:Nat}{l:List (Nat×Value)}(b:fn.results= #[])(ad:Fr ⟨n,[]⟩ l a)(h:R (.returned (.tuple #[])) w):bodyPost P fn R .ret a w:=
 ⟨ad.defers,_,results_none b _ _ _,h⟩
theorem zG{fn:Func}{R:Ending->World->Prop}{n:Nat}{t:Nat}{l:List (Nat×Value)}{v:Value}(b:fn.results= #[.tmp t])(ad:Fr ⟨n,[]⟩ l a)(c:eh l t=some v)(h:R (.returned v) w):bodyPost P fn R .ret a w:=
 ⟨ad.defers,_,results_tmp b _ _ _,by rw[ad.get _ _ c];exact h⟩
def Zz(P:Program)(a:Act)(w:World):ResultVar->Value->Prop
 | .tmp t,v=>a.tmps.getD t undef=v
 | .cell ec ty,v=>∃b p,a.tmps.getD ec undef= .pointer (some ⟨b,p,none⟩)/\
  ((∃cs:List Value,(∀w,(isAgg ty).run P w= .ok true w)/\(∀w,(Go.sizeOf ty).run P w= .ok cs.length w)/\fa w ⟨b,p,none⟩ cs/\v= .agg cs.toArray)\/
   ((∀w,(isAgg ty).run P w= .ok false w)/\w.cell? ⟨b,p,none⟩=some v))
def PK(P:Program)(a:Act)(w:World):List ResultVar->List Value->Prop
 |[],[]=>True
 |r::rs,v::vs=>Zz P a w r v/\PK P a w rs vs
 |_,_=>False
def pack:List Value->Value
 |[v]=>v
 |vs=>.tuple vs.toArray
def PJ(a:Act):ResultVar->Sem Value
 | .tmp t=>pure (a.tmps.getD t undef)
 | .cell ec t=>do loadVar t (<-asAddr (a.tmps.getD ec undef))
theorem aGP{r:ResultVar}{v:Value}(h:Zz P a w r v):(PJ a r).run P w= .ok v w:=by
 cases r with
 |tmp t=>exact congrArg (λ x=>Result.ok x w) h
 |cell ec ty=>
  obtain⟨b,p,e,J⟩:=h
  simp only[PJ,e]
  rcases J with⟨cs,c,aj,hc,rfl⟩|⟨c,hc⟩
  ·have d:=run_loadCells_list (P:=P) w ⟨b,p,none⟩ cs (λ j u aA=>by rw[kY];exact hc j u aA)
   unfold loadCells at d
   simp[go_sem,loadVar,asAddr,c,aj,d]
  ·simp[go_sem,loadVar,asAddr,c,hc]
theorem ako:∀ {rs:List ResultVar}{vs:List Value},PK P a w rs vs->(rs.mapM (PJ a)).run P w= .ok vs w
 |[],[],_=>rfl
 |r::rs,v::vs,h=>by
  have b:=aGP h.1;have J:=ako h.2;rw[List.mapM_cons];simp only[Sem.run_bind,b,J,Result.andThen_ok];rfl
theorem aFy{fn:Func}{R:Ending->World->Prop}{n:Nat}{l:List (Nat×Value)}{rs:List ResultVar}{vs:List Value}(b:fn.results=rs.toArray)(ad:Fr ⟨n,[]⟩ l a)(c:PK P a w rs vs)
 (h:R (.returned (pack vs)) w):bodyPost P fn R .ret a w:=by
 refine⟨ad.defers,pack vs,?_,h⟩
 have d:=ako c
 unfold results
 have e:(λ x=>match x with| .tmp t=>pure (a.tmps.getD t undef)| .cell ec t=>do loadVar t (<-asAddr (a.tmps.getD ec undef)):ResultVar->Sem Value)=PJ a:=by
  funext x;cases x<;>rfl
 rw[b,List.mapM_toArray]
 simp only[Sem.run_bind]
 show Result.andThen (((List.toArray <$> rs.mapM (λ x=>match x with| .tmp t=>pure (a.tmps.getD t undef)| .cell ec t=>do loadVar t (<-asAddr (a.tmps.getD ec undef)):ResultVar->Sem Value))).run P w) _=_
 rw[e,map_eq_pure_bind,Sem.run_bind,d]
 match vs with
 |[]=>rfl
 |[v]=>rfl
 |v::u::r=>rfl
end
section
variable{P:Program}{ops:Array Oper}{Q:Exit->Act->World->Prop}{a:Act}{w:World}{rest:List Oper}{o:Oper}{n:cB}{d:Nat}{l:List (Nat×Value)}
 {W:World}{M0 X:List Nat}{E:List ba}{D:List bD}
theorem bw.new(c:bw W M0 X w E D)(t:TypeId)(cs:List Value):bw W M0 X (w.alloc (.cells cs.toArray t)) (ba.cg w.heap.size t cs::E) D:=
 c.push _ (bp.alloc _ _ _) (asN w t cs) (λ k b=>by simp[ba.cg]at b;subst b;exact⟨cC _,by simp⟩) (by simp[ba.cg])
theorem xa{g p sz:Nat}{t tb:TypeId}{x y:Operand}{cs vs:List Value}{v:Value}(i:Nat)(e:bw W M0 X w E D)(hi:E[i]? =some (ba.cg g tb cs))(f:Region.wanted o (yielded ops a.tmps)=true)
 (h:v.cells=vs.toArray)(aj:∀w,(Go.sizeOf t).run P w= .ok sz w)(j:bS vs.length sz=true)(b:vs.all (·.oneCell')=true)(c:jc (p+vs.length) cs.length=true)
 (m:o.op= .store t x y)(q:a.eval x= .pointer (some ⟨g,p,none⟩))(hy:a.eval y=v)(aL:o.dst=none)
 (k:∀w',bw W M0 X w' (E.set i (ba.cg g tb (lay cs p vs))) D->wpList P ops Q rest a w'):wpList P ops Q (o::rest) a w:=by
 obtain⟨w',b,J,ap⟩:=ab6 h aj j b c (e.e i hi) m q hy
 exact jm f b aL (k w' (e.Qa i hi J ap (by simp[ba.cg]) (λ k r=>.inl r)))
theorem bw.JT{α:Type}(b:bw W M0 X w E D)(e:TypeId)(size:Nat):bw W M0 X w (ba.row e size (.slice none 0 0) ([]:List α) []::E) D:=
 b.push _ (bp.refl _ _) (World.ownsRow_nil w 0 e size) (λ k c=>by simp[ba.row,Value.ownBlock]at c) (by simp[ba.row,Value.ownBlock])
theorem aDx(o:Option Nat):o.toList.Nodup:=by cases o<;>simp
theorem ag_{e:TypeId}{z:Value}{sz bytes:Nat}(h:(P.info? e).map (λ i=>(i.zero,i.size,i.bytes))=some (some z,sz,bytes)):∃i,P.info? e=some i/\i.zero=some z/\i.size=sz/\i.bytes=bytes:=by
 cases hi:P.info? e with
 |none=>rw[hi]at h;cases h
 |some i=>
  rw[hi]at h
  simp only[fm,aF,ca]at h
  exact⟨i,rfl,h.1,h.2.1,h.2.2⟩
end
end aw
namespace aw
open Go Go.RowKit I
section
variable{P:Program}{ops:Array Oper}{C:World->Prop}{oR:Act->Prop}{a:Act}{w:World}{rest:List Oper}{o:Oper}{n:cB}{d:Nat}{l:List (Nat×Value)}{v:Value}
theorem qE(c:Region.wanted o (yielded ops a.tmps)=true)(hy:∀w,C w->bg P o a w v w)(ad:Fr n l a)(aL:o.dst=some d)(e:ez d n=true)(k:∀b,Fr n ((d,v)::l) b->wpQuiet P ops C oR rest b):wpQuiet P ops C oR (o::rest) a:=by
 unfold wpQuiet;rw[if_pos c];refine⟨v,λ w hc=>?_,?_⟩
 ·unfold Oper.quietAt
  rw[show(execOp a.eval o).run P w=_ from hy w hc]
  exact⟨rfl,rfl⟩
 ·rw[aL];exact k _ (ad.put e)
theorem qs(c:Region.wanted o (yielded ops a.tmps)=false)(ad:Fr n l a)(aL:o.dst=some d)(e:ez d n=true)(k:∀b,Fr n ((d,undef)::l) b->wpQuiet P ops C oR rest b):wpQuiet P ops C oR (o::rest) a:=by
 unfold wpQuiet;rw[if_neg (by simp[c]),aL];exact k _ (ad.put e)
theorem atj{id:Nat}{Q:Exit->Act->World->Prop}{l:List Oper}(b:P.follows .mixedOrders=true)(bO:Region.lexB .any l.toArray=true)
 (h:wpQuiet P l.toArray (λ w'=>bp [] w w') (λ a=>∀w',bp [] w w'->Q .normal a w') l a):(Code.region id l.toArray true).wp P Q a w:=
 wp_region_quiet (C:=λ w'=>bp [] w w') b bO (bp.drew [] w) (by
  refine Eq.mp ?_ h;rw[List.toList_toArray])|>λ h=>wp_mono h (λ e a w q=>q)
end
theorem avU{w w':World}{p:Addr}{v:Value}(h:bp [] w w')(hc:w.cell? p=some v):w'.cell? p=some v:=
 (World.cell?_of_block (h.block p.block (World.block_lt_of_cell? w p hc) (by simp))).trans hc
theorem E4{w w':World}{p:Addr}{cs:List Value}(h:bp [] w w')(hc:fa w p cs):fa w' p cs:=λ j u aA=>avU h (hc j u aA)
section
variable{P:Program}{Q:Exit->Act->World->Prop}{K:Act->World->Prop}{a:Act}{w:World}
theorem sL{i:Nat}(h:Q (.exit i) a w):Exit.then K Q (.exit i) a w:=h
theorem Hh{i:Nat}(h:Q .normal a w):Exit.inBlock i Q (.exit i) a w:=by simpa[Exit.inBlock]using h
theorem Rq(h:Q .ret a w):Exit.then K Q .ret a w:=h
theorem anX{i:Nat}(h:Q .ret a w):Exit.inBlock i Q .ret a w:=h
theorem Mj{id:Nat}{c:Code}(b:Act->World->Prop)(d:∀K:Act->World->Prop,(∀a w,b a w->K a w)->c.wp P (Exit.inBlock id (Exit.then K Q)) a w)(hy:∀a w,b a w->Q .normal a w):(Code.block id c).wp P Q a w:=by
 refine wp_block (wp_mono (d _ hy) ?_);intro e a w h;cases e with
 |exit i=>
  by_cases hi:i=id
  ·simpa[Exit.inBlock,Exit.then,hi]using h
  ·simpa[Exit.inBlock,Exit.then,hi]using h
 |_=>exact h
theorem oY{id:Nat}{l:List Oper}(h:wpList P l.toArray Q l a w):(Code.region id l.toArray false).wp P Q a w:=wp_region_lit h
end
section
variable{W w:World}{M0 X:List Nat}{E:List ba}{D:List bD}
def Pg(D:List bD):List bD->Prop
 |[]=>True
 |y::r=>(∃i:Nat,D[i]? =some y)/\Pg D r
theorem ajl{D:List bD}:∀ {a:List bD},Pg D a-> ∀y∈a,y∈D
 |[],_,y,hy=>by simp at hy
 |z::r,h,y,hy=>by
  rcases cR.1 hy with rfl |e
  ·obtain⟨i,hi⟩:=h.1;exact bE hi
  ·exact ajl h.2 y e
theorem bw.pick(h:bw W M0 X w E D){a:List bD}(aj:Pg D a):bw W M0 X w E a:=h.less (ajl aj)
theorem bw.afg(h:bw W [] X w E D):bp [] W w:=h.bW
theorem bw.MB(h:bw W M0 X w E D)(i:Nat):bw W M0 X w (E.eraseIdx i) D:=h.drop (List.eraseIdx_sublist E i)
theorem bw.freeze{α:Type}{T:c9 α}{e:TypeId}{A:Option Addr}{n c:Nat}{l:List α}{xs:List Value}(h:bw W M0 X w E D)(i j:Nat)(hi:E[i]? =some (ba.row e T.size (.slice A n c) l xs))(aA:D[j]? =some (bD.rows T xs l)) :
 bw W M0 X w (E.eraseIdx i) (bD.of (b3 T) [.slice A n c] l::D):=by
 have b:=h.MB i
 refine b.more (aGv (h.e i hi) (b.d j aA) ?_)
 intro k a d
 rcases b_.1 d with ai |ai
 ·have f:=h.hL k ai
  rcases(h.lt k (hF.2 ⟨_,bE hi,a⟩)).2 with ak |ak
  ·exact f.2 ak
  ·omega
 ·obtain⟨m,g⟩:=aO.1 hi
  have a6:E=E.take i++E[i]::E.drop (i+1):=by simp
  have aL:=h.bz
  rw[a6,g]at aL
  have ak:bX (E.take i++ba.row e T.size (.slice A n c) l xs::E.drop (i+1))=bX (E.take i)++((ba.row e T.size (.slice A n c) l xs).bB++bX (E.drop (i+1))):=by simp[bX]
  rw[ak,eQ,eQ]at aL
  rw[List.eraseIdx_eq_take_drop_succ]at ai
  rcases b_.1 (by simpa[bX]using ai:k∈bX (E.take i)++bX (E.drop (i+1)))with aS |aS
  ·exact aL.2.2 k aS k (b_.2 (.inl a)) rfl
  ·exact aL.2.1.2.2 k a k aS rfl
theorem bw.afE{g:Nat}{t:TypeId}{cs:List Value}(h:bw W M0 X w E D)(i:Nat)(hi:E[i]? =some (ba.cg g t cs)):bw W M0 X w (E.eraseIdx i) (bD.iX g cs::D):=by
 have b:=h.MB i;refine b.more ⟨?_,HV (h.e i hi),λ j u aA=>?_⟩
 ·intro c
  have a:g∈(ba.cg g t cs).bB:=by simp[ba.cg]
  rcases b_.1 c with ai |ai
  ·have d:=h.hL g ai
   rcases(h.lt g (hF.2 ⟨_,bE hi,a⟩)).2 with ak |ak
   ·exact d.2 ak
   ·omega
  ·obtain⟨f,e⟩:=aO.1 hi
   have a6:E=E.take i++E[i]::E.drop (i+1):=by simp
   have aL:=h.bz
   rw[a6,e]at aL
   have ak:bX (E.take i++ba.cg g t cs::E.drop (i+1))=bX (E.take i)++((ba.cg g t cs).bB++bX (E.drop (i+1))):=by simp[bX]
   rw[ak,eQ,eQ]at aL
   rw[List.eraseIdx_eq_take_drop_succ]at ai
   rcases b_.1 (by simpa[bX]using ai:g∈bX (E.take i)++bX (E.drop (i+1)))with aS |aS
   ·exact aL.2.2 g aS g (b_.2 (.inl a)) rfl
   ·exact aL.2.1.2.2 g a g aS rfl
 ·have:=yd (h.e i hi) aA
  simpa using this
end
end aw
namespace aw
open Go Go.RowKit I
def dN(n:Nat):List Nat->Array Bool
 |[]=>Array.replicate n false
 |i::d=>(dN n d).setIfInBounds i true
def Er(K:Act->World->Prop)(Q:Exit->Act->World->Prop):Exit->Act->World->Prop
 | .normal,a,w=>K a w
 |e,a,w=>Q e a w
section
variable{P:Program}{ops:Array Oper}{Q:Exit->Act->World->Prop}{a:Act}{w:World}{o:Oper}{n:cB}{f d i:Nat}{ds:List Nat}{l:List (Nat×Value)}{v:Value}
def P6(ops:Array Oper)(ds:List Nat)(i:Nat):Bool:=Region.noSelect ops&&Region.free .any ops (dN ops.size ds) i&&(Region.ready .any ops (dN ops.size ds)).contains i
theorem aIn{K:Act->World->Prop}{Q:Exit->Act->World->Prop}(h:o.wp P a w K (Er K Q)):o.wp P a w K Q:=by
 unfold Oper.wp at *;generalize(execOp a.eval o).run P w=r at *;cases r with
 |ok n w'=>
  cases n<;>simp only[Oper.upon]at h⊢ <;>
   first
    |exact h
    |exact Calls.mono h (λ e w'' b=>by cases e<;>first |exact b |exact b)
 |halt x w'=>cases x<;>simp only[Oper.upon]at h⊢ <;>exact h
theorem aau{K:Act->World->Prop}(hi:ops[i]? =some o)(h:wpList P ops (Er K (NoPanic Q)) [o] a w):wpOp P ops (NoPanic Q) i K a w:=by
 unfold wpOp;simp only[hi];unfold wpList at h;split at h
 ·rename_i b
  rw[if_pos b]
  rcases h with h |⟨c,J⟩
  ·exact .inl (aIn h)
  ·exact .inr ⟨c,J.elim λ a h=>h.elim λ w h=>⟨a,w,h⟩⟩
 ·rename_i b
  rw[if_neg b]
  exact h
end
section
variable{P:Program}{o:Oper}{a:Act}{w:World}{t t':TypeId}{x y:Operand}{cb:Array Go.Field}{xs ys:Array Value}{b:Bool}
theorem RB(c:P.underlying t=some (.struct cb))(d:P.stoodInHeld t=false)(e:P.eqGuardType P.depth t=false)
 (f:(Op.eqFields 9999 xs ys cb.toList).run P w= .ok b w)(g:o.op= .binOp .eql t x y t')(i:a.eval x= .agg xs)(hy:a.eval y= .agg ys):bg P o a w (.bool b) w:=by
 have ad:P.fieldsOf t=cb:=by simp[Program.fieldsOf,c]
 have h:=run_equalIn_struct (P:=P) w 9999 t xs ys (by rw[ad];exact c) d
 rw[ad,f]at h
 have h:(Op.equalIn 10000 t (Value.agg xs) (Value.agg ys)).run P w= .ok b w:=h
 simp only[bg,execOp,g,i,hy]
 simp[go_sem,Op.equal,Op.maxDepth,h,run_eqGuard_agg w _ _ _ _ _ _ e]
theorem RD(c:P.underlying t=some (.struct cb))(d:P.stoodInHeld t=false)(e:P.eqGuardType P.depth t=false)
 (f:(Op.eqFields 9999 xs ys cb.toList).run P w= .ok b w)(g:o.op= .binOp .neq t x y t')(i:a.eval x= .agg xs)(hy:a.eval y= .agg ys):bg P o a w (.bool (!b)) w:=by
 have ad:P.fieldsOf t=cb:=by simp[Program.fieldsOf,c]
 have h:=run_equalIn_struct (P:=P) w 9999 t xs ys (by rw[ad];exact c) d
 rw[ad,f]at h
 have h:(Op.equalIn 10000 t (Value.agg xs) (Value.agg ys)).run P w= .ok b w:=h
 simp only[bg,execOp,g,i,hy]
 simp[go_sem,Op.equal,Op.maxDepth,h,run_eqGuard_agg w _ _ _ _ _ _ e]
theorem tg{d:Nat}:(Op.eqFields d xs ys []).run P w= .ok true w:=rfl
theorem nM{d:Nat}{f:Go.Field}{l:List Go.Field}{k:IntKind}{m n:Int}{e:Prop} [Decidable e](g:(f.name != "_")=true)(i:P.underlying f.type=some (.int k))(j:∀w,(isAgg f.type).run P w= .ok false w)
 (p:xs[f.offset]? =some (.int k m))(hy:ys[f.offset]? =some (.int k n))(h:(Op.eqFields (d+1) xs ys l).run P w= .ok (decide e) w):(Op.eqFields (d+1) xs ys (f::l)).run P w= .ok (decide (m=n/\e)) w:=by
 have q:f.name≠ "_" :=by simpa using g
 simp only[Op.eqFields,q,if_true,ne_eq,not_false_iff,part,Sem.run_bind,j,Result.andThen_ok,p,hy,hG,if_false,Sem.run_pure,run_equalIn_int w d f.type k k m n i]
 by_cases c:m=n
 ·subst c;simp[h]
 ·simp[c,show(m==n)=false from by simpa using c]
end
end aw
namespace aw
open Go Go.RowKit Go.ChangeShapes Go.WideShapes Go.Deep I
section
variable{H:Type}{enc:TypeId×Value->H}{P:Program}
theorem ady(e:laidOutB P=true){W f:World}{hv:Nat->Bool}:∀ {b:List TypeId}{vs:List Value}{ds:List (DataW H)}{ps:List MemPlace},DataW.TrodAll enc P W 0 (λ _=>true) true b vs ds ps ->
 (b.all λ t=>P.readableRec t&&ez t P.types.size)=true->(∀p∈ps,W.sameAt f p)->(∀p∈ps,hv p.block=true)->DataW.TrodAll enc P f 0 hv true b vs ds ps
 |[],vs,ds,ps,h,_,_,_=>by obtain⟨rfl,rfl,rfl⟩:=trodAll_nil h;exact trodAll_mk0
 |t::b,vs,ds,ps,h,c,aj,g=>by
  obtain⟨v,l,d,i,p,q,rfl,rfl,rfl,j,k⟩:=trodAll_cons h;simp only[List.all_cons,bH]at c
  exact trodAll_cons_mk (WideElems.Trod_stays e c.1.1 (cv c.1.2) j (λ x a=>aj x (kz _ a)) (λ x a=>g x (kz _ a)))
   (ady e k c.2 (λ x a=>aj x (js _ a)) (λ x a=>g x (js _ a)))
theorem aDQ{f:Func}{s:ChangeSpec}{W c:World}{args:Array Value}{ds gs:List (DataW H)}{before:List MemPlace}{tb:TypeId}
 (g:DataW.Whole enc P f.params.toList s.vars false W args.toList ds gs before)(w:laidOutB P=true)(y:(f.params.toList.all λ t=>P.readableRec t&&ez t P.types.size)=true)
 (m:s.vars=[])(h:s.fn H ds= { results:=[.lit (.bool true)],args:=ds })(af:P.underlying tb=some .bool)(d:f.resultTypes= #[tb])(z:bp [] W c) :
 s.post enc P f false true false false W args (.bool true) c:=by
 have i:=z.below
 have j:∀p∈before,p.block<W.heap.size:=λ p k=>g.lt p k
 have l:=g
 obtain⟨p,q,A,n,Fz,B,C⟩:=g
 rw[m]at n
 obtain⟨rfl,rfl⟩:=trodVars_none n
 simp only[hp]at Fz
 subst Fz
 have e:∀x∈before,(λ b=>decide (b<W.heap.size)) x.block=true:=λ x a=>by simpa using j x a
 have o:∀hv:Nat->Bool,(∀x∈before,hv x.block=true)->DataW.TrodAll enc P c 0 hv true f.params.toList args.toList ds before:=
  λ hv Cr=>ady w A y (λ x a=>i.same (j x a)) Cr
 have r:∀(b:Nat)(hv:Nat->Bool)(aL:Bool),DataW.TrodAll enc P c b hv aL f.resultTypes.toList ((Value.bool true).resultList f.resultTypes.size) [.lit (.bool true)] []:=λ b hv aL=>by
  rw[d];exact trodAll_cons_mk (p:=[]) (shut_bool af true) trodAll_mk0
 have u:∀hv:Nat->Bool,DataW.TrodVars enc P c hv s.vars [] []:=λ hv=>by rw[m];rfl
 refine⟨ds,[],before,[],before,[],l,?_,?_,?_,World.keptBut_mono (λ x a=>⟨a,Or.inr (by simpa using a)⟩) (i.frame (·∈before)),λ _=>?_⟩
 ·simp only[hp,h];exact r _ _ _
 ·simp only[hp,h];exact o _ e
 ·simp only[hp,h];exact u _
 ·refine⟨ok_one d rfl (okWide_bool_mk af true),_,_,([]++before)++[],⟨[]++before,[],trodAll_append (o (λ _=>true) (λ _ _=>rfl)) (r _ _ _),u _,rfl,?_,?_⟩,?_⟩
  ·intro b off k
   have v:MemPlace.cell b off∈before:=by simpa using k
   rw[i.frozen (j _ v)]
   exact B b off v
  ·intro D;simpa using C D
  ·intro x a _;simpa using a
theorem akn{α:Type}{T:c9 α}{F:Nat->Prop}{W:World}{b o:Nat}{R:α->Prop}:∀m:Nat,(∀i,i<m-> ∃cs d,fa W ⟨b,o+i*T.size,none⟩ cs/\T.rd F W cs d/\R d) ->
 ∃(l:List α)(xs:List Value),l.length=m/\dE T F W xs l/\fa W ⟨b,o,none⟩ xs/\ ∀d∈l,R d
 |0,_=>⟨[],[],rfl,rfl,λ j u aA=>by simp at aA,λ d aL=>by cases aL⟩
 |m+1,h=>by
  obtain⟨l,xs,a,J,ap,f⟩:=akn m (λ i hi=>h i (by omega));obtain⟨cs,d,c1,c2,c3⟩:=h m (by omega);refine⟨l++[d],xs++cs,by simp[a],aj0 (T:=T) c2 J,λ j u aA=>?_,λ e g=>?_⟩
  ·have c:=w5 (T:=T) J
   rcases gg j xs.length with k |Nt
   ·exact ap j u (by simpa[mm,k]using aA)
   ·rw[fI Nt]at aA
    have:=c1 (j-xs.length) u aA
    rw[c,a]at this
    rw[show o+j=o+m*T.size+(j-m*T.size) by rw[c,a]at Nt;omega]
    simpa using this
  ·rcases b_.1 g with ai |ai
   ·exact f e ai
   ·simp at ai;subst ai;exact c3
end
end aw
namespace aw
open Go Go.RowKit Go.ChangeShapes Go.WideShapes Go.Deep I
def hD{H:Type}(P:Program)(enc:TypeId×Value->H)(N:Nat)(t:TypeId){α:Type}(T:c9 α)(R:α->Prop):Prop:=
 ∀(W:World)(n:Nat)(cs:List Value)(x:DataW H×List MemPlace),DataW.trod enc P W 0 (λ _=>true) true n t cs=some x->(∀p∈x.2,p.block<W.heap.size)->(∀m∈x.1.weights P t,m<=N)-> ∃d,T.rd (ib [] W) W cs d/\R d
def jC(n:Int):Prop:=-9223372036854775808<=n/\n<=9223372036854775807
section
variable{H:Type}{enc:TypeId×Value->H}{P:Program}{N:Nat}{t e:TypeId}
theorem zH(a:P.underlying t=some .string):hD P enc N t jn (λ s=>s.length<=N):=by
 intro W n cs x h _ b;obtain⟨s,rfl,rfl,_⟩:=DataW.trod_string a h;exact⟨s.data.toList,rfl,b _ (by simp[DataW.weights])⟩
theorem ow(a:P.underlying t=some (.int .i64)):hD P enc N t (e7 .i64) jC:=by
 intro W n cs x h _ _;obtain⟨z,rfl,_,b⟩:=DataW.trod_int a h;exact⟨z,rfl,by simpa[jC,Lit.wf,IntKind.min,IntKind.max,IntKind.signed,IntKind.bits]using b⟩
theorem aF7(a:P.underlying t=some .bool):hD P enc N t aHH (λ _=>True):=by
 intro W n cs x h _ _;obtain⟨b,rfl,_⟩:=DataW.trod_bool a h;exact⟨b,rfl,trivial⟩
theorem aim{d:DataW H}{m:Nat}(a:m∈d.weights P e):∀ {l:List (DataW H)},d∈l->m∈DataW.weightsAll P e l
 |[],h=>by cases h
 |x::r,h=>by
  simp only[DataW.weightsAll,b_];rcases cR.1 h with rfl |h
  ·exact .inl a
  ·exact .inr (aim a h)
theorem sj{α:Type}{T:c9 α}{R:α->Prop}(w:P.underlying t=some (.slice e))(O:P.cellsOf e=T.size)(B:ez 0 T.size=true)(Q:hD P enc N e T R):hD P enc N t (b3 T) (λ l=>l.length*P.bytesOf e<=N/\ ∀d∈l,R d):=by
 have B:0<T.size:=cv B;intro W n cs x h C E;rcases open_slice w h with⟨rfl,rfl⟩|⟨a,c,cap,m,S,D,y,rfl,_,U,G,V,I,hi⟩
 ·exact⟨[],⟨none,0,rfl,cC _,gK _,λ _=>rfl,λ h=>absurd rfl h⟩,by simp,λ d aL=>by cases aL⟩
 ·have X:m=cap:=by simpa using V
  subst X
  have f:x.2=MemPlace.row a (m*P.cellsOf e)++(dM m).flatMap y:=congrArg Prod.snd I
  have g:x.1= .slice ((dM c).map D) ((dM (m-c)).map λ j=>D (c+j)):=congrArg kQ I
  have Y:(c+(m-c))*P.bytesOf e<=N:=by
   refine E _ ?_;rw[g];simp only[DataW.weights,w,fW,iq];exact iD
  have q:c*P.bytesOf e<=N:=gJ (j1 _ (Nat.le_add_right _ _)) Y
  by_cases Z:c=0
  ·subst Z
   exact⟨[],⟨some a,m,rfl,by simp,G,λ h=>(by cases h),λ h=>absurd rfl h⟩,by simp,λ d aL=>by cases aL⟩
  ·have K:∀i,i<c-> ∃cs d,(∀j u,cs[j]? =some u->W.cell? (a.add (i*T.size+j))=some u)/\cs.length=T.size/\T.rd (ib [] W) W cs d/\R d:=λ i z=>by
    have r:i<m:=by omega
    obtain⟨L,hc,v8⟩:=hi i r;obtain⟨d,aL,eb⟩:=Q W S L _ v8 (λ p V6=>C p (by
     rw[f,b_];exact .inr (hF.2 ⟨i,by simpa using r,V6⟩))) (λ k hk=>E k (by
     rw[g];simp only[DataW.weights,w,cR,b_];exact .inr (.inl (aim hk (hB.2 ⟨i,by simpa using z,rfl⟩)))))
    rw[O]at hc;obtain⟨_,M,tt⟩:=World.cells?_some hc;refine⟨L,d,λ j u aA=>?_,M,aL,eb⟩;have mG:j<T.size:=by rw[<-M];exact(aO.1 aA).1
    have:=tt j mG;rw[aA,Go.Deep.add_add]at this;exact this
   have s:a.spot=none:=by
    obtain⟨cs,d,A,J,_⟩:=K 0 (by omega);have:=A 0 _ (aJ (by omega));unfold World.cell? at this;split at this
    ·split at this
     ·cases this
     ·rename_i aj;simpa[Addr.add]using aj
    ·cases this
   obtain⟨ab,v,aL_⟩:=a;simp only at s;subst s;obtain⟨l,xs,A,J,ap,a'⟩:=akn (T:=T) (F:=ib [] W) (W:=W) (b:=ab) (o:=v) (R:=R) c (λ i z=>by
    obtain⟨cs,d,c1,_,c3,c4⟩:=K i z;exact⟨cs,d,λ j u aA=>by have:=c1 j u aA;rw[kY]at this;simpa[kg]using this,c3,c4⟩)
   subst A;refine⟨l,⟨_,m,rfl,U,G,λ h=>(by cases h),λ _=>⟨rfl,⟨by simp,?_⟩,xs,J,ap⟩⟩,q,a'⟩;have fk:MemPlace.cell ab v∈x.2:=by
    rw[f,b_];left;have:0<m*P.cellsOf e:=Nat.mul_pos (by omega) (by omega);simp only[MemPlace.row,hB,kS];exact⟨0,this,by simp⟩
   exact C _ fk
theorem ain{m:Nat}:∀ {a:List TypeId}{l:List (DataW H)}{j:Nat}{u:TypeId}{d:DataW H},a[j]? =some u->l[j]? =some d->m∈d.weights P u->m∈DataW.weightsEach P a l
 |[],_,j,_,_,h,_,_=>by simp at h
 |_::_,[],j,_,_,_,h,_=>by simp at h
 |t::a,x::l,0,u,d,b,J,c=>by
  simp only[dG,aF]at b J;subst b;subst J;simp only[DataW.weightsEach,b_];exact .inl c
 |t::a,x::l,j+1,u,d,b,J,c=>by
  simp only[DataW.weightsEach,b_];exact .inr (ain (j:=j) (by simpa using b) (by simpa using J) c)
theorem o2{cb:Array Go.Field}{W:World}{n:Nat}{cs:List Value}{x:DataW H×List MemPlace}(b:P.underlying t=some (.struct cb))(h:DataW.trod enc P W 0 (λ _=>true) true n t cs=some x)(g:∀p∈x.2,p.block<W.heap.size)(i:∀m∈x.1.weights P t,m<=N) :
 ∃a,cs.length=P.cellsOf t/\ ∀(j:Nat)(f:Go.Field),cb[j]? =some f-> ∃y,DataW.trod enc P W 0 (λ _=>true) true a f.type ((cs.drop f.offset).take (P.cellsOf f.type))=some y/\(∀p∈y.2,p.block<W.heap.size)/\(∀m∈y.1.weights P f.type,m<=N):=by
 obtain⟨ys,a,_,c,k,l,o⟩:=DataW.trod_struct b h
 refine⟨a,k,λ j f aA=>?_⟩
 have s:j<cb.size:=(fJ.1 aA).1
 have hy:ys[j]? =some (ys[j]'(by omega)):=aJ _
 refine⟨ys[j]'(by omega),by rw[o j f aA,hy],λ p q=>g p ?_,λ m r=>i m ?_⟩
 ·rw[c]
  exact hF.2 ⟨_,hh _,q⟩
 ·rw[c]
  simp only[DataW.weights,b]
  refine ain (j:=j) (u:=f.type) (d:=(ys[j]'(by omega)).1) ?_ ?_ r
  ·rw[jb,ht,aA];rfl
  ·rw[jb,hy];rfl
theorem fq{cb:Array Go.Field}{W:World}{b:Nat}{cs:List Value}(ad:∀(j:Nat)(f:Go.Field),cb[j]? =some f-> ∃y,DataW.trod enc P W 0 (λ _=>true) true b f.type ((cs.drop f.offset).take (P.cellsOf f.type))=some y/\(∀p∈y.2,p.block<W.heap.size)/\(∀m∈y.1.weights P f.type,m<=N))
 (j:Nat){f:Go.Field}(aA:cb[j]? =some f){t off k:Nat}(c:f.type=t)(d:f.offset=off)(g:P.cellsOf t=k){r:List Value}(h:(cs.drop off).take k=r):∃y,DataW.trod enc P W 0 (λ _=>true) true b t r=some y/\(∀p∈y.2,p.block<W.heap.size)/\(∀m∈y.1.weights P t,m<=N):=by
 obtain⟨y,a,J,ap⟩:=ad j f aA
 rw[c,d]at a
 rw[c]at ap
 rw[g,h]at a
 exact⟨y,a,J,ap⟩
theorem acU{v:Array Value}{l:List Value}(h:(Value.agg v).cells.toList=l):v=l.toArray:=by
 have h:v.toList=l:=h;rw[<-h]
theorem SJ{α:Type}{T:c9 α}{R:α->Prop}{W:World}{v:Value}{d:DataW H}{ps:List MemPlace}(a:hD P enc N t T R)(h:DataW.Trod enc P W 0 (λ _=>true) true t v d ps)(b:∀p∈ps,p.block<W.heap.size)(c:∀m∈d.weights P t,m<=N):∃d',T.rd (ib [] W) W v.cells.toList d'/\R d':=by
 obtain⟨n,f⟩:=h;exact a W n _ _ f b c
end
end aw
namespace aw
open Go Go.RowKit I
inductive nD
 |i (k:IntKind)
 |b
 |s
 |cr
def nD.ok(P:Program)(t:TypeId):nD->Prop
 | .i k=>P.underlying t=some (.int k)
 | .b=>P.underlying t=some .bool
 | .s=>P.underlying t=some .string
 | .cr=>∃e,P.underlying t=some (.slice e)
structure mn where
 oB:List (Nat×nD)
 o2:List (Nat×Nat×Nat)
 Kx:List (Nat×Option Nat)
def aae(P:Program):List (Nat×nD)->Prop
 |[]=>True
 |p::r=>p.2.ok P p.1/\aae P r
def Sb(P:Program)(s j off:Nat):Prop:=∃cb f sz,P.underlying s=some (.struct cb)/\cb[j]? =some f/\f.offset=off/\sz≠0/\ ∀w,(Go.sizeOf f.type).run P w= .ok sz w
def T0(P:Program):List (Nat×Nat×Nat)->Prop
 |[]=>True
 |p::r=>Sb P p.1 p.2.1 p.2.2/\T0 P r
def acR(P:Program)(t:Nat):Option Nat->Prop
 |none=>∀w,(isAgg t).run P w= .ok false w
 |some n=>(∀w,(isAgg t).run P w= .ok true w)/\ ∀w,(Go.sizeOf t).run P w= .ok n w
def ZV(P:Program):List (Nat×Option Nat)->Prop
 |[]=>True
 |p::r=>acR P p.1 p.2/\ZV P r
structure sR (P:Program) (G:mn):Prop where
 oB:aae P G.oB
 o2:T0 P G.o2
 Kx:ZV P G.Kx
theorem eD{P:Program}{s j off sz:Nat}{cb:Array Go.Field}{f:Go.Field}(h:P.underlying s=some (.struct cb))(ad:cb[j]? =some f)(a:f.offset=off)(aj:∀w,(Go.sizeOf f.type).run P w= .ok sz w)(b:bS sz 0=false):Sb P s j off:=
 ⟨cb,f,sz,h,ad,a,(λ e=>by subst e;simp at b),aj⟩
def ph{β:Type}:List (Nat×β)->Nat->Option β
 |[],_=>none
 |p::r,t=>match bS p.1 t with
  |true=>some p.2
  |false=>ph r t
def JH:List (Nat×Nat×Nat)->Nat->Nat->Option Nat
 |[],_,_=>none
 |p::r,s,j=>match bS p.1 s&&bS p.2.1 j with
  |true=>some p.2.2
  |false=>JH r s j
theorem Du{P:Program}{l:List (Nat×nD)}(h:aae P l){t:Nat}{k:nD}(a:ph l t=some k):k.ok P t:=by
 induction l with
 |nil=>simp[ph]at a
 |cons p r b=>
  simp only[ph]at a
  cases af:bS p.1 t with
  |true=>
   rw[af]at a
   simp only[aF]at a
   rw[<-bd af,<-a];exact h.1
  |false=>rw[af]at a;exact b h.2 a
theorem akK{P:Program}{l:List (Nat×Option Nat)}(h:ZV P l){t:Nat}{k:Option Nat}(a:ph l t=some k):acR P t k:=by
 induction l with
 |nil=>simp[ph]at a
 |cons p r b=>
  simp only[ph]at a
  cases af:bS p.1 t with
  |true=>
   rw[af]at a
   simp only[aF]at a
   rw[<-bd af,<-a];exact h.1
  |false=>rw[af]at a;exact b h.2 a
theorem av7{P:Program}{l:List (Nat×Nat×Nat)}(h:T0 P l){s j off:Nat}(a:JH l s j=some off):Sb P s j off:=by
 induction l with
 |nil=>simp[JH]at a
 |cons p r b=>
  simp only[JH]at a
  cases af:bS p.1 s&&bS p.2.1 j with
  |true=>
   rw[af]at a
   simp only[aF]at a
   simp only[bH]at af
   rw[<-bd af.1,<-bd af.2,<-a];exact h.1
  |false=>rw[af]at a;exact b h.2 a
def jP(w:World):List (Nat×Nat×List Value)->Prop
 |[]=>True
 |m::r=>fa w ⟨m.1,m.2.1,none⟩ m.2.2/\jP w r
theorem gz{w:World}:jP w []:=trivial
theorem gZ{w:World}{b p:Nat}{cs:List Value}{M:List (Nat×Nat×List Value)}(h:fa w ⟨b,p,none⟩ cs)(k:jP w M):jP w ((b,p,cs)::M):=⟨h,k⟩
theorem aik{w:World}{M:List (Nat×Nat×List Value)}(h:jP w M){i b p:Nat}{cs:List Value}(hi:M[i]? =some (b,p,cs)):fa w ⟨b,p,none⟩ cs:=by
 induction M generalizing i with
 |nil=>simp at hi
 |cons m r a=>
  cases i with
  |zero=>
   simp only[dG,aF]at hi
   subst hi
   exact h.1
  |succ i=>exact a h.2 (by simpa using hi)
theorem kZ{w:World}{g:Nat}{t:TypeId}{cs:List Value}(h:(ba.cg g t cs).ok w):fa w ⟨g,0,none⟩ cs:=λ j u aA=>by
 have:=yd h aA;simpa using this
structure gL where
 t:Nat
 j:Nat
 want:Bool
 v:Value
def Dl:List (Nat×Value)->Nat->List (Nat×Value)
 |[],_=>[]
 |p::r,d=>match bS p.1 d with
  |true=>Dl r d
  |false=>p::Dl r d
def sm:List gL->Nat->List gL
 |[],_=>[]
 |p::r,d=>match bS p.t d||bS p.j d with
  |true=>sm r d
  |false=>p::sm r d
def Ca:List (Nat×Bool)->Nat->Bool->Bool
 |[],_,_=>false
 |p::r,j,b=>(bS p.1 j&&(p.2==b))||Ca r j b
def JI:List gL->List (Nat×Bool)->Nat->Option Value
 |[],_,_=>none
 |p::r,cur,t=>match bS p.t t&&Ca cur p.j p.want with
  |true=>some p.v
  |false=>JI r cur t
def mB(a:Act):List gL->Prop
 |[]=>True
 |p::r=>(a.tmps.getD p.j undef= .bool p.want->a.tmps.getD p.t undef=p.v)/\mB a r
def jF(a:Act):List (Nat×Bool)->Prop
 |[]=>True
 |p::r=>a.tmps.getD p.1 undef= .bool p.2/\jF a r
theorem agl{a:Act}{cur:List (Nat×Bool)}(h:jF a cur){j:Nat}{b:Bool}(bx:Ca cur j b=true):a.tmps.getD j undef= .bool b:=by
 induction cur with
 |nil=>simp[Ca]at bx
 |cons p r c=>
  simp only[Ca,hV,bH,beq_iff_eq]at bx
  rcases bx with⟨d,J⟩|bx
  ·rw[<-bd d,<-J];exact h.1
  ·exact c h.2 bx
theorem aB6{a:Act}{gs:List gL}(h:mB a gs){cur:List (Nat×Bool)}(hc:jF a cur){t:Nat}{v:Value}(b:JI gs cur t=some v):a.tmps.getD t undef=v:=by
 induction gs with
 |nil=>simp[JI]at b
 |cons p r c=>
  simp only[JI]at b
  cases af:bS p.t t&&Ca cur p.j p.want with
  |true=>
   rw[af]at b
   simp only[aF]at b
   simp only[bH]at af
   rw[<-bd af.1,<-b]
   exact h.1 (agl hc af.2)
  |false=>rw[af]at b;exact c h.2 b
def h6(fr:List (Nat×Value))(gs:List gL)(cur:List (Nat×Bool)):Operand->Option Value
 | .const v=>some v
 | .global g=>some (.pointer (some ⟨g,0,none⟩))
 | .tmp t=>match eh fr t with
   |some v=>some v
   |none=>JI gs cur t
 | .func _=>none
theorem O_{n:cB}{fr:List (Nat×Value)}{gs:List gL}{cur:List (Nat×Bool)}{a:Act}(ad:Fr n fr a)(c:mB a gs)(hc:jF a cur){x:Operand}{v:Value}(h:h6 fr gs cur x=some v):a.eval x=v:=by
 cases x with
 |const u=>simp only[h6,aF]at h;rw[<-h];rfl
 |global g=>simp only[h6,aF]at h;rw[<-h];rfl
 |func f=>simp[h6]at h
 |tmp t=>
  simp only[h6]at h
  cases b:eh fr t with
  |some u=>rw[b]at h;simp only[aF]at h;rw[<-h];exact ad.g b
  |none=>rw[b]at h;exact aB6 c hc h
def F7(fr:List (Nat×Value))(gs:List gL)(cur:List (Nat×Bool)):List Operand->Option (List Value)
 |[]=>some []
 |x::r=>match h6 fr gs cur x,F7 fr gs cur r with
  |some v,some vs=>some (v::vs)
  |_,_=>none
theorem XW{n:cB}{fr:List (Nat×Value)}{gs:List gL}{cur:List (Nat×Bool)}{a:Act}(ad:Fr n fr a)(b:mB a gs)(hc:jF a cur):∀ {xs:List Operand}{vs:List Value},F7 fr gs cur xs=some vs->xs.map a.eval=vs
 |[],vs,h=>by simp only[F7,aF]at h;subst h;rfl
 |x::r,vs,h=>by
  simp only[F7]at h;split at h
  ·rename_i v us c J
   simp only[aF]at h
   subst h
   rw[eu,O_ ad b hc c,XW ad b hc J]
  ·cases h
def Jr:Operand->Bool
 | .const (.int _ n)=>n !=0
 |_=>false
def mL:IntKind->IntKind->Bool
 | .i64,.i64 | .u8,.u8 | .i32,.i32 | .u64,.u64 | .u32,.u32 | .u16,.u16 | .i16,.i16 | .i8,.i8=>true
 |_,_=>false
theorem pd{j k:IntKind}(h:mL j k=true):j=k:=by cases j<;>cases k<;>simp_all [mL]
def lS(k:IntKind):Bool:=mL k .i64
theorem lT{k:IntKind}(h:lS k=true):k= .i64:=pd h
def ac'(a:Option nD)(f':Bool)(op:BinOp)(j k:IntKind)(m n:Int):Option Value:=
 match op with
 | .add=>match lS j&&lS k with|true=>some (.int .i64 (ax (m+n)))|false=>none
 | .sub=>match lS j&&lS k with|true=>some (.int .i64 (ax (m-n)))|false=>none
 | .mul=>match lS j&&lS k with|true=>some (.int .i64 (ax (m*n)))|false=>none
 | .quo=>match lS j&&lS k&&f' with|true=>some (.int .i64 (ax (m.tdiv n)))|false=>none
 | .rem=>match lS j&&lS k&&f' with|true=>some (.int .i64 (m.tmod n))|false=>none
 | .or=>match lS j&&lS k with|true=>some (.int .i64 (XZ m n))|false=>none
 | .and=>match lS j&&lS k with|true=>some (.int .i64 (SH m n))|false=>none
 | .lss=>match mL j k with|true=>some (.bool (decide (m<n)))|false=>none
 | .leq=>match mL j k with|true=>some (.bool (decide (m<=n)))|false=>none
 | .gtr=>match mL j k with|true=>some (.bool (decide (n<m)))|false=>none
 | .geq=>match mL j k with|true=>some (.bool (decide (n<=m)))|false=>none
 | .eql=>match a with
   |some (.i i)=>match mL i j&&mL j k with|true=>some (.bool (decide (m=n)))|false=>none
   |_=>none
 | .neq=>match a with
   |some (.i i)=>match mL i j&&mL j k with|true=>some (.bool (!decide (m=n)))|false=>none
   |_=>none
 |_=>none
def ada(a:Option nD)(op:BinOp)(p q:List UInt8):Option Value:=
 match op,a with
 | .eql,some .s=>some (.bool (decide (p=q)))
 | .neq,some .s=>some (.bool (!decide (p=q)))
 |_,_=>none
def ac_(a:Option nD)(op:BinOp)(p q:Bool):Option Value:=
 match op,a with
 | .eql,some .b=>some (.bool (p==q))
 | .neq,some .b=>some (.bool (!(p==q)))
 |_,_=>none
def bin(a:Option nD)(f':Bool)(op:BinOp):Value->Value->Option Value
 | .int j m,.int k n=>ac' a f' op j k m n
 | .string ⟨⟨p⟩⟩,.string ⟨⟨q⟩⟩=>ada a op p q
 | .bool p,.bool q=>ac_ a op p q
 |_,_=>none
section
variable{P:Program}{o:Oper}{a:Act}{w:World}{x y:Operand}{t t':TypeId}
theorem adb{g:Option nD}(e:∀k,g=some k->k.ok P t){f':Bool}(l:f'=true-> ∀k n,a.eval y= .int k n->n≠0){op:BinOp}{u v r:Value}(h:bin g f' op u v=some r)(c:o.op= .binOp op t x y t')(d:a.eval x=u)(hy:a.eval y=v):bg P o a w r w:=by
 unfold bin at h;split at h
 ·rename_i j m k n
  unfold ac' at h
  split at h
  case h_1=>
   split at h
   ·rename_i af
    simp only[bH]at af
    obtain⟨b,J⟩:=af
    have b:=lT b;have J:=lT J
    subst b;subst J
    simp only[aF]at h
    subst h
    exact ab4 c d hy
   ·cases h
  case h_2=>
   split at h
   ·rename_i af
    simp only[bH]at af
    obtain⟨b,J⟩:=af
    have b:=lT b;have J:=lT J
    subst b;subst J
    simp only[aF]at h
    subst h
    exact aod c d hy
   ·cases h
  case h_3=>
   split at h
   ·rename_i af
    simp only[bH]at af
    obtain⟨b,J⟩:=af
    have b:=lT b;have J:=lT J
    subst b;subst J
    simp only[aF]at h
    subst h
    exact aLJ c d hy
   ·cases h
  case h_4=>
   split at h
   ·rename_i af
    simp only[bH]at af
    obtain⟨⟨b,J⟩,ap⟩:=af
    have b:=lT b;have J:=lT J
    subst b;subst J
    simp only[aF]at h
    subst h
    have f:=l ap _ _ hy
    exact aoa c d hy (by rw[gI,decide_eq_false_iff_not];exact f)
   ·cases h
  case h_5=>
   split at h
   ·rename_i af
    simp only[bH]at af
    obtain⟨⟨b,J⟩,ap⟩:=af
    have b:=lT b;have J:=lT J
    subst b;subst J
    simp only[aF]at h
    subst h
    have f:=l ap _ _ hy
    exact aob c d hy (by rw[gI,decide_eq_false_iff_not];exact f)
   ·cases h
  case h_6=>
   split at h
   ·rename_i af
    simp only[bH]at af
    obtain⟨b,J⟩:=af
    have b:=lT b;have J:=lT J
    subst b;subst J
    simp only[aF]at h
    subst h
    exact aLO c d hy
   ·cases h
  case h_7=>
   split at h
   ·rename_i af
    simp only[bH]at af
    obtain⟨b,J⟩:=af
    have b:=lT b;have J:=lT J
    subst b;subst J
    simp only[aF]at h
    subst h
    exact aLp c d hy
   ·cases h
  case h_8=>
   split at h
   ·rename_i af
    have af:=pd af
    subst af
    simp only[aF]at h
    subst h
    exact aLG c d hy
   ·cases h
  case h_9=>
   split at h
   ·rename_i af
    have af:=pd af
    subst af
    simp only[aF]at h
    subst h
    exact aLF c d hy
   ·cases h
  case h_10=>
   split at h
   ·rename_i af
    have af:=pd af
    subst af
    simp only[aF]at h
    subst h
    exact an6 c d hy
   ·cases h
  case h_11=>
   split at h
   ·rename_i af
    have af:=pd af
    subst af
    simp only[aF]at h
    subst h
    exact aLB c d hy
   ·cases h
  case h_12=>
   split at h
   ·rename_i i
    have hi:=e _ rfl
    split at h
    ·rename_i af
     simp only[bH]at af
     have b:=pd af.1;have J:=pd af.2
     subst b;subst J
     simp only[aF]at h
     subst h
     exact aLz hi c d hy
    ·cases h
   ·cases h
  case h_13=>
   split at h
   ·rename_i i
    have hi:=e _ rfl
    split at h
    ·rename_i af
     simp only[bH]at af
     have b:=pd af.1;have J:=pd af.2
     subst b;subst J
     simp only[aF]at h
     subst h
     exact aLL hi c d hy
    ·cases h
   ·cases h
  case h_14=>cases h
 ·rename_i p q
  unfold ada at h
  split at h
  ·simp only[aF]at h
   subst h
   exact aLA (e _ rfl) c d hy
  ·simp only[aF]at h
   subst h
   exact aLM (e _ rfl) c d hy
  ·cases h
 ·rename_i p q
  unfold ac_ at h
  split at h
  ·simp only[aF]at h
   subst h
   exact aLy (e _ rfl) c d hy
  ·simp only[aF]at h
   subst h
   exact aLK (e _ rfl) c d hy
  ·cases h
 ·cases h
end
end aw
namespace aw
open Go Go.RowKit I
def nth{α:Type}:List α->Nat->Option α
 |[],_=>none
 |x::_,0=>some x
 |_::r,i+1=>nth r i
theorem c7{α:Type}:∀(l:List α)(i:Nat),nth l i=l[i]?
 |[],i=>by simp[nth]
 |x::r,0=>rfl
 |x::r,i+1=>by simp[nth,c7 r i]
def WC:Operand->Bool
 | .const (.bool b)=>b
 |_=>false
def Wy:Operand->Bool
 | .const (.bool b)=>!b
 |_=>false
def Pf(x y:Operand)(b:Bool):Value->Value->Option Value
 | .bool p,.bool q=>match WC x with
   |true=>some (.bool (b||q))
   |false=>match Wy y with
    |true=>some (.bool (b&&p))
    |false=>some (.bool (cond b p q))
 | .int j m,.int k n=>match mL j k with
   |true=>some (.int j (cond b m n))
   |false=>none
 | .string ⟨⟨p⟩⟩,.string ⟨⟨q⟩⟩=>some (ct (cond b p q))
 |_,_=>none
theorem azV{a:Act}{x:Operand}(h:WC x=true):a.eval x= .bool true:=by
 unfold WC at h;split at h
 ·subst h;rfl
 ·cases h
theorem azQ{a:Act}{x:Operand}(h:Wy x=true):a.eval x= .bool false:=by
 unfold Wy at h;split at h
 ·rename_i b
  have:b=false:=by simpa using h
  subst this;rfl
 ·cases h
theorem ajj{a:Act}{x y:Operand}{b:Bool}{u v r:Value}(h:Pf x y b u v=some r)(c:b=true->a.eval x=u)(hy:b=false->a.eval y=v):(if b then a.eval x else a.eval y)=r:=by
 unfold Pf at h;split at h
 ·rename_i p q
  split at h
  ·rename_i d
   simp only[aF]at h
   subst h
   cases b with
   |true=>rw[if_pos rfl,azV d];rfl
   |false=>rw[if_neg (by simp),hy rfl];rfl
  ·split at h
   ·rename_i ad
    simp only[aF]at h
    subst h
    cases b with
    |true=>rw[if_pos rfl,c rfl];rfl
    |false=>rw[if_neg (by simp),azQ ad];rfl
   ·simp only[aF]at h
    subst h
    cases b with
    |true=>rw[if_pos rfl,c rfl];rfl
    |false=>rw[if_neg (by simp),hy rfl];rfl
 ·split at h
  ·rename_i e
   have:=pd e
   subst this
   simp only[aF]at h
   subst h
   cases b with
   |true=>rw[if_pos rfl,c rfl];rfl
   |false=>rw[if_neg (by simp),hy rfl];rfl
  ·cases h
 ·simp only[aF]at h
  subst h
  cases b with
  |true=>rw[if_pos rfl,c rfl];rfl
  |false=>rw[if_neg (by simp),hy rfl];rfl
 ·cases h
abbrev Out:=Value×List Nat×List (Nat×Nat)
def lg(aj:List Nat)(v:Value):Option Out:=some (v,aj,[])
def E2(G:mn)(M:List (Nat×Nat×List Value))(t m a:Nat)(aj:List Nat)(c dd:Nat):Option Out:=
 match nth M m,ph G.Kx t with
 |some (b,off,cs),some none=>match nth cs a with
  |some v=>some (v,aj,[(c,b),(dd,off+a)])
  |none=>none
 |some (b,off,cs),some (some n)=>match jc (a+n) cs.length with
  |true=>some (.agg ((cs.drop a).take n).toArray,aj,[(c,b),(dd,off+a)])
  |false=>none
 |_,_=>none
def afb(G:mn)(s d:Nat)(aj:List Nat):Value->Option Out
 | .int k m=>match lS k,ph G.oB s,ph G.oB d with
   |true,some (.i .i64),some (.i .i64)=>lg aj (.int .i64 (ax m))
   |true,some (.i .i64),some (.i .u8)=>lg aj (.int .u8 ((oX m).toNat:Int))
   |_,_,_=>none
 |_=>none
def afe(G:mn)(t:Nat)(aj:List Nat):Value->Option Out
 | .string ⟨⟨p⟩⟩=>match ph G.oB t with
   |some .s=>lg aj (.int .i64 (p.length:Int))
   |_=>none
 | .slice _ n _=>match ph G.oB t with
   |some .cr=>lg aj (.int .i64 (n:Int))
   |_=>none
 |_=>none
def afh(fr:List (Nat×Value))(gs:List gL)(cur:List (Nat×Bool))(c x y:Operand):List Nat->Option Out
 |0::aj=>match c with
  | .tmp a=>match h6 fr gs cur (.tmp a),h6 fr gs ((a,true)::cur) x,h6 fr gs ((a,false)::cur) y with
    |some (.bool b),some u,some v=>match Pf x y b u v with
     |some r=>lg aj r
     |none=>none
    |_,_,_=>none
  |_=>none
 |_::aj=>match h6 fr gs cur c with
  |some (.bool b)=>match b with
   |true=>match h6 fr gs cur x with|some v=>lg aj v |none=>none
   |false=>match h6 fr gs cur y with|some v=>lg aj v |none=>none
  |_=>none
 |[]=>none
def ru(G:mn)(M:List (Nat×Nat×List Value))(aj:List Nat)(fr:List (Nat×Value))(gs:List gL)(cur:List (Nat×Bool)):Op->Option Out
 | .move x=>match h6 fr gs cur x with|some v=>lg aj v |none=>none
 | .assign x=>match h6 fr gs cur x with|some v=>lg aj v |none=>none
 | .pick c x y=>afh fr gs cur c x y aj
 | .binOp op t x y _=>match h6 fr gs cur x,h6 fr gs cur y with
   |some u,some v=>match bin (ph G.oB t) (Jr y) op u v with
    |some r=>lg aj r
    |none=>none
   |_,_=>none
 | .unOp .not _ x=>match h6 fr gs cur x with
   |some (.bool p)=>lg aj (.bool (!p))
   |_=>none
 | .convert s d x=>match h6 fr gs cur x with
   |some v=>afb G s d aj v
   |none=>none
 | .load t x=>match h6 fr gs cur x,aj with
   |some (.pointer (some ⟨e,dd,none⟩)),m::a::cc=>E2 G M t m a cc e dd
   |_,_=>none
 | .fieldAddr s x j=>match h6 fr gs cur x,JH G.o2 s j with
   |some (.pointer (some ⟨b,p,none⟩)),some off=>lg aj (.pointer (some ⟨b,p+off,none⟩))
   |_,_=>none
 | .nilCheck x=>match h6 fr gs cur x with
   |some (.pointer (some p))=>lg aj (.pointer (some p))
   |_=>none
 | .extract x i=>match h6 fr gs cur x with
   |some (.tuple ⟨vs⟩)=>match nth vs i with
    |some v=>lg aj v
    |none=>none
   |_=>none
 | .makeFunc fn ⟨xs⟩ ⟨ys⟩=>match F7 fr gs cur xs,F7 fr gs cur ys with
   |some us,some vs=>lg aj (.func fn us.toArray vs.toArray)
   |_,_=>none
 | .call ⟨.builtin .len,⟨[x]⟩,⟨[t]⟩⟩=>match h6 fr gs cur x with
   |some v=>afe G t aj v
   |none=>none
 |_=>none
theorem mK{aj cc:List Nat}{u v:Value}{l:List (Nat×Nat)}(h:lg aj u=some (v,cc,l)):u=v:=by
 simp only[lg,aF,ca]at h;exact h.1
def nN:List (Nat×Nat)->Prop
 |[]=>True
 |p::r=>p.1=p.2/\nN r
section
variable{P:Program}{G:mn}{M:List (Nat×Nat×List Value)}{w:World}{a:Act}{o:Oper}
theorem afa{n:cB}{fr:List (Nat×Value)}{gs:List gL}{cur:List (Nat×Bool)}{aj cc:List Nat}{v:Value}{l:List (Nat×Nat)}(z:sR P G)(L:jP w M)(ad:Fr n fr a)(D:mB a gs)(hc:jF a cur)
 {op:Op}(q:o.op=op)(h:ru G M aj fr gs cur op=some (v,cc,l))(N:nN l):bg P o a w v w:=by
 have opn:∀ {x:Operand}{u:Value},h6 fr gs cur x=some u->a.eval x=u:=λ A=>O_ ad D hc A
 unfold ru at h
 split at h
 ·split at h
  ·rename_i A
   rw[<-mK h];exact uU q (opn A)
  ·cases h
 ·split at h
  ·rename_i A
   rw[<-mK h];exact xC q (opn A)
  ·cases h
 ·rename_i c x y
  unfold afh at h
  split at h
  ·split at h
   ·rename_i I
    split at h
    ·rename_i b u O g J ap
     split at h
     ·rename_i r K
      rw[<-mK h]
      have F:a.eval (.tmp I)= .bool b:=opn g
      have A:b=true->a.eval x=u:=λ af=>O_ ad D (show jF a ((I,true)::cur) from⟨by subst af;exact F,hc⟩) J
      have hy:b=false->a.eval y=O:=λ af=>O_ ad D (show jF a ((I,false)::cur) from⟨by subst af;exact F,hc⟩) ap
      have Q:=ajj (a:=a) K A hy
      cases b with
      |true=>exact RF q F (by simpa using Q)
      |false=>exact RE q F (by simpa using Q)
     ·cases h
    ·cases h
   ·cases h
  ·split at h
   ·rename_i b g
    split at h
    ·split at h
     ·rename_i u J
      rw[<-mK h];exact RF q (opn g) (opn J)
     ·cases h
    ·split at h
     ·rename_i u J
      rw[<-mK h];exact RE q (opn g) (opn J)
     ·cases h
   ·cases h
  ·cases h
 ·rename_i op t x y t'
  split at h
  ·rename_i u O g J
   split at h
   ·rename_i r K
    rw[<-mK h]
    refine adb (λ k T=>Du z.oB T) (λ H k n R=>?_) K q (opn g) (opn J)
    unfold Jr at H
    split at H
    ·rename_i k' S
     have:a.eval (.const (.int k' S))= .int k' S:=rfl
     rw[this]at R
     injection R with _ e
     subst e
     simpa using H
    ·cases H
   ·cases h
  ·cases h
 ·rename_i x
  split at h
  ·rename_i p g
   rw[<-mK h];exact an' q (opn g)
  ·cases h
 ·rename_i s d x
  split at h
  ·rename_i u g
   unfold afb at h
   split at h
   ·rename_i k m
    split at h
    ·rename_i J ap C
     have:=lT J
     subst this
     rw[<-mK h];exact aLt (Du z.oB ap) (Du z.oB C) q (opn g)
    ·rename_i J ap C
     have:=lT J
     subst this
     rw[<-mK h];exact aLu (Du z.oB ap) (Du z.oB C) q (opn g)
    ·cases h
   ·cases h
  ·cases h
 ·rename_i t x
  split at h
  ·rename_i J0 dd m E jL g
   have A:=opn g
   unfold E2 at h
   split at h
   ·rename_i b off cs J ap
    split at h
    ·rename_i u C
     simp only[aF,ca]at h
     obtain⟨rfl,_,rfl⟩:=h
     obtain⟨B,ak,_⟩:=N
     simp only at B ak
     subst B;subst ak
     rw[c7]at J C
     exact xD (akK z.Kx ap) q A (aik L J E u C)
    ·cases h
   ·rename_i b off cs k J ap
    split at h
    ·rename_i af
     simp only[aF,ca]at h
     obtain⟨rfl,_,rfl⟩:=h
     obtain⟨B,ak,_⟩:=N
     simp only at B ak
     subst B;subst ak
     rw[c7]at J
     have aj:=akK z.Kx ap
     have U:=cv af
     refine an9 aj.1 aj.2 (by simp;omega) q A (λ j u aA=>?_)
     have V:=aik L J
     rw[gT]at aA
     split at aA
     ·rw[je]at aA
      have:=V (E+j) u aA
      simpa[kg]using this
     ·cases aA
    ·cases h
   ·cases h
  ·cases h
 ·rename_i s x j
  split at h
  ·rename_i b p off g J
   rw[<-mK h]
   obtain⟨cb,f,sz,W,X,Y,Z,g5⟩:=av7 z.o2 J
   rw[<-Y]
   exact RC W X g5 (by cases aG:bS sz 0 with|false=>rfl |true=>exact absurd (bd aG) Z) q (opn g)
  ·cases h
 ·rename_i x
  split at h
  ·rename_i p g
   rw[<-mK h];exact Lz q (opn g)
  ·cases h
 ·rename_i x i
  split at h
  ·rename_i vs g
   split at h
   ·rename_i u J
    rw[<-mK h]
    rw[c7]at J
    exact Ly (vs:=vs) q (opn g) J
   ·cases h
  ·cases h
 ·rename_i fn xs ys
  split at h
  ·rename_i us vs g J
   rw[<-mK h]
   have B:=XW ad D hc g
   have ak:=XW ad D hc J
   simp only[bg,execOp,q,Instr.makeFunc]
   rw[show(Array.map a.eval ⟨xs⟩)=us.toArray by rw[<-B];simp,show(Array.map a.eval ⟨ys⟩)=vs.toArray by rw[<-ak];simp]
   rfl
  ·cases h
 ·rename_i x t
  split at h
  ·rename_i u g
   unfold afe at h
   split at h
   ·split at h
    ·rename_i J
     rw[<-mK h];exact an8 (Du z.oB J) q (opn g)
    ·cases h
   ·split at h
    ·rename_i J
     rw[<-mK h]
     obtain⟨e,he⟩:=Du z.oB J
     exact an7 he q (opn g)
    ·cases h
   ·cases h
  ·cases h
 ·cases h
end
end aw
namespace aw
open Go Go.RowKit I
def Io(ops:Array Oper)(j:Nat):Option Nat:=match nth ops.toList j with
 |some o=>o.dst
 |none=>none
theorem afY{ops:Array Oper}{j bz:Nat}(h:Io ops j=some bz):(ops[j]?).bind (·.dst)=some bz:=by
 unfold Io at h;rw[c7,ht]at h;split at h
 ·rename_i o a
  rw[a];exact h
 ·cases h
abbrev asr:=List (Nat×Value)×List gL×List (Nat×Nat)
def bW(G:mn)(ops:Array Oper)(n:Nat)(M:List (Nat×Nat×List Value)):List Oper->List Nat->List (Nat×Value)->List gL->List (Nat×Nat)->Option asr
 |[],_,fr,gs,l=>some (fr,gs,l)
 |o::rest,aj,fr,gs,l=>match o.dst with
  |none=>none
  |some d=>match ez d n with
   |false=>none
   |true=>match o.guard with
    |none=>match ru G M aj fr gs [] o.op with
     |some (v,cc,l')=>bW G ops n M rest cc ((d,v)::fr) (sm gs d) (l'++l)
     |none=>none
    |some (j,want)=>match Io ops j with
     |none=>none
     |some bz=>match ez bz n with
      |false=>none
      |true=>match aj with
       |0::cc=>match bS bz d with
        |true=>none
        |false=>match ru G M cc fr gs [(bz,want)] o.op with
         |some (v,a,l')=>bW G ops n M rest a (Dl fr d) (⟨d,bz,want,v⟩::sm gs d) (l'++l)
         |none=>none
       |_::cc=>match eh fr bz with
        |some (.bool b)=>match b==want with
         |true=>match ru G M cc fr gs [] o.op with
          |some (v,a,l')=>bW G ops n M rest a ((d,v)::fr) (sm gs d) (l'++l)
          |none=>none
         |false=>bW G ops n M rest cc ((d,undef)::fr) (sm gs d) l
        |some (.tuple ⟨[]⟩)=>bW G ops n M rest cc ((d,undef)::fr) (sm gs d) l
        |_=>none
       |[]=>none
def ET(fr:List (Nat×Value)):List Nat->Option (List (Nat×Value))
 |[]=>some []
 |t::r=>match eh fr t,ET fr r with
  |some v,some vs=>some ((t,v)::vs)
  |_,_=>none
def dup(l:List Nat):List (Nat×Nat):=l.map λ x=>(x,x)
def mz(G:mn)(ops:Array Oper)(n:Nat)(M:List (Nat×Nat×List Value))(os:List Oper)(aj:List Nat)(fr:List (Nat×Value))(eV:List Nat):Option (List (Nat×Value)×List (Nat×Nat)):=
 match bW G ops n M os aj fr [] []with
 |some (fr',_,l)=>match ET fr' eV with
  |some k=>some (k,l)
  |none=>none
 |none=>none
theorem MA:∀l:List Nat,nN (dup l)
 |[]=>trivial
 |x::r=>⟨rfl,MA r⟩
theorem yp:∀ {l l':List (Nat×Nat)},nN (l++l')->nN l/\nN l'
 |[],_,h=>⟨trivial,h⟩
 |_::_,_,h=>⟨⟨h.1,(yp h.2).1⟩,(yp h.2).2⟩
theorem S6{fr:List (Nat×Value)}:∀ {eV:List Nat}{k:List (Nat×Value)},ET fr eV=some k->KM fr k
 |[],k,h=>by simp only[ET,aF]at h;subst h;trivial
 |t::r,k,h=>by
  simp only[ET]at h;split at h
  ·rename_i v vs a J
   simp only[aF]at h
   subst h
   exact⟨a,S6 J⟩
  ·cases h
theorem aDV{a:Act}{n:cB}{d:Nat}{v:Value}(aj:a.tmps.size=n)(aL:ez d n=true):(a.put (some d) v).tmps.getD d undef=v:=by
 have b:d<n:=cv aL;simp[Act.put,aj,b]
theorem Po{a:Act}{d t:Nat}{v:Value}(h:t≠d):(a.put (some d) v).tmps.getD t undef=a.tmps.getD t undef:=by
 simp only[Act.put,ek];rw[fe,if_neg (λ e=>h e.symm)]
theorem yy{a:Act}{d:Nat}{v:Value}:∀ {gs:List gL},mB a gs->mB (a.put (some d) v) (sm gs d)
 |[],_=>trivial
 |p::r,h=>by
  simp only[sm];cases af:bS p.t d||bS p.j d with
  |true=>exact yy h.2
  |false=>
   simp only[h0]at af
   have b:p.t≠d:=λ e=>by rw[e]at af;simp at af
   have J:p.j≠d:=λ e=>by rw[e]at af;simp at af
   refine⟨?_,yy h.2⟩
   rw[Po b,Po J];exact h.1
theorem Xh{d t:Nat}{v:Value}:∀ {fr:List (Nat×Value)},eh (Dl fr d) t=some v->t≠d/\eh fr t=some v
 |[],h=>by simp[Dl,eh]at h
 |p::r,h=>by
  simp only[Dl]at h;cases af:bS p.1 d with
  |true=>
   rw[af]at h
   obtain⟨a,J⟩:=Xh h
   refine⟨a,?_⟩
   have e:=bd af
   simp only[eh]
   cases hc:bS p.1 t with
   |true=>exact absurd ((bd hc).symm.trans e) a
   |false=>exact J
  |false=>
   rw[af]at h
   simp only[eh]at h⊢
   cases hc:bS p.1 t with
   |true=>
    rw[hc]at h
    refine⟨λ e=>?_,h⟩
    rw[bd hc,e]at af
    simp at af
   |false=>
    rw[hc]at h
    exact Xh h
theorem Fr.PL{n:cB}{d:Nat}{fr:List (Nat×Value)}{a:Act}{v:Value}(ad:Fr n fr a):Fr n (Dl fr d) (a.put (some d) v):=
 ⟨by simpa[Act.put]using ad.size,ad.defers,λ t u h=>by obtain⟨b,J⟩:=Xh h;rw[Po b];exact ad.get t u J⟩
def FK:Op->Bool
 | .load _ _=>true
 |_=>false
theorem avu{G:mn}{M:List (Nat×Nat×List Value)}{aj:List Nat}{fr:List (Nat×Value)}{gs:List gL}{cur:List (Nat×Bool)}{op:Op}(h:FK op=false):ru G M aj fr gs cur op=ru G [] aj fr gs cur op:=by
 cases op with
 |load t x=>simp[FK]at h
 |unOp u t x=>cases u<;>rfl
 |call c=>
  unfold ru
  split<;>first |rfl |(rename_i e;cases e;done)|(rename_i e;cases e;rfl)
 |_=>rfl
theorem Tu{P:Program}{G:mn}{M:List (Nat×Nat×List Value)}{C:World->Prop}{a:Act}{o:Oper}{n:cB}{fr:List (Nat×Value)}{gs:List gL}{cur:List (Nat×Bool)}{aj cc:List Nat}{v:Value}{l:List (Nat×Nat)}(b:sR P G)(e:∀w,C w->jP w M)(ad:Fr n fr a)(c:mB a gs)(hc:jF a cur)
 (h:ru G M aj fr gs cur o.op=some (v,cc,l))(d:nN l):(∀w,C w->bg P o a w v w)/\(FK o.op=false-> ∀w,bg P o a w v w):=
 ⟨λ w f=>afa b (e w f) ad c hc rfl h d,λ g w=>afa b (M:=[]) trivial ad c hc rfl (by rw[<-avu g];exact h) d⟩
theorem alC{ops:Array Oper}{o:Oper}{a:Act}{n:cB}{l:List (Nat×Value)}{j bz:Nat}{want:Bool}(ad:Fr n l a)(c:o.guard=some (j,want))(aA:(ops[j]?).bind (·.dst)=some bz)(d:ez bz n=true) :
 Region.wanted o (yielded ops a.tmps)=true↔a.tmps.getD bz undef= .bool want:=by
 have e:bz<n:=cv d
 have aj:=ad.size
 have J:a.tmps[bz]? =some (a.tmps.getD bz undef):=by
  rw[jh (by omega)];simp[ek,aj,e]
 simp only[Region.wanted,c,yielded,aA,ae,J,beq_iff_eq]
 constructor
 ·intro h
  split at h
  ·rename_i b af
   simp only[aF]at h af
   rw[af,h]
  ·cases h
 ·intro h
  rw[h]
def asA(P:Program)(ops:Array Oper)(C:World->Prop)(o:Oper)(d:Nat)(a:Act)(u:Value):Prop:=
 o.dst=some d/\((Region.wanted o (yielded ops a.tmps)=true/\(∀w,C w->bg P o a w u w)/\(FK o.op=false-> ∀w,bg P o a w u w))\/(Region.wanted o (yielded ops a.tmps)=false/\u=undef))
section
variable{P:Program}{G:mn}{ops:Array Oper}{n:cB}{M:List (Nat×Nat×List Value)}{C:World->Prop}
theorem TQ(y:sR P G)(z:∀w,C w->jP w M){o:Oper}{rest:List Oper}{aj:List Nat}{fr:List (Nat×Value)}{gs:List gL}{l s:List (Nat×Nat)}{gk:List (Nat×Value)}{A:List gL}{a:Act}
 (ad:Fr n fr a)(c:mB a gs)(h:bW G ops n M (o::rest) aj fr gs l=some (gk,A,s))(K:nN s)
 (B:∀ {os:List Oper}{aj:List Nat}{fr:List (Nat×Value)}{gs:List gL}{l:List (Nat×Nat)},bW G ops n M os aj fr gs l=some (gk,A,s)->nN l) :
 ∃d u cc fr' E l',asA P ops C o d a u/\Fr n fr' (a.put (some d) u)/\mB (a.put (some d) u) E/\bW G ops n M rest cc fr' E l'=some (gk,A,s):=by
 rw[bW]at h
 split at h
 ·cases h
 ·rename_i d aL
  split at h
  ·cases h
  ·rename_i g
   split at h
   ·rename_i f
    split at h
    ·rename_i v cc l' i
     have k:=(yp (B h)).1
     exact⟨d,v,cc,_,_,_,⟨aL,.inl ⟨Qk f,Tu (cur:=[]) y z ad c trivial i k⟩⟩,ad.put g,yy c,h⟩
    ·cases h
   ·rename_i j want f
    split at h
    ·cases h
    ·rename_i bz H
     have m:=afY H
     split at h
     ·cases h
     ·rename_i p
      split at h
      ·rename_i cc
       split at h
       ·cases h
       ·rename_i F
        split at h
        ·rename_i v t l' i
         have k:=(yp (B h)).1
         have I:bz≠d:=λ e=>by rw[e]at F;simp at F
         by_cases x:a.tmps.getD bz undef= .bool want
         ·refine⟨d,v,t,_,_,_,⟨aL,.inl ⟨(alC ad f m p).2 x,Tu (cur:=[(bz,want)]) y z ad c ⟨x,trivial⟩ i k⟩⟩,ad.PL,(show mB (a.put (some d) v) (⟨d,bz,want,v⟩::sm gs d) from⟨λ _=>aDV ad.size g,yy c⟩),h⟩
         ·refine⟨d,undef,t,_,_,_,⟨aL,.inr ⟨by rw[hz];exact λ J=>x ((alC ad f m p).1 J),rfl⟩⟩,ad.PL,(show mB (a.put (some d) undef) (⟨d,bz,want,v⟩::sm gs d) from⟨λ D=>?_,yy c⟩),h⟩
          simp only at D
          rw[Po I]at D
          exact absurd D x
        ·cases h
      ·rename_i q cc L
       split at h
       ·rename_i b af
        split at h
        ·rename_i r
         have r:b=want:=by simpa using r
         subst r
         split at h
         ·rename_i v t l' i
          have k:=(yp (B h)).1
          exact⟨d,v,t,_,_,_,⟨aL,.inl ⟨aId ad f m af p,Tu (cur:=[]) y z ad c trivial i k⟩⟩,ad.put g,yy c,h⟩
         ·cases h
        ·rename_i r
         exact⟨d,undef,cc,_,_,_,⟨aL,.inr ⟨aIc ad f m af r p,rfl⟩⟩,ad.put g,yy c,h⟩
       ·rename_i af
        exact⟨d,undef,cc,_,_,_,⟨aL,.inr ⟨aIe ad f m af p,rfl⟩⟩,ad.put g,yy c,h⟩
       ·cases h
      ·cases h
theorem yq{gk:List (Nat×Value)}{c:List gL}{b:List (Nat×Nat)}(a:nN b):∀ {os:List Oper}{aj:List Nat}{fr:List (Nat×Value)}{gs:List gL}{l:List (Nat×Nat)},bW G ops n M os aj fr gs l=some (gk,c,b)->nN l
 |[],aj,fr,gs,l,h=>by
  simp only[bW,aF,ca]at h;rw[h.2.2];exact a
 |o::rest,aj,fr,gs,l,h=>by
  rw[bW]at h;split at h
  ·cases h
  ·split at h
   ·cases h
   ·split at h
    ·split at h
     ·exact(yp (yq a h)).2
     ·cases h
    ·split at h
     ·cases h
     ·split at h
      ·cases h
      ·split at h
       ·split at h
        ·cases h
        ·split at h
         ·exact(yp (yq a h)).2
         ·cases h
       ·split at h
        ·split at h
         ·split at h
          ·exact(yp (yq a h)).2
          ·cases h
         ·exact yq a h
        ·exact yq a h
        ·cases h
       ·cases h
theorem akO{w:World}{Q:Exit->Act->World->Prop}(g:sR P G)(i:jP w M){gk:List (Nat×Value)}{q:List gL}{j:List (Nat×Nat)}(c:nN j):∀(k:Nat){rest:List Oper}{aj:List Nat}{fr:List (Nat×Value)}{gs:List gL}{l:List (Nat×Nat)}{a:Act},
 Fr n fr a->mB a gs->bW G ops n M (rest.take k) aj fr gs l=some (gk,q,j)->(∀m,Fr n gk m->wpList P ops Q (rest.drop k) m w)->wpList P ops Q rest a w
 |0,rest,aj,fr,gs,l,a,ad,_,h,b=>by
  simp only[List.take_zero,bW,aF,ca]at h;have:=b a (by rw[<-h.1];exact ad);simpa using this
 |k+1,[],aj,fr,gs,l,a,ad,_,h,b=>by
  simp only[List.take_nil,bW,aF,ca]at h;have:=b a (by rw[<-h.1];exact ad);simpa using this
 |k+1,o::rest,aj,fr,gs,l,a,ad,r,h,b=>by
  rw[ke]at h;obtain⟨d,u,cc,fr',x,l',⟨aL,s⟩,t,v,h'⟩:=TQ (C:=λ w'=>w'=w) g (λ w' e=>by subst e;exact i) ad r h c (yq c);have next:=akO g i c k t v h' (by simpa using b)
  refine wpList_step λ K p=>?_;rcases s with⟨f,hy,_⟩|⟨f,rfl⟩
  ·rw[if_pos f]
   unfold Oper.wp
   rw[show(execOp a.eval o).run P w=_ from hy w rfl]
   show K (a.put o.dst u) w
   rw[aL]
   exact p _ _ next
  ·rw[if_neg (by simp[f]),aL]
   exact p _ _ next
theorem ajH{f:Act->Prop}(g:sR P G)(i:∀w,C w->jP w M){gk:List (Nat×Value)}{p:List gL}{j:List (Nat×Nat)}(c:nN j):∀(k:Nat){rest:List Oper}{aj:List Nat}{fr:List (Nat×Value)}{gs:List gL}{l:List (Nat×Nat)}{a:Act},
 Fr n fr a->mB a gs->bW G ops n M (rest.take k) aj fr gs l=some (gk,p,j)->(∀m,Fr n gk m->wpQuiet P ops C f (rest.drop k) m)->wpQuiet P ops C f rest a
 |0,rest,aj,fr,gs,l,a,ad,_,h,b=>by
  simp only[List.take_zero,bW,aF,ca]at h;have:=b a (by rw[<-h.1];exact ad);simpa using this
 |k+1,[],aj,fr,gs,l,a,ad,_,h,b=>by
  simp only[List.take_nil,bW,aF,ca]at h;have:=b a (by rw[<-h.1];exact ad);simpa using this
 |k+1,o::rest,aj,fr,gs,l,a,ad,q,h,b=>by
  rw[ke]at h;obtain⟨d,u,cc,fr',v,l',⟨aL,r⟩,s,t,h'⟩:=TQ (C:=C) g i ad q h c (yq c);have next:=ajH g i c k s t h' (by simpa using b)
  unfold wpQuiet;rcases r with⟨e,hy,_⟩|⟨e,rfl⟩
  ·rw[if_pos e]
   refine⟨u,λ w hc=>?_,?_⟩
   ·unfold Oper.quietAt
    rw[show(execOp a.eval o).run P w=_ from hy w hc]
    exact⟨rfl,rfl⟩
   ·rw[aL];exact next
  ·rw[if_neg (by simp[e]),aL]
   exact next
theorem TR{os:List Oper}{aj:List Nat}{fr:List (Nat×Value)}{eV:List Nat}{k:List (Nat×Value)}{L:List (Nat×Nat)}(h:mz G ops n M os aj fr eV=some (k,L)):∃gk a,bW G ops n M os aj fr [] []=some (gk,a,L)/\KM gk k:=by
 unfold mz at h;split at h
 ·rename_i fr' b l c
  split at h
  ·rename_i k' J
   simp only[aF,ca]at h
   obtain⟨rfl,rfl⟩:=h
   exact⟨fr',b,c,S6 J⟩
  ·cases h
 ·cases h
theorem hv(k:Nat)(eV aj:List Nat){w:World}{Q:Exit->Act->World->Prop}{rest:List Oper}{fr fr':List (Nat×Value)}{L:List Nat}{a:Act}(c:sR P G)(d:jP w M)(ad:Fr n fr a)(e:mz G ops n M (rest.take k) aj fr eV=some (fr',dup L))
 (next:∀b,Fr n fr' b->wpList P ops Q (rest.drop k) b w):wpList P ops Q rest a w:=by
 obtain⟨gk,h,f,J⟩:=TR e
 exact akO (gs:=[]) c d (MA L) k ad trivial f λ b g=>next b (g.sub J)
theorem aEg(k:Nat)(eV aj:List Nat){c:Act->Prop}{rest:List Oper}{fr fr':List (Nat×Value)}{L:List Nat}{a:Act}(d:sR P G)(e:∀w,C w->jP w M)(ad:Fr n fr a)(f:mz G ops n M (rest.take k) aj fr eV=some (fr',dup L))
 (next:∀b,Fr n fr' b->wpQuiet P ops C c (rest.drop k) b):wpQuiet P ops C c rest a:=by
 obtain⟨gk,i,g,J⟩:=TR f
 exact ajH (gs:=[]) d e (MA L) k ad trivial g λ b h=>next b (h.sub J)
end
def e2:List Nat->Nat->Bool
 |[],_=>false
 |i::r,j=>bS i j||e2 r j
section
variable{P:Program}{ops:Array Oper}{Q:Exit->Act->World->Prop}{md:Region.Mode}{S:World->Prop}{p:Nat}
def xi(P:Program)(md:Region.Mode)(ops:Array Oper)(Q:Exit->Act->World->Prop)(p:Nat)(S:World->Prop):Nat->Array Bool->Act->World->Prop
 |0,listed,a,w=>Region.ready md ops listed=[]/\Q .normal a w
 |cH+1,listed,a,w=>
  (Region.ready md ops listed=[]->Q .normal a w)/\
  ∀i∈Region.ready md ops listed,wpOp P ops Q i (λ b w'=>((listed.setIfInBounds i true).getD p false=false->S w')/\xi P md ops Q p S cH (listed.setIfInBounds i true) b w') a w
theorem alL:∀(cH:Nat)(listed:Array Bool)(a:Act)(w:World),xi P md ops Q p S cH listed a w->wpAny P md ops Q cH listed a w
 |0,_,_,_,h=>h
 |cH+1,_,_,_,h=>⟨h.1,λ i hi=>wpOp_mono (λ b w' h'=>alL cH _ b w' h'.2) (h.2 i hi)⟩
theorem akB{a:Array Bool}{i p:Nat}(h:a.getD p false=true):(a.setIfInBounds i true).getD p false=true:=by
 simp only[ek,fe]at h⊢;split
 ·rename_i e
  subst e
  split
  ·rfl
  ·rename_i b
   rw[hJ (by omega)]at h
   cases h
 ·exact h
theorem alJ{c:Nat}{d:World->Prop}:∀(cH:Nat)(listed:Array Bool)(a:Act)(w:World),listed.getD p false=true->xi P md ops Q c d cH listed a w->xi P md ops Q p S cH listed a w
 |0,_,_,_,_,h=>h
 |cH+1,_,_,_,b,h=>⟨h.1,λ i hi=>wpOp_mono (λ e w' h'=>⟨λ ad=>absurd ((akB b).symm.trans ad) (by simp),alJ cH _ e w' (akB b) h'.2⟩) (h.2 i hi)⟩
def nK:List Oper->Nat->Nat->List Nat->List Nat
 |[],_,_,acc=>acc
 |o::r,k,i,acc=>nK r (k+1) i (match o.after.toList.any λ e=>Region.binds .any e&&(bS e.on i||e2 acc e.on)with|true=>k::acc |false=>acc)
theorem rV{l:List Nat}{j:Nat}(h:e2 l j=true):j∈l:=by
 induction l with
 |nil=>simp[e2]at h
 |cons i r a=>
  simp only[e2,hV]at h
  rcases h with h |h
  ·rw[bd h];simp
  ·exact dX _ (a h)
def Eh(ops:Array Oper)(i:Nat)(U:List Nat):Prop:=∀u∈U,∃o,ops[u]? =some o/\ ∃e∈o.after,Region.binds .any e=true/\(e.on=i\/e.on∈U)
theorem S9{ops:Array Oper}{i:Nat}:∀ {l:List Oper}{k:Nat}{acc:List Nat},(∀m o,l[m]? =some o->ops[k+m]? =some o)->Eh ops i acc->Eh ops i (nK l k i acc)
 |[],_,_,_,h=>h
 |o::r,k,acc,d,h=>by
  rw[nK];refine S9 (λ m a f=>by have:=d (m+1) a (by simpa using f);rwa [show k+(m+1)=k+1+m by omega]at this) ?_;split
  ·rename_i af
   intro u hu
   rcases cR.1 hu with rfl |hu
   ·simp only[h2,bH,hV]at af
    obtain⟨e,b,c,J⟩:=af
    refine⟨o,by simpa using d 0 o rfl,e,by simpa using b,c,?_⟩
    rcases J with J |J
    ·exact .inl (bd J)
    ·exact .inr (dX _ (rV J))
   ·obtain⟨a,g,e,b,c,J⟩:=h u hu
    exact⟨a,g,e,b,c,J.imp id (dX _)⟩
  ·exact h
def aao(ops:Array Oper)(p i:Nat)(ds:List Nat):Bool:=(match nth ops.toList p with
 |none=>true
 |some _=>e2 (nK ops.toList 0 i []) p)&&(nK ops.toList 0 i []).all λ u=>!(dN ops.size ds).getD u false
theorem aap{ops:Array Oper}{p i:Nat}{ds:List Nat}(h:aao ops p i ds=true):Eh ops i (nK ops.toList 0 i [])/\(ops[p]? =none\/p∈nK ops.toList 0 i [])/\ ∀u∈nK ops.toList 0 i [],(dN ops.size ds).getD u false=false:=by
 unfold aao at h;rw[bH]at h;refine⟨S9 (λ m o c=>by simpa using c) (λ u a=>by simp at a),?_,λ u a=>?_⟩
 ·have b:=h.1
  rw[c7,ht]at b
  split at b
  ·rename_i d;exact .inl d
  ·exact .inr (rV b)
 ·have:=kh.1 h.2 u a
  simpa using this
theorem aIl{i:Nat}{oi:Oper}{v:Value}(hi:ops[i]? =some oi)(B:∀(j:Nat)(o:Oper) cs b,ops[j]? =some o->o.op≠ .select cs b)(M:p≠i)
 (N:∀c a w,Q (.panic c) (a.put oi.dst v) w->Q (.panic c) a w){U:List Nat}(O:Eh ops i U)(z:ops[p]? =none\/p∈U) :
 ∀(m:Nat)(listed:Array Bool)(a:Act)(w:World),
  (∀j f,ops[j]? =some f->j≠i->listed.getD j true=false->(∀e∈f.after,Region.binds .any e=true->e.on≠i)->oi.apart ops f=true) ->
  listed.getD p false=false->(∀u∈U,listed.getD u false=false)->i∈Region.ready .any ops listed->YieldsIf P ops S oi v a->S w ->
  xi P .any ops Q p S m (listed.setIfInBounds i true) (a.put oi.dst v) w->xi P .any ops Q p S (m+1) listed a w:=by
 intro m
 induction m with
 |zero=>
  intro listed a w _ _ _ g hy n H
  refine⟨λ h=>(by rw[h]at g;cases g),λ j aA=>?_⟩
  by_cases d:j=i
  ·subst d;exact hy.wpOp hi n ⟨λ _=>n,H⟩
  ·have:=ready_mono aA d
   rw[H.1]at this
   cases this
 |succ m R=>
  intro listed a w C x q g hy n H
  refine⟨λ h=>(by rw[h]at g;cases g),λ j aA=>?_⟩
  by_cases d:j=i
  ·subst d;exact hy.wpOp hi n ⟨λ _=>n,H⟩
  ·have l:=H.2 j (ready_mono aA d)
   obtain⟨D,f,r,E⟩:=mem_ready.1 aA
   have F:∀e∈f.after,Region.binds .any e=true->e.on≠i:=λ e y af heq=>by
    have l:=E e y af;have G:=(mem_ready.1 g).1;rw[heq]at l;rcases gg i listed.size with h' |h'
    ·simp[h']at G l;rw[G]at l;cases l
    ·simp[hJ h']at l
   have I:j∉U:=λ T=>by
    obtain⟨eK,A,e,y,af,J⟩:=O j T;rw[r]at A;simp only[aF]at A;subst A;rcases J with J |J
    ·exact F e y af J
    ·have ap:=E e y af
     rw[q _ J]at ap
     cases ap
   have s:j≠p:=λ e=>by
    subst e;rcases z with h |h
    ·rw[r]at h;cases h
    ·exact I h
   have V:∀u∈U,(listed.setIfInBounds j true).getD u false=false:=λ u K=>by
    have:=q u K;have W:j≠u:=λ e=>I (e▸K);simp only[ek,fe,if_neg W]at this⊢;exact this
   have X:(listed.setIfInBounds j true).getD p false=false:=by
    simp only[ek,fe,if_neg s]at x⊢;exact x
   have t:((listed.setIfInBounds i true).setIfInBounds j true).getD p false=false:=by
    simp only[ek,fe,if_neg s,if_neg (Ne.symm M)]at x⊢;exact x
   have J:=wpOp_putIf r (C j f r d D F) (λ cs b=>B i oi cs b hi) (λ cs b=>B j f cs b r) N hy l
   have Y:∀k ok,ops[k]? =some ok->k≠i->(listed.setIfInBounds j true).getD k true=false ->
    (∀e∈ok.after,Region.binds .any e=true->e.on≠i)->oi.apart ops ok=true:=λ k ok Z I0 q jK=>by
    refine C k ok Z I0 ?_ jK
    by_cases L:j=k
    ·subst L;exact D
    ·rw[getD_set_ne true L]at q;exact q
   refine wpOp_mono (λ aT w' ap=>⟨λ _=>ap.2.1 t,R (listed.setIfInBounds j true) aT w' Y X V (ready_mono g (Ne.symm d)) ap.1 (ap.2.1 t) ?_⟩) J
   rw[jt _ _ d]
   exact ap.2.2
theorem alI{i:Nat}{oi:Oper}{v:Value}(hi:ops[i]? =some oi)(t:∀(j:Nat)(o:Oper) cs b,ops[j]? =some o->o.op≠ .select cs b)(C:p≠i)
 (D:∀c a w,Q (.panic c) (a.put oi.dst v) w->Q (.panic c) a w) :
 ∀(m:Nat)(listed:Array Bool)(a:Act)(w:World),
  (∀j f,ops[j]? =some f->j≠i->listed.getD j true=false->(∀e∈f.after,Region.binds .any e=true->e.on≠i)->oi.apart ops f=true) ->
  (listed.getD p false=false->S w)->i∈Region.ready .any ops listed->YieldsIf P ops (λ _=>True) oi v a ->
  xi P .any ops Q p S m (listed.setIfInBounds i true) (a.put oi.dst v) w->xi P .any ops Q p S (m+1) listed a w:=by
 have n:∀(q:Array Bool)(b:Bool),(q.setIfInBounds i true).getD p b=q.getD p b:=λ q b=>by
  simp only[ek,fe,if_neg (Ne.symm C)]
 intro m
 induction m with
 |zero=>
  intro listed a w _ r g hy H
  refine⟨λ h=>(by rw[h]at g;cases g),λ j aA=>?_⟩
  by_cases d:j=i
  ·subst d;exact hy.wpOp hi trivial ⟨λ h=>r (by rwa [n]at h),H⟩
  ·have:=ready_mono aA d
   rw[H.1]at this
   cases this
 |succ m E=>
  intro listed a w u r g hy H
  refine⟨λ h=>(by rw[h]at g;cases g),λ j aA=>?_⟩
  by_cases d:j=i
  ·subst d;exact hy.wpOp hi trivial ⟨λ h=>r (by rwa [n]at h),H⟩
  ·have l:=H.2 j (ready_mono aA d)
   obtain⟨x,f,s,F⟩:=mem_ready.1 aA
   have G:∀e∈f.after,Region.binds .any e=true->e.on≠i:=λ e I af heq=>by
    have l:=F e I af;have y:=(mem_ready.1 g).1;rw[heq]at l;rcases gg i listed.size with h' |h'
    ·simp[h']at y l;rw[y]at l;cases l
    ·simp[hJ h']at l
   have J:=wpOp_putIf s (u j f s d x G) (λ cs b=>t i oi cs b hi) (λ cs b=>t j f cs b s) D hy l
   have K:∀k ok,ops[k]? =some ok->k≠i->(listed.setIfInBounds j true).getD k true=false ->
    (∀e∈ok.after,Region.binds .any e=true->e.on≠i)->oi.apart ops ok=true:=λ k ok L M z N=>by
    refine u k ok L M ?_ N
    by_cases A:j=k
    ·subst A;exact x
    ·rw[getD_set_ne true A]at z;exact z
   have B:∀w',(((listed.setIfInBounds i true).setIfInBounds j true).getD p false=false->S w')->(listed.setIfInBounds j true).getD p false=false->S w':=λ w' O R=>
    O (by rw[jt _ _ (Ne.symm d),n];exact R)
   refine wpOp_mono (λ T w' ap=>⟨B w' ap.2.1,E (listed.setIfInBounds j true) T w' K (B w' ap.2.1) (ready_mono g (Ne.symm d)) ap.1 ?_⟩) J
   rw[jt _ _ d]
   exact ap.2.2
end
def ff(P:Program)(ops:Array Oper)(Q:Exit->Act->World->Prop)(p:Nat)(S:World->Prop)(f:Nat)(ds:List Nat)(a:Act)(w:World):Prop:=((dN ops.size ds).getD p false=false->S w)/\xi P .any ops (NoPanic Q) p S f (dN ops.size ds) a w
def Df(ops:List Oper):List Nat->Option (List Oper)
 |[]=>some []
 |i::r=>match nth ops i,Df ops r with
  |some o,some os=>some (o::os)
  |_,_=>none
def aiO(ops:Array Oper)(i:Nat):Bool:=match nth ops.toList i with
 |some o=>!FK o.op
 |none=>false
def GD(ops:Array Oper)(p:Nat):List Nat->List Nat->Bool
 |_,[]=>true
 |ds,i::r=>P6 ops ds i&&(aao ops p i ds||aiO ops i)&& !bS p i&&GD ops p (i::ds) r
def Ko:List Nat->List Nat->List Nat
 |[],ds=>ds
 |i::r,ds=>Ko r (i::ds)
section
variable{P:Program}{G:mn}{ops:Array Oper}{n:cB}{M:List (Nat×Nat×List Value)}{S:World->Prop}{Q:Exit->Act->World->Prop}{a:Act}{w:World}{f p:Nat}{ds:List Nat}
theorem aCq(i:Nat):dN ops.size (i::ds)=(dN ops.size ds).setIfInBounds i true:=rfl
theorem ff.wpAny(h:ff P ops Q p S f ds a w):Go.wpAny P .any ops (NoPanic Q) f (dN ops.size ds) a w:=alL f _ a w h.2
theorem L5(hc:(Region.ready .any ops (dN ops.size ds)).isEmpty=true)(h:Q .normal a w)(c:(dN ops.size ds).getD p false=false->S w):ff P ops Q p S f ds a w:=by
 refine⟨c,?_⟩;have b:=List.isEmpty_iff.1 hc;cases f with
 |zero=>exact⟨b,NoPanic.normal h⟩
 |succ f=>exact⟨λ _=>NoPanic.normal h,by rw[b];simp⟩
theorem ff.next(c:Nat)(d:World->Prop)(b:(dN ops.size ds).getD p false=true)(h:ff P ops Q c d f ds a w):ff P ops Q p S f ds a w:=
 ⟨λ ad=>absurd (b.symm.trans ad) (by simp),alJ f _ a w b h.2⟩
theorem acZ(B:sR P G)(D:∀w,S w->jP w M)(m:S w){gk:List (Nat×Value)}{L:List gL}{E:List (Nat×Nat)}(q:nN E):∀(is:List Nat){os:List Oper}{aj ds:List Nat}{fr:List (Nat×Value)}{gs:List gL}{l:List (Nat×Nat)}{a:Act},
 (dN ops.size ds).getD p false=false->Df ops.toList is=some os->GD ops p ds is=true->Fr n fr a->mB a gs->bW G ops n M os aj fr gs l=some (gk,L,E)->(∀F,Fr n gk F->ff P ops Q p S f (Ko is ds) F w)->ff P ops Q p S (f+is.length) ds a w
 |[],os,aj,ds,fr,gs,l,a,_,b,_,ad,_,h,r=>by
  simp only[Df,aF]at b;subst b;simp only[bW,aF,ca]at h;exact r a (by rw[<-h.1];exact ad)
 |i::is,os,aj,ds,fr,gs,l,a,s,b,H,ad,N,h,r=>by
  simp only[Df]at b;split at b
  ·rename_i o O j J
   simp only[aF]at b
   subst b
   rw[c7,ht]at j
   simp only[GD,bH,gI]at H
   obtain⟨⟨⟨g,k⟩,I⟩,t⟩:=H
   have z:p≠i:=λ e=>by rw[e]at I;simp at I
   obtain⟨d,u,cc,fr',V,l',⟨aL,K⟩,R,T,h'⟩:=TQ (C:=S) B D ad N h q (yq q)
   have U:(dN ops.size (i::ds)).getD p false=false:=by
    rw[aCq];simp only[ek,fe,if_neg (Ne.symm z)]at s⊢;exact s
   have next:=acZ B D m q is U J t R T h' r
   simp only[P6,bH]at g
   refine⟨λ _=>m,?_⟩
   have:=next.2
   rw[show f+(i::is).length=f+is.length+1 by simp[kg]]
   rw[hV]at k
   rcases k with k |I9
   ·refine aIl (v:=u) j (Region.noSelect_spec g.1.1) z (λ c a w h=>h) (aap k).1 (aap k).2.1 (f+is.length) _ a w (Region.free_spec j g.1.2) s (aap k).2.2 (by simpa using g.2) (K.imp (λ⟨x,y,_⟩=>⟨x,y⟩) id) m ?_
    rw[aL]
    exact this
   ·have A:FK o.op=false:=by
     unfold aiO at I9;rw[c7,ht,j]at I9;simpa using I9
    refine alI (v:=u) j (Region.noSelect_spec g.1.1) z (λ c a w h=>h) (f+is.length) _ a w (Region.free_spec j g.1.2) (λ _=>m) (by simpa using g.2) (K.imp (λ⟨x,_,y⟩=>⟨x,λ w _=>y A w⟩) id) ?_;rw[aL];exact this
  ·cases b
theorem asG(is:List Nat)(k:Nat)(eV aj:List Nat){os:List Oper}{fr fr':List (Nat×Value)}{L:List Nat}(d:sR P G)(e:∀w,S w->jP w M)(ad:Fr n fr a)(c:bS is.length k=true)(g:(dN ops.size ds).getD p false=false)(hi:Df ops.toList is=some os)(h:GD ops p ds is=true)
 (i:mz G ops n M os aj fr eV=some (fr',dup L))(j:S w)(next:∀b,Fr n fr' b->ff P ops Q p S f (Ko is ds) b w):ff P ops Q p S (f+k) ds a w:=by
 have c:=bd c
 subst c
 obtain⟨gk,o,l,J⟩:=TR i
 exact acZ (gs:=[]) d e j (MA L) is g hi h ad trivial l λ b m=>next b (m.sub J)
theorem mw(i:Nat){o:Oper}(hi:ops[i]? =some o)(hc:(Region.ready .any ops (dN ops.size ds)==[i])=true)(d:(dN ops.size ds).getD p false=false->S w)(h:wpList P ops (Er (ff P ops Q p S f (i::ds)) (NoPanic Q)) [o] a w):ff P ops Q p S (f+1) ds a w:=by
 have b:=eq_of_beq hc;refine⟨d,⟨λ c=>(by rw[b]at c;cases c),λ j aA=>?_⟩⟩;rw[b]at aA;have:j=i:=by simpa using aA
 subst this;exact aau hi h
theorem acV(i j:Nat){o b:Oper}(hi:ops[i]? =some o)(aA:ops[j]? =some b)(hc:(Region.ready .any ops (dN ops.size ds)==[i,j])=true)(g:(dN ops.size ds).getD p false=false->S w)(h:wpList P ops (Er (ff P ops Q p S f (i::ds)) (NoPanic Q)) [o] a w)
 (h':wpList P ops (Er (ff P ops Q p S f (j::ds)) (NoPanic Q)) [b] a w):ff P ops Q p S (f+1) ds a w:=by
 have c:=eq_of_beq hc
 refine⟨g,⟨λ d=>(by rw[c]at d;cases d),λ q e=>?_⟩⟩
 rw[c]at e
 have:q=i\/q=j:=by simpa using e
 rcases this with rfl |rfl
 ·exact aau hi h
 ·exact aau aA h'
theorem j7(h:ff P ops Q p S f ds a w):wpList P ops (Er (ff P ops Q p S f ds) (NoPanic Q)) [] a w:=h
end
end aw
namespace aw
open Go Go.RowKit I
theorem SK(p q:List UInt8):((⟨⟨p⟩⟩:ByteArray)==⟨⟨q⟩⟩)=decide (p=q):=by
 show((⟨p⟩:Array UInt8)==⟨q⟩)=_
 rw[ie];simp
structure lC (cM:Type) [DecidableEq cM] where
 enc:cM->Value
 desc:TypeDesc
 same:∀a b,Instr.sameNow desc (enc a) (enc b)=some (decide (b=a))
 bits:∀a,Instr.sameBits 10000 (enc a) (enc a)=true
 check:∀(P:Program)(w:World)(e:Bool)(t:TypeId)(a:cM),P.underlying t=some desc->(Instr.checkKey e 10000 t (enc a)).run P w= .ok () w
def aAv:lC Int where
 enc n:=.int .i64 n
 desc:=.int .i64
 same a b:=by
  simp only[Instr.sameNow,if_true,aF];rw[ie];simp only[beq_iff_eq,decide_eq_true_iff];exact eq_comm
 bits a:=by
  have h:∀n,Instr.sameBits n (.int .i64 a) (.int .i64 a)=true:=λ n=>by cases n<;>simp[Instr.sameBits]
  exact h 10000
 check P w e t a h:=by
  have h':∀n:Nat,(Instr.checkKey e (n+1) t (.int .i64 a)).run P w= .ok () w:=λ n=>by simp[Instr.checkKey,run_underlying h]
  exact h' 9999
def mN:lC (List UInt8) where
 enc s:=ct s
 desc:=.string
 same a b:=by
  simp only[Instr.sameNow,aF];have e:decide (a=b)=decide (b=a):=by rw[decide_eq_decide];exact eq_comm
  exact(SK a b).trans e
 bits a:=by
  have h:∀n,Instr.sameBits n (ct a) (ct a)=true:=λ n=>by
   have e:((⟨⟨a⟩⟩:ByteArray)==⟨⟨a⟩⟩)=true:=(SK a a).trans (by simp);cases n<;>(simp only[Instr.sameBits];exact e)
  exact h 10000
 check P w e t a h:=by
  have h':∀n:Nat,(Instr.checkKey e (n+1) t (ct a)).run P w= .ok () w:=λ n=>by simp[Instr.checkKey,run_underlying h]
  exact h' 9999
section
variable{cM β:Type} [DecidableEq cM](K:lC cM)(bW:β->Value)
def R'(es:List MapEntry)(d:List (cM×β)):Prop:=es.map (λ e=>(e.key,e.val))=d.map (λ p=>(K.enc p.1,bW p.2))
def acK(w:World)(r:Nat)(d:List (cM×β)):Prop:=∃es clock,w.heap[r]? =some (.map es clock)/\R' K bW es.toList d/\(es.toList.map (·.born)).Pairwise (·< ·)/\ ∀e∈es.toList,e.born<clock
def ba.map(r:Nat)(d:List (cM×β)):ba where
 bB:=[r]
 ok w:=acK K bW w r d
 law w w' h a:=by
  obtain⟨es,c,b,J⟩:=a;exact⟨es,c,(h r (by simp)).trans b,J⟩
def bD.map(r:Nat)(d:List (cM×β)):bD where
 ok M w:=r∉M/\r<w.heap.size/\acK K bW w r d
 law M jD w w' a f h:=by
  obtain⟨b,J,es,c,ap,g⟩:=h;exact⟨λ i=>by rcases f r i with e |e;exact b e;omega,en J a.size,es,c,(a.block r J b).trans ap,g⟩
end
section
variable{cM β:Type} [DecidableEq cM]{K:lC cM}{bW:β->Value}
variable{P:Program}{o:Oper}{a:Act}{w:World}{x y z:Operand}{t kt H':TypeId}{r:Nat}{d:List (cM×β)}{k:cM}{v:β}
theorem aLH(b:o.op= .makeMap t none):bg P o a w (.map (some w.heap.size)) (w.alloc (.map #[] 0)):=by
 simp only[bg,execOp,b,Sem.run_bind];rfl
end
end aw
namespace aw
open Go Go.RowKit I
def acA(E:List ba):Prop:=∀(i:Nat)(x:ba),E[i]? =some x->x.bB.Nodup/\ ∀(j:Nat)(y:ba),E[j]? =some y->i≠j-> ∀k∈x.bB,k∉y.bB
theorem TT:∀ {E:List ba},(bX E).Nodup->acA E
 |[],_=>λ i x h=>by simp at h
 |e::E,h=>by
  have h':(e.bB++bX E).Nodup:=by simpa[bX]using h
  rw[eQ]at h';obtain⟨g,J,ap⟩:=h';have d:=TT J;intro i x a;cases i with
  |zero=>
   simp only[dG,aF]at a
   subst a
   refine⟨g,λ j y hy f k b c=>?_⟩
   cases j with
   |zero=>exact f rfl
   |succ j=>exact ap k b k (hF.2 ⟨y,bE (by simpa using hy),c⟩) rfl
  |succ i=>
   have a:E[i]? =some x:=by simpa using a
   refine⟨(d i x a).1,λ j y hy f k b c=>?_⟩
   cases j with
   |zero=>
    simp only[dG,aF]at hy
    subst hy
    exact ap k c k (hF.2 ⟨x,bE a,b⟩) rfl
   |succ j=>exact(d i x a).2 j y (by simpa using hy) (by omega) k b c
theorem aiV:∀ {E:List ba},acA E->(bX E).Nodup
 |[],_=>by simp[bX]
 |e::E,h=>by
  have f:bX (e::E)=e.bB++bX E:=by simp[bX]
  rw[f,eQ];refine⟨(h 0 e rfl).1,aiV λ i x c=>⟨(h (i+1) x (by simpa using c)).1,λ j y hy m k d=>(h (i+1) x (by simpa using c)).2 (j+1) y (by simpa using hy) (by omega) k d⟩,λ a g b af l=>?_⟩;subst l;obtain⟨x,c,d⟩:=hF.1 af;obtain⟨i,hi,rfl⟩:=iP.1 c;exact(h 0 e rfl).2 (i+1) E[i] (by simp[hi]) (by omega) a g d
def Gx(E:List ba):List Nat->Option (List ba)
 |[]=>some []
 |i::r=>match nth E i,Gx E r with
  |some x,some xs=>some (x::xs)
  |_,_=>none
def NT:List Nat->Nat->Bool
 |[],_=>false
 |i::r,j=>bS i j||NT r j
def JR:List Nat->Bool
 |[]=>true
 |i::r=>!NT r i&&JR r
theorem azI{l:List Nat}{j:Nat}(h:NT l j=false):j∉l:=by
 induction l with
 |nil=>simp
 |cons i r a=>
  simp only[NT,h0]at h
  intro b
  rcases cR.1 b with rfl |e
  ·simp at h
  ·exact a h.2 e
theorem aiA:∀ {l:List Nat},JR l=true->l.Nodup
 |[],_=>by simp
 |i::r,h=>by
  simp only[JR,bH,gI]at h;exact im.2 ⟨azI h.1,aiA h.2⟩
theorem PT{E:List ba}:∀ {is:List Nat}{b:List ba},Gx E is=some b-> ∀(m:Nat)(x:ba),b[m]? =some x-> ∃i:Nat,is[m]? =some i/\E[i]? =some x
 |[],b,h,m,x,a=>by simp only[Gx,aF]at h;subst h;simp at a
 |i::r,b,h,m,x,a=>by
  simp only[Gx]at h;split at h
  ·rename_i y ys c J
   simp only[aF]at h
   subst h
   cases m with
   |zero=>
    simp only[dG,aF]at a
    subst a
    exact⟨i,rfl,by rw[<-c7];exact c⟩
   |succ m=>obtain⟨q,d,e⟩:=PT J m x (by simpa using a);exact⟨q,by simpa using d,e⟩
  ·cases h
section
variable{W w w':World}{M0 X:List Nat}{E:List ba}{D:List bD}
theorem bw.sel(h:bw W M0 X w E D)(is:List Nat){c:List ba}(p:JR is=true)(aj:Gx E is=some c):bw W M0 X w c D:=by
 have f:∀x∈c,x∈E:=λ x a=>by
  obtain⟨m,q,rfl⟩:=iP.1 a;obtain⟨i,_,hi⟩:=PT aj m _ (aJ q);exact bE hi
 have ad:∀k∈bX c,k∈bX E:=λ k b=>by
  obtain⟨x,a,r⟩:=hF.1 b;exact hF.2 ⟨x,f x a,r⟩
 have aL:=TT h.bz;have g:=aiA p;refine⟨h.bW,h.hL,λ k b=>h.lt k (ad k b),λ x a=>h.ok x (f x a),aiV λ m x a=>?_,λ y hy=>y.law _ _ w w (bp.refl _ _) (λ k b=>.inl ?_) (h.rd y hy)⟩
 ·obtain⟨i,hi,l⟩:=PT aj m x a
  refine⟨(aL i x l).1,λ d y hy s k b=>?_⟩
  obtain⟨j,aA,t⟩:=PT aj d y hy
  refine(aL i x l).2 j y t (λ e=>?_) k b
  subst e
  obtain⟨l1,n⟩:=aO.1 hi
  obtain⟨o,ak⟩:=aO.1 aA
  rcases Nat.lt_or_gt_of_ne s with bC |bC
  ·exact(jr.1 g m d l1 o bC) (n.trans ak.symm)
  ·exact(jr.1 g d m o l1 bC) (ak.trans n.symm)
 ·rcases b_.1 b with e |e
  ·exact b_.2 (.inl e)
  ·exact b_.2 (.inr (ad k e))
theorem E7(A B:List ba):bX (A++B)=bX A++bX B:=by simp[bX]
theorem bw.into(h:bw W M0 X w E D)(m:Nat):bw w (bX (E.take m)) (X++bX (E.drop m)) w (E.take m) D:=by
 have a6:bX E=bX (E.take m)++bX (E.drop m):=by rw[<-E7,ja]
 have aL:=h.bz;rw[a6,eQ]at aL;refine⟨bp.refl _ _,λ k a=>?_,λ k a=>⟨(h.lt k (by rw[a6];simp[a])).1,.inl a⟩,λ x c=>h.ok x (List.mem_of_mem_take c),aL.1,λ y hy=>y.law _ _ w w (bp.refl _ _) (λ k a=>.inl ?_) (h.rd y hy)⟩
 ·rcases b_.1 a with e |e
  ·refine⟨en (h.hL k e).1 h.bW.size,λ b=>?_⟩
   have:=(h.lt k (by rw[a6];simp[b])).2
   rcases this with ak |ak
   ·exact(h.hL k e).2 ak
   ·have:=(h.hL k e).1;omega
  ·exact⟨(h.lt k (by rw[a6];simp[e])).1,λ b=>aL.2.2 k b k e rfl⟩
 ·rw[a6]
  simp only[b_]at a⊢
  rcases a with(e |e)|e<;>simp[e]
def Sc:List bD->Prop
 |[]=>True
 |y::r=>(∀M jD w w',y.ok M w->y.ok jD w')/\Sc r
theorem acB:∀ {D:List bD},Sc D-> ∀y∈D,∀M jD w w',y.ok M w->y.ok jD w'
 |[],_,y,hy=>by simp at hy
 |z::r,h,y,hy=>by
  rcases cR.1 hy with rfl |e
  ·exact h.1
  ·exact acB h.2 y e
theorem bw.ac5(h:bw W M0 X w E D)(m:Nat){l:List Nat}{d:List ba}{i:List bD}(k:bw w (bX (E.take m)) l w' d i)(n:∀y∈i,y.ok (X++bX (d++E.drop m)) w'):bw W M0 X w' (d++E.drop m) (i++D):=by
 have a6:bX E=bX (E.take m)++bX (E.drop m):=by rw[<-E7,ja]
 have aL:=h.bz;rw[a6,eQ]at aL;have j:∀b∈bX (E.take m),b<w.heap.size/\(b∈M0\/W.heap.size<=b):=λ b af=>h.lt b (by rw[a6];simp[af]);have f:∀b∈bX (E.drop m),b<w.heap.size/\(b∈M0\/W.heap.size<=b):=λ b af=>h.lt b (by rw[a6];simp[af]);have g:=k.bW;have o:∀b∈bX d,b∉bX (E.drop m):=λ b af c=>by
  rcases(k.lt b af).2 with e |e
  ·exact aL.2.2 b e b c rfl
  ·have:=(f b c).1;omega
 refine⟨h.bW.trans g (λ b af=>(j b af).2),h.hL,λ b af=>?_,λ x p=>?_,?_,λ y hy=>?_⟩
 ·rw[E7]at af
  rcases b_.1 af with e |e
  ·refine⟨(k.lt b e).1,?_⟩
   rcases(k.lt b e).2 with ak |ak
   ·exact(j b ak).2
   ·exact .inr (gJ h.bW.size ak)
  ·exact⟨en (f b e).1 g.size,(f b e).2⟩
 ·rcases b_.1 p with e |e
  ·exact k.ok x e
  ·refine x.law w w' (λ b af=>?_) (h.ok x (mA e))
   have c:b∈bX (E.drop m):=hF.2 ⟨x,e,af⟩
   exact g.block b (f b c).1 (λ q=>aL.2.2 b q b c rfl)
 ·rw[E7,eQ]
  exact⟨k.bz,aL.2.1,λ a r b af e=>by subst e;exact o a r af⟩
 ·rcases b_.1 hy with e |e
  ·exact n y e
  ·refine y.law _ _ w w' (g.mono λ b af=>?_) (λ b af=>?_) (h.rd y e)
   ·rw[a6];simp[af]
   ·rw[E7]at af
    rw[a6]
    simp only[b_]at af⊢
    rcases af with ai |ai |ai
    ·simp[ai]
    ·rcases(k.lt b ai).2 with ak |ak
     ·simp[ak]
     ·exact .inr ak
    ·simp[ai]
theorem bw.back(h:bw W M0 X w E D)(m:Nat){a:List ba}{c:List bD}(k:bw w (bX (E.take m)) (X++bX (E.drop m)) w' a c):bw W M0 X w' (a++E.drop m) (c++D):=
 h.ac5 m k λ y hy=>y.law _ _ w' w' (bp.refl _ _) (λ b af=>.inl (by
  rw[E7]at af;simp only[b_]at af⊢;rcases af with e |e |e<;>simp[e])) (k.rd y hy)
theorem bw.gj(h:bw W M0 X w E D)(m:Nat){c:List Nat}{b:List ba}{a:List bD}(d:Sc a)(k:bw w (bX (E.take m)) c w' b a):bw W M0 X w' (b++E.drop m) (a++D):=
 h.ac5 m k λ y hy=>acB d y hy _ _ _ _ (k.rd y hy)
end
end aw
namespace aw
open Go Go.RowKit I
section
variable{P:Program}{ops:Array Oper}{Q:Exit->Act->World->Prop}{a:Act}{w:World}{rest:List Oper}{o:Oper}{n:cB}{d:Nat}{l:List (Nat×Value)}
 {W:World}{M0 X:List Nat}{E:List ba}{D:List bD}
theorem bw.akk(h:bw W M0 X w E D){α:Type}{T:c9 α}{xs:List Value}{li:List α}(b:dE T (ib (X++bX E) w) w xs li):bw W M0 X w E (bD.rows T xs li::D):=h.more b
theorem PS{α:Type}{T:c9 α}{t e:TypeId}{x y:Operand}{z:Value}{bytes m c:Nat}{v:Value}{li ml l':List α}{xs cs:List Value}{ec:Addr}(i:Nat)(s:bw W M0 X w E D)(hi:E[i]? =some (ba.row e T.size v li xs))
 (F:P.underlying t=some (.slice e))(G:(P.info? e).map (λ i=>(i.zero,i.size,i.bytes))=some (some z,T.size,bytes))(H:z.cells.size=T.size)(I:0<T.size)
 (K:bF bytes li ml=some l')(L:ml.length=m)(M:0<bytes)
 (N:dE T (ib (X++bX E) w) w xs li)(hcs:dE T (ib (X++bX E) w) w cs ml)(O:∀j u,cs[j]? =some u->w.cell? (ec.add j)=some u)
 (R:Region.wanted o (yielded ops a.tmps)=true)
 (S:o.op= .call { callee:=.builtin .append,args:=#[x,y],argTypes:=#[t,t] })(U:a.eval x=v)(hy:a.eval y= .slice (some ec) m c)(ad:Fr n l a)(aL:o.dst=some d)(V:ez d n=true)
 (k:∀g A b w',bp v.ownBlock.toList w w'->Fr n ((d,.slice A l'.length b)::l) g->bw W M0 X w' (E.set i (ba.row e T.size (.slice A l'.length b) l' (xs++cs))) (bD.rows T (xs++cs) l'::D)->wpList P ops Q rest g w'):wpList P ops Q (o::rest) a w:=by
 obtain⟨Y,Z,h,Cq,qa⟩:=ag_ G
 obtain⟨vJ,rfl⟩:=L7 K
 have k_:w.ownsRow 0 e T.size v li.length xs:=s.e i hi
 subst L
 have p:li.length+ml.length<=maxLen:=by
  have J:=l2 (li.length+ml.length) M;simp only[maxLen];omega
 obtain⟨B,w',gm,J,ap,_,c0⟩:=run_append_own_at (P:=P) w 0 t o.type e Y z T.size bytes F Z h Cq qa H I v li.length xs k_ ec ml.length c cs (w5 T hcs)
  O (Gn T hcs) p vJ (gK _)
 have C:(ba.row e T.size B (li++ml) (xs++cs)).ok w':=by
  show w'.ownsRow 0 e T.size B (li++ml).length (xs++cs)
  rw[dJ];exact J
 obtain⟨A,b,rfl,_⟩:=Kp C
 have o_:bg P o a w (.slice A (li++ml).length b) w':=by
  simp only[bg,execOp,S,resolve,invoke,builtin,Sem.run_bind,Sem.run_pure,Result.andThen_ok,gX,eu,hS,U,hy,gm]
 have tJ:=s.akk (Kg T hcs N)
 refine fG R o_ ad aL V λ g dW=>k g A b w' (bp.grown ap) dW (tJ.Qa i hi (bp.grown ap) C (aDx _) λ q aM=>?_)
 have f:(Value.slice A (li++ml).length b).ownBlock=some q:=by simpa[ba.row]using aM
 rcases c0 with dq |dq
 ·left;simpa[ba.row,<-dq]using f
 ·right
  rw[dq]at f
  injection f with f
  subst f
  refine⟨cC _,?_⟩
  rcases J.2 with⟨r,_⟩|⟨g',cap,cur,r,_,ft,_⟩
  ·rw[r]at dq;simp[Value.ownBlock]at dq
  ·rw[r]at dq
   have:g'=w.heap.size:=by simpa[Value.ownBlock]using dq
   subst this
   exact(fJ.1 ft).1
theorem Ku{α:Type}{T:c9 α}{t e:TypeId}{x y:Operand}{z:Value}{bytes g m c:Nat}{v:Value}{li ml l':List α}{xs cs:List Value}(i j q:Nat)(h:bw W M0 X w E D)(hi:E[i]? =some (ba.row e T.size v li xs))(aA:E[j]? =some (ba.cg g e cs))(r:D[q]? =some (bD.rows T xs li))
 (s:P.underlying t=some (.slice e))(B:(P.info? e).map (λ i=>(i.zero,i.size,i.bytes))=some (some z,T.size,bytes))(C:z.cells.size=T.size)(F:ez 0 T.size=true)
 (G:bF bytes li ml=some l')(H:ml.length=m)(I:ez 0 bytes=true)(hcs:dE T (ib (X++bX E) w) w cs ml)
 (J:Region.wanted o (yielded ops a.tmps)=true)
 (K:o.op= .call { callee:=.builtin .append,args:=#[x,y],argTypes:=#[t,t] })(L:a.eval x=v)(hy:a.eval y= .slice (some ⟨g,0,none⟩) m c)(ad:Fr n l a)(aL:o.dst=some d)(M:ez d n=true)
 (k:∀b A f p w',Fr n ((d,.slice A l'.length f)::l) b->bw W M0 X w' ((E.set i (ba.row e T.size (.slice A l'.length f) l' p)).eraseIdx j) (bD.rows T p l'::D)->wpList P ops Q rest b w'):wpList P ops Q (o::rest) a w:=by
 have af:=h.e j aA
 exact PS i h hi s B C (cv F) G H (cv I) (h.d q r) hcs (λ j u N=>by rw[kY];simpa using yd af N) J K L hy ad aL M
  λ b A f w' _ O R=>k b A f _ w' O (R.MB j)
theorem ZO{α:Type}{T:c9 α}{t e:TypeId}{x y:Operand}{z:Value}{bytes g m c:Nat}{v:Value}{li ml l':List α}{xs cs:List Value}(i j q:Nat)(h:bw W M0 X w E D)(hi:E[i]? =some (ba.row e T.size v li xs))(aA:E[j]? =some (ba.cg g e cs))(r:D[q]? =some (bD.rows T xs li))
 (s:P.underlying t=some (.slice e))(B:(P.info? e).map (λ i=>(i.zero,i.size,i.bytes))=some (some z,T.size,bytes))(C:z.cells.size=T.size)(F:ez 0 T.size=true)
 (G:bF bytes li ml=some l')(H:ml.length=m)(I:ez 0 bytes=true)(hcs:dE T (ib (X++bX E) w) w cs ml)
 (J:Region.wanted o (yielded ops a.tmps)=true)
 (K:o.op= .call { callee:=.builtin .append,args:=#[x,y],argTypes:=#[t,t] })(L:a.eval x=v)(hy:a.eval y= .slice (some ⟨g,0,none⟩) m c)(ad:Fr n l a)(aL:o.dst=some d)(M:ez d n=true)
 (k:∀b A f p w',bp v.ownBlock.toList w w'->Fr n ((d,.slice A l'.length f)::l) b->bw W M0 X w' ((E.set i (ba.row e T.size (.slice A l'.length f) l' p)).eraseIdx j) (bD.rows T p l'::D)->wpList P ops Q rest b w'):wpList P ops Q (o::rest) a w:=by
 have af:=h.e j aA
 exact PS i h hi s B C (cv F) G H (cv I) (h.d q r) hcs (λ j u N=>by rw[kY];simpa using yd af N) J K L hy ad aL M
  λ b A f w' O R S=>k b A f _ w' O R (S.MB j)
theorem aLq{t e:TypeId}{x y:Operand}{v:Value}{sz k:Nat}{xs:List Value}{z:Value}{bytes:Nat}(b:P.underlying t=some (.slice e))(c:(P.info? e).map (λ i=>(i.zero,i.size,i.bytes))=some (some z,sz,bytes))(f:w.ownsRow 0 e sz v k xs)
 (g:o.op= .call { callee:=.builtin .append,args:=#[x,y],argTypes:=#[t,t] })(h:a.eval x=v)(hy:a.eval y= .slice none 0 0):bg P o a w v w:=by
 obtain⟨j,m,p,r,s⟩:=ag_ c
 have q:=run_append_owned_none (P:=P) (w:=w) 0 t o.type e j sz b m v k xs f
 simp only[bg,execOp,g,resolve,invoke,builtin,Sem.run_bind,Sem.run_pure,Result.andThen_ok,gX,eu,hS,h,hy,q]
theorem aG0{α:Type}{T:c9 α}{t e:TypeId}{x y:Operand}{z:Value}{bytes c:Nat}{v:Value}{li ml l':List α}{xs:List Value}{nz:Option Addr}(i q p:Nat)(g:bw W M0 X w E D)(hi:E[i]? =some (ba.row e T.size v li xs))(Y:D[q]? =some (bD.rows T xs li))(Z:D[p]? =some (bD.of (b3 T) [.slice nz ml.length c] ml))
 (m:P.underlying t=some (.slice e))(r:(P.info? e).map (λ i=>(i.zero,i.size,i.bytes))=some (some z,T.size,bytes))(M:z.cells.size=T.size)(N:ez 0 T.size=true)
 (s:bF bytes li ml=some l')(O:ez 0 bytes=true)
 (B:Region.wanted o (yielded ops a.tmps)=true)
 (C:o.op= .call { callee:=.builtin .append,args:=#[x,y],argTypes:=#[t,t] })(F:a.eval x=v)(hy:a.eval y= .slice nz ml.length c)(ad:Fr n l a)(aL:o.dst=some d)(G:ez d n=true)
 (k:∀f A b R w',bp v.ownBlock.toList w w'->Fr n ((d,.slice A l'.length b)::l) f->bw W M0 X w' (E.set i (ba.row e T.size (.slice A l'.length b) l' R)) (bD.rows T R l'::D)->wpList P ops Q rest f w'):wpList P ops Q (o::rest) a w:=by
 have H:=g.d q Y
 have I:(b3 T).rd (ib (X++bX E) w) w [.slice nz ml.length c] ml:=g.d p Z
 obtain⟨ed,c1,S,ak,aS,bN,dq⟩:=I
 simp only[hA,Value.slice.injEq,and_true,true_and]at S
 obtain⟨rfl,rfl⟩:=S
 by_cases U:ml=[]
 ·subst U
  cases nz with
  |none=>
   have lP:=bN rfl
   subst lP
   have k_:w.ownsRow 0 e T.size v li.length xs:=g.e i hi
   have n3:(ba.row e T.size v li xs).ok w:=g.e i hi
   obtain⟨A,b,rfl,_⟩:=Kp n3
   obtain⟨_,rfl⟩:=L7 s
   refine fG B (aLq m r k_ C F hy) ad aL G λ f h=>?_
   have V:li++[]=li:=hp li
   refine k f A b xs w (bp.refl _ w) (by rw[V];exact h) ?_
   rw[V]
   have a6:E.set i (ba.row e T.size (.slice A li.length b) li xs)=E:=by
    obtain⟨bC,he⟩:=aO.1 hi;rw[<-he,me]
   rw[a6]
   exact g.more H
  |some ec=>
   exact PS (cs:=[]) i g hi m r M (cv N) s rfl (cv O) H rfl (λ j u J=>by simp at J) B C F hy ad aL G λ f A b w' K h L=>k f A b _ w' K h L
 ·obtain⟨g1,g2,cs,g3,g4⟩:=dq U
  rw[g1]at hy
  exact PS (cs:=cs) i g hi m r M (cv N) s rfl (cv O) H g3 (λ j u J=>by rw[kY];exact g4 j u J) B C F hy ad aL G λ f A b w' K h L=>k f A b _ w' K h L
theorem aGZ{α:Type}{T:c9 α}{t e:TypeId}{x y:Operand}{z:Value}{bytes c:Nat}{v:Value}{li ml l':List α}{xs:List Value}{nz:Option Addr}(i q p:Nat)(h:bw W M0 X w E D)(hi:E[i]? =some (ba.row e T.size v li xs))(j:D[q]? =some (bD.rows T xs li))(m:D[p]? =some (bD.of (b3 T) [.slice nz ml.length c] ml))
 (r:P.underlying t=some (.slice e))(s:(P.info? e).map (λ i=>(i.zero,i.size,i.bytes))=some (some z,T.size,bytes))(u:z.cells.size=T.size)(B:ez 0 T.size=true)
 (C:bF bytes li ml=some l')(F:ez 0 bytes=true)
 (G:Region.wanted o (yielded ops a.tmps)=true)
 (H:o.op= .call { callee:=.builtin .append,args:=#[x,y],argTypes:=#[t,t] })(I:a.eval x=v)(hy:a.eval y= .slice nz ml.length c)(ad:Fr n l a)(aL:o.dst=some d)(J:ez d n=true)
 (k:∀b A f g w',Fr n ((d,.slice A l'.length f)::l) b->bw W M0 X w' (E.set i (ba.row e T.size (.slice A l'.length f) l' g)) (bD.rows T g l'::D)->wpList P ops Q rest b w'):wpList P ops Q (o::rest) a w:=
 aG0 i q p h hi j m r s u B C F G H I hy ad aL J λ b A f g w' _=>k b A f g w'
theorem zL{x:Value}{y:Nat}{code:BoundsCode}{k:IntKind}{i:Int}(b:x= .int k i)(h:0<=i/\i<=y):(Instr.sliceBound x y code).run P w= .ok i.toNat w:=by
 subst b;simp[Instr.sliceBound,asIntOf,h]
end
end aw
namespace aw
open Go Go.RowKit I
section
variable{α:Type}{T:c9 α}
theorem Zq{F:Nat->Prop}{w:World}{d':α}{b:List Value}(h':T.rd F w b d'):∀ {li:List α}{xs:List Value}{i:Nat},dE T F w xs li->i<li.length->dE T F w (xs.take (i*T.size)++b++xs.drop (i*T.size+T.size)) (li.set i d')
 |[],_,i,_,hi=>by simp at hi
 |d::r,xs,0,h,_=>by
  obtain⟨cs,ys,rfl,a,J⟩:=h;have c:=T.len a;refine⟨b,ys,?_,h',J⟩;simp[<-c]
 |d::r,xs,i+1,h,hi=>by
  obtain⟨cs,ys,rfl,a,J⟩:=h;have c:=T.len a;have e:=Zq h' J (i:=i) (by simpa using hi);refine⟨cs,_,?_,a,e⟩;have f:(i+1)*T.size=cs.length+i*T.size:=by rw[jy];omega
  rw[f,k6,hQ (by omega),show cs.length+i*T.size-cs.length=i*T.size by omega,List.drop_append,iQ (l:=cs) (by omega),
   show cs.length+i*T.size+T.size-cs.length=i*T.size+T.size by omega]
  simp
end
theorem Z2{β:Type}{L vs:List β}{p N:Nat}(b:p+vs.length<=N)(J:N<=L.length):(L.take p++vs++L.drop (p+vs.length)).take N=(L.take N).take p++vs++(L.take N).drop (p+vs.length):=by
 have a:(L.take p++vs).length=p+vs.length:=by rw[dJ,gw];omega
 rw[k6,hQ (by omega),a,List.take_take,lJ (by omega),List.drop_take]
section
variable{P:Program}{ops:Array Oper}{Q:Exit->Act->World->Prop}{a:Act}{w:World}{rest:List Oper}{o:Oper}{n:cB}{d:Nat}{l:List (Nat×Value)}
 {W:World}{M0 X:List Nat}{E:List ba}{D:List bD}
theorem afm{xs cs:List Value}{p:Nat}(h:∀j u,cs[j]? =some u->xs[p+j]? =some u):(xs.drop p).take cs.length=cs:=by
 apply kL;intro j;rw[gT];by_cases aA:j<cs.length
 ·rw[if_pos aA,je,aJ aA]
  exact h j _ (aJ aA)
 ·rw[if_neg aA,gH (by omega)]
theorem aHh{α:Type}{T:c9 α}{t e:TypeId}{x y:Operand}{A:Option Addr}{c kk sz:Nat}{li:List α}{xs cs0 vs:List Value}{z:Int}{S d':α}{v:Value}(i q:Nat)(C:bw W M0 X w E D)(hi:E[i]? =some (ba.row e T.size (.slice A li.length c) li xs))(aM:D[q]? =some (bD.rows T xs li))
 (ah:idx li z=some S)(hcs:T.rd (ib (X++bX E) w) w cs0 S)(U:fa w ⟨dv A,fF A+z.toNat*T.size,none⟩ cs0)(hw:Region.wanted o (yielded ops a.tmps)=true)
 (ag:v.cells=vs.toArray)(aj:∀w,(Go.sizeOf t).run P w= .ok sz w)(al:bS vs.length sz=true)(h1:vs.all (·.oneCell')=true)(F:jc (kk+vs.length) cs0.length=true)
 (I7:T.rd (ib (X++bX E) w) w (lay cs0 kk vs) d')
 (aq:o.op= .store t x y)(G:a.eval x= .pointer (some ⟨dv A,fF A+z.toNat*T.size+kk,none⟩))(hy:a.eval y=v)(aL:o.dst=none)
 (k:∀f w',bp (Value.slice A li.length c).ownBlock.toList w w'->bw W M0 X w' (E.set i (ba.row e T.size (.slice A li.length c) (li.set z.toNat d') f)) (bD.rows T f (li.set z.toNat d')::D)->wpList P ops Q rest a w'):wpList P ops Q (o::rest) a w:=by
 obtain⟨z0,V,z2⟩:=lc ah
 have h:vs.length=sz:=bd al
 have Ft:kk+vs.length<=cs0.length:=cv F
 have lP:=T.len hcs
 have H:w.ownsRow 0 e T.size (.slice A li.length c) li.length xs:=C.e i hi
 have I:dE T (ib (X++bX E) w) w xs li:=C.d q aM
 rcases H.2 with⟨_,cp⟩|⟨g,cap,cur,Y,_,Z,m,tA,yF,J⟩
 ·omega
 simp only[Value.slice.injEq,true_and]at Y
 obtain⟨rfl,rfl⟩:=Y
 have K:dv (some ⟨g,0,none⟩)=g:=rfl
 have L:fF (some ⟨g,0,none⟩)=0:=rfl
 simp only[K,L,jx]at G U
 have hmul:(z.toNat+1)*T.size<=li.length*T.size:=j1 _ V
 have aMG:li.length*T.size<=c*T.size:=j1 _ m
 have agX:(z.toNat+1)*T.size=z.toNat*T.size+T.size:=by rw[jy,Nat.one_mul]
 have tN:xs.length=li.length*T.size:=H.1
 have r:(xs.drop (z.toNat*T.size)).take cs0.length=cs0:=afm λ j u aA=>by
  have:=U j u aA;have mG:j<cs0.length:=(aO.1 aA).1;rw[World.ownsRow.cellAt H (z.toNat*T.size+j) (by omega)]at this;exact this
 have s:=run_storeCells_at P g (z.toNat*T.size+kk) e vs 0 cur w Z (by omega) (λ u hu=>kh.1 h1 u hu)
 simp only[ky]at s
 obtain⟨p,aI⟩:∃p,p=z.toNat*T.size+kk:=⟨_,rfl⟩
 rw[<-aI]at s G
 have aMy:cur.toList.length=c*T.size:=by simpa using yF
 obtain⟨f,M⟩:∃f,f=xs.take p++vs++xs.drop (p+vs.length):=⟨_,rfl⟩
 have N:f=xs.take (z.toNat*T.size)++lay cs0 kk vs++xs.drop (z.toNat*T.size+T.size):=by
  rw[M,W9 _ _ _ Ft];have O:xs=xs.take (z.toNat*T.size)++(cs0++xs.drop (z.toNat*T.size+T.size)):=by
   conv=>lhs;rw[<-ja (z.toNat*T.size) xs]
   congr 1;rw[<-ja cs0.length (xs.drop (z.toNat*T.size)),r,List.drop_drop,lP]
  have B:(xs.take (z.toNat*T.size)).length=z.toNat*T.size:=by rw[gw];omega
  conv=>lhs;rw[O]
  rw[k6,hQ (by rw[B];omega),B,List.drop_append,iQ (l:=xs.take (z.toNat*T.size)) (by rw[B];omega),B,
   show p-z.toNat*T.size=kk by omega,show p+vs.length-z.toNat*T.size=kk+vs.length by omega,List.take_append_of_le_length (by omega),List.drop_append_of_le_length (by omega)]
  simp
 have R:f.length=li.length*T.size:=by
  rw[M];simp only[dJ,gw,k8];omega
 have n3:(ba.row e T.size (.slice (some ⟨g,0,none⟩) li.length c) (li.set z.toNat d') f).ok (w.setRow g (cur.toList.take p++vs++cur.toList.drop (p+vs.length)).toArray):=by
  show World.ownsRow _ 0 e T.size _ (li.set z.toNat d').length f
  rw[kb];refine⟨R,.inr ⟨g,c,(cur.toList.take p++vs++cur.toList.drop (p+vs.length)).toArray,rfl,gK _,?_,m,tA,?_,?_⟩⟩
  ·simp only[World.setRow,jO,if_true,Z]
   rfl
  ·simp only[List.size_toArray,dJ,gw,k8];omega
  ·rw[List.toList_toArray,M,<-J]
   exact Z2 (by omega) (by omega)
 have Wk:rh P o a w (w.setRow g (cur.toList.take p++vs++cur.toList.drop (p+vs.length)).toArray):=by
  simp only[rh,execOp,aq,G,hy];simp only[hM,h]at s⊢;have e1:=ag;unfold Value.cells at e1;simp[go_sem,Instr.storeAt,storeVar,aj,e1,h,s]
 have tJ:=C.akk (T:=T) (xs:=f) (li:=li.set z.toNat d') (by rw[N];exact Zq I7 I V)
 have iZ:bp (Value.slice (some ⟨g,0,none⟩) li.length c).ownBlock.toList w (w.setRow g (cur.toList.take p++vs++cur.toList.drop (p+vs.length)).toArray):=⟨rfl,rfl,rfl,by simp[World.setRow],λ b _ aC=>by
  simp only[World.setRow,jO];rw[if_neg (by simpa[Value.ownBlock,eq_comm]using aC)]⟩
 exact jm hw Wk aL (k f _ iZ (tJ.Qa i hi iZ n3 (by simp[ba.row,Value.ownBlock]) (λ b af=>.inl (by simpa[ba.row]using af))))
theorem aHi{α:Type}{T:c9 α}{t e:TypeId}{x y:Operand}{A:Option Addr}{c kk sz:Nat}{li b:List α}{xs cs0 vs:List Value}{z:Int}{h d':α}{v:Value}(i q:Nat)(j:some (li.set z.toNat d')=some b)(m:bw W M0 X w E D)(hi:E[i]? =some (ba.row e T.size (.slice A li.length c) li xs))(p:D[q]? =some (bD.rows T xs li))
 (r:idx li z=some h)(hcs:T.rd (ib (X++bX E) w) w cs0 h)(s:fa w ⟨dv A,fF A+z.toNat*T.size,none⟩ cs0)(u:Region.wanted o (yielded ops a.tmps)=true)
 (B:v.cells=vs.toArray)(aj:∀w,(Go.sizeOf t).run P w= .ok sz w)(C:bS vs.length sz=true)(F:vs.all (·.oneCell')=true)(g:jc (kk+vs.length) cs0.length=true)
 (G:T.rd (ib (X++bX E) w) w (lay cs0 kk vs) d')
 (H:o.op= .store t x y)(I:a.eval x= .pointer (some ⟨dv A,fF A+z.toNat*T.size+kk,none⟩))(hy:a.eval y=v)(aL:o.dst=none)
 (k:∀f w',li.length=b.length->bp (Value.slice A li.length c).ownBlock.toList w w'->bw W M0 X w' (E.set i (ba.row e T.size (.slice A li.length c) b f)) (bD.rows T f b::D)->wpList P ops Q rest a w'):wpList P ops Q (o::rest) a w:=by
 obtain rfl:=ei j
 exact aHh i q m hi p r hcs s u B aj C F g G H I hy aL λ f w'=>k f w' (by rw[kb])
theorem aGL{A:Option Addr}{m c sz:Nat}{t e:TypeId}{lo hi:Option Value}{i j:Int}(f:P.underlying t=some (.slice e))(aj:∀w,(Go.sizeOf e).run P w= .ok sz w)
 (g:(lo=none/\i=0)\/lo=some (.int .i64 i))(k:(hi=none/\j=m)\/hi=some (.int .i64 j))(h:0<=i/\i<=j/\j<=m)(p:m<=c) :
 (Instr.slice t (.slice A m c) lo hi none).run P w= .ok (.slice (if c=i.toNat then A else A.map (·.add (i.toNat*sz))) (j.toNat-i.toNat) (c-i.toNat)) w:=by
 have af:(Instr.sliceBounds true m c lo hi none).run P w= .ok (i.toNat,j.toNat,c) w:=by
  have b:∀code,(Instr.sliceBound (.int .i64 j) c code).run P w= .ok j.toNat w:=λ code=>zL rfl (by omega);have q:∀code,(Instr.sliceBound (.int .i64 i) j.toNat code).run P w= .ok i.toNat w:=λ code=>zL rfl (by omega);have r:j=m-> ∀code,(Instr.sliceBound (.int .i64 i) m code).run P w= .ok i.toNat w:=λ e code=>zL rfl (by omega);rcases g with⟨rfl,rfl⟩|rfl<;>rcases k with⟨rfl,aA⟩|rfl
  ·simp[Instr.sliceBounds,aA]
  ·simp[Instr.sliceBounds,b]
  ·simp[Instr.sliceBounds,r aA,aA]
  ·simp[Instr.sliceBounds,b,q]
 simp[Instr.slice,run_underlying f,af,aj]
theorem RA{A:Option Addr}{m c sz:Nat}{t e:TypeId}{x:Operand}{lo hi:Option Operand}{i j:Int}(g:P.underlying t=some (.slice e))(aj:∀w,(Go.sizeOf e).run P w= .ok sz w)(k:o.op= .slice t x lo hi none)(p:a.eval x= .slice A m c)
 (q:(lo=none/\i=0)\/ ∃z,lo=some z/\a.eval z= .int .i64 i)(r:(hi=none/\j=m)\/ ∃z,hi=some z/\a.eval z= .int .i64 j)(h:0<=i/\i<=j/\j<=m)(b:m<=c) :
 bg P o a w (.slice (if c=i.toNat then A else A.map (·.add (i.toNat*sz))) (j.toNat-i.toNat) (c-i.toNat)) w:=by
 have s:=aGL (P:=P) (w:=w) (A:=A) (m:=m) (c:=c) (lo:=lo.map a.eval) (hi:=hi.map a.eval) g aj (i:=i) (j:=j)
  (q.imp (λ h=>⟨by rw[h.1];rfl,h.2⟩) (λ⟨z,f,J⟩=>by rw[f,fm,J])) (r.imp (λ h=>⟨by rw[h.1];rfl,h.2⟩) (λ⟨z,f,J⟩=>by rw[f,fm,J])) h b
 simp only[bg,execOp,k,p,Instr.sliceAt,Sem.run_bind,run_underlying g,Result.andThen_ok,iW,s]
 rfl
theorem S7{α:Type}{l r:List α}{i j:Int}(h:cut l i j=some r):(0<=i/\i<=j/\j<=l.length)/\r=(l.take j.toNat).drop i.toNat:=by
 unfold cut at h;split at h
 ·rename_i b;exact⟨b,by simpa using h.symm⟩
 ·cases h
theorem uu{α:Type}{T:c9 α}{F:Nat->Prop}{w:World}:∀ {l:List α}{xs:List Value}(i j:Nat),dE T F w xs l->dE T F w ((xs.take (j*T.size)).drop (i*T.size)) ((l.take j).drop i)
 |[],xs,i,j,h=>by
  have h:xs=[]:=h;subst h;have e:(([]:List α).take j).drop i=[]:=by simp
  rw[e];show List.drop _ (mf _ _)=[]
  simp
 |d::r,xs,i,0,h=>by
  have e:((d::r).take 0).drop i=[]:=by simp
  rw[e];show List.drop _ (mf _ _)=[]
  simp
 |d::r,xs,0,j+1,h=>by
  obtain⟨cs,ys,rfl,b,J⟩:=h;have f:=T.len b;have c:=uu 0 j J;simp only[Nat.zero_mul,gS]at c⊢;rw[ke,show(j+1)*T.size=cs.length+j*T.size by rw[jy];omega,k6,hQ (by omega),show cs.length+j*T.size-cs.length=j*T.size by omega];exact⟨cs,_,rfl,b,c⟩
 |d::r,xs,i+1,j+1,h=>by
  obtain⟨cs,ys,rfl,b,J⟩:=h;have f:=T.len b;have c:=uu i j J
  rw[ke,List.drop_succ_cons,show(j+1)*T.size=cs.length+j*T.size by rw[jy];omega,k6,hQ (by omega),show cs.length+j*T.size-cs.length=j*T.size by omega,
   show(i+1)*T.size=cs.length+i*T.size by rw[jy];omega,List.drop_append,iQ (l:=cs) (by omega),show cs.length+i*T.size-cs.length=i*T.size by omega,ju]
  exact c
end
end aw
namespace aw
open Go Go.RowKit I
section
variable{P:Program}{ops:Array Oper}{Q:Exit->Act->World->Prop}{a:Act}{w:World}{rest:List Oper}{o:Oper}{n:cB}{d:Nat}{l:List (Nat×Value)}
 {W:World}{M0 X:List Nat}{E:List ba}{D:List bD}
theorem Fr.lG(ad:Fr n l a)(t:Nat){b c:Bool}(f:eh l t=some (.bool b))(af:b=c):Fr n ((t,.bool c)::l) a:=
 ⟨ad.size,ad.defers,λ u v h=>by
  simp only[eh]at h;cases e:bS t u with
  |true=>
   rw[e]at h
   simp only[aF]at h
   rw[<-bd e,<-h,<-af]
   exact ad.get t _ f
  |false=>rw[e]at h;exact ad.get u v h⟩
theorem zw{t:TypeId}{cs:List Value}(c:Region.wanted o (yielded ops a.tmps)=true)(hy:bg P o a w (.pointer (some ⟨w.heap.size,0,none⟩)) (w.alloc (.cells cs.toArray t)))(ad:Fr n l a)(e:bw W M0 X w E D)
 (aL:o.dst=some d)(f:ez d n=true)(k:∀b g w',bp [] w w'->Fr n ((d,.pointer (some ⟨g,0,none⟩))::l) b->bw W M0 X w' (ba.cg g t cs::E) D->wpList P ops Q rest b w'):wpList P ops Q (o::rest) a w:=
 fG c hy ad aL f λ b h=>k b _ _ (bp.alloc _ _ _) h (e.new t cs)
theorem aiG{t:TypeId}{cs:List Value}{m:Nat}(c:Region.wanted o (yielded ops a.tmps)=true)(hy:bg P o a w (.slice (some ⟨w.heap.size,0,none⟩) m m) (w.alloc (.cells cs.toArray t)))(ad:Fr n l a)(e:bw W M0 X w E D)
 (aL:o.dst=some d)(f:ez d n=true)(k:∀b g w',bp [] w w'->Fr n ((d,.slice (some ⟨g,0,none⟩) m m)::l) b->bw W M0 X w' (ba.cg g t cs::E) D->wpList P ops Q rest b w'):wpList P ops Q (o::rest) a w:=
 fG c hy ad aL f λ b h=>k b _ _ (bp.alloc _ _ _) h (e.new t cs)
theorem aLs{t e:TypeId}{sz:Nat}(b:P.underlying t=some (.slice e))(aj:∀w,(Go.sizeOf e).run P w= .ok sz w)(c:o.op= .buildSlice t 0 (List.toArray [])) :
 bg P o a w (.slice (some ⟨w.heap.size,0,none⟩) 0 0) (w.alloc (.cells (List.toArray []) e)):=by
 simp only[bg,execOp,c,Instr.buildSlice,Sem.run_bind,Sem.run_pure,aj,Result.andThen_ok,run_underlying b]
 simp[Instr.fill,newRow,go_sem]
theorem asE{S:World->Prop}{f p:Nat}{ds:List Nat}{v:Value}(i:Nat)(hi:ops[i]? =some o)(g:(P6 ops ds i&& !bS p i)=true)(r:Region.wanted o (yielded ops a.tmps)=true)(hy:∀w',bg P o a w' v w')(j:S w)
 (ad:Fr n l a)(aL:o.dst=some d)(s:ez d n=true)(k:∀m,Fr n ((d,v)::l) m->ff P ops Q p S f (i::ds) m w):ff P ops Q p S (f+1) ds a w:=by
 simp only[bH,gI]at g
 obtain⟨b,q⟩:=g
 have t:p≠i:=λ e=>by rw[e]at q;simp at q
 simp only[P6,bH]at b
 refine⟨λ _=>j,?_⟩
 refine alI (v:=v) hi (Region.noSelect_spec b.1.1) t (λ c a w h=>h) f _ a w (Region.free_spec hi b.1.2) (λ _=>j) (by simpa using b.2) (.inl ⟨r,λ w _=>hy w⟩) ?_
 rw[aL]
 exact(k _ (ad.put s)).2
theorem bw.swap{x y:ba}(h:bw W M0 X w (x::y::E) D):bw W M0 X w (y::x::E) D:=by
 have ad:∀k,k∈bX (y::x::E)↔k∈bX (x::y::E):=λ k=>by
  simp only[bX,iN,b_];exact⟨λ h=>by rcases h with h |h |h<;>simp[h],λ h=>by rcases h with h |h |h<;>simp[h]⟩
 refine⟨h.bW,h.hL,λ k i=>h.lt k ((ad k).1 i),λ z f=>h.ok z (by simp only[cR]at f⊢;rcases f with h |h |h<;>simp[h]),?_,λ z f=>z.law _ _ w w (bp.refl _ _) (λ k i=>.inl (by
  rcases b_.1 i with e |e
  ·exact b_.2 (.inl e)
  ·exact b_.2 (.inr ((ad k).1 e)))) (h.rd z f)⟩
 have aL:=h.bz;have r:bX (x::y::E)=x.bB++(y.bB++bX E):=by simp[bX]
 have ak:bX (y::x::E)=y.bB++(x.bB++bX E):=by simp[bX]
 rw[r,eQ,eQ]at aL;rw[ak,eQ,eQ];obtain⟨j,⟨m,p,q⟩,c⟩:=aL;exact⟨m,⟨j,p,λ a g b af=>c a g b (by simp[af])⟩,λ a g b af=>by
  rcases b_.1 af with e |e
  ·exact λ aS=>c b e a (by simp[g]) aS.symm
  ·exact q a g b e⟩
end
section
variable{P:Program}{o:Oper}{a:Act}{w:World}{xs ys:Array Value}
theorem aez{d sz:Nat}{f:Go.Field}{l:List Go.Field}{us vs:List Value}{e q:Prop} [Decidable e] [Decidable q](c:(f.name != "_")=true)(g:∀w,(isAgg f.type).run P w= .ok true w)(aj:∀w,(Go.sizeOf f.type).run P w= .ok sz w)
 (i:xs.extract f.offset (f.offset+sz)=us.toArray)(hy:ys.extract f.offset (f.offset+sz)=vs.toArray)(j:(Op.equalIn (d+1) f.type (.agg us.toArray) (.agg vs.toArray)).run P w= .ok (decide q) w)
 (h:(Op.eqFields (d+1) xs ys l).run P w= .ok (decide e) w):(Op.eqFields (d+1) xs ys (f::l)).run P w= .ok (decide (q/\e)) w:=by
 have k:f.name≠ "_" :=by simpa using c
 simp only[Op.eqFields,k,if_true,ne_eq,not_false_iff,part,Sem.run_bind,g,aj,Result.andThen_ok,i,hy,Sem.run_pure,j]
 by_cases b:q
 ·simp[b,h]
 ·simp[b]
theorem aeA{d:Nat}{t:TypeId}{cb:Array Go.Field}{q:Prop} [Decidable q](b:P.underlying t=some (.struct cb))(c:P.stoodInHeld t=false)(h:(Op.eqFields d xs ys cb.toList).run P w= .ok (decide q) w):(Op.equalIn (d+1) t (.agg xs) (.agg ys)).run P w= .ok (decide q) w:=by
 have ad:P.fieldsOf t=cb:=by simp[Program.fieldsOf,b]
 have h':=run_equalIn_struct (P:=P) w d t xs ys (by rw[ad];exact b) c;rw[ad,h]at h';exact h'
theorem yo{d:Nat}{f:Go.Field}{l:List Go.Field}{m n:List UInt8}{e:Prop} [Decidable e](c:(f.name != "_")=true)(g:P.underlying f.type=some .string)(i:∀w,(isAgg f.type).run P w= .ok false w)
 (j:xs[f.offset]? =some (ct m))(hy:ys[f.offset]? =some (ct n))(h:(Op.eqFields (d+1) xs ys l).run P w= .ok (decide e) w):(Op.eqFields (d+1) xs ys (f::l)).run P w= .ok (decide (m=n/\e)) w:=by
 have k:f.name≠ "_" :=by simpa using c
 have heq:(Op.equalIn (d+1) f.type (ct m) (ct n)).run P w= .ok (decide (m=n)) w:=by
  simp only[Op.equalIn,Sem.run_bind,run_underlying g,Result.andThen_ok];rw[<-SK m n];rfl
 simp only[Op.eqFields,k,if_true,ne_eq,not_false_iff,part,Sem.run_bind,i,Result.andThen_ok,j,hy,hG,if_false,Sem.run_pure,heq]
 by_cases b:m=n
 ·subst b;simp[h]
 ·simp[b]
end
section
variable{P:Program}{ops:Array Oper}{Q:Exit->Act->World->Prop}{a:Act}{w:World}{rest:List Oper}{o:Oper}{n:cB}{d:Nat}{l:List (Nat×Value)}
 {W:World}{M0 X:List Nat}{E:List ba}{D:List bD}
theorem aj5{F:Nat->Prop}{w:World}:∀s:List UInt8,dE Qb F w (s.map λ b=>Value.int .u8 (b.toNat:Int)) s
 |[]=>rfl
 |b::r=>⟨[.int .u8 (b.toNat:Int)],_,rfl,rfl,aj5 r⟩
end
end aw
namespace aw
open Go Go.RowKit I
section
variable{P:Program}{Q:Exit->Act->World->Prop}{a:Act}{w:World}
theorem Ml{c:Operand}{x y:Code}{t:Bool}{ρ:Type}{p q:Option ρ}{r:ρ}(hc:a.eval c= .bool t)(h:cond t p q=some r)(b:t=true->p=some r->x.wp P Q a w)(ad:t=false->q=some r->y.wp P Q a w):(Code.cond c x y).wp P Q a w:=
 wp_cond_split hc (λ e=>b e (S3 e h)) (λ e=>ad e (S2 e h))
end
end aw
namespace aw
open Go Go.RowKit I
section
variable{P:Program}{ops:Array Oper}{Q:Exit->Act->World->Prop}{a:Act}{w w0 w':World}{rest:List Oper}{o:Oper}{n:cB}{d:Nat}{l:List (Nat×Value)}
 {W:World}{M0 X:List Nat}{E:List ba}{D:List bD}
theorem aLN{t:TypeId}{x:Operand}{m:Int}(b:o.op= .unOp .neg t x)(c:a.eval x= .int .i64 m):bg P o a w (.int .i64 (ax (0-m))) w:=by
 rw[<-xh];simp only[bg,execOp,b,c];simp[go_sem]
theorem bw.O5(h:bw W M0 X w E D){g:Nat}{t:TypeId}{cs:List Value}{x:ba}(i j:Nat)(hi:E[i]? =some (ba.cg g t cs))(aA:E[j]? =some x)(b:i≠j):g∉x.bB:=λ c=>
 (TT h.bz i _ hi).2 j x aA b g (by simp[ba.cg]) c
theorem MK{M:List Nat}{p:Addr}{cs:List Value}(h:bp M w w')(b:p.block∉M)(c:p.block<w.heap.size)(hc:fa w p cs):fa w' p cs:=hc.law (h.block p.block c b)
theorem JU{t:TypeId}{cs:List Value}{m:Nat}(c:Region.wanted o (yielded ops a.tmps)=true)(hy:bg P o a w (.slice (some ⟨w.heap.size,0,none⟩) m m) (w.alloc (.cells cs.toArray t)))(ad:Fr n l a)(e:bw W M0 X w E D)
 (aL:o.dst=some d)(f:ez d n=true)(k:∀b g w',bp [] w w'->w.heap.size<=g->Fr n ((d,.slice (some ⟨g,0,none⟩) m m)::l) b->bw W M0 X w' (ba.cg g t cs::E) D->wpList P ops Q rest b w'):wpList P ops Q (o::rest) a w:=
 fG c hy ad aL f λ b h=>k b _ _ (bp.alloc _ _ _) (cC _) h (e.new t cs)
end
end aw
namespace aw
open Go Go.RowKit I
def qz:List Oper->Bool
 |[]=>true
 |o::r=>(match o.op with
  | .defer _=>false
  |_=>true)&&qz r
theorem O2:∀ {l:List Oper},qz l=true-> ∀o∈l,∀c,o.op≠ .defer c
 |[],_,o,a,_=>by simp at a
 |p::r,h,o,a,c=>by
  simp only[qz,bH]at h;rcases cR.1 a with rfl |e
  ·intro ak
   rw[ak]at h
   exact absurd h.1 (by simp)
  ·exact O2 h.2 o e c
def Rd(ro:Option Nat):Fence:={ Fence.wide with round:=ro }
theorem Zr{ro:Option Nat}{q:Prop}:(Rd ro).depth.isSome=true->q:=λ h=>by simp[Rd,Fence.wide]at h
section
variable{P:Program}{ops:Array Oper}{Q:Exit->Act->World->Prop}{K:Act->World->Prop}{a:Act}{w:World}{o:Oper}{ro:Option Nat}{n:Nat}
theorem XV(aL:∀c,o.op≠ .defer c)(h:o.wp P a w K Q):o.wpIn (Rd ro) n P a w K Q:=by
 unfold Oper.wpIn;refine⟨λ _ _=>trivial,?_⟩;rw[Oper.semAt_eq _ _ _ aL];unfold Oper.wp at h;generalize(execOp a.eval o).run P w=r at *;cases r with
 |ok x w'=>
  cases x<;>simp only[Oper.upon,Oper.uponIn]at h⊢ <;>first
   |exact h
   |exact⟨Zr,(callsIn_wide (n:=n-1)).2 h⟩
   |exact⟨Zr,λ c cs _=>let⟨v,w',r,s⟩:=h c cs;⟨v,w',r,stepsIn_wide.2 s⟩⟩
 |halt x w'=>cases x<;>simp only[Oper.upon,Oper.uponIn]at h⊢ <;>exact h
theorem Oq(b:∀a w,¬Q .outgrown a w):∀ {os:List Oper}{a:Act}{w:World},qz os=true->wpList P ops Q os a w->wpListIn (Rd ro) n P ops Q os a w
 |[],_,_,_,h=>h
 |o::r,a,w,aL,h=>by
  have c:=aL;simp only[qz,bH]at c;simp only[wpList]at h;simp only[wpListIn];split
  ·rename_i d
   rw[if_pos d]at h
   rcases h with h |⟨_,e,w',h⟩
   ·exact XV (O2 aL o (by simp)) (Oper.wp_mono (λ a w h=>Oq b c.2 h) h)
   ·exact absurd h (b _ _)
  ·rename_i d
   rw[if_neg d]at h
   exact⟨λ _ _=>trivial,Oq b c.2 h⟩
theorem aBZ(k:Nat){lo:List Oper}(aL:qz (lo.take k)=true)(h:wpList P ops (Exit.then (wpListIn (Rd ro) n P ops Q (lo.drop k)) (λ _ _ _=>False)) (lo.take k) a w):wpListIn (Rd ro) n P ops Q lo a w:=by
 have key:∀(os rest:List Oper)(a:Act)(w:World),qz os=true->wpList P ops (Exit.then (wpListIn (Rd ro) n P ops Q rest) (λ _ _ _=>False)) os a w->wpListIn (Rd ro) n P ops Q (os++rest) a w:=by
  intro os;induction os with
  |nil=>intro rest a w _ h;exact h
  |cons o r f=>
   intro rest a w aL h
   have c:=aL
   simp only[qz,bH]at c
   simp only[wpList]at h
   simp only[jv,wpListIn]
   split
   ·rename_i d
    rw[if_pos d]at h
    rcases h with h |⟨_,j,w',h⟩
    ·have g:=XV (ro:=ro) (n:=n) (O2 aL o (by simp)) (Oper.wp_mono (λ a w h=>f rest a w c.2 h) h)
     refine⟨g.1,?_⟩
     have J:=g.2
     revert J
     generalize(o.semAt (Rd ro).round a.eval).run P w=i
     intro J
     cases i with
     |ok x w'=>
      cases x<;>simp only[Oper.uponIn]at J⊢ <;>first
       |exact J
       |exact⟨J.1,CallsIn.mono J.2 (λ e w'' b=>by cases e<;>first |exact b |exact absurd b (by simp[Exit.then,LetsOut]))⟩
       |exact⟨J.1,RoundIn.mono J.2 (λ e w'' b=>by cases e<;>first |exact b |exact absurd b (by simp[Exit.then,LetsOut]))⟩
     |halt x w'=>cases x<;>simp only[Oper.uponIn]at J⊢ <;>first |exact J |exact absurd J (by simp[Exit.then])
    ·exact absurd h (by simp[Exit.then])
   ·rename_i d
    rw[if_neg d]at h
    exact⟨λ _ _=>trivial,f rest _ _ c.2 h⟩
 have:=key (lo.take k) (lo.drop k) a w aL h;rwa [ja]at this
theorem aDv(d:∀a w,¬Q .outgrown a w)(aL:qz ops.toList=true){i:Nat}(h:wpOp P ops Q i K a w):wpOpIn (Rd ro) n P ops Q i K a w:=by
 unfold wpOp at h;unfold wpOpIn;split
 ·rename_i e
  rw[e]at h
  exact h
 ·rename_i o c
  rw[c]at h
  have f:o∈ops.toList:=by
   have:=bE (l:=ops.toList) (i:=i) (a:=o) (by rw[ht];exact c);exact this
  simp only at h
  split
  ·rename_i b
   rw[if_pos b]at h
   rcases h with h |⟨_,g,w',h⟩
   ·exact XV (O2 aL o f) h
   ·exact absurd h (d _ _)
  ·rename_i b
   rw[if_neg b]at h
   exact⟨λ _ _=>trivial,h⟩
theorem acX(b:∀a w,¬Q .outgrown a w)(aL:qz ops.toList=true):∀ {f:Nat}{ls:Array Bool}{a:Act}{w:World},wpAny P .any ops Q f ls a w->wpAnyIn (Rd ro) n P .any ops Q f ls a w
 |0,_,_,_,h=>h
 |f+1,ls,a,w,h=>⟨h.1,λ i hi=>aDv b aL (wpOp_mono (λ a w h=>acX b aL h) (h.2 i hi))⟩
end
def gu(ro:Option Nat)(n:Nat)(P:Program)(c:Code)(Q:Exit->Act->World->Prop)(a:Act)(w:World):Prop:=(∀a w,¬Q .outgrown a w)->c.wpIn (Rd ro) n P Q a w
section
variable{P:Program}{Q:Exit->Act->World->Prop}{a:Act}{w:World}{ro:Option Nat}{n:Nat}
theorem Qq(h:Q .normal a w):gu ro n P .skip Q a w:=λ _=>wpIn_skip h
theorem aaz{id:Nat}(h:Q (.exit id) a w):gu ro n P (.exit id) Q a w:=λ _=>wpIn_exit h
theorem m'{x y:Code}(h:∀K:Act->World->Prop,(∀a w,gu ro n P y Q a w->K a w)->gu ro n P x (Exit.then K Q) a w):gu ro n P (.seq x y) Q a w:=
 λ b=>wpIn_seq (h _ (λ _ _ h=>h b) b)
theorem aay{c:Operand}{x y:Code}{t:Bool}(hc:a.eval c= .bool t)(d:t=true->gu ro n P x Q a w)(ad:t=false->gu ro n P y Q a w):gu ro n P (.cond c x y) Q a w:=
 λ b=>wpIn_cond_split hc (λ e=>d e b) (λ e=>ad e b)
theorem aIq{c:Operand}{x y:Code}{b:Bool}(hc:a.eval c= .bool b)(af:b=false)(h:gu ro n P y Q a w):gu ro n P (.cond c x y) Q a w:=λ d=>wpIn_cond_false (by rw[hc,af]) (h d)
theorem aaw{id:Nat}{c:Code}(h:gu ro n P c (Exit.inBlock id Q) a w):gu ro n P (.block id c) Q a w:=λ b=>wpIn_block (h b)
theorem aax{id:Nat}{c:Code}(b:Act->World->Prop)(d:∀K:Act->World->Prop,(∀a w,b a w->K a w)->gu ro n P c (Exit.inBlock id (Exit.then K Q)) a w)(hy:∀a w,b a w->Q .normal a w):gu ro n P (.block id c) Q a w:=by
 intro f;refine wpIn_block (wpIn_mono (d _ hy f) ?_);intro e a w h;cases e with
 |exit i=>
  by_cases hi:i=id
  ·simpa[Exit.inBlock,Exit.then,hi]using h
  ·simpa[Exit.inBlock,Exit.then,hi]using h
 |_=>exact h
theorem alO{c:Code}(b:Nat->Act->World->Prop)(k:Nat)(h:b k a w)(f:∀a w,¬b 0 a w)
 (round:∀k a w,b (k+1) a w-> ∀K:Act->World->Prop,(∀a w,b k a w->K a w)->gu ro n P c (Exit.then K Q) a w):gu ro n P (.loop c) Q a w:=by
 intro g
 refine wpIn_loop (λ a w=>∃n,b n a w) (λ a w=>leastOf (λ n=>b n a w)) ⟨k,h⟩ ?_
 intro a w i
 have d:=(leastOf_spec i).1
 cases e:leastOf (λ n=>b n a w)with
 |zero=>rw[e]at d;exact absurd d (f a w)
 |succ m=>
  rw[e]at d
  exact round m a w d _ (λ j w' h'=>⟨⟨m,h'⟩,Nat.lt_succ_of_le ((leastOf_spec ⟨m,h'⟩).2 m h')⟩) g
theorem pC{id:Nat}{l:List Oper}(aL:qz l=true)(h:wpList P l.toArray Q l a w):gu ro n P (.region id l.toArray false) Q a w:=λ b=>wpIn_region_lit (Oq b aL h)
theorem alN{id m:Nat}{lo:List Oper}(p:Nat)(S:World->World->Prop)(c:P.follows .mixedOrders=true)(b:bS lo.length m=true)(aL:qz lo=true)(h:∀w',bp [] w w'->ff P lo.toArray Q p (S w') m [] a w'):gu ro n P (.region id lo.toArray true) Q a w:=by
 have b:=bd b;subst b;intro d;exact wpIn_mono (Q:=NoPanic Q) (wpIn_region_any c (acX (Q:=NoPanic Q) (λ a w=>d a w) aL (h _ (bp.drew [] w)).wpAny)) NoPanic.imp
theorem aIr{id:Nat}{l:List Oper}(h:(∀a w,¬Q .outgrown a w)->wpListIn (Rd ro) n P l.toArray Q l a w):gu ro n P (.region id l.toArray false) Q a w:=λ b=>wpIn_region_lit (h b)
end
def ba.obj(g:Nat)(o:Obj):ba where
 bB:=[g]
 ok w:=w.heap[g]? =some o
 law w w' h a:=(h g (by simp)).trans a
section
variable{W w:World}{M0 X:List Nat}{E:List ba}{D:List bD}
theorem avV(w:World)(g:Nat)(o:Obj):bp [g] w (w.putObj g o):=
 ⟨rfl,rfl,rfl,by simp,λ k _ a=>World.putObj_heap_other (by simpa using a)⟩
theorem bw.putObj{g:Nat}{o:Obj}(b:bw W M0 X w E D)(i:Nat)(hi:E[i]? =some (ba.obj g o))(a:Obj):bw W M0 X (w.putObj g a) (E.set i (ba.obj g a)) D:=
 b.Qa i hi (avV w g a) (by
  have h:w.heap[g]? =some o:=b.e i hi;exact World.putObj_heap_same (fJ.1 h).1) (by simp[ba.obj]) (λ k c=>.inl c)
theorem bw.newObj(b:bw W M0 X w E D)(o:Obj):bw W M0 X (w.alloc o) (ba.obj w.heap.size o::E) D:=
 b.push _ (bp.alloc _ _ _) (World.alloc_heap_new w o) (λ k a=>by simp[ba.obj]at a;subst a;exact⟨cC _,by simp⟩) (by simp[ba.obj])
end
def mark(r:Nat):Deferred:={ target:=.collected r,args:=#[] }
theorem aev{P:Program}{f:FuncId}{fn:Func}{c:Code}{vs:List Value}{w:World}{R:Ending->World->Prop}{n:Nat}
 (ad:P.funcs[f]? =some fn)(af:fn.body=some c)(b:fn.ntmps=n)(d:jc vs.length n=true)
 (h:∀a,Fr ⟨n,[]⟩ (tf 0 vs) a->c.wp P (bodyPostM Fence.wide 0 P fn R) a w):Calls P f vs.toArray w R:=by
 refine(callsIn_wide (n:=0)).1 (callsIn_of_wp_marks ad af trivial (wpIn_wide.2 ?_))
 rw[b]
 exact h _ (Fr.init vs n d)
section
variable{P:Program}{a:Act}{w:World}{W:World}{M0 X:List Nat}{E:List ba}{D:List bD}{fn:Func}{R:Ending->World->Prop}{l:List (Nat×Value)}{n g t u:Nat}{v e8:Value}
theorem aih(i:Nat)(ad:Fr ⟨n,[mark g]⟩ l a)(b:bw W M0 X w E D)(hi:E[i]? =some (ba.obj g (.deferred (some []))))(h:∀w',bw W M0 X w' (E.set i (ba.obj g (.deferred none))) D-> ∃v,(results fn a.tmps).run P w'= .ok v w'/\R (.returned v) w') :
 bodyPostM Fence.wide 0 P fn R .ret a w:=by
 show LeavesInM Fence.wide 0 P fn a.tmps R a.defers .returning w
 rw[ad.defers]
 exact⟨by simp,.inl ⟨g,_,rfl,run_takeDeferred (b.e i hi),h _ (b.putObj i hi _)⟩⟩
theorem aCd(i:Nat)(b:fn.results= #[.tmp t])(ad:Fr ⟨n,[mark g]⟩ l a)(c:bw W M0 X w E D)(hi:E[i]? =some (ba.obj g (.deferred (some []))))(d:eh l t=some v)
 (h:∀w',bw W M0 X w' (E.set i (ba.obj g (.deferred none))) D->R (.returned v) w'):bodyPostM Fence.wide 0 P fn R .ret a w:=
 aih i ad c hi λ w' e=>⟨_,results_tmp b _ _ _,by rw[ad.get _ _ d];exact h w' e⟩
theorem aCe(i:Nat)(b:fn.results= #[.tmp t,.tmp u])(ad:Fr ⟨n,[mark g]⟩ l a)(c:bw W M0 X w E D)(hi:E[i]? =some (ba.obj g (.deferred (some []))))(d:eh l t=some v)(e:eh l u=some e8)
 (h:∀w',bw W M0 X w' (E.set i (ba.obj g (.deferred none))) D->R (.returned (.tuple #[v,e8])) w'):bodyPostM Fence.wide 0 P fn R .ret a w:=
 aih i ad c hi λ w' f=>⟨_,results_tmp2 b _ _ _,by rw[ad.get _ _ d,ad.get _ _ e];exact h w' f⟩
end
theorem ava{P:Program}{f:FuncId}{fn:Func}{c:Code}{vs:List Value}{w:World}{R:Ending->World->Prop}{n:Nat}
 (ad:P.funcs[f]? =some fn)(af:fn.body=some c)(b:fn.ntmps=n)(d:jc vs.length n=true)(e:∀w,¬R .outgrown w)
 (h:∀a,Fr ⟨n,[]⟩ (tf 0 vs) a->gu none 1 P c (bodyPost P fn R) a w):CallsIn (Rd none) 1 P f vs.toArray w R:=by
 refine callsIn_of_wp ad af trivial ?_
 rw[b]
 exact h _ (Fr.init vs n d) (λ a w h=>e w h)
theorem asK{P:Program}{fn:Func}{R:Ending->World->Prop}{a:Act}{w:World}(h:bodyPost P fn R .ret a w):bodyPost P fn R .normal a w:=h
theorem alx{n:Nat}(h:n<=maxLen):I.ax ((n:Int)-1)=(n:Int)-1:=by
 unfold I.ax;simp only[maxLen]at h;omega
theorem azz{a pre rem:List Int}{x:Int}(h:a=(x::rem).reverse++pre):I.idx a (rem.length:Int)=some x:=by
 subst h;unfold I.idx;rw[if_pos (by omega)];simp
def acD(P:Program)(f:FuncId):Prop:=∀(a:List Int->World->Prop)(b:List Int)(A:Option Addr)(c fi L:Nat)(w0:World),
 (∀rem w,a rem w-> ∃W M0 X E,bw W M0 X w E [bD.iX fi [.slice A b.length c],bD.of (b3 (e7 .i64)) [.slice A b.length c] b]) ->
 (∀x rem w,a (x::rem) w->YieldAt (Rd none) 0 P L #[.int .i64 (rem.length:Int),.int .i64 x] w (λ e w'=>e= .returned (.bool true)/\a rem w')) ->
 a b.reverse w0->CallsIn (Rd none) 1 P f #[.func (.yield L) #[] #[],.pointer (some ⟨fi,0,none⟩)] w0 (λ e w'=>(∃v,e= .returned v)/\a [] w')
section
variable{P:Program}{ops:Array Oper}{Q:Exit->Act->World->Prop}{a:Act}{w:World}{rest:List Oper}{o:Oper}{n:cB}{d L:Nat}{l:List (Nat×Value)}
theorem aGQ{b:Operand}{xs:List Operand}{c:Array TypeId}{vs:List Value}(e:o.op= .call { callee:=.value b,args:=xs.toArray,argTypes:=c })(f:a.eval b= .func (.yield L) #[] #[])(g:yr a xs vs) :
 (execOp a.eval o).run P w=(Instr.yield L vs.toArray).run P w:=by
 have h:=MO g
 simp only[execOp,e,resolve,gX,h,f]
 simp[Deferred.ofValue,invoke]
theorem aLU{b:Operand}{xs:List Operand}{g:Array TypeId}{vs:List Value}{R:Ending->World->Prop}(h:Region.wanted o (yielded ops a.tmps)=true)(c:o.op= .call { callee:=.value b,args:=xs.toArray,argTypes:=g })
 (i:a.eval b= .func (.yield L) #[] #[])(j:yr a xs vs)(hy:YieldAt (Rd none) 0 P L vs.toArray w R)(ad:Fr n l a)(aL:o.dst=some d)(m:ez d n=true)
 (k:∀e w',R e w'-> ∃v,e= .returned v/\ ∀f,Fr n ((d,v)::l) f->wpListIn (Rd none) 1 P ops Q rest f w'):wpListIn (Rd none) 1 P ops Q (o::rest) a w:=by
 refine wpListIn_step λ K p=>?_
 rw[if_pos h]
 refine⟨λ _ _=>trivial,?_⟩
 obtain⟨fn,tmps,assign,body,q,J⟩:=hy
 rw[Oper.semAt_eq _ _ _ (by rw[c];simp),aGQ c i j,q]
 refine⟨Zr,RoundIn.mono J ?_⟩
 intro e w' r
 obtain⟨v,rfl,s⟩:=k e w' r
 rw[aL]
 exact p _ _ (s _ (ad.put m))
end
section
variable{P:Program}{Q:Exit->Act->World->Prop}{a:Act}{w:World}{W:World}{M0 X:List Nat}{E:List ba}{D:List bD}
theorem ads{β:Type}{q t f j n fi c:Nat}{A:Option Addr}{l:List (Nat×Value)}{l1:Int->Int->List (Nat×Value)}{assign body:Code}(r:β->List ba)(k:β->List bD)(d:List Int->β->Prop)(u:List Int)(b0:β)(br bA:Nat)
 (tG:acD P q)(Mx:∀args w,(callFunc q args).run P w= .ok (.enter q args) w)
 (ad:Fr ⟨n,[]⟩ l a)(ay:eh l t=some (.func (.func q) #[] #[.pointer (some ⟨fi,0,none⟩)]))(V4:ez f n=true)(H:ez j n=true)
 (hm:bw W M0 X w (r b0) (k b0))(aG:d u.reverse b0)
 (la:∀b,(k b)[br]? =some (bD.iX fi [.slice A u.length c]))(rQ:∀b,(k b)[bA]? =some (bD.of (b3 (e7 .i64)) [.slice A u.length c] u))
 (av:∀L i x w m (K:Act->World->Prop),Fr ⟨n,[]⟩ ((j,.int .i64 x)::(f,.int .i64 i)::l) m->(∀s,Fr ⟨n,[]⟩ (l1 i x) s->K s w)->gu (some L) 0 P assign (Exit.then K (λ _ _ _=>False)) m w)
 (af:∀L g S T U b i x rem w m (K:Exit->Act->World->Prop),d (x::rem) b->Fr ⟨n,[]⟩ (l1 i x) m->bw W M0 X w (ba.obj g S::ba.obj T U::r b) (k b) ->
  (∀z s w',d rem z->bw W M0 X w' (ba.obj g S::ba.obj T U::r z) (k z)->K .normal s w')->gu (some L) 0 P body K m w)
 (I:∀g b m w',d [] b->Fr ⟨n,[mark g]⟩ l m->bw W M0 X w' (ba.obj g (.deferred (some []))::r b) (k b)->Q .normal m w') :
 (Code.rangeFunc (.tmp t) #[f,j] assign body).wp P Q a w:=by
 refine(wpIn_wide (n:=2)).1 (wpIn_rangeFunc λ fn _=>?_)
 obtain⟨rec,o⟩:∃rec:LoopState->Loop,rec=λ gG=>{ state:=gG,pending:=none,fn,tmps:=a.tmps,params:=#[f,j],assign,body,defers:=w.heap.size }:=⟨_,rfl⟩
 obtain⟨p,B⟩:∃p,(w.alloc (.deferred (some []))).alloc (.loop (rec .ready))=p:=⟨_,rfl⟩
 have VT:bw W M0 X p (ba.obj (w.heap.size+1) (.loop (rec .ready))::ba.obj w.heap.size (.deferred (some []))::r b0) (k b0):=by
  have:=(hm.newObj (.deferred (some []))).newObj (.loop (rec .ready));rw[B]at this;simpa using this
 refine⟨w.heap.size+1,[mark w.heap.size],p,{ target:=.fn (.func q) #[.pointer (some ⟨fi,0,none⟩)],args:=#[.func (.yield (w.heap.size+1)) #[] #[]] },p,q,
  #[.func (.yield (w.heap.size+1)) #[] #[],.pointer (some ⟨fi,0,none⟩)],p,?_,?_,λ _ _=>trivial,?_,λ _=>by decide,?_⟩
 ·rw[<-B,o];exact run_enterLoop_outer _ _ _ _ _
 ·have IP:=ad.g ay
  simp only[resolve,IP]
  simp[go_sem]
 ·simp[invoke,go_sem,Mx]
 ·refine CallsIn.mono (tG (λ rem w'=>∃b,d rem b/\bw W M0 X w' (ba.obj (w.heap.size+1) (.loop (rec .ready))::ba.obj w.heap.size (.deferred (some []))::r b) (k b)) u A c fi (w.heap.size+1) p ?_ ?_ ⟨b0,aG,VT⟩) ?_
  ·rintro rem w' ⟨b,_,G⟩
   exact⟨_,_,_,_,G.less λ y hy=>by
    simp only[cR,h4,or_false]at hy;rcases hy with rfl |rfl
    ·exact bE (la b)
    ·exact bE (rQ b)⟩
  ·rintro x rem w' ⟨b,J,G⟩
   have V:w'.heap[w.heap.size+1]? =some (.loop (rec .ready)):=G.e 0 rfl
   have hy:=run_yield (P:=P) (args:=#[.int .i64 (rem.length:Int),.int .i64 x]) V (by rw[o];rfl)
   rw[o]at hy
   refine⟨fn,_,assign,body,hy,roundIn_of_wpIn trivial ?_⟩
   have M:Fr ⟨n,[]⟩ ((j,.int .i64 x)::(f,.int .i64 (rem.length:Int))::l) ⟨((#[f,j]:Array Tmp).zip #[Value.int .i64 (rem.length:Int),.int .i64 x]).foldl (λ tmps (x:Tmp×Value)=>tmps.setIfInBounds x.1 x.2) a.tmps,[]⟩:=by
    have Y:=(ad.put (v:=.int .i64 (rem.length:Int)) V4).put (v:=.int .i64 x) H;have e:((#[f,j]:Array Tmp).zip #[Value.int .i64 (rem.length:Int),.int .i64 x]).foldl (λ tmps (x:Tmp×Value)=>tmps.setIfInBounds x.1 x.2) a.tmps=((a.put (some f) (.int .i64 (rem.length:Int))).put (some j) (.int .i64 x)).tmps:=by simp[Act.put]
    refine⟨?_,rfl,?_⟩
    ·simp only[e];exact Y.size
    ·simp only[e];exact Y.get
   refine av (w.heap.size+1) _ _ w' _ _ M ?_ (λ a w h=>h)
   intro s N
   have tJ:=G.putObj 0 rfl (.loop { rec .ready with state:=.busy })
   refine⟨_,run_beginRound V (by rw[o]),?_⟩
   refine af (w.heap.size+1) _ _ _ _ b _ x rem _ s _ J N tJ ?_ (λ a w h=>h)
   intro z a3 O kA C
   have R:O.heap[w.heap.size+1]? =some (.loop { rec .ready with state:=.busy }):=C.e 0 rfl
   refine⟨_,_,run_endRound none R,rfl,z,kA,?_⟩
   have F:=C.putObj 0 rfl (.loop (rec .ready))
   rw[o]at F⊢
   exact F
  ·rintro e O ⟨⟨v,rfl⟩,b,J,C⟩
   have R:O.heap[w.heap.size+1]? =some (.loop (rec .ready)):=C.e 0 rfl
   have Z:=run_endLoop (P:=P) R (by rw[o];simp)
   rw[o]at Z
   refine⟨none,_,Z,?_⟩
   have F:=C.putObj 0 rfl (.loop { rec .ready with state:=.exhausted })
   rw[o]at F
   refine I w.heap.size b _ _ J ⟨ad.size,?_,ad.get⟩ (F.drop (List.sublist_cons_self _ _))
   show[mark w.heap.size]++a.defers=[mark w.heap.size]
   rw[ad.defers];rfl
end
end aw
namespace aw
open Go Go.RowKit I
def bD.aHE:bD:=⟨λ _ _=>True,λ _ _ _ _ _ _ _=>trivial⟩
def bD.ai4{α:Type}(o:Option α)(f:α->bD):bD:=match o with
 |none=>bD.aHE
 |some x=>f x
section
variable{P:Program}{ops:Array Oper}{Q:Exit->Act->World->Prop}{a:Act}{w:World}{rest:List Oper}{o:Oper}{n:cB}{d:Nat}{l:List (Nat×Value)}
 {W:World}{M0 X:List Nat}{E:List ba}{D:List bD}
theorem bw.none(h:bw W M0 X w E D){α:Type}(f:α->bD):bw W M0 X w E (bD.ai4 (Option.none:Option α) f::D):=h.more (y:=bD.ai4 (Option.none:Option α) f) trivial
theorem aLw{t e:TypeId}{sz:Nat}{x:Operand}{lo hi:Option Operand}(b:P.underlying t=some (.slice e))(aj:∀w,(Go.sizeOf e).run P w= .ok sz w)(c:o.op= .slice t x lo hi none)(f:a.eval x= .slice none 0 0)
 (g:(lo=none/\(0 :Int)=0)\/ ∃z,lo=some z/\a.eval z= .int .i64 0)(k:(hi=none/\(0 :Int)=(0 :Nat))\/ ∃z,hi=some z/\a.eval z= .int .i64 0):bg P o a w (.slice none 0 0) w:=by
 have h:=RA (P:=P) (w:=w) b aj c f g k (i:=0) (j:=0) ⟨k2 _,k2 _,by omega⟩ (cC 0)
 simpa using h
theorem aLv{t e:TypeId}{A:Option Addr}{m c:Nat}{x:Operand}(b:P.underlying t=some (.slice e))(f:o.op= .call { callee:=.builtin .cap,args:=#[x],argTypes:=#[t] })(g:a.eval x= .slice A m c):bg P o a w (.int .i64 c) w:=by
 simp[bg,execOp,f,resolve,invoke,builtin,Builtin.cap_,g,run_underlying b,goInt]
theorem aLS{t t':TypeId}{x y:Operand}{k:IntKind}{m:Int}{n:Nat}(c:jc n 64=true)(e:o.op= .binOp .shr t x y t')(f:a.eval x= .int .u64 m)(hy:a.eval y= .int k (n:Int)):bg P o a w (.int .u64 (w7 m n)) w:=by
 have b:=cv c;unfold w7;simp only[bg,execOp,e,f,hy];simp[go_sem,b]
end
end aw
namespace aw
open Go Go.RowKit I
section
variable{P:Program}{W w w':World}{M0 X:List Nat}{E:List ba}{D:List bD}{n:cB}{l:List (Nat×Value)}{a:Act}{o:Oper}{ops:Array Oper}{rest:List Oper}{Q:Exit->Act->World->Prop}{d:Nat}
theorem aGM{A:Option Addr}{m c sz:Nat}{t e:TypeId}{j:Int}(b:P.underlying t=some (.slice e))(aj:∀w,(Go.sizeOf e).run P w= .ok sz w)(h:0<=j/\j<=c) :
 (Instr.slice t (.slice A m c) none (some (.int .i64 j)) (some (.int .i64 j))).run P w= .ok (.slice (if j.toNat=0 then A else A.map (·.add (0*sz))) j.toNat j.toNat) w:=by
 have f:∀code,(Instr.sliceBound (.int .i64 j) c code).run P w= .ok j.toNat w:=λ code=>zL rfl (by omega)
 have g:∀code,(Instr.sliceBound (.int .i64 j) j.toNat code).run P w= .ok j.toNat w:=λ code=>zL rfl (by omega)
 have af:(Instr.sliceBounds true m c none (some (.int .i64 j)) (some (.int .i64 j))).run P w= .ok (0,j.toNat,j.toNat) w:=by
  simp[Instr.sliceBounds,f,g]
 simp[Instr.slice,run_underlying b,af,aj]
end
end aw
namespace Go.Value
abbrev q{α:Type}(A:Option Addr)(c:Nat)(l:List α):Value:=.slice A l.length c
end Go.Value
namespace aw
open Go Go.RowKit I
abbrev ix:=Option Addr
abbrev oQ:=List Value
abbrev En:=List Int
theorem wn{ops:Array Oper}{a:Act}{o:Oper}(b:o.guard=none:=by rfl):Region.wanted o (yielded ops a.tmps)=true:=Qk b
section
variable{W w:World}{M0 X:List Nat}{E lA:List ba}{D gr:List bD}{n:cB}{l l' new fr gk:List (Nat×Value)}{a:Act}
theorem Fr.cut(ad:Fr n l a)(h:ET l (l'.map (·.1))=some l':=by kernel_rfl):Fr n l' a:=ad.sub (S6 h)
def Gw(D:List bD):List Nat->Option (List bD)
 |[]=>some []
 |i::r=>match nth D i,Gw D r with
  |some y,some ys=>some (y::ys)
  |_,_=>none
theorem aky:∀ {is:List Nat}{gr:List bD},Gw D is=some gr->Pg D gr
 |[],gr,h=>by simp only[Gw,aF]at h;subst h;trivial
 |i::r,gr,h=>by
  simp only[Gw]at h;split at h
  ·rename_i y ys b J
   simp only[aF]at h
   subst h
   exact⟨⟨i,by rw[<-c7];exact b⟩,aky J⟩
  ·cases h
theorem bw.hP(h:bw W M0 X w E D)(is:List Nat)(e:Gw D is=some gr:=by kernel_rfl):bw W M0 X w E gr:=h.pick (aky e)
theorem bw.uy(h:bw W M0 X w E D)(dY is:List Nat)(b:JR dY=true:=by kernel_rfl)(ak:Gx E dY=some lA:=by kernel_rfl)(e:Gw D is=some gr:=by kernel_rfl):bw W M0 X w lA gr:=(h.sel dY b ak).hP is e
theorem oi{α:Type}{a b:α}(h:some a=some b):a=b:=ei h
theorem os{α:Type}{a b:α}(h:some a=some b):b=a:=(ei h).symm
def pY:List (Nat×Value)->List (Nat×Value)->List (Nat×Value)
 |[],r=>r
 |x::l,r=>x::pY l r
def vK:List (Nat×Value)->Nat->Bool
 |[],_=>false
 |p::r,j=>bS p.1 j||vK r j
def JZ:List (Nat×Value)->List (Nat×Value)->List (Nat×Value)
 |_,[]=>[]
 |new,p::r=>match vK new p.1 with
  |true=>JZ new r
  |false=>p::JZ (p::new) r
def nL(new fr:List (Nat×Value)):List (Nat×Value):=pY new (JZ new fr)
theorem aic{t:Nat}{r:List (Nat×Value)}:∀ {l:List (Nat×Value)},eh (pY l r) t=cond (vK l t) (eh l t) (eh r t)
 |[]=>by simp[pY,vK]
 |p::l=>by
  simp only[pY,eh,vK];cases bS p.1 t with
  |true=>simp
  |false=>simp only[iu];exact aic
theorem Xg{t:Nat}:∀ {r new:List (Nat×Value)},vK new t=false->eh (JZ new r) t=eh r t
 |[],_,_=>rfl
 |p::r,new,h=>by
  simp only[JZ,eh];cases af:bS p.1 t with
  |true=>
   have:p.1=t:=bd af
   rw[this,h]
   simp only[eh,this,Nat.beq_refl]
  |false=>
   cases vK new p.1 with
   |true=>simp only;exact Xg h
   |false=>simp only[eh,af];exact Xg (by simp only[vK,af,iu];exact h)
theorem Fr.Mv(ad:Fr n (nL new fr) a):Fr n (pY new fr) a:=⟨ad.size,ad.defers,λ t v b=>ad.get t v (by
 unfold nL;rw[aic]at b⊢;cases c:vK new t with
 |true=>rw[c]at b;exact b
 |false=>rw[c]at b;rw[Xg c];exact b)⟩
def MN(G:mn)(ops:Array Oper)(n:Nat)(M:List (Nat×Nat×List Value))(is aj:List Nat)(fr:List (Nat×Value))(eV:List Nat):Option (List (Nat×Value)×List (Nat×Nat)):=
 match Df ops.toList is with
 |some os=>mz G ops n M os aj fr eV
 |none=>none
theorem avW{G:mn}{ops:Array Oper}{n:Nat}{M:List (Nat×Nat×List Value)}{is aj:List Nat}{fr:List (Nat×Value)}{eV:List Nat}{r:List (Nat×Value)×List (Nat×Nat)}(h:MN G ops n M is aj fr eV=some r):∃os,Df ops.toList is=some os/\mz G ops n M os aj fr eV=some r:=by
 unfold MN at h;split at h
 ·rename_i os b;exact⟨os,b,h⟩
 ·cases h
end
end aw
namespace I
structure Kind where
 Kind:Int
 ao:List UInt8
 deriving DecidableEq
structure Handler where
 From:Int
 To:Int
 At:Int
 ao:List UInt8
 deriving DecidableEq
structure Method where
 Name:List UInt8
 Static:Bool
 cA:List Kind
 Returns:Kind
 hE:Int
 hC:Int
 Code:List UInt8
 cG:List Handler
structure Field where
 Name:List UInt8
 Kind:Kind
 deriving DecidableEq
structure ao where
 Name:List UInt8
 cX:List UInt8
 Fields:List Field
 bn:List Method
structure Target where
 ao:Int
 Method:Int
 deriving DecidableEq
structure aR where
 a8:List ao
 aZ:List Int
 Fields:List (List Field)
 Names:List (List (List UInt8))
 a1:List (List Target)
structure bs where
 l:List ao
 bZ:List ((List UInt8)×Int)
 du:List Int
structure aU where
 Words:List Int
 au:Int
 aN:Int
 aX:Int
 aW:Int
 aV:List Int
 Next:Int
structure b9 where
 K:aR
structure bj where
 H:aU
 S:b9
 au:List Int
 aN:List Int
 dH:List (Int×Bool)
end I
namespace I
open Go
def Dt:aw.c9 Kind where
 size:=2
 rd _ _ cs d:=cs=[.int .i64 d.Kind,aw.ct d.ao]
 len h:=by subst h;rfl
 one h v a:=by subst h;simp only[cR,h4,or_false]at a;rcases a with rfl |rfl<;>rfl
 law _ h:=h
def Ds:aw.c9 Handler where
 size:=4
 rd _ _ cs d:=cs=[.int .i64 d.From,.int .i64 d.To,.int .i64 d.At,aw.ct d.ao]
 len h:=by subst h;rfl
 one h v a:=by subst h;simp only[cR,h4,or_false]at a;rcases a with rfl |rfl |rfl |rfl<;>rfl
 law _ h:=h
def qN:aw.c9 Method where
 size:=9
 rd F w cs d:=∃a c1 b c2,cs=[aw.ct d.Name,.bool d.Static,.slice a d.cA.length c1,.int .i64 d.Returns.Kind,aw.ct d.Returns.ao,.int .i64 d.hE,.int .i64 d.hC,aw.ct d.Code,.slice b d.cG.length c2]/\(aw.b3 I.Dt).rd F w [.slice a d.cA.length c1] d.cA/\(aw.b3 I.Ds).rd F w [.slice b d.cG.length c2] d.cG
 len h:=by obtain⟨a,c1,b,c2,c,_⟩:=h;subst c;rfl
 one h v e:=by obtain⟨a,c1,b,c2,c,_⟩:=h;subst c;simp only[cR,h4,or_false]at e;rcases e with rfl |rfl |rfl |rfl |rfl |rfl |rfl |rfl |rfl<;>rfl
 law f h:=by obtain⟨a,c1,b,c2,c,g,J⟩:=h;exact⟨a,c1,b,c2,c,(aw.b3 I.Dt).law f g,(aw.b3 I.Ds).law f J⟩
def jo:aw.c9 Field where
 size:=3
 rd _ _ cs d:=cs=[aw.ct d.Name,.int .i64 d.Kind.Kind,aw.ct d.Kind.ao]
 len h:=by subst h;rfl
 one h v a:=by subst h;simp only[cR,h4,or_false]at a;rcases a with rfl |rfl |rfl<;>rfl
 law _ h:=h
def kl:aw.c9 ao where
 size:=4
 rd F w cs d:=∃a c1 b c2,cs=[aw.ct d.Name,aw.ct d.cX,.slice a d.Fields.length c1,.slice b d.bn.length c2]/\(aw.b3 I.jo).rd F w [.slice a d.Fields.length c1] d.Fields/\(aw.b3 I.qN).rd F w [.slice b d.bn.length c2] d.bn
 len h:=by obtain⟨a,c1,b,c2,c,_⟩:=h;subst c;rfl
 one h v e:=by obtain⟨a,c1,b,c2,c,_⟩:=h;subst c;simp only[cR,h4,or_false]at e;rcases e with rfl |rfl |rfl |rfl<;>rfl
 law f h:=by obtain⟨a,c1,b,c2,c,g,J⟩:=h;exact⟨a,c1,b,c2,c,(aw.b3 I.jo).law f g,(aw.b3 I.qN).law f J⟩
def km:aw.c9 Target where
 size:=2
 rd _ _ cs d:=cs=[.int .i64 d.ao,.int .i64 d.Method]
 len h:=by subst h;rfl
 one h v a:=by subst h;simp only[cR,h4,or_false]at a;rcases a with rfl |rfl<;>rfl
 law _ h:=h
def aHL:aw.c9 aR where
 size:=5
 rd F w cs d:=∃a c1 b c2 c c3 e c4 f c5,cs=[.slice a d.a8.length c1,.slice b d.aZ.length c2,.slice c d.Fields.length c3,.slice e d.Names.length c4,.slice f d.a1.length c5]/\(aw.b3 I.kl).rd F w [.slice a d.a8.length c1] d.a8/\(aw.b3 (aw.e7 .i64)).rd F w [.slice b d.aZ.length c2] d.aZ/\(aw.b3 (aw.b3 I.jo)).rd F w [.slice c d.Fields.length c3] d.Fields/\(aw.b3 (aw.b3 aw.jn)).rd F w [.slice e d.Names.length c4] d.Names/\(aw.b3 (aw.b3 I.km)).rd F w [.slice f d.a1.length c5] d.a1
 len h:=by obtain⟨a,c1,b,c2,c,c3,e,c4,f,c5,g,_⟩:=h;subst g;rfl
 one h v j:=by obtain⟨a,c1,b,c2,c,c3,e,c4,f,c5,g,_⟩:=h;subst g;simp only[cR,h4,or_false]at j;rcases j with rfl |rfl |rfl |rfl |rfl<;>rfl
 law i h:=by obtain⟨a,c1,b,c2,c,c3,e,c4,f,c5,g,k,J,ap,l,m⟩:=h;exact⟨a,c1,b,c2,c,c3,e,c4,f,c5,g,(aw.b3 I.kl).law i k,(aw.b3 (aw.e7 .i64)).law i J,(aw.b3 (aw.b3 I.jo)).law i ap,(aw.b3 (aw.b3 aw.jn)).law i l,(aw.b3 (aw.b3 I.km)).law i m⟩
def aHK:aw.c9 aU where
 size:=7
 rd F w cs d:=∃a c1 b c2,cs=[.slice a d.Words.length c1,.int .i64 d.au,.int .i64 d.aN,.int .i64 d.aX,.int .i64 d.aW,.slice b d.aV.length c2,.int .i64 d.Next]/\(aw.b3 (aw.e7 .i64)).rd F w [.slice a d.Words.length c1] d.Words/\(aw.b3 (aw.e7 .i64)).rd F w [.slice b d.aV.length c2] d.aV
 len h:=by obtain⟨a,c1,b,c2,c,_⟩:=h;subst c;rfl
 one h v e:=by obtain⟨a,c1,b,c2,c,_⟩:=h;subst c;simp only[cR,h4,or_false]at e;rcases e with rfl |rfl |rfl |rfl |rfl |rfl |rfl<;>rfl
 law f h:=by obtain⟨a,c1,b,c2,c,g,J⟩:=h;exact⟨a,c1,b,c2,c,(aw.b3 (aw.e7 .i64)).law f g,(aw.b3 (aw.e7 .i64)).law f J⟩
end I
namespace Go.Value
abbrev dd(g:Nat):Value:=.pointer (some ⟨g,0,none⟩)
abbrev i(n:Int):Value:=.int .i64 n
end Go.Value
namespace Go.Proofs.YteeliipnilghaaaGreat
open Go Go.RowKit
abbrev cr{α:Type}(T:aw.c9 α)(A:Option Addr)(c:Nat)(l:List α):aw.bD:=aw.bD.of (aw.b3 T) [.slice A l.length c] l
def rB:aw.mn:=⟨[(3,.i .i64),(4,.b),(5,.i .u8),(9,.s),(22,.cr),(25,.cr),(26,.cr),(27,.cr),(28,.cr),(31,.i .i64),(73,.cr),(119,.cr),(120,.cr),(121,.cr),(124,.cr),(126,.cr),(129,.cr),(132,.cr),(202,.cr),(204,.cr)],[(24,0,0),(24,1,1),(24,2,2),(24,3,3),(24,4,4),(24,5,5),(24,6,6),(30,0,0),(30,1,1),(30,2,2),(30,3,3),(30,4,4),(69,0,0),(72,0,0),(72,1,7),(72,2,12),(72,3,13),(72,4,14),(117,0,0),(117,1,1),(117,2,2),(128,0,0),(128,1,1),(131,0,0),(131,1,1),(131,2,2),(131,3,3),(131,4,5),(131,5,6),(131,6,7),(131,7,8),(134,0,0),(134,1,1),(134,2,2),(134,3,3),(136,0,0),(136,1,1),(157,0,0),(157,1,1),(157,2,2),(157,3,3)],[(3,none),(4,none),(5,none),(9,none),(22,none),(24,some 7),(25,none),(26,none),(27,none),(28,none),(30,some 5),(60,none),(69,some 5),(70,none),(113,none),(115,none),(118,none),(120,none),(121,none),(124,none),(126,none),(128,some 2),(129,none),(131,some 9),(132,none),(134,some 4),(136,some 3),(157,some 4),(166,some 2)]⟩
theorem rC:aw.sR Tryz.prog rB:=⟨⟨Tryz.underlying3,Tryz.underlying4,Tryz.underlying5,Tryz.underlying9,⟨_,Tryz.underlying22⟩,⟨_,Tryz.underlying25⟩,⟨_,Tryz.underlying26⟩,⟨_,Tryz.underlying27⟩,⟨_,Tryz.underlying28⟩,Tryz.underlying31,⟨_,Tryz.underlying73⟩,⟨_,Tryz.underlying119⟩,⟨_,Tryz.underlying120⟩,⟨_,Tryz.underlying121⟩,⟨_,Tryz.underlying124⟩,⟨_,Tryz.underlying126⟩,⟨_,Tryz.underlying129⟩,⟨_,Tryz.underlying132⟩,⟨_,Tryz.underlying202⟩,⟨_,Tryz.underlying204⟩,trivial⟩,⟨aw.eD Tryz.underlying24 rfl rfl Tryz.sizeOf22 rfl,aw.eD Tryz.underlying24 rfl rfl Tryz.sizeOf3 rfl,aw.eD Tryz.underlying24 rfl rfl Tryz.sizeOf3 rfl,aw.eD Tryz.underlying24 rfl rfl Tryz.sizeOf3 rfl,aw.eD Tryz.underlying24 rfl rfl Tryz.sizeOf3 rfl,aw.eD Tryz.underlying24 rfl rfl Tryz.sizeOf22 rfl,aw.eD Tryz.underlying24 rfl rfl Tryz.sizeOf3 rfl,aw.eD Tryz.underlying30 rfl rfl Tryz.sizeOf25 rfl,aw.eD Tryz.underlying30 rfl rfl Tryz.sizeOf22 rfl,aw.eD Tryz.underlying30 rfl rfl Tryz.sizeOf26 rfl,aw.eD Tryz.underlying30 rfl rfl Tryz.sizeOf27 rfl,aw.eD Tryz.underlying30 rfl rfl Tryz.sizeOf28 rfl,aw.eD Tryz.underlying69 rfl rfl Tryz.sizeOf30 rfl,aw.eD Tryz.underlying72 rfl rfl Tryz.sizeOf24 rfl,aw.eD Tryz.underlying72 rfl rfl Tryz.sizeOf69 rfl,aw.eD Tryz.underlying72 rfl rfl Tryz.sizeOf22 rfl,aw.eD Tryz.underlying72 rfl rfl Tryz.sizeOf22 rfl,aw.eD Tryz.underlying72 rfl rfl Tryz.sizeOf70 rfl,aw.eD Tryz.underlying117 rfl rfl Tryz.sizeOf25 rfl,aw.eD Tryz.underlying117 rfl rfl Tryz.sizeOf115 rfl,aw.eD Tryz.underlying117 rfl rfl Tryz.sizeOf22 rfl,aw.eD Tryz.underlying128 rfl rfl Tryz.sizeOf3 rfl,aw.eD Tryz.underlying128 rfl rfl Tryz.sizeOf9 rfl,aw.eD Tryz.underlying131 rfl rfl Tryz.sizeOf9 rfl,aw.eD Tryz.underlying131 rfl rfl Tryz.sizeOf4 rfl,aw.eD Tryz.underlying131 rfl rfl Tryz.sizeOf126 rfl,aw.eD Tryz.underlying131 rfl rfl Tryz.sizeOf128 rfl,aw.eD Tryz.underlying131 rfl rfl Tryz.sizeOf3 rfl,aw.eD Tryz.underlying131 rfl rfl Tryz.sizeOf3 rfl,aw.eD Tryz.underlying131 rfl rfl Tryz.sizeOf9 rfl,aw.eD Tryz.underlying131 rfl rfl Tryz.sizeOf129 rfl,aw.eD Tryz.underlying134 rfl rfl Tryz.sizeOf9 rfl,aw.eD Tryz.underlying134 rfl rfl Tryz.sizeOf9 rfl,aw.eD Tryz.underlying134 rfl rfl Tryz.sizeOf124 rfl,aw.eD Tryz.underlying134 rfl rfl Tryz.sizeOf132 rfl,aw.eD Tryz.underlying136 rfl rfl Tryz.sizeOf9 rfl,aw.eD Tryz.underlying136 rfl rfl Tryz.sizeOf128 rfl,aw.eD Tryz.underlying157 rfl rfl Tryz.sizeOf3 rfl,aw.eD Tryz.underlying157 rfl rfl Tryz.sizeOf3 rfl,aw.eD Tryz.underlying157 rfl rfl Tryz.sizeOf3 rfl,aw.eD Tryz.underlying157 rfl rfl Tryz.sizeOf9 rfl,trivial⟩,⟨Tryz.isAgg3,Tryz.isAgg4,Tryz.isAgg5,Tryz.isAgg9,Tryz.isAgg22,⟨Tryz.isAgg24,Tryz.sizeOf24⟩,Tryz.isAgg25,Tryz.isAgg26,Tryz.isAgg27,Tryz.isAgg28,⟨Tryz.isAgg30,Tryz.sizeOf30⟩,Tryz.isAgg60,⟨Tryz.isAgg69,Tryz.sizeOf69⟩,Tryz.isAgg70,Tryz.isAgg113,Tryz.isAgg115,Tryz.isAgg118,Tryz.isAgg120,Tryz.isAgg121,Tryz.isAgg124,Tryz.isAgg126,⟨Tryz.isAgg128,Tryz.sizeOf128⟩,Tryz.isAgg129,⟨Tryz.isAgg131,Tryz.sizeOf131⟩,Tryz.isAgg132,⟨Tryz.isAgg134,Tryz.sizeOf134⟩,⟨Tryz.isAgg136,Tryz.sizeOf136⟩,⟨Tryz.isAgg157,Tryz.sizeOf157⟩,⟨Tryz.isAgg166,Tryz.sizeOf166⟩,trivial⟩⟩
theorem azM:(Tryz.prog.info? 3).map (λ i=>(i.zero,i.size,i.bytes))=some (some (.int .i64 0),1,8):=by kernel_rfl
theorem Wu:(Tryz.prog.info? 9).map (λ i=>(i.zero,i.size,i.bytes))=some (some (aw.ct []),1,16):=by kernel_rfl
theorem azL:(Tryz.prog.info? 136).map (λ i=>(i.zero,i.size,i.bytes))=some (some (.agg #[aw.ct [],.int .i64 0,aw.ct []]),3,40):=by kernel_rfl
theorem Wt:(Tryz.prog.info? 166).map (λ i=>(i.zero,i.size,i.bytes))=some (some (.agg #[.int .i64 0,.int .i64 0]),2,16):=by kernel_rfl
theorem aDJ:∀w,(aw.placesOf Tryz.prog 166).run Tryz.prog w= .ok #[(0,1),(1,1)] w:=λ w=>by kernel_rfl
theorem avm{o:Oper}{a:Act}{w:World}{t':TypeId}{x y:Operand}{X Y:I.Kind}(b:o.op= .binOp .eql 128 x y t')(c:a.eval x= .agg #[.int .i64 X.Kind,aw.ct X.ao])(hy:a.eval y= .agg #[.int .i64 Y.Kind,aw.ct Y.ao]):aw.bg Tryz.prog o a w (.bool (decide (X=Y))) w:=by
 have aL:decide (X=Y)=decide (X.Kind=Y.Kind/\X.ao=Y.ao/\True):=by rcases X with⟨_,_⟩;rcases Y with⟨_,_⟩;simp
 rw[aL];exact aw.RB Tryz.underlying128 (by kernel_rfl) (by kernel_rfl) (aw.nM rfl Tryz.underlying3 Tryz.isAgg3 rfl rfl (aw.yo rfl Tryz.underlying9 Tryz.isAgg9 rfl rfl (by simp[aw.tg]))) b c hy
theorem avq{o:Oper}{a:Act}{w:World}{t':TypeId}{x y:Operand}{X Y:I.Kind}(b:o.op= .binOp .neq 128 x y t')(c:a.eval x= .agg #[.int .i64 X.Kind,aw.ct X.ao])(hy:a.eval y= .agg #[.int .i64 Y.Kind,aw.ct Y.ao]):aw.bg Tryz.prog o a w (.bool (!decide (X=Y))) w:=by
 have aL:decide (X=Y)=decide (X.Kind=Y.Kind/\X.ao=Y.ao/\True):=by rcases X with⟨_,_⟩;rcases Y with⟨_,_⟩;simp
 rw[aL];exact aw.RD Tryz.underlying128 (by kernel_rfl) (by kernel_rfl) (aw.nM rfl Tryz.underlying3 Tryz.isAgg3 rfl rfl (aw.yo rfl Tryz.underlying9 Tryz.isAgg9 rfl rfl (by simp[aw.tg]))) b c hy
theorem avk{o:Oper}{a:Act}{w:World}{t':TypeId}{x y:Operand}{X Y:I.Field}(b:o.op= .binOp .eql 136 x y t')(c:a.eval x= .agg #[aw.ct X.Name,.int .i64 X.Kind.Kind,aw.ct X.Kind.ao])(hy:a.eval y= .agg #[aw.ct Y.Name,.int .i64 Y.Kind.Kind,aw.ct Y.Kind.ao]):aw.bg Tryz.prog o a w (.bool (decide (X=Y))) w:=by
 have aL:decide (X=Y)=decide (X.Name=Y.Name/\(X.Kind.Kind=Y.Kind.Kind/\X.Kind.ao=Y.Kind.ao/\True)/\True):=by rcases X with⟨_,⟨_,_⟩⟩;rcases Y with⟨_,⟨_,_⟩⟩;simp
 rw[aL];exact aw.RB Tryz.underlying136 (by kernel_rfl) (by kernel_rfl) (aw.yo rfl Tryz.underlying9 Tryz.isAgg9 rfl rfl (aw.aez (us:=[.int .i64 X.Kind.Kind,aw.ct X.Kind.ao]) (vs:=[.int .i64 Y.Kind.Kind,aw.ct Y.Kind.ao]) (q:=X.Kind.Kind=Y.Kind.Kind/\X.Kind.ao=Y.Kind.ao/\True) rfl Tryz.isAgg128 Tryz.sizeOf128 rfl rfl (aw.aeA Tryz.underlying128 (by kernel_rfl) (aw.nM rfl Tryz.underlying3 Tryz.isAgg3 rfl rfl (aw.yo rfl Tryz.underlying9 Tryz.isAgg9 rfl rfl (by simp[aw.tg])))) (by simp[aw.tg]))) b c hy
theorem avo{o:Oper}{a:Act}{w:World}{t':TypeId}{x y:Operand}{X Y:I.Field}(b:o.op= .binOp .neq 136 x y t')(c:a.eval x= .agg #[aw.ct X.Name,.int .i64 X.Kind.Kind,aw.ct X.Kind.ao])(hy:a.eval y= .agg #[aw.ct Y.Name,.int .i64 Y.Kind.Kind,aw.ct Y.Kind.ao]):aw.bg Tryz.prog o a w (.bool (!decide (X=Y))) w:=by
 have aL:decide (X=Y)=decide (X.Name=Y.Name/\(X.Kind.Kind=Y.Kind.Kind/\X.Kind.ao=Y.Kind.ao/\True)/\True):=by rcases X with⟨_,⟨_,_⟩⟩;rcases Y with⟨_,⟨_,_⟩⟩;simp
 rw[aL];exact aw.RD Tryz.underlying136 (by kernel_rfl) (by kernel_rfl) (aw.yo rfl Tryz.underlying9 Tryz.isAgg9 rfl rfl (aw.aez (us:=[.int .i64 X.Kind.Kind,aw.ct X.Kind.ao]) (vs:=[.int .i64 Y.Kind.Kind,aw.ct Y.Kind.ao]) (q:=X.Kind.Kind=Y.Kind.Kind/\X.Kind.ao=Y.Kind.ao/\True) rfl Tryz.isAgg128 Tryz.sizeOf128 rfl rfl (aw.aeA Tryz.underlying128 (by kernel_rfl) (aw.nM rfl Tryz.underlying3 Tryz.isAgg3 rfl rfl (aw.yo rfl Tryz.underlying9 Tryz.isAgg9 rfl rfl (by simp[aw.tg])))) (by simp[aw.tg]))) b c hy
theorem avl{o:Oper}{a:Act}{w:World}{t':TypeId}{x y:Operand}{X Y:I.Handler}(b:o.op= .binOp .eql 157 x y t')(c:a.eval x= .agg #[.int .i64 X.From,.int .i64 X.To,.int .i64 X.At,aw.ct X.ao])(hy:a.eval y= .agg #[.int .i64 Y.From,.int .i64 Y.To,.int .i64 Y.At,aw.ct Y.ao]):aw.bg Tryz.prog o a w (.bool (decide (X=Y))) w:=by
 have aL:decide (X=Y)=decide (X.From=Y.From/\X.To=Y.To/\X.At=Y.At/\X.ao=Y.ao/\True):=by rcases X with⟨_,_,_,_⟩;rcases Y with⟨_,_,_,_⟩;simp
 rw[aL];exact aw.RB Tryz.underlying157 (by kernel_rfl) (by kernel_rfl) (aw.nM rfl Tryz.underlying3 Tryz.isAgg3 rfl rfl (aw.nM rfl Tryz.underlying3 Tryz.isAgg3 rfl rfl (aw.nM rfl Tryz.underlying3 Tryz.isAgg3 rfl rfl (aw.yo rfl Tryz.underlying9 Tryz.isAgg9 rfl rfl (by simp[aw.tg]))))) b c hy
theorem avp{o:Oper}{a:Act}{w:World}{t':TypeId}{x y:Operand}{X Y:I.Handler}(b:o.op= .binOp .neq 157 x y t')(c:a.eval x= .agg #[.int .i64 X.From,.int .i64 X.To,.int .i64 X.At,aw.ct X.ao])(hy:a.eval y= .agg #[.int .i64 Y.From,.int .i64 Y.To,.int .i64 Y.At,aw.ct Y.ao]):aw.bg Tryz.prog o a w (.bool (!decide (X=Y))) w:=by
 have aL:decide (X=Y)=decide (X.From=Y.From/\X.To=Y.To/\X.At=Y.At/\X.ao=Y.ao/\True):=by rcases X with⟨_,_,_,_⟩;rcases Y with⟨_,_,_,_⟩;simp
 rw[aL];exact aw.RD Tryz.underlying157 (by kernel_rfl) (by kernel_rfl) (aw.nM rfl Tryz.underlying3 Tryz.isAgg3 rfl rfl (aw.nM rfl Tryz.underlying3 Tryz.isAgg3 rfl rfl (aw.nM rfl Tryz.underlying3 Tryz.isAgg3 rfl rfl (aw.yo rfl Tryz.underlying9 Tryz.isAgg9 rfl rfl (by simp[aw.tg]))))) b c hy
theorem avn{o:Oper}{a:Act}{w:World}{t':TypeId}{x y:Operand}{X Y:I.Target}(b:o.op= .binOp .eql 166 x y t')(c:a.eval x= .agg #[.int .i64 X.ao,.int .i64 X.Method])(hy:a.eval y= .agg #[.int .i64 Y.ao,.int .i64 Y.Method]):aw.bg Tryz.prog o a w (.bool (decide (X=Y))) w:=by
 have aL:decide (X=Y)=decide (X.ao=Y.ao/\X.Method=Y.Method/\True):=by rcases X with⟨_,_⟩;rcases Y with⟨_,_⟩;simp
 rw[aL];exact aw.RB Tryz.underlying166 (by kernel_rfl) (by kernel_rfl) (aw.nM rfl Tryz.underlying3 Tryz.isAgg3 rfl rfl (aw.nM rfl Tryz.underlying3 Tryz.isAgg3 rfl rfl (by simp[aw.tg]))) b c hy
theorem avr{o:Oper}{a:Act}{w:World}{t':TypeId}{x y:Operand}{X Y:I.Target}(b:o.op= .binOp .neq 166 x y t')(c:a.eval x= .agg #[.int .i64 X.ao,.int .i64 X.Method])(hy:a.eval y= .agg #[.int .i64 Y.ao,.int .i64 Y.Method]):aw.bg Tryz.prog o a w (.bool (!decide (X=Y))) w:=by
 have aL:decide (X=Y)=decide (X.ao=Y.ao/\X.Method=Y.Method/\True):=by rcases X with⟨_,_⟩;rcases Y with⟨_,_⟩;simp
 rw[aL];exact aw.RD Tryz.underlying166 (by kernel_rfl) (by kernel_rfl) (aw.nM rfl Tryz.underlying3 Tryz.isAgg3 rfl rfl (aw.nM rfl Tryz.underlying3 Tryz.isAgg3 rfl rfl (by simp[aw.tg]))) b c hy
section
open aw
variable{n:cB}{fr:List (Nat×Value)}{w:World}{a:Act}
theorem aEh(k:Nat)(aj:List Nat){ops:Array Oper}{C:World->Prop}{b:Act->Prop}{rest:List Oper}{M:List (Nat×Nat×List Value)}(fr':List (Nat×Value))(L:List Nat)(d:∀w,C w->jP w M)(ad:Fr n fr a)
 (next:∀c,Fr n fr' c->wpQuiet Tryz.prog ops C b (rest.drop k) c)(e:mz rB ops n M (rest.take k) aj fr (fr'.map (·.1))=some (fr',dup L):=by kernel_rfl):wpQuiet Tryz.prog ops C b rest a:=aEg k _ aj rC d ad e next
theorem rg(aj:List Nat){id:Nat}{lo:List Oper}{Q:Exit->Act->World->Prop}{M:List (Nat×Nat×List Value)}(fr':List (Nat×Value))(L:List Nat)(c:jP w M)(ad:Fr n fr a)
 (next:∀b,Fr n fr' b->Q .normal b w)(d:mz rB lo.toArray n M lo aj fr (fr'.map (·.1))=some (fr',dup L):=by kernel_rfl):(Code.region id lo.toArray false).wp Tryz.prog Q a w:=by
 refine oY (hv lo.length _ aj rC c ad (by rw[jZ];exact d) λ b e=>?_)
 rw[iL]
 exact next b e
theorem KK(aj:List Nat){id:Nat}{lo:List Oper}{c:Code}{Q:Exit->Act->World->Prop}(fr':List (Nat×Value))(ad:Fr n fr a)
 (next:∀b,Fr n fr' b->c.wp Tryz.prog Q b w)(d:mz rB lo.toArray n [] lo aj fr (fr'.map (·.1))=some (fr',dup []):=by kernel_rfl):(Code.seq (.region id lo.toArray false) c).wp Tryz.prog Q a w:=wp_seq_k λ _ e=>rg aj fr' [] gz ad (λ b f=>e _ _ (next b f)) d
theorem k0(k:Nat)(aj:List Nat){ops:Array Oper}{Q:Exit->Act->World->Prop}{rest:List Oper}(c:List (Nat×Value))(ad:Fr n fr a)
 (next:∀b,Fr n (pY c fr) b->wpList Tryz.prog ops Q (rest.drop k) b w)(d:mz rB ops n [] (rest.take k) aj fr ((nL c fr).map (·.1))=some (nL c fr,dup []):=by kernel_rfl):wpList Tryz.prog ops Q rest a w:=hv k _ aj rC gz ad d λ b h=>next b h.Mv
theorem tc(k:Nat)(aj:List Nat){ops:Array Oper}{Q:Exit->Act->World->Prop}{rest:List Oper}{M:List (Nat×Nat×List Value)}(c:List (Nat×Value))(L:List Nat)(d:jP w M)(ad:Fr n fr a)
 (next:∀b,Fr n (pY c fr) b->wpList Tryz.prog ops Q (rest.drop k) b w)(e:mz rB ops n M (rest.take k) aj fr ((nL c fr).map (·.1))=some (nL c fr,dup L):=by kernel_rfl):wpList Tryz.prog ops Q rest a w:=hv k _ aj rC d ad e λ b h=>next b h.Mv
theorem adU(aj:List Nat){id:Nat}{lo:List Oper}{Q:Exit->Act->World->Prop}{M:List (Nat×Nat×List Value)}(c:List (Nat×Value))(L:List Nat)(d:jP w M)(ad:Fr n fr a)
 (next:∀b,Fr n (pY c fr) b->Q .normal b w)(e:mz rB lo.toArray n M lo aj fr ((nL c fr).map (·.1))=some (nL c fr,dup L):=by kernel_rfl):(Code.region id lo.toArray false).wp Tryz.prog Q a w:=rg aj _ L d ad (λ b h=>next b h.Mv) e
theorem adV(aj:List Nat){id:Nat}{lo:List Oper}{Q:Exit->Act->World->Prop}(b:List (Nat×Value))(ad:Fr n fr a)
 (next:∀c,Fr n (pY b fr) c->Q .normal c w)(d:mz rB lo.toArray n [] lo aj fr ((nL b fr).map (·.1))=some (nL b fr,dup []):=by kernel_rfl):(Code.region id lo.toArray false).wp Tryz.prog Q a w:=adU aj b [] gz ad next d
theorem p7(aj:List Nat){id:Nat}{lo:List Oper}{c:Code}{Q:Exit->Act->World->Prop}(b:List (Nat×Value))(ad:Fr n fr a)
 (next:∀d,Fr n (pY b fr) d->c.wp Tryz.prog Q d w)(e:mz rB lo.toArray n [] lo aj fr ((nL b fr).map (·.1))=some (nL b fr,dup []):=by kernel_rfl):(Code.seq (.region id lo.toArray false) c).wp Tryz.prog Q a w:=wp_seq_k λ _ f=>adU aj b [] gz ad (λ d g=>f _ _ (next d g)) e
variable{ops:Array Oper}{Q:Exit->Act->World->Prop}{S:World->Prop}{f p:Nat}{ds:List Nat}{M:List (Nat×Nat×List Value)}
theorem a0(is:List Nat)(k:Nat)(aj:List Nat)(fr':List (Nat×Value))(L:List Nat)(c:∀w,S w->jP w M)(ad:Fr n fr a)(d:S w)(next:∀b,Fr n fr' b->ff Tryz.prog ops Q p S f (Ko is ds) b w)
 (e:bS is.length k=true:=by kernel_rfl)(g:(dN ops.size ds).getD p false=false:=by kernel_rfl)(h:GD ops p ds is=true:=by kernel_rfl)(i:MN rB ops n M is aj fr (fr'.map (·.1))=some (fr',dup L):=by kernel_rfl):ff Tryz.prog ops Q p S (f+k) ds a w:=by
 obtain⟨os,j,J⟩:=avW i
 exact asG is k _ aj rC c ad e g j h J d next
theorem ec(is:List Nat)(k:Nat)(aj:List Nat)(c:List (Nat×Value))(L:List Nat)(d:∀w,S w->jP w M)(ad:Fr n fr a)(e:S w)(next:∀b,Fr n (pY c fr) b->ff Tryz.prog ops Q p S f (Ko is ds) b w)
 (g:bS is.length k=true:=by kernel_rfl)(i:(dN ops.size ds).getD p false=false:=by kernel_rfl)(j:GD ops p ds is=true:=by kernel_rfl)(l:MN rB ops n M is aj fr ((nL c fr).map (·.1))=some (nL c fr,dup L):=by kernel_rfl):ff Tryz.prog ops Q p S (f+k) ds a w:=
 a0 is k aj _ L d ad e (λ b h=>next b h.Mv) g i j l
end
end Go.Proofs.YteeliipnilghaaaGreat
namespace Go.Proofs.YteeliipnilghaaaGreat
open Go Go.RowKit
theorem nG:Tryz.prog.cellsOf 3=1:=by kernel_rfl
theorem atM:Tryz.prog.cellsOf 4=1:=by kernel_rfl
theorem yj:Tryz.prog.cellsOf 9=1:=by kernel_rfl
theorem S4:Tryz.prog.cellsOf 22=1:=by kernel_rfl
theorem atG:Tryz.prog.cellsOf 24=7:=by kernel_rfl
theorem atH:Tryz.prog.cellsOf 25=1:=by kernel_rfl
theorem atI:Tryz.prog.cellsOf 26=1:=by kernel_rfl
theorem atJ:Tryz.prog.cellsOf 27=1:=by kernel_rfl
theorem atK:Tryz.prog.cellsOf 28=1:=by kernel_rfl
theorem atL:Tryz.prog.cellsOf 30=5:=by kernel_rfl
theorem atB:Tryz.prog.cellsOf 120=1:=by kernel_rfl
theorem atC:Tryz.prog.cellsOf 121=1:=by kernel_rfl
theorem adG:Tryz.prog.cellsOf 124=1:=by kernel_rfl
theorem atD:Tryz.prog.cellsOf 126=1:=by kernel_rfl
theorem Mq:Tryz.prog.cellsOf 128=2:=by kernel_rfl
theorem atE:Tryz.prog.cellsOf 129=1:=by kernel_rfl
theorem adH:Tryz.prog.cellsOf 131=9:=by kernel_rfl
theorem atF:Tryz.prog.cellsOf 132=1:=by kernel_rfl
theorem adI:Tryz.prog.cellsOf 134=4:=by kernel_rfl
theorem adJ:Tryz.prog.cellsOf 136=3:=by kernel_rfl
theorem adK:Tryz.prog.cellsOf 157=4:=by kernel_rfl
theorem adL:Tryz.prog.cellsOf 166=2:=by kernel_rfl
theorem as4:Tryz.prog.bytesOf 3=8:=by kernel_rfl
theorem as5:Tryz.prog.bytesOf 9=16:=by kernel_rfl
theorem asV:Tryz.prog.bytesOf 120=24:=by kernel_rfl
theorem asW:Tryz.prog.bytesOf 121=24:=by kernel_rfl
theorem asX:Tryz.prog.bytesOf 124=24:=by kernel_rfl
theorem asY:Tryz.prog.bytesOf 128=24:=by kernel_rfl
theorem asZ:Tryz.prog.bytesOf 131=128:=by kernel_rfl
theorem as0:Tryz.prog.bytesOf 134=80:=by kernel_rfl
theorem as1:Tryz.prog.bytesOf 136=40:=by kernel_rfl
theorem as2:Tryz.prog.bytesOf 157=40:=by kernel_rfl
theorem as3:Tryz.prog.bytesOf 166=16:=by kernel_rfl
theorem ah4{l:List Value}(h:l.length=2):∃a0 a,l=[a0,a]:=match l,h with|[a0,a],_=>⟨a0,a,rfl⟩
theorem aBR{l:List Value}(h:l.length=3):∃a0 a b,l=[a0,a,b]:=match l,h with|[a0,a,b],_=>⟨a0,a,b,rfl⟩
theorem ah5{l:List Value}(h:l.length=4):∃a0 a b a3,l=[a0,a,b,a3]:=match l,h with|[a0,a,b,a3],_=>⟨a0,a,b,a3,rfl⟩
theorem aBS{l:List Value}(h:l.length=5):∃a0 a b a3 a4,l=[a0,a,b,a3,a4]:=match l,h with|[a0,a,b,a3,a4],_=>⟨a0,a,b,a3,a4,rfl⟩
theorem aBT{l:List Value}(h:l.length=7):∃a0 a b a3 a4 a5 c,l=[a0,a,b,a3,a4,a5,c]:=match l,h with|[a0,a,b,a3,a4,a5,c],_=>⟨a0,a,b,a3,a4,a5,c,rfl⟩
theorem aBU{l:List Value}(h:l.length=9):∃a0 a b a3 a4 a5 c d e,l=[a0,a,b,a3,a4,a5,c,d,e]:=match l,h with|[a0,a,b,a3,a4,a5,c,d,e],_=>⟨a0,a,b,a3,a4,a5,c,d,e,rfl⟩
section
variable{H:Type}{enc:TypeId×Value->H}{N:Nat}
theorem PA:aw.hD Tryz.prog enc N 22 (aw.b3 (aw.e7 .i64)) (λ l=>l.length*8<=N/\ ∀a∈l,aw.jC a):=by
 have h:=aw.sj (enc:=enc) (N:=N) Tryz.underlying22 nG (by decide) (aw.ow Tryz.underlying3);rw[as4]at h;exact h
def acL(N:Nat)(d:I.aU):Prop:=(d.Words.length*8<=N/\ ∀a∈d.Words,aw.jC a)/\aw.jC d.au/\aw.jC d.aN/\aw.jC d.aX/\aw.jC d.aW/\(d.aV.length*8<=N/\ ∀a∈d.aV,aw.jC a)/\aw.jC d.Next
theorem aF3:aw.hD Tryz.prog enc N 24 I.aHK (acL N):=by
 intro W n cs x h g i;obtain⟨f_,a,ad⟩:=aw.o2 Tryz.underlying24 h g i;replace a:=a.trans atG;obtain⟨a0,b,c,a3,a4,a5,d,rfl⟩:=aBT a;obtain⟨D_,j,k,w0⟩:=aw.fq ad 0 rfl rfl rfl S4 (r:=[a0]) rfl;obtain⟨l,e3,m⟩:=(PA) W _ _ _ j k w0;obtain⟨nz,eB,o⟩:=aw.mX e3;obtain rfl:a0=_:=(eE o).1;obtain⟨cK,p,q,s⟩:=aw.fq ad 1 rfl rfl rfl nG (r:=[b]) rfl;obtain⟨t,u,v⟩:=(aw.ow Tryz.underlying3) W _ _ _ p q s;have w:[b]=_:=u;obtain rfl:b=_:=(eE w).1;obtain⟨nw,J,y,z⟩:=aw.fq ad 2 rfl rfl rfl nG (r:=[c]) rfl;obtain⟨A,B,C⟩:=(aw.ow Tryz.underlying3) W _ _ _ J y z;have ak:[c]=_:=B;obtain rfl:c=_:=(eE ak).1;obtain⟨sM,ap,D,E⟩:=aw.fq ad 3 rfl rfl rfl nG (r:=[a3]) rfl;obtain⟨F,ha,G⟩:=(aw.ow Tryz.underlying3) W _ _ _ ap D E;have aS:[a3]=_:=ha;obtain rfl:a3=_:=(eE aS).1;obtain⟨Hm,K,L,M⟩:=aw.fq ad 4 rfl rfl rfl nG (r:=[a4]) rfl;obtain⟨O,oq,P⟩:=(aw.ow Tryz.underlying3) W _ _ _ K L M;have bN:[a4]=_:=oq;obtain rfl:a4=_:=(eE bN).1;obtain⟨Q,R,S,T⟩:=aw.fq ad 5 rfl rfl rfl S4 (r:=[a5]) rfl;obtain⟨U,f,V⟩:=(PA) W _ _ _ R S T;obtain⟨X,c5,dq⟩:=aw.mX f;obtain rfl:a5=_:=(eE dq).1;obtain⟨Y,Z,w1,e⟩:=aw.fq ad 6 rfl rfl rfl nG (r:=[d]) rfl;obtain⟨d6,Zo,yV⟩:=(aw.ow Tryz.underlying3) W _ _ _ Z w1 e;have eH:[d]=_:=Zo;obtain rfl:d=_:=(eE eH).1;exact⟨⟨l,t,A,F,O,U,d6⟩,⟨nz,eB,X,c5,rfl,e3,f⟩,⟨m,v,C,G,P,V,yV⟩⟩
def HB(N:Nat)(d:I.Kind):Prop:=aw.jC d.Kind/\d.ao.length<=N
theorem Zv:aw.hD Tryz.prog enc N 128 I.Dt (HB N):=by
 intro W n cs x h c d;obtain⟨t,a,ad⟩:=aw.o2 Tryz.underlying128 h c d;replace a:=a.trans Mq;obtain⟨a0,b,rfl⟩:=ah4 a;obtain⟨u,e,f,w0⟩:=aw.fq ad 0 rfl rfl rfl nG (r:=[a0]) rfl;obtain⟨g,e3,i⟩:=(aw.ow Tryz.underlying3) W _ _ _ e f w0;have j:[a0]=_:=e3;obtain rfl:a0=_:=(eE j).1;obtain⟨v,k,l,m⟩:=aw.fq ad 1 rfl rfl rfl yj (r:=[b]) rfl;obtain⟨o,p,q⟩:=(aw.zH Tryz.underlying9) W _ _ _ k l m;have s:[b]=_:=p;obtain rfl:b=_:=(eE s).1;exact⟨⟨g,o⟩,rfl,⟨i,q⟩⟩
def HA(N:Nat)(d:I.Field):Prop:=d.Name.length<=N/\HB N d.Kind
theorem aF1:aw.hD Tryz.prog enc N 136 I.jo (HA N):=by
 intro W n cs x h e f;obtain⟨u,a,ad⟩:=aw.o2 Tryz.underlying136 h e f;replace a:=a.trans adJ;obtain⟨a0,b,c,rfl⟩:=aBR a;obtain⟨v,g,i,w0⟩:=aw.fq ad 0 rfl rfl rfl yj (r:=[a0]) rfl;obtain⟨j,e3,k⟩:=(aw.zH Tryz.underlying9) W _ _ _ g i w0;have l:[a0]=_:=e3;obtain rfl:a0=_:=(eE l).1;obtain⟨w,m,o,p⟩:=aw.fq ad 1 rfl rfl rfl Mq (r:=[b,c]) rfl;obtain⟨q,s,t⟩:=Zv W _ _ _ m o p;have d:[b,c]=_:=s;simp only[hA,and_true]at d;obtain⟨rfl,rfl⟩:=d;exact⟨⟨j,q⟩,rfl,⟨k,t⟩⟩
theorem aj8:aw.hD Tryz.prog enc N 124 (aw.b3 I.jo) (λ l=>l.length*40<=N/\ ∀a∈l,HA N a):=by
 have h:=aw.sj (enc:=enc) (N:=N) Tryz.underlying124 adJ (by decide) aF1;rw[as1]at h;exact h
theorem aF_:aw.hD Tryz.prog enc N 126 (aw.b3 I.Dt) (λ l=>l.length*24<=N/\ ∀a∈l,HB N a):=by
 have h:=aw.sj (enc:=enc) (N:=N) Tryz.underlying126 Mq (by decide) Zv;rw[asY]at h;exact h
def Sh(N:Nat)(d:I.Handler):Prop:=aw.jC d.From/\aw.jC d.To/\aw.jC d.At/\d.ao.length<=N
theorem aF2:aw.hD Tryz.prog enc N 157 I.Ds (Sh N):=by
 intro W n cs x h d e;obtain⟨E,a,ad⟩:=aw.o2 Tryz.underlying157 h d e;replace a:=a.trans adK;obtain⟨a0,b,c,a3,rfl⟩:=ah5 a;obtain⟨F,f,g,w0⟩:=aw.fq ad 0 rfl rfl rfl nG (r:=[a0]) rfl;obtain⟨i,e3,j⟩:=(aw.ow Tryz.underlying3) W _ _ _ f g w0;have k:[a0]=_:=e3;obtain rfl:a0=_:=(eE k).1;obtain⟨G,l,m,o⟩:=aw.fq ad 1 rfl rfl rfl nG (r:=[b]) rfl;obtain⟨p,q,s⟩:=(aw.ow Tryz.underlying3) W _ _ _ l m o;have t:[b]=_:=q;obtain rfl:b=_:=(eE t).1;obtain⟨K,J,u,v⟩:=aw.fq ad 2 rfl rfl rfl nG (r:=[c]) rfl;obtain⟨w,y,z⟩:=(aw.ow Tryz.underlying3) W _ _ _ J u v;have ak:[c]=_:=y;obtain rfl:c=_:=(eE ak).1;obtain⟨L,ap,A,B⟩:=aw.fq ad 3 rfl rfl rfl yj (r:=[a3]) rfl;obtain⟨C,ha,D⟩:=(aw.zH Tryz.underlying9) W _ _ _ ap A B;have aS:[a3]=_:=ha;obtain rfl:a3=_:=(eE aS).1;exact⟨⟨i,p,w,C⟩,rfl,⟨j,s,z,D⟩⟩
theorem aF':aw.hD Tryz.prog enc N 129 (aw.b3 I.Ds) (λ l=>l.length*40<=N/\ ∀a∈l,Sh N a):=by
 have h:=aw.sj (enc:=enc) (N:=N) Tryz.underlying129 adK (by decide) aF2;rw[as2]at h;exact h
def LZ(N:Nat)(d:I.Method):Prop:=d.Name.length<=N/\True/\(d.cA.length*24<=N/\ ∀a∈d.cA,HB N a)/\HB N d.Returns/\aw.jC d.hE/\aw.jC d.hC/\d.Code.length<=N/\(d.cG.length*40<=N/\ ∀a∈d.cG,Sh N a)
theorem aF5:aw.hD Tryz.prog enc N 131 I.qN (LZ N):=by
 intro W n cs x h p q;obtain⟨f_,b,ad⟩:=aw.o2 Tryz.underlying131 h p q;replace b:=b.trans adH;obtain⟨a0,c,l,a3,a4,a5,d,e,m,rfl⟩:=aBU b;obtain⟨D_,s,t,w0⟩:=aw.fq ad 0 rfl rfl rfl yj (r:=[a0]) rfl;obtain⟨u,e3,v⟩:=(aw.zH Tryz.underlying9) W _ _ _ s t w0;have w:[a0]=_:=e3;obtain rfl:a0=_:=(eE w).1;obtain⟨cK,y,z,A⟩:=aw.fq ad 1 rfl rfl rfl atM (r:=[c]) rfl;obtain⟨B,C,D⟩:=(aw.aF7 Tryz.underlying4) W _ _ _ y z A;have E:[c]=_:=C;obtain rfl:c=_:=(eE E).1;obtain⟨nw,J,F,G⟩:=aw.fq ad 2 rfl rfl rfl atD (r:=[l]) rfl;obtain⟨K,o,L⟩:=(aF_) W _ _ _ J F G;obtain⟨M,c2,ak⟩:=aw.mX o;obtain rfl:l=_:=(eE ak).1;obtain⟨sM,ap,O,P⟩:=aw.fq ad 3 rfl rfl rfl Mq (r:=[a3,a4]) rfl;obtain⟨Q,ha,R⟩:=Zv W _ _ _ ap O P;have aS:[a3,a4]=_:=ha;simp only[hA,and_true]at aS;obtain⟨rfl,rfl⟩:=aS;obtain⟨Hm,S,T,U⟩:=aw.fq ad 4 rfl rfl rfl nG (r:=[a5]) rfl;obtain⟨V,oq,X⟩:=(aw.ow Tryz.underlying3) W _ _ _ S T U;have bN:[a5]=_:=oq;obtain rfl:a5=_:=(eE bN).1;obtain⟨Y,Z,sg,xg⟩:=aw.fq ad 5 rfl rfl rfl nG (r:=[d]) rfl;obtain⟨d5,uq,pc⟩:=(aw.ow Tryz.underlying3) W _ _ _ Z sg xg;have dq:[d]=_:=uq;obtain rfl:d=_:=(eE dq).1;obtain⟨aLn,eI,w1,f⟩:=aw.fq ad 6 rfl rfl rfl yj (r:=[e]) rfl;obtain⟨d6,Zo,yV⟩:=(aw.zH Tryz.underlying9) W _ _ _ eI w1 f;have eH:[e]=_:=Zo;obtain rfl:e=_:=(eE eH).1;obtain⟨aNq,hj,F8,g⟩:=aw.fq ad 7 rfl rfl rfl atE (r:=[m]) rfl;obtain⟨d7,a,i⟩:=(aF') W _ _ _ hj F8 g;obtain⟨j,k,j_⟩:=aw.mX a;obtain rfl:m=_:=(eE j_).1;exact⟨⟨u,B,K,Q,V,d5,d6,d7⟩,⟨M,c2,j,k,rfl,o,a⟩,⟨v,D,L,R,X,pc,yV,i⟩⟩
theorem aGa:aw.hD Tryz.prog enc N 132 (aw.b3 I.qN) (λ l=>l.length*128<=N/\ ∀a∈l,LZ N a):=by
 have h:=aw.sj (enc:=enc) (N:=N) Tryz.underlying132 adH (by decide) aF5;rw[asZ]at h;exact h
def Hz(N:Nat)(d:I.ao):Prop:=d.Name.length<=N/\d.cX.length<=N/\(d.Fields.length*40<=N/\ ∀a∈d.Fields,HA N a)/\(d.bn.length*128<=N/\ ∀a∈d.bn,LZ N a)
theorem aF0:aw.hD Tryz.prog enc N 134 I.kl (Hz N):=by
 intro W n cs x h e f;obtain⟨G,a,ad⟩:=aw.o2 Tryz.underlying134 h e f;replace a:=a.trans adI;obtain⟨a0,b,c,a3,rfl⟩:=ah5 a;obtain⟨K,g,i,w0⟩:=aw.fq ad 0 rfl rfl rfl yj (r:=[a0]) rfl;obtain⟨j,e3,k⟩:=(aw.zH Tryz.underlying9) W _ _ _ g i w0;have l:[a0]=_:=e3;obtain rfl:a0=_:=(eE l).1;obtain⟨L,m,o,p⟩:=aw.fq ad 1 rfl rfl rfl yj (r:=[b]) rfl;obtain⟨q,s,t⟩:=(aw.zH Tryz.underlying9) W _ _ _ m o p;have u:[b]=_:=s;obtain rfl:b=_:=(eE u).1;obtain⟨M,J,v,w⟩:=aw.fq ad 2 rfl rfl rfl adG (r:=[c]) rfl;obtain⟨y,d,z⟩:=(aj8) W _ _ _ J v w;obtain⟨A,c2,ak⟩:=aw.mX d;obtain rfl:c=_:=(eE ak).1;obtain⟨O,ap,B,C⟩:=aw.fq ad 3 rfl rfl rfl atF (r:=[a3]) rfl;obtain⟨D,ha,E⟩:=(aGa) W _ _ _ ap B C;obtain⟨F,c3,aS⟩:=aw.mX ha;obtain rfl:a3=_:=(eE aS).1;exact⟨⟨j,q,y,D⟩,⟨A,c2,F,c3,rfl,d,ha⟩,⟨k,t,z,E⟩⟩
theorem aGb:aw.hD Tryz.prog enc N 25 (aw.b3 I.kl) (λ l=>l.length*80<=N/\ ∀a∈l,Hz N a):=by
 have h:=aw.sj (enc:=enc) (N:=N) Tryz.underlying25 adI (by decide) aF0;rw[as0]at h;exact h
theorem aGc:aw.hD Tryz.prog enc N 26 (aw.b3 (aw.b3 I.jo)) (λ l=>l.length*24<=N/\ ∀a∈l,(a.length*40<=N/\ ∀b∈a,HA N b)):=by
 have h:=aw.sj (enc:=enc) (N:=N) Tryz.underlying26 adG (by decide) (aj8);rw[asX]at h;exact h
theorem aF8:aw.hD Tryz.prog enc N 120 (aw.b3 aw.jn) (λ l=>l.length*16<=N/\ ∀a∈l,a.length<=N):=by
 have h:=aw.sj (enc:=enc) (N:=N) Tryz.underlying120 yj (by decide) (aw.zH Tryz.underlying9);rw[as5]at h;exact h
theorem aGd:aw.hD Tryz.prog enc N 27 (aw.b3 (aw.b3 aw.jn)) (λ l=>l.length*24<=N/\ ∀a∈l,(a.length*16<=N/\ ∀b∈a,b.length<=N)):=by
 have h:=aw.sj (enc:=enc) (N:=N) Tryz.underlying27 atB (by decide) (aF8);rw[asV]at h;exact h
def L0(N:Nat)(d:I.Target):Prop:=aw.jC d.ao/\aw.jC d.Method
theorem aF6:aw.hD Tryz.prog enc N 166 I.km (L0 N):=by
 intro W n cs x h c d;obtain⟨t,a,ad⟩:=aw.o2 Tryz.underlying166 h c d;replace a:=a.trans adL;obtain⟨a0,b,rfl⟩:=ah4 a;obtain⟨u,e,f,w0⟩:=aw.fq ad 0 rfl rfl rfl nG (r:=[a0]) rfl;obtain⟨g,e3,i⟩:=(aw.ow Tryz.underlying3) W _ _ _ e f w0;have j:[a0]=_:=e3;obtain rfl:a0=_:=(eE j).1;obtain⟨v,k,l,m⟩:=aw.fq ad 1 rfl rfl rfl nG (r:=[b]) rfl;obtain⟨o,p,q⟩:=(aw.ow Tryz.underlying3) W _ _ _ k l m;have s:[b]=_:=p;obtain rfl:b=_:=(eE s).1;exact⟨⟨g,o⟩,rfl,⟨i,q⟩⟩
theorem aF9:aw.hD Tryz.prog enc N 121 (aw.b3 I.km) (λ l=>l.length*16<=N/\ ∀a∈l,L0 N a):=by
 have h:=aw.sj (enc:=enc) (N:=N) Tryz.underlying121 adL (by decide) aF6;rw[as3]at h;exact h
theorem aGe:aw.hD Tryz.prog enc N 28 (aw.b3 (aw.b3 I.km)) (λ l=>l.length*24<=N/\ ∀a∈l,(a.length*16<=N/\ ∀b∈a,L0 N b)):=by
 have h:=aw.sj (enc:=enc) (N:=N) Tryz.underlying28 atC (by decide) (aF9);rw[asW]at h;exact h
def LY(N:Nat)(d:I.aR):Prop:=(d.a8.length*80<=N/\ ∀a∈d.a8,Hz N a)/\(d.aZ.length*8<=N/\ ∀a∈d.aZ,aw.jC a)/\(d.Fields.length*24<=N/\ ∀a∈d.Fields,(a.length*40<=N/\ ∀b∈a,HA N b))/\(d.Names.length*24<=N/\ ∀a∈d.Names,(a.length*16<=N/\ ∀b∈a,b.length<=N))/\(d.a1.length*24<=N/\ ∀a∈d.a1,(a.length*16<=N/\ ∀b∈a,L0 N b))
theorem aF4:aw.hD Tryz.prog enc N 30 I.aHL (LY N):=by
 intro W n cs x h f g;obtain⟨R,a,ad⟩:=aw.o2 Tryz.underlying30 h f g;replace a:=a.trans atL;obtain⟨a0,b,c,a3,a4,rfl⟩:=aBS a;obtain⟨S,i,j,w0⟩:=aw.fq ad 0 rfl rfl rfl atH (r:=[a0]) rfl;obtain⟨k,e3,l⟩:=(aGb) W _ _ _ i j w0;obtain⟨nz,eB,m⟩:=aw.mX e3;obtain rfl:a0=_:=(eE m).1;obtain⟨T,o,p,q⟩:=aw.fq ad 1 rfl rfl rfl S4 (r:=[b]) rfl;obtain⟨s,d,t⟩:=(PA) W _ _ _ o p q;obtain⟨u,c1,v⟩:=aw.mX d;obtain rfl:b=_:=(eE v).1;obtain⟨U,J,w,y⟩:=aw.fq ad 2 rfl rfl rfl atI (r:=[c]) rfl;obtain⟨z,e,A⟩:=(aGc) W _ _ _ J w y;obtain⟨B,c2,ak⟩:=aw.mX e;obtain rfl:c=_:=(eE ak).1;obtain⟨V,ap,C,D⟩:=aw.fq ad 3 rfl rfl rfl atJ (r:=[a3]) rfl;obtain⟨E,ha,F⟩:=(aGd) W _ _ _ ap C D;obtain⟨G,c3,aS⟩:=aw.mX ha;obtain rfl:a3=_:=(eE aS).1;obtain⟨X,K,L,M⟩:=aw.fq ad 4 rfl rfl rfl atK (r:=[a4]) rfl;obtain⟨O,oq,P⟩:=(aGe) W _ _ _ K L M;obtain⟨Q,c4,bN⟩:=aw.mX oq;obtain rfl:a4=_:=(eE bN).1;exact⟨⟨k,s,z,E,O⟩,⟨nz,eB,u,c1,B,c2,G,c3,Q,c4,rfl,e3,d,e,ha,oq⟩,⟨l,t,A,F,P⟩⟩
end
end Go.Proofs.YteeliipnilghaaaGreat
namespace bc
open Go Go.RowKit aw I
inductive aH (El:Nat->Type):Type
 |p (v:Value)
 |b (i o:Nat)
 |x (t:Nat) (d:El t) (o:Nat)
 |s (t:Nat) (l:List (El t))
 |q (t:Nat) (l:List (El t))
 |r (i g:Nat)
 |v (i g:Nat) (lo hi:Int)
 |e (i g k t:Nat) (j:Int) (d:El t) (o:Nat)
 |w (i g o:Nat)
 |m (i:Nat)
 |n (kt vt:Nat) (d:List (El kt×El vt))
 |f (fn:Fn) (cs:List (aH El))
 |h (fn:Fn) (us:List (aH El))
 |a (l:List (aH El))
 |u (l:List (aH El))
 |i (t:Nat) (y:aH El)
 |pp (i g sz:Nat) (dY:List Int)
 |zF (i g sz:Nat) (q:Int)
inductive aD (El:Nat->Type):Type
 |c (ty:Nat) (cs:List (aH El))
 |r (t g k:Nat) (l:List (El t))
 |k (t sz g:Nat) (cs:List (aH El))
 |z (t g k:Nat) (l:List (El t))
 |m (kt vt:Nat) (d:List (El kt×El vt))
 |o (XS:Obj)
 |no (g:Nat)
structure hX (cM:Type) where
 dec:DecidableEq cM
 rX: @lC cM dec
structure b4 (El:Nat->Type) (t:Nat) where
 ty:c9 (El t)
 agg:Bool
 cs:El t->List (aH El)
 hn:List (aH El)->Option (El t)
 eq:Option (El t->El t->Bool)
 key:Option (hX (El t))
structure bR where
 El:Nat->Type
 es:List (Σ t,b4 El t)
def aHJ{α:Type}:c9 α where
 size:=0
 rd _ _ _ _:=False
 len h:=h.elim
 one h:=h.elim
 law _ h:=h
def b4.no{El:Nat->Type}{t:Nat}:b4 El t:=⟨aHJ,true,λ _=>[],λ _=>none,none,none⟩
def fC{El:Nat->Type}:List (Σ t,b4 El t)->(t:Nat)->b4 El t
 |[],_=>b4.no
 |e::r,t=>match lu e.1 t with
  |isTrue h=>h▸e.2
  |isFalse _=>fC r t
def bR.e(T:bR)(t:Nat):b4 T.El t:=fC T.es t
def bR.ty(T:bR)(t:Nat):c9 (T.El t):=(T.e t).ty
def b1{El:Nat->Type}:Option (aD El)->Nat
 |some (.r _ g _ _)=>g
 |some (.k _ _ g _)=>g
 |some (.z _ g _ _)=>g
 |some (.no g)=>g
 |_=>0
def gQ{El:Nat->Type}:Option (aD El)->Nat
 |some (.r _ _ k _)=>k
 |some (.z _ _ k _)=>k
 |_=>0
def ji{El:Nat->Type}:Option (aD El)->Option (Σ t,List (El t))
 |some (.r t _ _ l)=>some ⟨t,l⟩
 |some (.z t _ _ l)=>some ⟨t,l⟩
 |_=>none
def jj(T:bR):Option (aD T.El)->Nat
 |some (.r t _ _ _)=>(T.ty t).size
 |some (.k _ sz _ _)=>sz
 |some (.z t _ _ _)=>(T.ty t).size
 |_=>0
def kE:Value->Prop
 | .slice _ _ _=>True
 |_=>False
def wh:Value->Prop
 | .pointer (some _)=>True
 |_=>False
def zy(agg:Bool)(xs:List Value):Value:=match agg with
 |true=>.agg ⟨xs⟩
 |false=>xs.headD undef
section
variable(T:bR)(F:Nat->Prop)(w:World)
def BI(t:Nat)(d:T.El t)(v:Value):Prop:=∃xs,(T.ty t).rd F w xs d/\v=zy (T.e t).agg xs
def jA{kt vt:Nat}(K:hX (T.El kt)):List MapEntry->List (T.El kt×T.El vt)->Prop
 |[],[]=>True
 |e::es,p::d=>e.key= @lC.enc _ K.dec K.rX p.1/\BI T F w vt p.2 e.val/\jA K es d
 |_,_=>False
def xR(kt vt r:Nat)(d:List (T.El kt×T.El vt)):Prop:=∃K,(T.e kt).key=some K/\ ∃es clock,w.heap[r]? =some (.map es clock)/\jA T F w K es.toList d/\(es.toList.map (·.born)).Pairwise (·< ·)/\ ∀e∈es.toList,e.born<clock
end
section
variable{T:bR}{F F':Nat->Prop}{w w':World}
theorem jA.law(a:∀k,F k->F' k/\w'.heap[k]? =w.heap[k]?){kt vt:Nat}{K:hX (T.El kt)}:∀ {es:List MapEntry}{d:List (T.El kt×T.El vt)},jA T F w K es d->jA T F' w' K es d
 |[],[],_=>trivial
 |[],_::_,h=>h.elim
 |_::_,[],h=>h.elim
 |e::es,p::d,h=>by
  obtain⟨b,⟨xs,J,ap⟩,c⟩:=h;exact⟨b,⟨xs,(T.ty vt).law a J,ap⟩,jA.law a c⟩
theorem xR.law(a:∀k,F k->F' k/\w'.heap[k]? =w.heap[k]?){kt vt r:Nat}{d:List (T.El kt×T.El vt)}(aj:w'.heap[r]? =w.heap[r]?)(h:xR T F w kt vt r d):xR T F' w' kt vt r d:=by
 obtain⟨K,b,es,cl,J,ap,c⟩:=h;exact⟨K,b,es,cl,aj.trans J,ap.law a,c⟩
end
def u4{El:Nat->Type}(ρ:List Value)(bl:List (aD El))(i g sz:Nat)(q:Int)(v:Value):Prop:=wh v/\ ∃h,ρ[i]? =some h/\g<=b1 bl[i]? /\(g=b1 bl[i]? -> ∃A n c,h= .slice A n c/\0<=q/\q<n/\v= .pointer (some ⟨dv A,q.toNat*sz,none⟩))
def sW{El:Nat->Type}(ρ:List Value)(bl:List (aD El))(i g sz:Nat):List Int->List Value->Prop
 |[],vs=>vs=[]
 |q::r,vs=>∃u us,vs=u::us/\u4 ρ bl i g sz q u/\sW ρ bl i g sz r us
section
variable(T:bR)(F:Nat->Prop)(w:World)(ρ:List Value)(bl:List (aD T.El))
mutual
def ar:aH T.El->Value->Prop
 | .p u,v=>v=u
 | .b i o,v=>∃g,ρ[i]? =some (.pointer (some ⟨g,0,none⟩))/\v= .pointer (some ⟨g,o,none⟩)
 | .x t d o,v=>∃a q cs,v= .pointer (some ⟨a,q+o,none⟩)/\F a/\(T.ty t).rd F w cs d/\fa w ⟨a,q,none⟩ cs
 | .s t l,v=>(b3 (T.ty t)).rd F w [v] l
 | .q t l,v=>(b3 (T.ty t)).rd F w [v] l/\ ∃A,v= .slice A l.length l.length
 | .r i g,v=>kE v/\ ∃h,ρ[i]? =some h/\g<=b1 bl[i]? /\(g=b1 bl[i]? ->v=h)
 | .v i g lo hi,v=>kE v/\ ∃h,ρ[i]? =some h/\g<=b1 bl[i]? /\(g=b1 bl[i]? -> ∃A n c B,h= .slice A n c/\0<=lo/\lo<=hi/\hi<=n/\v= .slice B (hi.toNat-lo.toNat) (c-lo.toNat)/\(lo=0 ->B=A)/\(lo<hi->B=A.map (·.add (lo.toNat*jj T bl[i]?))))
 | .e i g k t j d o,v=>wh v/\ ∃h,ρ[i]? =some h/\g<=b1 bl[i]? /\(g=b1 bl[i]? ->(∃A n c,h= .slice A n c/\0<=j/\j<n/\v= .pointer (some ⟨dv A,j.toNat*jj T bl[i]? +o,none⟩))/\k<=gQ bl[i]? /\(k=gQ bl[i]? -> ∃l,ji bl[i]? =some ⟨t,l⟩/\idx l j=some d))
 | .w i g o,v=>wh v/\ ∃h,ρ[i]? =some h/\g<=b1 bl[i]? /\(g=b1 bl[i]? -> ∃A n c,h= .slice A n c/\0<n/\v= .pointer (some ⟨dv A,o,none⟩))
 | .m i,v=>∃r,ρ[i]? =some (.map (some r))/\v= .map (some r)
 | .n kt vt d,v=>∃r,v= .map (some r)/\F r/\xR T F w kt vt r d
 | .f fn cs,v=>∃vs,v= .func fn #[] ⟨vs⟩/\a7 cs vs
 | .h fn us,v=>∃vs,v= .func fn ⟨vs⟩ #[]/\a7 us vs
 | .a l,v=>∃vs,v= .agg ⟨vs⟩/\a7 l vs
 | .u l,v=>∃vs,v= .tuple ⟨vs⟩/\a7 l vs
 | .i t y,v=>∃u,v= .iface t u/\ar y u
 | .pp i g sz dY,v=>∃A c,v= .slice A dY.length c/\dY.length<=c/\(A=none->c=0)/\(dY≠[]->A=some ⟨dv A,fF A,none⟩/\F (dv A)/\ ∃xs,sW ρ bl i g sz dY xs/\fa w ⟨dv A,fF A,none⟩ xs)
 | .zF i g sz q,v=>∃a o u,v= .pointer (some ⟨a,o,none⟩)/\F a/\u4 ρ bl i g sz q u/\fa w ⟨a,o,none⟩ [u]
def a7:List (aH T.El)->List Value->Prop
 |[],vs=>vs=[]
 |y::r,vs=>∃u us,vs=u::us/\ar y u/\a7 r us
end
end
structure mr (T:bR) (ρ ρ':List Value) (bl bl':List (aD T.El)):Prop where
 at_:∀(i:Nat)(h:Value),ρ[i]? =some h-> ∃h',ρ'[i]? =some h'/\(¬kE h->h'=h)/\b1 bl[i]? <=b1 bl'[i]? /\(b1 bl'[i]? =b1 bl[i]? ->h'=h/\jj T bl'[i]? =jj T bl[i]? /\gQ bl[i]? <=gQ bl'[i]? /\(gQ bl'[i]? =gQ bl[i]? ->ji bl'[i]? =ji bl[i]?))
theorem mr.refl{T:bR}{ρ:List Value}{bl:List (aD T.El)}:mr T ρ ρ bl bl:=⟨λ i h hi=>⟨h,hi,λ _=>rfl,cC _,λ _=>⟨rfl,rfl,cC _,λ _=>rfl⟩⟩⟩
theorem mr.trans{T:bR}{ρ ρ' g:List Value}{bl bl' d:List (aD T.El)}(h:mr T ρ ρ' bl bl')(k:mr T ρ' g bl' d):mr T ρ g bl d:=⟨λ i v hi=>by
 obtain⟨j,l,J,ap,b⟩:=h.at_ i v hi;obtain⟨f,m,n,o,c⟩:=k.at_ i j l;refine⟨f,m,λ aj=>?_,gJ ap o,λ e=>?_⟩
 ·have a:=J aj
  rw[n (by rw[a];exact aj),a]
 ·have a:b1 bl'[i]? =b1 bl[i]? :=by omega
  have ak:b1 d[i]? =b1 bl'[i]? :=by omega
  refine⟨(c ak).1.trans (b a).1,(c ak).2.1.trans (b a).2.1,gJ (b a).2.2.1 (c ak).2.2.1,λ aS=>?_⟩
  have p:=(b a).2.2.1
  have q:=(c ak).2.2.1
  exact((c ak).2.2.2 (by omega)).trans ((b a).2.2.2 (by omega))⟩
section
variable{T:bR}{F F':Nat->Prop}{w w':World}{ρ ρ':List Value}{bl bl':List (aD T.El)}
theorem u4.later{i g sz:Nat}{q:Int}{v:Value}(a:mr T ρ ρ' bl bl')(h:u4 ρ bl i g sz q v):u4 ρ' bl' i g sz q v:=by
 obtain⟨b,u,c,J,ap⟩:=h;obtain⟨d,f,_,j,k⟩:=a.at_ i _ c;refine⟨b,d,f,gJ J j,λ e=>?_⟩;have l:b1 bl'[i]? =b1 bl[i]? :=by omega
 rw[(k l).1];exact ap (by omega)
theorem sW.imp{El a:Nat->Type}{bl:List (aD El)}{bl':List (aD a)}{i g i' g' sz:Nat}(hi:∀q v,u4 ρ bl i g sz q v->u4 ρ' bl' i' g' sz q v):∀ {dY:List Int}{xs:List Value},sW ρ bl i g sz dY xs->sW ρ' bl' i' g' sz dY xs
 |[],_,h=>h
 |q::r,xs,h=>by
  obtain⟨u,us,rfl,b,J⟩:=h;exact⟨u,us,rfl,hi _ _ b,sW.imp hi J⟩
theorem sW.at_{i g sz:Nat}:∀ {dY:List Int}{xs:List Value}{m:Nat}{q:Int},sW ρ bl i g sz dY xs->dY[m]? =some q-> ∃u,xs[m]? =some u/\u4 ρ bl i g sz q u
 |[],_,m,q,_,a=>by simp at a
 |p::r,xs,0,q,h,a=>by
  obtain⟨u,us,rfl,b,J⟩:=h;simp only[dG,aF]at a;subst a;exact⟨u,rfl,b⟩
 |p::r,xs,m+1,q,h,a=>by
  obtain⟨u,us,rfl,b,J⟩:=h;simpa using sW.at_ J (by simpa using a)
mutual
theorem ar.later(f:∀k,F k->F' k/\w'.heap[k]? =w.heap[k]?)(m:mr T ρ ρ' bl bl'):∀(y:aH T.El){v:Value},ar T F w ρ bl y v->ar T F' w' ρ' bl' y v
 | .p _,_,h=>by simpa only[ar]using h
 | .b i o,v,h=>by
   simp only[ar]at h⊢;obtain⟨g,b,J⟩:=h;obtain⟨h',n,C,_⟩:=m.at_ i _ b;exact⟨g,by rw[n,C (by simp[kE])],J⟩
 | .x t d o,v,h=>by
   simp only[ar]at h⊢;obtain⟨a,q,cs,b,J,ap,D⟩:=h;exact⟨a,q,cs,b,(f a J).1,(T.ty t).law f ap,D.law (f a J).2⟩
 | .s t l,v,h=>by
   simp only[ar]at h⊢;exact(b3 (T.ty t)).law f h
 | .q t l,v,h=>by
   simp only[ar]at h⊢;exact⟨(b3 (T.ty t)).law f h.1,h.2⟩
 | .r i g,v,h=>by
   simp only[ar]at h⊢;obtain⟨z,u,b,J,ap⟩:=h;obtain⟨B,n,_,x,s⟩:=m.at_ i _ b;refine⟨z,B,n,gJ J x,λ e=>?_⟩;have p:b1 bl'[i]? =b1 bl[i]? :=by omega
   rw[(s p).1];exact ap (by omega)
 | .v i g lo hi,v,h=>by
   simp only[ar]at h⊢;obtain⟨z,u,b,J,ap⟩:=h;obtain⟨B,n,_,x,s⟩:=m.at_ i _ b;refine⟨z,B,n,gJ J x,λ e=>?_⟩;have p:b1 bl'[i]? =b1 bl[i]? :=by omega
   rw[(s p).1,(s p).2.1];exact ap (by omega)
 | .e i g k t j d o,v,h=>by
   simp only[ar]at h⊢;obtain⟨z,u,b,J,ap⟩:=h;obtain⟨B,n,_,x,s⟩:=m.at_ i _ b;refine⟨z,B,n,gJ J x,λ e=>?_⟩;have p:b1 bl'[i]? =b1 bl[i]? :=by omega
   obtain⟨E,G,H,gd⟩:=s p;obtain⟨I,K,ha⟩:=ap (by omega);rw[E,G];refine⟨I,gJ K H,λ e=>?_⟩;rw[gd (by omega)];exact ha (by omega)
 | .w i g o,v,h=>by
   simp only[ar]at h⊢;obtain⟨z,u,b,J,ap⟩:=h;obtain⟨B,n,_,x,s⟩:=m.at_ i _ b;refine⟨z,B,n,gJ J x,λ e=>?_⟩;have p:b1 bl'[i]? =b1 bl[i]? :=by omega
   rw[(s p).1];exact ap (by omega)
 | .m i,v,h=>by
   simp only[ar]at h⊢;obtain⟨g,b,J⟩:=h;obtain⟨h',n,C,_⟩:=m.at_ i _ b;exact⟨g,by rw[n,C (by simp[kE])],J⟩
 | .n kt vt d,v,h=>by
   simp only[ar]at h⊢;obtain⟨r,b,J,ap⟩:=h;exact⟨r,b,(f r J).1,ap.law f (f r J).2⟩
 | .f fn cs,v,h=>by
   simp only[ar]at h⊢;obtain⟨vs,b,J⟩:=h;exact⟨vs,b,a7.later f m cs J⟩
 | .h fn us,v,h=>by
   simp only[ar]at h⊢;obtain⟨vs,b,J⟩:=h;exact⟨vs,b,a7.later f m us J⟩
 | .a l,v,h=>by
   simp only[ar]at h⊢;obtain⟨vs,b,J⟩:=h;exact⟨vs,b,a7.later f m l J⟩
 | .u l,v,h=>by
   simp only[ar]at h⊢;obtain⟨vs,b,J⟩:=h;exact⟨vs,b,a7.later f m l J⟩
 | .i t y,v,h=>by
   simp only[ar]at h⊢;obtain⟨u,b,J⟩:=h;exact⟨u,b,ar.later f m y J⟩
 | .pp i g sz dY,v,h=>by
   simp only[ar]at h⊢;obtain⟨A,c,p,ak,aS,bN⟩:=h;refine⟨A,c,p,ak,aS,λ L=>?_⟩;obtain⟨n,C,xs,x,s⟩:=bN L;exact⟨n,(f _ C).1,xs,x.imp λ q v=>u4.later m,s.law (f _ C).2⟩
 | .zF i g sz q,v,h=>by
   simp only[ar]at h⊢;obtain⟨a,o,u,p,ak,aS,bN⟩:=h;exact⟨a,o,u,p,(f _ ak).1,aS.later m,bN.law (f _ ak).2⟩
theorem a7.later(a:∀k,F k->F' k/\w'.heap[k]? =w.heap[k]?)(b:mr T ρ ρ' bl bl'):∀(l:List (aH T.El)){vs:List Value},a7 T F w ρ bl l vs->a7 T F' w' ρ' bl' l vs
 |[],_,h=>by simpa only[a7]using h
 |y::r,vs,h=>by
  simp only[a7]at h⊢;obtain⟨u,us,c,J,ap⟩:=h;exact⟨u,us,c,ar.later a b y J,a7.later a b r ap⟩
end
theorem a7.len:∀ {l:List (aH T.El)}{vs:List Value},a7 T F w ρ bl l vs->vs.length=l.length
 |[],_,h=>by simp only[a7]at h;subst h;rfl
 |y::r,vs,h=>by
  simp only[a7]at h;obtain⟨u,us,rfl,_,ap⟩:=h;simp[a7.len ap]
theorem a7.at_:∀ {l:List (aH T.El)}{vs:List Value}{i:Nat}{y:aH T.El},a7 T F w ρ bl l vs->l[i]? =some y-> ∃v,vs[i]? =some v/\ar T F w ρ bl y v
 |[],_,i,y,_,hi=>by simp at hi
 |z::r,vs,0,y,h,hi=>by
  simp only[a7]at h;obtain⟨u,us,rfl,J,_⟩:=h;simp only[dG,aF]at hi;subst hi;exact⟨u,rfl,J⟩
 |z::r,vs,i+1,y,h,hi=>by
  simp only[a7]at h;obtain⟨u,us,rfl,_,ap⟩:=h;simpa using a7.at_ ap (by simpa using hi)
theorem a7.bF:∀ {l l':List (aH T.El)}{vs a:List Value},a7 T F w ρ bl l vs->a7 T F w ρ bl l' a->a7 T F w ρ bl (l++l') (vs++a)
 |[],_,_,_,h,h'=>by simp only[a7]at h;subst h;exact h'
 |y::r,l',vs,a,h,h'=>by
  simp only[a7]at h;obtain⟨u,us,rfl,J,ap⟩:=h;simp only[jv,a7];exact⟨u,us++a,rfl,J,a7.bF ap h'⟩
theorem a7.drop:∀ {l:List (aH T.El)}{vs:List Value}(n:Nat),a7 T F w ρ bl l vs->a7 T F w ρ bl (l.drop n) (vs.drop n)
 |l,vs,0,h=>by simpa using h
 |[],vs,n+1,h=>by simp only[a7]at h;subst h;simp[a7]
 |y::r,vs,n+1,h=>by
  simp only[a7]at h;obtain⟨u,us,rfl,J,ap⟩:=h;simpa using a7.drop n ap
theorem a7.take:∀ {l:List (aH T.El)}{vs:List Value}(n:Nat),a7 T F w ρ bl l vs->a7 T F w ρ bl (l.take n) (vs.take n)
 |l,vs,0,h=>by simp[a7]
 |[],vs,n+1,h=>by simp only[a7]at h;subst h;simp[a7]
 |y::r,vs,n+1,h=>by
  simp only[a7]at h;obtain⟨u,us,rfl,J,ap⟩:=h;simp only[ke,a7];exact⟨u,us.take n,rfl,J,a7.take n ap⟩
end
end bc
