/- Part 1 of the proof that is ended in the last text: small logic, what the functions compute, walks, plain laws. -/
import Derived.WalkKit
import Derived.Deep.LoopGhost
import Derived.Deep.Quiet
import Derived.Maps.AppendAt
import Derived.KernelRfl
import Derived.Deep.RegionHeld3
import Derived.Laws.StructEq
import Derived.Carry
import Derived.ChangeSame
import Derived.OpenShut
import Derived.Deep.Slices
import Derived.Deep.Fields
import Derived.ChangeMaps5
import Derived.Lib.LaidTab
import Derived.OrdersHeld
import Derived.MapKept
import Derived.Laws.OwnMore
import Derived.Laws.IdiomStrings
import Derived.RangeFuncRecord
import Derived.RangeFuncSeq
import Derived.RangeFuncIn
import Derived.RangeFuncLeaves
import Derived.OrdersIn
import Derived.TacticsIn
import Derived.Deep.OwnRows
import Derived.Lib.AppendZeros
import Derived.ArgAppend
import Derived.Test.YteeliipnilghaaaGreatChecked
open Array renaming getD_eq_getD_getElem?->e0,getElem?_eq_getElem->jJ,getElem?_eq_none->ib,getElem?_eq_some_iff->gw,getElem?_modify->ke,getElem?_setIfInBounds->f_,getElem?_toList->hT,setIfInBounds_comm->jK
open Bool renaming and_eq_true->cb,eq_false_iff->gQ,eq_iff_iff->iT,false_eq_true->hX,false_or->iQ,not_eq_true'->ha,or_eq_false_iff->iF,or_eq_true->ia
open Int renaming eq_ofNat_of_zero_le->lR,le_refl->lI
open List renaming all_eq_true->k_,any_eq_true->iY,append_assoc->g_,append_nil->hR,cons.inj->fT,cons.injEq->h3,cons_append->iE,drop_length->iL,drop_of_length_le->jp,drop_zero->hB,eq_nil_of_length_eq_zero->hL,ext_getElem?->lu,flatMap_cons->ig,getElem?_append->np,getElem?_append_right->fq,getElem?_cons_zero->dU,getElem?_drop->i_,getElem?_eq_getElem->aK,getElem?_eq_none->gE,getElem?_eq_some_iff->aP,getElem?_map->jw,getElem?_take->hG,getElem_mem->hg,length_append->dR,length_cons->dL,length_drop->ks,length_map->gC,length_range->iZ,length_set->kc,length_take->fZ,map_cons->eB,map_nil->iD,map_toArray->hK,mem_append->cj,mem_append_left->gi,mem_append_right->gI,mem_cons->cI,mem_cons_of_mem->dZ,mem_cons_self->il,mem_flatMap->hM,mem_iff_getElem->jf,mem_map->hY,mem_of_getElem?->bG,mem_of_mem_drop->l7,mem_range->lB,nil_append->kK,nodup_append->fA,nodup_cons->ie,not_mem_nil->iH,pairwise_iff_getElem->jl,range->ed,replicate->fV,set_getElem_self->mI,take->mV,take_append->lE,take_append_drop->jv,take_append_of_le_length->kh,take_length->jI,take_of_length_le->h0,take_succ_cons->kO,take_zero->mv
open Nat renaming add_assoc->kU,add_mul->jP,add_zero->lf,beq->cy,ble->jF,blt->fs,decEq->l2,eq_of_beq_eq_true->bd,le_mul_of_pos_right->mC,le_of_ble_eq_true->cS,le_refl->cT,le_trans->hv,lt_of_lt_of_le->fe,lt_or_ge->gL,lt_succ_self->l4,min_eq_left->mj,mul_le_mul_right->kA,zero_add->jM,zero_le->gT
open Option renaming bind_some->ae,map_none->jq,map_some->fU,some.inj->eJ,some.injEq->aH
open Prod renaming fst->lz,mk.injEq->cF
namespace I
def ax(n:Int):Int:=(n+9223372036854775808)%18446744073709551616-9223372036854775808
def Hv(n:Int):Int:=n%18446744073709551616
def YW(a b:Int):Int:=ax ((BitVec.ofInt 64 a|||BitVec.ofInt 64 b).toNat:Int)
def Tz(a b:Int):Int:=ax ((BitVec.ofInt 64 a&&&BitVec.ofInt 64 b).toNat:Int)
def xM(a:Int)(n:Nat):Int:=a / 2^n
def jT(n:Int):UInt8:=UInt8.ofNat (n%256).toNat
def idx{α:Type}(l:List α)(i:Int):Option α:=if 0<=i then l[i.toNat]? else none
def xC(b:Bool):Option Unit:=if b then some ()else none
def bI{α:Type}(bytes:Nat)(l m:List α):Option (List α):=if(l.length+m.length)*bytes<=140737488355328 then some (l++m)else none
def bytesOf(s:List UInt8):Option (List UInt8):=if s.length<=140737488355328 then some s else none
def zU{α:Type}(z:α)(bytes:Nat)(n:Int):Option (List α):=if 0<=n/\bytes*n.toNat<=140737488355328 then some (fV n.toNat z)else none
def Ix{α:Type}(z:α)(bytes:Nat)(n:Int):Option (List α):=if 0<n/\bytes*n.toNat<=140737488355328 then some (fV n.toNat z)else none
def cut{α:Type}(l:List α)(i j:Int):Option (List α):=if 0<=i/\i<=j/\j<=l.length then some ((l.take j.toNat).drop i.toNat)else none
theorem TT{α:Type}{b:Bool}{x y:Option α}{r:α}(ag:b=true)(h:cond b x y=some r):x=some r:=by subst ag;exact h
theorem TS{α:Type}{b:Bool}{x y:Option α}{r:α}(ag:b=false)(h:cond b x y=some r):y=some r:=by subst ag;exact h
theorem fY{α β:Type}{o:Option α}{f:α->Option β}{r:β}(h:o.bind f=some r):∃x,o=some x/\f x=some r:=by
 cases o with
 |none=>cases h
 |some x=>exact⟨x,rfl,h⟩
theorem lF{α:Type}{l:List α}{i:Int}{d:α}(h:idx l i=some d):0<=i/\i.toNat<l.length/\l[i.toNat]? =some d:=by
 unfold idx at h;split at h
 ·rename_i a
  exact⟨a,(aP.1 h).1,h⟩
 ·cases h
theorem MX{α:Type}{bytes:Nat}{l m r:List α}(h:bI bytes l m=some r):(l.length+m.length)*bytes<=140737488355328/\r=l++m:=by
 unfold bI at h;split at h
 ·rename_i a;exact⟨a,by simpa using h.symm⟩
 ·cases h
theorem aEf{α:Type}{z:α}{bytes:Nat}{n:Int}{r:List α}(h:zU z bytes n=some r):0<=n/\bytes*n.toNat<=140737488355328/\r=fV n.toNat z:=by
 unfold zU at h;split at h
 ·rename_i a;exact⟨a.1,a.2,by simpa using h.symm⟩
 ·cases h
theorem auh{α:Type}{z:α}{bytes:Nat}{n:Int}{r:List α}(h:Ix z bytes n=some r):0<n/\bytes*n.toNat<=140737488355328/\r=fV n.toNat z:=by
 unfold Ix at h;split at h
 ·rename_i a;exact⟨a.1,a.2,by simpa using h.symm⟩
 ·cases h
theorem YI{b:Bool}{u:Unit}(h:xC b=some u):b=true:=by
 unfold xC at h;split at h
 ·assumption
 ·cases h
theorem auj(n:Int):((jT n).toNat:Int)=n%256:=by
 unfold jT;have a:0<=n%256:=Int.emod_nonneg _ (by omega);have b:n%256<256:=Int.emod_lt_of_pos _ (by omega);simp only[UInt8.toNat_ofNat'];omega
end I
namespace I
def join{cR α:Type}(k:cR)(b:cR->Option α):Option α:=b k
end I
namespace I
section
variable{cR β:Type} [DecidableEq cR]
def cH:List (cR×β)->cR->Option β
 |[],_=>none
 |p::r,k=>if p.1=k then some p.2 else cH r k
def gf:List (cR×β)->cR->β->List (cR×β)
 |[],k,v=>[(k,v)]
 |p::r,k,v=>if p.1=k then(k,v)::r else p::gf r k v
def pP:List (cR×β)->cR->Option Nat
 |[],_=>none
 |p::r,k=>if p.1=k then some 0 else(pP r k).map (·+1)
end
end I
namespace I
inductive Way (ρ α:Type)
 |go (a:α)
 |out (r:ρ)
def cm{ρ α:Type}(x:Option (Way ρ α))(k:α->Option ρ):Option ρ:=match x with
 |none=>none
 |some (.go a)=>k a
 |some (.out r)=>some r
def dd{ρ α β:Type}(x:Option (Way ρ α))(k:α->Option (Way ρ β)):Option (Way ρ β):=match x with
 |none=>none
 |some (.go a)=>k a
 |some (.out r)=>some (.out r)
def aeF{ρ α:Type}(k:α->Option ρ):Way ρ α->Option ρ
 | .go a=>k a
 | .out r=>some r
theorem aIY{ρ α:Type}{x:Option (Way ρ α)}{k:α->Option ρ}{r:ρ}(h:cm x k=some r):∃y,x=some y/\aeF k y=some r:=by
 cases x with
 |none=>cases h
 |some y=>cases y<;>exact⟨_,rfl,h⟩
@[simp] theorem rk {ρ α:Type} (a:α) (k:α->Option ρ):cm (some (.go a)) k=k a:=rfl
@[simp] theorem al3 {ρ α:Type} (r:ρ) (k:α->Option ρ):cm (some (.out r)) k=some r:=rfl
@[simp] theorem oR {ρ α β:Type} (a:α) (k:α->Option (Way ρ β)):dd (some (.go a)) k=k a:=rfl
@[simp] theorem aO1 {ρ α β:Type} (r:ρ) (k:α->Option (Way ρ β)):dd (some (.out r)) k=some (.out r):=rfl
end I
namespace I
end I
namespace ay
open Go Go.RowKit
def ev:List (Nat×Value)->Nat->Option Value
 |[],_=>none
 |p::r,t=>match cy p.1 t with
  |true=>some p.2
  |false=>ev r t
structure cE where
 n:Nat
 ds:List Deferred
instance:Coe cE Nat:=⟨cE.n⟩
structure Fr (n:cE) (l:List (Nat×Value)) (a:Act):Prop where
 size:a.tmps.size=n.n
 defers:a.defers=n.ds
 get:∀t v,ev l t=some v->a.tmps.getD t undef=v
theorem Fr.g{n:cE}{l:List (Nat×Value)}{a:Act}{t:Nat}{v:Value}(ad:Fr n l a)(h:ev l t=some v):a.eval (.tmp t)=v:=ad.get t v h
theorem Fr.put{n:cE}{d:Nat}{l:List (Nat×Value)}{a:Act}{v:Value}(ad:Fr n l a)(aL:fs d n=true):Fr n ((d,v)::l) (a.put (some d) v):=by
 have b:d<n:=cS aL;refine⟨by simpa[Act.put]using ad.size,ad.defers,λ t u h=>?_⟩;have aj:=ad.size;simp only[ev]at h;cases ag:cy d t with
 |true=>
  rw[ag]at h
  simp only[aH]at h
  have e:d=t:=bd ag
  subst e;subst h
  simp[Act.put,aj,b]
 |false=>
  rw[ag]at h
  have e:d≠t:=by intro e;subst e;simp at ag
  have:=ad.get t u h
  simp only[Act.put,e0]at this⊢
  rw[f_,if_neg e]
  exact this
def LB(l:List (Nat×Value)):List (Nat×Value)->Prop
 |[]=>True
 |p::r=>ev l p.1=some p.2/\LB l r
theorem aDS{l l':List (Nat×Value)}(h:LB l l'):∀t v,ev l' t=some v->ev l t=some v:=by
 induction l' with
 |nil=>intro t v a;simp[ev]at a
 |cons p r b=>
  intro t v a
  simp only[ev]at a
  cases ag:cy p.1 t with
  |true=>
   rw[ag]at a
   have e:p.1=t:=bd ag
   simp only[aH]at a
   rw[<-e,<-a];exact h.1
  |false=>rw[ag]at a;exact b h.2 t v a
theorem Fr.sub{n:cE}{l l':List (Nat×Value)}{a:Act}(ad:Fr n l a)(h:LB l l'):Fr n l' a:=
 ⟨ad.size,ad.defers,λ t v b=>ad.get t v (aDS h t v b)⟩
def tV:Nat->List Value->List (Nat×Value)
 |_,[]=>[]
 |k,v::r=>(k,v)::tV (k+1) r
theorem aDR(vs:List Value):∀k t v,ev (tV k vs) t=some v->k<=t/\vs[t-k]? =some v:=by
 induction vs with
 |nil=>intro k t v h;simp[tV,ev]at h
 |cons u r a=>
  intro k t v h
  simp only[tV,ev]at h
  cases ag:cy k t with
  |true=>
   rw[ag]at h
   have e:k=t:=bd ag
   subst e
   simpa using h
  |false=>
   rw[ag]at h
   have e:k≠t:=by intro e;subst e;simp at ag
   obtain⟨b,J⟩:=a (k+1) t v h
   refine⟨by omega,?_⟩
   have:t-k=(t- (k+1))+1:=by omega
   rw[this];simpa using J
theorem Fr.init(vs:List Value)(n:Nat)(h:jF vs.length n=true):Fr ⟨n,[]⟩ (tV 0 vs) { tmps:=vs.toArray++Array.replicate (n-vs.toArray.size) undef,defers:=[] }:=by
 have c:vs.length<=n:=by simpa using h
 refine⟨by simp;omega,rfl,λ t v d=>?_⟩;obtain⟨_,J⟩:=aDR vs 0 t v d;have a:t<vs.length:=by
  rcases gL t vs.length with h |h
  ·exact h
  ·rw[gE (by simpa using h)]at J;cases J
 have b:vs[t]? =some v:=by simpa using J
 rw[e0];rw[aK a,aH]at b;simp[Array.getElem?_append,a,b]
theorem enter{P:Program}{f:FuncId}{fn:Func}{c:Code}{vs:List Value}{w:World}{R:Ending->World->Prop}{n:Nat}
 (ad:P.funcs[f]? =some fn)(ag:fn.body=some c)(b:fn.ntmps=n)(d:jF vs.length n=true)
 (h:∀a,Fr ⟨n,[]⟩ (tV 0 vs) a->c.wp P (bodyPost P fn R) a w):Calls P f vs.toArray w R:=by
 refine calls_of_wp ad ag ?_
 rw[b]
 exact h _ (Fr.init vs n d)
structure br (M:List Nat) (w w':World):Prop where
 os:w'.os=w.os
 tape:w'.tape=w.tape
 output:w'.output=w.output
 size:w.heap.size<=w'.heap.size
 block:∀k,k<w.heap.size->k∉M->w'.heap[k]? =w.heap[k]?
theorem br.refl(M:List Nat)(w:World):br M w w:=⟨rfl,rfl,rfl,cT _,λ _ _ _=>rfl⟩
theorem br.trans{M jR:List Nat}{a b c:World}(h:br M a b)(k:br jR b c)(f:∀x∈jR,x∈M\/a.heap.size<=x):br M a c:=
 ⟨k.os.trans h.os,k.tape.trans h.tape,k.output.trans h.output,hv h.size k.size,λ i hi d=>
  (k.block i (fe hi h.size) (λ g=>by rcases f i g with e |e;exact d e;omega)).trans (h.block i hi d)⟩
theorem br.drew(M:List Nat)(w:World):br M w w.drew:=⟨rfl,rfl,rfl,cT _,λ _ _ _=>rfl⟩
theorem br.alloc(M:List Nat)(w:World)(o:Obj):br M w (w.alloc o):=⟨rfl,rfl,rfl,by simp,λ k a _=>Below.heap_alloc _ _ _ a⟩
theorem br.set(w:World)(a:Addr)(u:Value):br [a.block] w (w.setCell a u):=
 ⟨rfl,rfl,rfl,by simp[World.setCell],λ k _ b=>Below.heap_setCell _ _ _ _ (by simpa using b)⟩
theorem br.mono{M jR:List Nat}{a b:World}(h:br M a b)(c:∀x∈M,x∈jR):br jR a b:=⟨h.os,h.tape,h.output,h.size,λ k d e=>h.block k d (λ f=>e (c k f))⟩
theorem br.grown{w w':World}{row:Option Nat}(h:w.grownBy w' row):br row.toList w w':=
 ⟨h.os,h.tape,h.output,h.size,λ k a b=>h.block k a (λ e=>b (by rw[<-e];simp))⟩
theorem br.below{w w':World}(h:br [] w w'):Below w.heap.size w w':=⟨h.os,h.tape,h.output,h.size,λ k a=>h.block k a (by simp)⟩
structure bb where
 bE:List Nat
 ok:World->Prop
 law:∀w w',(∀k∈bE,w'.heap[k]? =w.heap[k]?)->ok w->ok w'
structure bF where
 ok:List Nat->World->Prop
 law:∀M jR w w',br M w w'->(∀k∈jR,k∈M\/w.heap.size<=k)->ok M w->ok jR w'
def bZ(E:List bb):List Nat:=E.flatMap bb.bE
structure bz (W:World) (M0 X:List Nat) (w:World) (E:List bb) (D:List bF):Prop where
 bY:br M0 W w
 hW:∀k∈X,k<W.heap.size/\k∉M0
 lt:∀k∈bZ E,k<w.heap.size/\(k∈M0\/W.heap.size<=k)
 ok:∀x∈E,x.ok w
 bC:(bZ E).Nodup
 rd:∀y∈D,y.ok (X++bZ E) w
section
variable{W w w':World}{M0 X:List Nat}{E:List bb}{D:List bF}
theorem bz.start(M0 X:List Nat)(w:World)(E:List bb)(D:List bF)(c:∀k∈X,k<w.heap.size/\k∉M0)(a:∀k∈bZ E,k<w.heap.size/\k∈M0)(d:∀x∈E,x.ok w)(e:(bZ E).Nodup)(f:∀y∈D,y.ok (X++bZ E) w) :
 bz w M0 X w E D:=⟨br.refl _ _,c,λ k b=>⟨(a k b).1,.inl (a k b).2⟩,d,e,f⟩
theorem bz.e8(h:bz W M0 X w E D)(b:br [] w w'):bz W M0 X w' E D:=
 ⟨h.bY.trans b (by simp),h.hW,λ k a=>⟨fe (h.lt k a).1 b.size,(h.lt k a).2⟩,
  λ x c=>x.law w w' (λ k a=>b.block k (h.lt k (hM.2 ⟨x,c,a⟩)).1 (by simp)) (h.ok x c),h.bC,
  λ y hy=>y.law (X++bZ E) _ w w' (b.mono (by simp)) (λ k a=>.inl a) (h.rd y hy)⟩
theorem bz.drew(h:bz W M0 X w E D):bz W M0 X w.drew E D:=h.e8 (br.drew _ _)
theorem bz.push(h:bz W M0 X w E D)(x:bb)(f:br [] w w')(i:x.ok w')(ad:∀k∈x.bE,w.heap.size<=k/\k<w'.heap.size)(j:x.bE.Nodup):bz W M0 X w' (x::E) D:=by
 have c:=h.e8 f;refine⟨c.bY,h.hW,λ k d=>?_,λ y hy=>?_,?_,λ y hy=>?_⟩
 ·rcases cj.1 (by simpa[bZ]using d:k∈x.bE++bZ E)with e |e
  ·exact⟨(ad k e).2,.inr (hv h.bY.size (ad k e).1)⟩
  ·exact c.lt k e
 ·rcases cI.1 hy with rfl |e
  ·exact i
  ·exact c.ok y e
 ·have:bZ (x::E)=x.bE++bZ E:=by simp[bZ]
  rw[this,fA]
  refine⟨j,h.bC,λ a l b ag e=>?_⟩
  subst e
  have:=(ad a l).1
  have:=(h.lt a ag).1
  omega
 ·refine y.law (X++bZ E) _ w w' (f.mono (by simp)) (λ k d=>?_) (h.rd y hy)
  have g:k∈X++(x.bE++bZ E):=by simpa[bZ]using d
  simp only[cj]at g
  rcases g with e |e |e
  ·exact .inl (by simp[e])
  ·exact .inr (ad k e).1
  ·exact .inl (by simp[e])
theorem bz.drop(h:bz W M0 X w E D){b:List bb}(aj:List.Sublist b E):bz W M0 X w b D:=by
 have ad:List.Sublist (bZ b) (bZ E):=by
  unfold bZ;clear h;induction aj with
  |slnil=>simp
  |cons a _ c=>simpa using c.trans (List.sublist_append_right _ _)
  |cons_cons a _ c=>simpa using List.Sublist.append_left c a.bE
 exact⟨h.bY,h.hW,λ k d=>h.lt k (ad.subset d),λ x f=>h.ok x (aj.subset f),h.bC.sublist ad,
  λ y hy=>y.law (X++bZ E) _ w w (br.refl _ _) (λ k d=>.inl (by rcases cj.1 d with e |e;exact cj.2 (.inl e);exact cj.2 (.inr (ad.subset e)))) (h.rd y hy)⟩
theorem bz.dC(h:bz W M0 X w E D){A B:List bb}{x d:bb}(a7:E=A++x::B)(f:br x.bE w w')(u:d.ok w')(v:d.bE.Nodup)
 (ad:∀k∈d.bE,k∈x.bE\/(w.heap.size<=k/\k<w'.heap.size)):bz W M0 X w' (A++d::B) D:=by
 subst a7
 have c:bZ (A++x::B)=bZ A++(x.bE++bZ B):=by simp[bZ]
 have ao:bZ (A++d::B)=bZ A++(d.bE++bZ B):=by simp[bZ]
 have p:=h.bC
 rw[c,fA,fA]at p
 obtain⟨l,⟨C,m,g⟩,n⟩:=p
 have o:∀k∈x.bE,k<w.heap.size/\(k∈M0\/W.heap.size<=k):=λ k hk=>h.lt k (by rw[c];simp[hk])
 refine⟨h.bY.trans f (λ k hk=>(o k hk).2),h.hW,λ k hk=>?_,λ y hy=>?_,?_,λ y hy=>?_⟩
 ·rw[ao]at hk
  simp only[cj]at hk
  rcases hk with hk |hk |hk
  ·have:=h.lt k (by rw[c];simp[hk]);exact⟨fe this.1 f.size,this.2⟩
  ·rcases ad k hk with e |e
   ·exact⟨fe (o k e).1 f.size,(o k e).2⟩
   ·exact⟨e.2,.inr (hv h.bY.size e.1)⟩
  ·have:=h.lt k (by rw[c];simp[hk]);exact⟨fe this.1 f.size,this.2⟩
 ·have i:∀z,z∈A\/z∈B->z.ok w':=λ z q=>by
   have r:z∈A++x::B:=by rcases q with e |e<;>simp[e]
   refine z.law w w' (λ k hk=>f.block k (h.lt k (hM.2 ⟨z,r,hk⟩)).1 (λ s=>?_)) (h.ok z r);rcases q with e |e
   ·exact n k (hM.2 ⟨z,e,hk⟩) k (by simp[s]) rfl
   ·exact g k s k (hM.2 ⟨z,e,hk⟩) rfl
  simp only[cj,cI]at hy;rcases hy with hy |rfl |hy
  ·exact i y (.inl hy)
  ·exact u
  ·exact i y (.inr hy)
 ·rw[ao,fA,fA]
  have t:∀k∈d.bE,∀b,(b∈bZ A\/b∈bZ B)->k≠b:=λ k hk b ag e=>by
   subst e;rcases ad k hk with e |e
   ·rcases ag with ag |ag
    ·exact n k ag k (by simp[e]) rfl
    ·exact g k e k ag rfl
   ·have:=(h.lt k (by rw[c];rcases ag with ag |ag<;>simp[ag])).1
    omega
  exact⟨l,⟨v,m,λ a j b ag=>t a j b (.inr ag)⟩,λ a j b ag=>by
   rcases cj.1 ag with ag |ag
   ·exact λ e=>t b ag a (.inl j) e.symm
   ·exact n a j b (by simp[ag])⟩
 ·refine y.law (X++bZ (A++x::B)) _ w w' (f.mono (λ k hk=>by rw[c];simp[hk])) (λ k hk=>?_) (h.rd y hy)
  rw[ao]at hk
  simp only[cj]at hk
  rcases hk with hk |hk |hk |hk
  ·exact .inl (by simp[hk])
  ·exact .inl (by rw[c];simp[hk])
  ·rcases ad k hk with e |e
   ·exact .inl (by rw[c];simp[e])
   ·exact .inr e.1
  ·exact .inl (by rw[c];simp[hk])
theorem bz.more(h:bz W M0 X w E D){y:bF}(hy:y.ok (X++bZ E) w):bz W M0 X w E (y::D):=
 ⟨h.bY,h.hW,h.lt,h.ok,h.bC,λ z a=>by rcases cI.1 a with rfl |e;exact hy;exact h.rd z e⟩
theorem bz.less(h:bz W M0 X w E D){a:List bF}(aj:∀y∈a,y∈D):bz W M0 X w E a:=⟨h.bY,h.hW,h.lt,h.ok,h.bC,λ y hy=>h.rd y (aj y hy)⟩
theorem bz.e(h:bz W M0 X w E D)(i:Nat){x:bb}(hi:E[i]? =some x):x.ok w:=h.ok x (bG hi)
theorem bz.d(h:bz W M0 X w E D)(i:Nat){y:bF}(hi:D[i]? =some y):y.ok (X++bZ E) w:=h.rd y (bG hi)
theorem bF.less{y:bF}{M jR:List Nat}(h:y.ok M w)(a:∀k∈jR,k∈M):y.ok jR w:=y.law M jR w w (br.refl _ _) (λ k b=>.inl (a k b)) h
theorem bz.Q0(h:bz W M0 X w E D)(i:Nat){x a:bb}(hi:E[i]? =some x)(b:br x.bE w w')(c:a.ok w')(d:a.bE.Nodup)
 (ad:∀k∈a.bE,k∈x.bE\/(w.heap.size<=k/\k<w'.heap.size)):bz W M0 X w' (E.set i a) D:=by
 obtain⟨e,rfl⟩:=aP.1 hi
 have a7:E=E.take i++E[i]::E.drop (i+1):=by simp
 have:=h.dC a7 b c d ad
 rwa [List.set_eq_take_append_cons_drop,if_pos e]
end
end ay
namespace ay
open Go Go.RowKit I
abbrev cw(l:List UInt8):Value:=.string ⟨⟨l⟩⟩
structure dj (α:Type) where
 size:Nat
 rd:(Nat->Prop)->World->List Value->α->Prop
 len:∀ {F w cs d},rd F w cs d->cs.length=size
 one:∀ {F w cs d},rd F w cs d-> ∀v∈cs,v.oneCell'=true
 law:∀ {F F' w w' cs d},(∀k,F k->F' k/\w'.heap[k]? =w.heap[k]?)->rd F w cs d->rd F' w' cs d
def im(M:List Nat)(w:World):Nat->Prop:=λ k=>k∉M/\k<w.heap.size
def bF.of{α:Type}(T:dj α)(cs:List Value)(d:α):bF where
 ok M w:=T.rd (im M w) w cs d
 law M jR w w' b c h:=T.law (λ k a=>⟨⟨λ f=>by rcases c k f with e |e;exact a.1 e;exact absurd a.2 (by omega),fe a.2 b.size⟩,b.block k a.2 a.1⟩) h
def fk(k:IntKind):dj Int where
 size:=1
 rd _ _ cs d:=cs=[.int k d]
 len h:=by subst h;rfl
 one h v a:=by subst h;simp at a;subst a;rfl
 law _ h:=h
def Q1:dj UInt8 where
 size:=1
 rd _ _ cs d:=cs=[.int .u8 (d.toNat:Int)]
 len h:=by subst h;rfl
 one h v a:=by subst h;simp at a;subst a;rfl
 law _ h:=h
def aJD:dj Bool where
 size:=1
 rd _ _ cs d:=cs=[.bool d]
 len h:=by subst h;rfl
 one h v a:=by subst h;simp at a;subst a;rfl
 law _ h:=h
def jB:dj (List UInt8) where
 size:=1
 rd _ _ cs d:=cs=[cw d]
 len h:=by subst h;rfl
 one h v a:=by subst h;simp at a;subst a;rfl
 law _ h:=h
section
variable{α:Type}(T:dj α)
def dM(F:Nat->Prop)(w:World):List Value->List α->Prop
 |xs,[]=>xs=[]
 |xs,d::r=>∃cs ys,xs=cs++ys/\T.rd F w cs d/\dM F w ys r
theorem xK{F:Nat->Prop}{w:World}:∀ {l:List α}{xs:List Value},dM T F w xs l->xs.length=l.length*T.size
 |[],xs,h=>by simp only[dM]at h;subst h;simp
 |d::r,xs,h=>by
  obtain⟨cs,ys,rfl,a,J⟩:=h;rw[dR,T.len a,xK J,dL,jP];omega
theorem G8{F:Nat->Prop}{w:World}:∀ {l:List α}{xs:List Value},dM T F w xs l-> ∀v∈xs,v.oneCell'=true
 |[],xs,h=>by simp only[dM]at h;subst h;simp
 |d::r,xs,h=>by
  obtain⟨cs,ys,rfl,a,J⟩:=h;intro v b;rcases cj.1 b with e |e
  ·exact T.one a v e
  ·exact G8 J v e
theorem oO{F F':Nat->Prop}{w w':World}(a:∀k,F k->F' k/\w'.heap[k]? =w.heap[k]?):∀ {l:List α}{xs:List Value},dM T F w xs l->dM T F' w' xs l
 |[],xs,h=>h
 |d::r,xs,h=>by
  obtain⟨cs,ys,rfl,b,J⟩:=h;exact⟨cs,ys,rfl,T.law a b,oO a J⟩
theorem alm{F:Nat->Prop}{w:World}{d:α}{cs:List Value}(aL:T.rd F w cs d):∀ {l:List α}{xs:List Value},dM T F w xs l->dM T F w (xs++cs) (l++[d])
 |[],xs,h=>by simp only[dM]at h;subst h;exact⟨cs,[],by simp,aL,rfl⟩
 |e::r,xs,h=>by
  obtain⟨c,ys,rfl,a,J⟩:=h;exact⟨c,ys++cs,by simp,a,alm aL J⟩
theorem K3{F:Nat->Prop}{w:World}{l':List α}{e5:List Value}(h':dM T F w e5 l'):∀ {l:List α}{xs:List Value},dM T F w xs l->dM T F w (xs++e5) (l++l')
 |[],xs,h=>by simp only[dM]at h;subst h;simpa using h'
 |e::r,xs,h=>by
  obtain⟨c,ys,rfl,a,J⟩:=h;exact⟨c,ys++e5,by simp,a,K3 h' J⟩
theorem K4{F:Nat->Prop}{w:World}:∀ {l:List α}{xs:List Value}{i:Nat}{d:α},dM T F w xs l->l[i]? =some d ->
 ∃cs,T.rd F w cs d/\ ∀j u,cs[j]? =some u->xs[i*T.size+j]? =some u
 |[],_,i,d,_,hi=>by simp at hi
 |e::r,xs,0,d,h,hi=>by
  obtain⟨cs,ys,rfl,a,_⟩:=h;simp only[dU,aH]at hi;subst hi;refine⟨cs,a,λ j u aA=>?_⟩;have f:j<cs.length:=by
   rcases gL j cs.length with h |h
   ·exact h
   ·rw[gE h]at aA;cases aA
  simpa[np,f]using aA
 |e::r,xs,i+1,d,h,hi=>by
  obtain⟨cs,ys,rfl,a,J⟩:=h;obtain⟨c,hc,aA⟩:=K4 (i:=i) J (by simpa using hi);refine⟨c,hc,λ j u g=>?_⟩;have b:=T.len a;have k:(i+1)*T.size+j=cs.length+(i*T.size+j):=by rw[jP];omega
  rw[k,fq (by omega)];simpa using aA j u g
def fo(w:World)(a:Addr)(xs:List Value):Prop:=∀j u,xs[j]? =some u->w.cell? ⟨a.block,a.off+j,none⟩=some u
theorem fo.law{w w':World}{a:Addr}{xs:List Value}(h:fo w a xs)(ag:w'.heap[a.block]? =w.heap[a.block]?):fo w' a xs:=
 λ j u aA=>(World.cell?_of_block (a:=⟨a.block,a.off+j,none⟩) ag).trans (h j u aA)
def dD(A:Option Addr):Nat:=(A.getD ⟨0,0,none⟩).block
def fP(A:Option Addr):Nat:=(A.getD ⟨0,0,none⟩).off
def b5:dj (List α) where
 size:=1
 rd F w cs l:=∃A c,cs=[.slice A l.length c]/\l.length<=c/\c<=maxLen/\(A=none->c=0)/\
  (l≠[]->A=some ⟨dD A,fP A,none⟩/\F (dD A)/\ ∃xs,dM T F w xs l/\fo w ⟨dD A,fP A,none⟩ xs)
 len h:=by obtain⟨A,c,rfl,_⟩:=h;rfl
 one h v b:=by obtain⟨A,c,rfl,_⟩:=h;simp at b;subst b;rfl
 law a h:=by
  obtain⟨A,c,d,e,f,g,i⟩:=h;refine⟨A,c,d,e,f,g,λ j=>?_⟩;obtain⟨k,ao,xs,aT,bQ⟩:=i j;exact⟨k,(a _ ao).1,xs,oO T a aT,bQ.law (a _ ao).2⟩
theorem mz{F:Nat->Prop}{w:World}{v:Value}{l:List α}(h:(b5 T).rd F w [v] l):∃A c,v= .slice A l.length c:=by
 obtain⟨A,c,a,_⟩:=h;exact⟨A,c,by simpa using a⟩
theorem D7{F:Nat->Prop}{w:World}{A:Option Addr}{n c:Nat}{l:List α}{i:Int}{d:α}(h:(b5 T).rd F w [.slice A n c] l)(hi:idx l i=some d) :
 A=some ⟨dD A,fP A,none⟩/\(0<=i/\i<n)/\ ∃cs,T.rd F w cs d/\fo w ⟨dD A,fP A+i.toNat*T.size,none⟩ cs:=by
 obtain⟨e,a,J⟩:=lF hi
 obtain⟨cn,p,b,aT,bQ,dw,eR⟩:=h
 simp only[h3,Value.slice.injEq,and_true]at b
 obtain⟨rfl,rfl,rfl⟩:=b
 obtain⟨f,q,xs,g,k⟩:=eR (λ m=>by rw[m]at a;simp at a)
 obtain⟨cs,hc,o⟩:=K4 T g J
 refine⟨f,⟨e,by omega⟩,cs,hc,λ j u aA=>?_⟩
 have:=k (i.toNat*T.size+j) u (o j u aA)
 simpa[kU]using this
end
def bb.ck(g:Nat)(t:TypeId)(cs:List Value):bb where
 bE:=[g]
 ok w:=w.heap[g]? =some (.cells cs.toArray t (0,0))
 law w w' h a:=(h g (by simp)).trans a
def bb.row{α:Type}(e:TypeId)(size:Nat)(v:Value)(l:List α)(xs:List Value):bb where
 bE:=v.ownBlock.toList
 ok w:=w.ownsRow 0 e size v l.length xs
 law w w' h a:=by
  refine⟨a.1,?_⟩;rcases a.2 with b |⟨g,cap,cur,rfl,ag,c,rest⟩
  ·exact .inl b
  ·exact .inr ⟨g,cap,cur,rfl,ag,(h g (by simp[Value.ownBlock])).trans c,rest⟩
def bF.rows{α:Type}(T:dj α)(xs:List Value)(l:List α):bF where
 ok M w:=dM T (im M w) w xs l
 law M jR w w' b c h:=oO T (λ k a=>⟨⟨λ d=>by rcases c k d with e |e;exact a.1 e;exact absurd a.2 (by omega),fe a.2 b.size⟩,b.block k a.2 a.1⟩) h
theorem La{α:Type}{w:World}{e:TypeId}{size:Nat}{v:Value}{l:List α}{xs:List Value}(h:(bb.row e size v l xs).ok w):∃A c,v= .slice A l.length c/\l.length<=c/\c<=maxLen/\(A=none->c=0)/\(A≠none->A=some ⟨dD A,0,none⟩):=by
 have h':w.ownsRow 0 e size v l.length xs:=h;rcases h'.2 with⟨rfl,a⟩|⟨g,cap,cur,rfl,_,_,b,J,_⟩
 ·exact⟨none,0,by rw[a],by omega,gT _,λ _=>rfl,λ h=>absurd rfl h⟩
 ·exact⟨some ⟨g,0,none⟩,cap,rfl,b,J,(λ h=>by cases h),λ _=>rfl⟩
theorem aIm{α:Type}{T:dj α}{M:List Nat}{w:World}{e:TypeId}{A:Option Addr}{n c:Nat}{l:List α}{xs:List Value}(h:(bb.row e T.size (.slice A n c) l xs).ok w)(f:(bF.rows T xs l).ok M w)
 (i:∀k∈(Value.slice A n c).ownBlock.toList,k∉M):(bF.of (b5 T) [.slice A n c] l).ok M w:=by
 have h':w.ownsRow 0 e T.size (.slice A n c) l.length xs:=h
 have m:dM T (im M w) w xs l:=f
 show(b5 T).rd (im M w) w _ l
 rcases h'.2 with⟨a,o⟩|⟨g,cap,cur,a,_,p,b,q,aj,s⟩
 ·have r:l=[]:=hL o
  simp only[Value.slice.injEq]at a
  obtain⟨rfl,rfl,rfl⟩:=a
  subst r
  exact⟨none,0,rfl,by simp,gT _,λ _=>rfl,λ h=>absurd rfl h⟩
 ·simp only[Value.slice.injEq]at a
  obtain⟨rfl,rfl,rfl⟩:=a
  refine⟨_,_,rfl,b,q,(λ h=>by cases h),λ _=>⟨rfl,⟨i g (by simp[Value.ownBlock]),(gw.1 p).1⟩,xs,m,λ j u aA=>?_⟩⟩
  have d:=h'.cells (g:=g) rfl j u aA
  simpa[Addr.add,dD,fP]using(by
   have e:(⟨g,0,none⟩:Addr).add j=⟨g,0+j,none⟩:=by unfold Addr.add;split<;>simp_all
   rw[e]at d;exact d:w.cell? ⟨g,0+j,none⟩=some u)
theorem yZ{w:World}{g:Nat}{t:TypeId}{cs:List Value}(h:(bb.ck g t cs).ok w){j:Nat}{v:Value}(aA:cs[j]? =some v):w.cell? ⟨g,j,none⟩=some v:=by
 have h':w.heap[g]? =some (.cells cs.toArray t (0,0)):=h;simp[World.cell?,h',aA]
theorem IC{w:World}{g:Nat}{t:TypeId}{cs:List Value}(h:(bb.ck g t cs).ok w):g<w.heap.size:=by
 have h':w.heap[g]? =some (.cells cs.toArray t (0,0)):=h;exact(gw.1 h').1
theorem aun(w:World)(t:TypeId)(cs:List Value):(bb.ck w.heap.size t cs).ok (w.alloc (.cells cs.toArray t)):=heap_alloc_new w _
def bF.jm(g:Nat)(cs:List Value):bF where
 ok M w:=g∉M/\g<w.heap.size/\fo w ⟨g,0,none⟩ cs
 law M jR w w' a b h:=⟨λ c=>by rcases b g c with e |e;exact h.1 e;exact absurd h.2.1 (by omega),fe h.2.1 a.size,h.2.2.law (a.block g h.2.1 h.1)⟩
theorem ny{α:Type}{T:dj α}{F:Nat->Prop}{w:World}{cs:List Value}{l:List α}(h:(b5 T).rd F w cs l):∃A c,cs=[.slice A l.length c]:=by
 obtain⟨A,c,a,_⟩:=h;exact⟨A,c,a⟩
theorem aIl{α:Type}{T:dj α}{M:List Nat}{w:World}{e:TypeId}{A:Option Addr}{n c:Nat}{l:List α}{xs:List Value}{i:Int}{d:α}(h:(bb.row e T.size (.slice A n c) l xs).ok w)(f:(bF.rows T xs l).ok M w)(hi:idx l i=some d) :
 A=some ⟨dD A,fP A,none⟩/\(0<=i/\i<n)/\ ∃cs,T.rd (im M w) w cs d/\fo w ⟨dD A,fP A+i.toNat*T.size,none⟩ cs:=by
 obtain⟨k,p,J⟩:=lF hi
 have h':w.ownsRow 0 e T.size (.slice A n c) l.length xs:=h
 have m:dM T (im M w) w xs l:=f
 rcases h'.2 with⟨a,q⟩|⟨g,cap,cur,a,_,r,_⟩
 ·omega
 ·simp only[Value.slice.injEq]at a
  obtain⟨rfl,rfl,rfl⟩:=a
  obtain⟨cs,hc,o⟩:=K4 T m J
  refine⟨rfl,⟨k,by omega⟩,cs,hc,λ j u aA=>?_⟩
  have b:=h'.cells (g:=g) rfl _ u (o j u aA)
  have ao:(⟨g,0,none⟩:Addr).add (i.toNat*T.size+j)=⟨g,0+(i.toNat*T.size+j),none⟩:=by unfold Addr.add;split<;>simp_all
  rw[ao]at b
  show w.cell? ⟨g,0+i.toNat*T.size+j,none⟩=some u
  rw[kU];exact b
end ay
namespace ay
open Go Go.RowKit I
theorem aji(p q:List UInt8):(p==q)=decide (p=q):=by
 rw[iT];simp
section
variable{P:Program}{o:Oper}{a:Act}{w:World}
abbrev bh(P:Program)(o:Oper)(a:Act)(w:World)(v:Value)(w':World):Prop:=(execOp a.eval o).run P w= .ok (.value v) w'
abbrev rX(P:Program)(o:Oper)(a:Act)(w:World)(w':World):Prop:=(execOp a.eval o).run P w= .ok .skip w'
theorem vv{x:Operand}{v:Value}(b:o.op= .move x)(c:a.eval x=v):bh P o a w v w:=by
 simp only[bh,execOp,b,c];rfl
theorem yg{x:Operand}{v:Value}(b:o.op= .assign x)(c:a.eval x=v):bh P o a w v w:=by
 simp only[bh,execOp,b,c];rfl
theorem Sv{c x y:Operand}{v:Value}(b:o.op= .pick c x y)(hc:a.eval c= .bool true)(d:a.eval x=v):bh P o a w v w:=by
 simp only[bh,execOp,b,hc,d];rfl
theorem Su{c x y:Operand}{v:Value}(b:o.op= .pick c x y)(hc:a.eval c= .bool false)(hy:a.eval y=v):bh P o a w v w:=by
 simp only[bh,execOp,b,hc,hy];rfl
section
variable{x y:Operand}{t t':TypeId}{k:IntKind}{m n:Int}
theorem aNi(b:o.op= .binOp .add t x y t')(c:a.eval x= .int k m)(hy:a.eval y= .int k n):bh P o a w (.int k (k.wrap (m+n))) w:=by
 simp only[bh,execOp,b,c,hy];simp[go_sem]
theorem aNN(b:o.op= .binOp .sub t x y t')(c:a.eval x= .int k m)(hy:a.eval y= .int k n):bh P o a w (.int k (k.wrap (m-n))) w:=by
 simp only[bh,execOp,b,c,hy];simp[go_sem]
theorem aNC(b:o.op= .binOp .mul t x y t')(c:a.eval x= .int k m)(hy:a.eval y= .int k n):bh P o a w (.int k (k.wrap (m*n))) w:=by
 simp only[bh,execOp,b,c,hy];simp[go_sem]
theorem aNL(b:o.op= .binOp .quo t x y t')(c:a.eval x= .int k m)(hy:a.eval y= .int k n)(d:n≠0):bh P o a w (.int k (k.wrap (m.tdiv n))) w:=by
 simp only[bh,execOp,b,c,hy];simp[go_sem,d]
theorem aNA(b:o.op= .binOp .lss t x y t')(c:a.eval x= .int k m)(hy:a.eval y= .int k n):bh P o a w (.bool (decide (m<n))) w:=by
 simp only[bh,execOp,b,c,hy];simp[go_sem]
theorem aNz(b:o.op= .binOp .leq t x y t')(c:a.eval x= .int k m)(hy:a.eval y= .int k n):bh P o a w (.bool (decide (m<=n))) w:=by
 simp only[bh,execOp,b,c,hy];simp[go_sem]
theorem apy(b:o.op= .binOp .gtr t x y t')(c:a.eval x= .int k m)(hy:a.eval y= .int k n):bh P o a w (.bool (decide (n<m))) w:=by
 simp only[bh,execOp,b,c,hy];simp[go_sem]
theorem aNv(b:o.op= .binOp .geq t x y t')(c:a.eval x= .int k m)(hy:a.eval y= .int k n):bh P o a w (.bool (decide (n<=m))) w:=by
 simp only[bh,execOp,b,c,hy];simp[go_sem]
theorem aNt(b:P.underlying t=some (.int k))(c:o.op= .binOp .eql t x y t')(d:a.eval x= .int k m)(hy:a.eval y= .int k n):bh P o a w (.bool (decide (m=n))) w:=by
 have:=run_underlying (P:=P) b;simp only[bh,execOp,c,d,hy];simp[go_sem,this];rfl
theorem aNF(b:P.underlying t=some (.int k))(c:o.op= .binOp .neq t x y t')(d:a.eval x= .int k m)(hy:a.eval y= .int k n):bh P o a w (.bool (!decide (m=n))) w:=by
 have:=run_underlying (P:=P) b;simp only[bh,execOp,c,d,hy];simp[go_sem,this];rfl
end
section
variable{x y:Operand}{t t':TypeId}{p q:Bool}
theorem aIH(b:P.underlying t=some .bool)(p q:Bool)(w:World):(binOp .eql t (.bool p) (.bool q)).run P w= .ok (.bool (p==q)) w:=by
 have h:∀d:Nat,(Op.equalIn (d+1) t (.bool p) (.bool q)).run P w= .ok (p==q) w:=λ d=>by
  simp[Op.equalIn,run_underlying b]
 simp only[binOp];simp[Op.equal,Op.maxDepth,h 9999]
theorem aII(b:P.underlying t=some .bool)(p q:Bool)(w:World):(binOp .neq t (.bool p) (.bool q)).run P w= .ok (.bool (!(p==q))) w:=by
 have h:∀d:Nat,(Op.equalIn (d+1) t (.bool p) (.bool q)).run P w= .ok (p==q) w:=λ d=>by
  simp[Op.equalIn,run_underlying b]
 simp only[binOp];simp[Op.equal,Op.maxDepth,h 9999]
theorem aNs(b:P.underlying t=some .bool)(c:o.op= .binOp .eql t x y t')(d:a.eval x= .bool p)(hy:a.eval y= .bool q):bh P o a w (.bool (p==q)) w:=by
 simp only[bh,execOp,c,d,hy];simp[go_sem,aIH b]
theorem aNE(b:P.underlying t=some .bool)(c:o.op= .binOp .neq t x y t')(d:a.eval x= .bool p)(hy:a.eval y= .bool q):bh P o a w (.bool (!(p==q))) w:=by
 simp only[bh,execOp,c,d,hy];simp[go_sem,aII b]
theorem apD(b:o.op= .unOp .not t x)(c:a.eval x= .bool p):bh P o a w (.bool (!p)) w:=by
 simp only[bh,execOp,b,c];simp[go_sem]
end
section
variable{x y:Operand}{t t':TypeId}{p q:List UInt8}
theorem aNu(b:P.underlying t=some .string)(c:o.op= .binOp .eql t x y t')(d:a.eval x=cw p)(hy:a.eval y=cw q):bh P o a w (.bool (decide (p=q))) w:=by
 have:=run_underlying (P:=P) b;simp only[bh,execOp,c,d,hy];simp[go_sem,this];exact aji p q
theorem aNG(b:P.underlying t=some .string)(c:o.op= .binOp .neq t x y t')(d:a.eval x=cw p)(hy:a.eval y=cw q):bh P o a w (.bool (!decide (p=q))) w:=by
 have:=run_underlying (P:=P) b;simp only[bh,execOp,c,d,hy];simp[go_sem,this];exact aji p q
theorem apA{kP:TypeId}(b:P.underlying kP=some .string)(c:o.op= .call { callee:=.builtin .len,args:=#[x],argTypes:=#[kP] })(d:a.eval x=cw p):bh P o a w (.int .i64 p.length) w:=by
 simp only[bh,execOp,c,resolve,invoke,hK,eB,iD,d];simp[go_sem,Builtin.len_,run_underlying b,goInt]
theorem apz{kP:TypeId}{A:Option Addr}{n c:Nat}{e:TypeId}(b:P.underlying kP=some (.slice e))(d:o.op= .call { callee:=.builtin .len,args:=#[x],argTypes:=#[kP] })(f:a.eval x= .slice A n c):bh P o a w (.int .i64 n) w:=by
 simp only[bh,execOp,d,resolve,invoke,hK,eB,iD,f];simp[go_sem,Builtin.len_,run_underlying b,goInt]
theorem aNx{i:Nat}{b:UInt8}(c:P.underlying t=some .string)(d:o.op= .index t x y)(f:a.eval x=cw p)(hy:a.eval y= .int .i64 i)(ag:p[i]? =some b):bh P o a w (.int .u8 b.toNat) w:=by
 simp only[bh,execOp,d,f,hy];obtain⟨g,J⟩:=aP.1 ag;have e:(⟨⟨p⟩⟩:ByteArray)[i]? =some b:=by
  show(if h:i<_ then some _ else none)=_
  rw[dif_pos (show i<(⟨⟨p⟩⟩:ByteArray).size from g)];exact congrArg some J
 simp[go_sem,Instr.index,run_underlying c,e]
theorem ac8{k k':IntKind}{n:Int}(b:P.underlying t=some (.int k))(c:P.underlying t'=some (.int k'))(d:o.op= .convert t t' x)(e:a.eval x= .int k n):bh P o a w (.int k' (k'.wrap n)) w:=by
 simp only[bh,execOp,d,e];simp[go_sem,convert,run_underlying b,run_underlying c]
end
end
theorem xX(n:Int):IntKind.i64.wrap n=ax n:=by rw[IntKind.wrap_i64];rfl
theorem amH(n:Int):IntKind.u8.wrap n=((jT n).toNat:Int):=by rw[auj,IntKind.wrap_u8]
section
variable{P:Program}{o:Oper}{a:Act}{w:World}{x y:Operand}{t t':TypeId}{m n:Int}
theorem ac7(b:o.op= .binOp .add t x y t')(c:a.eval x= .int .i64 m)(hy:a.eval y= .int .i64 n):bh P o a w (.int .i64 (ax (m+n))) w:=by rw[<-xX];exact aNi b c hy
theorem apH(b:o.op= .binOp .sub t x y t')(c:a.eval x= .int .i64 m)(hy:a.eval y= .int .i64 n):bh P o a w (.int .i64 (ax (m-n))) w:=by rw[<-xX];exact aNN b c hy
theorem aND(b:o.op= .binOp .mul t x y t')(c:a.eval x= .int .i64 m)(hy:a.eval y= .int .i64 n):bh P o a w (.int .i64 (ax (m*n))) w:=by rw[<-xX];exact aNC b c hy
theorem apF(c:o.op= .binOp .rem t x y t')(d:a.eval x= .int .i64 m)(hy:a.eval y= .int .i64 n)(b:(!decide (n=0))=true):bh P o a w (.int .i64 (m.tmod n)) w:=by
 have b:n≠0:=by simpa using b
 simp only[bh,execOp,c,d,hy];simp[go_sem,b]
theorem apE(b:o.op= .binOp .quo t x y t')(c:a.eval x= .int .i64 m)(hy:a.eval y= .int .i64 n)(d:(!decide (n=0))=true):bh P o a w (.int .i64 (ax (m.tdiv n))) w:=by rw[<-xX];exact aNL b c hy (by simpa using d)
theorem aNn(b:P.underlying t=some (.int .i64))(c:P.underlying t'=some (.int .i64))(d:o.op= .convert t t' x)(e:a.eval x= .int .i64 m):bh P o a w (.int .i64 (ax m)) w:=by
 have h:=ac8 (P:=P) (w:=w) b c d e;rwa [xX]at h
theorem aNo(b:P.underlying t=some (.int .i64))(c:P.underlying t'=some (.int .u8))(d:o.op= .convert t t' x)(e:a.eval x= .int .i64 m):bh P o a w (.int .u8 ((jT m).toNat:Int)) w:=by
 have h:=ac8 (P:=P) (w:=w) b c d e;rwa [amH]at h
theorem Np(a:Act)(g:Nat):a.eval (.global g)= .pointer (some ⟨g,0,none⟩):=rfl
theorem Mp{vs:List Value}{i:Nat}{v:Value}(b:o.op= .extract x i)(c:a.eval x= .tuple vs.toArray)(d:vs[i]? =some v):bh P o a w v w:=by
 simp only[bh,execOp,b,c];simp[go_sem,Instr.extract,d]
theorem Mq{p:Addr}(b:o.op= .nilCheck x)(c:a.eval x= .pointer (some p)):bh P o a w (.pointer (some p)) w:=by
 simp only[bh,execOp,b,c];rfl
end
end ay
namespace ay
open Go Go.RowKit I
theorem lm(b o n:Nat):(⟨b,o,none⟩:Addr).add n=⟨b,o+n,none⟩:=by
 unfold Addr.add;split<;>simp_all
section
variable{P:Program}{o:Oper}{a:Act}{w:World}{x y:Operand}{t e s:TypeId}
theorem aNy{i:Int}{b:UInt8}{p:List UInt8}(c:P.underlying t=some .string)(d:o.op= .index t x y)(f:a.eval x=cw p)(hy:a.eval y= .int .i64 i)(ag:idx p i=some b):bh P o a w (.int .u8 b.toNat) w:=by
 obtain⟨g,h,J⟩:=lF ag;obtain⟨n,rfl⟩:=lR g;exact aNx c d f hy (by simpa using J)
theorem qi{A:Option Addr}{n c sz:Nat}{i:Int}(d:P.underlying t=some (.slice e))(aj:∀w,(Go.sizeOf e).run P w= .ok sz w)
 (f:o.op= .indexAddr t x y)(b:a.eval x= .slice A n c)(hy:a.eval y= .int .i64 i)(g:A=some ⟨dD A,fP A,none⟩)(hi:0<=i/\i<n) :
 bh P o a w (.pointer (some ⟨dD A,fP A+i.toNat*sz,none⟩)) w:=by
 obtain⟨h,l⟩:=hi
 obtain⟨k,rfl⟩:=lR h
 have j:k<n:=by omega
 rw[g]at b
 simp only[bh,execOp,f,b,hy]
 simp[go_sem,Instr.indexAt,run_underlying d,j,aj,lm]
theorem Ss{cf:Array Field}{f:Field}{j b p sz:Nat}(d:P.underlying s=some (.struct cf))(ad:cf[j]? =some f)(aj:∀w,(Go.sizeOf f.type).run P w= .ok sz w)(g:cy sz 0=false)
 (h:o.op= .fieldAddr s x j)(i:a.eval x= .pointer (some ⟨b,p,none⟩)):bh P o a w (.pointer (some ⟨b,p+f.offset,none⟩)) w:=by
 have c:sz≠0:=by intro e;subst e;simp at g
 simp only[bh,execOp,h,i]
 simp[go_sem,Instr.fieldAt,run_underlying d,ad,fieldPlace,aj,c,lm]
theorem yh{b p:Nat}{v:Value}(c:∀w,(isAgg t).run P w= .ok false w)(d:o.op= .load t x)(f:a.eval x= .pointer (some ⟨b,p,none⟩))(hc:w.cell? ⟨b,p,none⟩=some v):bh P o a w v w:=by
 simp only[bh,execOp,d,f];simp[go_sem,Instr.loadAt,loadVar,c,hc]
theorem apB{b p sz:Nat}{cs:List Value}(c:∀w,(isAgg t).run P w= .ok true w)(aj:∀w,(Go.sizeOf t).run P w= .ok sz w)(d:cs.length=sz)(f:o.op= .load t x)
 (g:a.eval x= .pointer (some ⟨b,p,none⟩))(hc:fo w ⟨b,p,none⟩ cs):bh P o a w (.agg cs.toArray) w:=by
 have h:=run_loadCells_list (P:=P) w ⟨b,p,none⟩ cs (λ j u aA=>by rw[lm];exact hc j u aA)
 rw[d]at h
 unfold loadCells at h
 simp only[bh,execOp,f,g]
 simp[go_sem,Instr.loadAt,loadVar,c,aj,h]
theorem Sp{v:Value}{cs:List Value}(c:v.cells=cs.toArray)(d:o.op= .box t x)(f:a.eval x=v):bh P o a w (.pointer (some ⟨w.heap.size,0,none⟩)) (w.alloc (.cells cs.toArray t)):=by
 have b:=c;unfold Value.cells at b;simp only[bh,execOp,d,f];simp[go_sem,Instr.box,newVar,newRow,b]
theorem Bu{z:Value}{cs:List Value}(c:∀w,(zeroValue t).run P w= .ok z w)(d:z.cells=cs.toArray)(f:o.op= .alloc t):bh P o a w (.pointer (some ⟨w.heap.size,0,none⟩)) (w.alloc (.cells cs.toArray t)):=by
 have b:=d;unfold Value.cells at b;simp only[bh,execOp,f];simp[go_sem,Instr.alloc,newVar,newRow,c,b]
end
def lay:List Value->Nat->List Value->List Value
 |l,0,cs=>cs++l.drop cs.length
 |[],_+1,_=>[]
 |u::l,n+1,cs=>u::lay l n cs
theorem X5:∀(l:List Value)(n:Nat)(cs:List Value),n+cs.length<=l.length->lay l n cs=l.take n++cs++l.drop (n+cs.length)
 |l,0,cs,_=>by simp[lay]
 |[],n+1,cs,h=>by simp at h
 |u::l,n+1,cs,h=>by
  have:=X5 l n cs (by simp at h;omega);simp only[lay,this,kO,iE];have e:n+1+cs.length=(n+cs.length)+1:=by omega
  rw[e,List.drop_succ_cons]
section
variable{P:Program}{o:Oper}{a:Act}{w:World}{x y:Operand}{t e s:TypeId}
theorem ac9{g p sz:Nat}{tb:TypeId}{cs vs:List Value}{v:Value}(j:v.cells=vs.toArray)(aj:∀w,(Go.sizeOf t).run P w= .ok sz w)(l:cy vs.length sz=true)(m:vs.all (·.oneCell')=true)
 (c:jF (p+vs.length) cs.length=true)(ag:(bb.ck g tb cs).ok w)(n:o.op= .store t x y)(q:a.eval x= .pointer (some ⟨g,p,none⟩))(hy:a.eval y=v) :
 ∃w',rX P o a w w'/\br [g] w w'/\(bb.ck g tb (lay cs p vs)).ok w':=by
 have d:w.heap[g]? =some (.cells cs.toArray tb (0,0)):=ag
 have b:vs.length=sz:=bd l
 have f:p+vs.length<=cs.length:=cS c
 have h:=run_storeCells_at P g p tb vs 0 cs.toArray w d (by simpa using f) (λ u r=>k_.1 m u r)
 simp only[lf]at h
 refine⟨w.setRow g (lay cs p vs).toArray,?_,?_,?_⟩
 ·simp only[rX,execOp,n,q,hy]
  rw[X5 _ _ _ f]
  simp only[g_,b]at h
  have i:=j
  unfold Value.cells at i
  simp[go_sem,Instr.storeAt,storeVar,aj,i,b,h]
 ·refine⟨rfl,rfl,rfl,by simp[World.setRow],λ k _ z=>?_⟩
  simp only[World.setRow,ke]
  rw[if_neg (by simpa[eq_comm]using z)]
 ·show(w.setRow g _).heap[g]? =_
  simp[World.setRow,ke,d]
end
section
variable{P:Program}{o:Oper}{a:Act}{w:World}{x y:Operand}{t e:TypeId}
def ND(a:Act):List (Nat×Operand)->List (Nat×Value)->Prop
 |[],[]=>True
 |(i,x)::xs,(j,v)::vs=>(a.eval x=v/\i=j)/\ND a xs vs
 |_,_=>False
theorem UI:∀ {xs:List (Nat×Operand)}{vs:List (Nat×Value)},ND a xs vs->xs.map (λ p=>(p.1,a.eval p.2))=vs
 |[],[],_=>rfl
 |(i,x)::xs,(j,v)::vs,h=>by
  obtain⟨⟨b,rfl⟩,J⟩:=h;rw[eB,UI J,b]
def placesOf(P:Program)(t:TypeId):Sem (Array (Nat×Nat)):=(match P.underlying t with|some (.struct cf)=>cf |_=>#[]).mapM λ(f:Field)=>do pure (f.offset,<-Go.sizeOf f.type)
theorem aNl{z:Value}{cf:Array Field}{pl:Array (Nat×Nat)}{xs:List (Nat×Operand)}{vs:List (Nat×Value)}{cs:List Value}(d:∀w,(zeroValue t).run P w= .ok z w)(b:P.underlying t=some (.struct cf))
 (f:∀w,(placesOf P t).run P w= .ok pl w)(g:o.op= .build t xs.toArray)(h:ND a xs vs)(j:Instr.fill (λ i=>pl[i]?) z.cells vs=some cs.toArray):bh P o a w (.agg cs.toArray) w:=by
 have c:=f w
 simp only[placesOf,b]at c
 have k:=UI h
 simp only[bh,execOp,g,Instr.build,Sem.run_bind,d,Result.andThen_ok,run_underlying b,c,hK]
 have e:(xs.map λ(i,x)=>(i,a.eval x))=vs:=k
 simp only[e,j]
 rfl
theorem ES{z:Value}{sz n:Nat}{xs:List (Nat×Operand)}{vs:List (Nat×Value)}{cs:List Value}(d:P.underlying t=some (.slice e))(aj:∀w,(Go.sizeOf e).run P w= .ok sz w)(f:∀w,(zeroValue e).run P w= .ok z w)
 (b:jF (n*sz) 16777216=true)(c:cy (n*sz) 0=false)(g:o.op= .buildSlice t n xs.toArray)(h:ND a xs vs)
 (j:Instr.fill (λ i=>some (i*sz,sz)) ((Array.range (n*sz)).map (z.cells[·%z.cells.size]!)) vs=some cs.toArray) :
 bh P o a w (.slice (some ⟨w.heap.size,0,none⟩) n n) (w.alloc (.cells cs.toArray e)):=by
 have k:=UI h
 have l:(xs.map λ(i,x)=>(i,a.eval x))=vs:=k
 have J: ¬(n*sz>2^24):=by have:=cS b;omega
 have m:n*sz≠0:=by intro p;rw[p]at c;simp at c
 simp only[bh,execOp,g,Instr.buildSlice,Sem.run_bind,Sem.run_pure,aj,f,Result.andThen_ok,run_underlying d,hK,l,if_neg J,if_neg m,j]
 rfl
theorem aNI{t':TypeId}{m n:Int}(b:o.op= .binOp .or t x y t')(c:a.eval x= .int .i64 m)(hy:a.eval y= .int .i64 n):bh P o a w (.int .i64 (YW m n)) w:=by
 unfold YW;rw[<-xX];simp only[bh,execOp,b,c,hy];rfl
theorem aNj{t':TypeId}{m n:Int}(b:o.op= .binOp .and t x y t')(c:a.eval x= .int .i64 m)(hy:a.eval y= .int .i64 n):bh P o a w (.int .i64 (Tz m n)) w:=by
 unfold Tz;rw[<-xX];simp only[bh,execOp,b,c,hy];rfl
theorem apC{fn:Fn}{xs:List Operand}{vs:List Value}(b:o.op= .makeFunc fn #[] xs.toArray)(c:xs.map a.eval=vs):bh P o a w (.func fn #[] vs.toArray) w:=by
 simp only[bh,execOp,b,Instr.makeFunc,hK,c];rfl
end
end ay
namespace ay
open Go Go.RowKit I
section
variable{P:Program}{ops:Array Oper}{Q:Exit->Act->World->Prop}{a:Act}{w w':World}{rest:List Oper}{o:Oper}{n:cE}{d:Nat}{l:List (Nat×Value)}{v:Value}
theorem Q'(b:o.guard=none):Region.wanted o (yielded ops a.tmps)=true:=by simp[Region.wanted,b]
theorem fS(c:Region.wanted o (yielded ops a.tmps)=true)(hy:bh P o a w v w')(ad:Fr n l a)(aL:o.dst=some d)(e:fs d n=true)(k:∀b,Fr n ((d,v)::l) b->wpList P ops Q rest b w'):wpList P ops Q (o::rest) a w:=by
 refine wpList_step λ K b8=>?_;rw[if_pos c];unfold Oper.wp;rw[show(execOp a.eval o).run P w=_ from hy];show K (a.put o.dst v) w'
 rw[aL];exact b8 _ _ (k _ (ad.put e))
theorem jA(b:Region.wanted o (yielded ops a.tmps)=true)(hy:rX P o a w w')(aL:o.dst=none)(k:wpList P ops Q rest a w'):wpList P ops Q (o::rest) a w:=by
 refine wpList_step λ K b8=>?_;rw[if_pos b];unfold Oper.wp;rw[show(execOp a.eval o).run P w=_ from hy];show K (a.put o.dst undef) w'
 rw[aL];exact b8 _ _ k
theorem aJ9{j bC:Nat}{b:Bool}(ad:Fr n l a)(c:o.guard=some (j,b))(aA:(ops[j]?).bind (·.dst)=some bC)(e:ev l bC=some (.bool b))(f:fs bC n=true):Region.wanted o (yielded ops a.tmps)=true:=by
 have g:bC<n:=cS f;have h:=ad.get bC _ e;have aj:=ad.size;have J:a.tmps[bC]? =some (.bool b):=by
  rw[jJ (by omega)];simpa[e0,aj,g]using h
 simp[Region.wanted,c,yielded,aA,J]
theorem aJ8{j bC:Nat}{b c:Bool}(ad:Fr n l a)(e:o.guard=some (j,b))(aA:(ops[j]?).bind (·.dst)=some bC)(f:ev l bC=some (.bool c))(g:(c==b)=false)(i:fs bC n=true):Region.wanted o (yielded ops a.tmps)=false:=by
 have k:bC<n:=cS i;have h:=ad.get bC _ f;have aj:=ad.size;have J:a.tmps[bC]? =some (.bool c):=by
  rw[jJ (by omega)];simpa[e0,aj,k]using h
 simpa[Region.wanted,e,yielded,aA,J]using g
theorem aJ_{j bC:Nat}{b:Bool}(ad:Fr n l a)(c:o.guard=some (j,b))(aA:(ops[j]?).bind (·.dst)=some bC)(e:ev l bC=some undef)(f:fs bC n=true):Region.wanted o (yielded ops a.tmps)=false:=by
 have g:bC<n:=cS f;have h:=ad.get bC _ e;have aj:=ad.size;have J:a.tmps[bC]? =some undef:=by
  rw[jJ (by omega)];simpa[e0,aj,g]using h
 simp[Region.wanted,c,yielded,aA,J,undef]
theorem ss(c:Region.wanted o (yielded ops a.tmps)=false)(ad:Fr n l a)(aL:o.dst=some d)(e:fs d n=true)(k:∀b,Fr n ((d,undef)::l) b->wpList P ops Q rest b w):wpList P ops Q (o::rest) a w:=by
 refine wpList_step λ K b8=>?_;rw[if_neg (by simp[c]),aL];exact b8 _ _ (k _ (ad.put e))
def za(a:Act):List Operand->List Value->Prop
 |[],[]=>True
 |x::xs,v::vs=>a.eval x=v/\za a xs vs
 |_,_=>False
theorem NF:∀ {xs:List Operand}{vs:List Value},za a xs vs->xs.map a.eval=vs
 |[],[],_=>rfl
 |x::xs,v::vs,h=>by rw[eB,h.1,NF h.2]
theorem aKi{f:FuncId}{xs:List Operand}{kP:Array TypeId}{vs:List Value}{R:Ending->World->Prop}{K:Act->World->Prop}
 (b:o.op= .call { callee:=.value (.func f),args:=xs.toArray,argTypes:=kP })(c:∀args w,(callFunc f args).run P w= .ok (.enter f args) w)
 (g:za a xs vs)(hc:Calls P f vs.toArray w R)(k:∀e w',R e w'-> ∃v,e= .returned v/\K (a.put o.dst v) w'):o.wp P a w K Q:=by
 unfold Oper.wp
 have e:(execOp a.eval o).run P w= .ok (.enter f vs.toArray) w:=by
  have h:=NF g;simp only[execOp,b,resolve,hK,h];simp[go_sem,Act.eval,Deferred.ofValue,invoke,c]
 rw[e]
 exact hc.mono λ e w' i=>by
  obtain⟨v,rfl,j⟩:=k e w' i;exact j
theorem Lh{f:FuncId}{xs:List Operand}{kP:Array TypeId}{vs:List Value}{R:Ending->World->Prop}(c:Region.wanted o (yielded ops a.tmps)=true)
 (g:o.op= .call { callee:=.value (.func f),args:=xs.toArray,argTypes:=kP })(h:∀args w,(callFunc f args).run P w= .ok (.enter f args) w)
 (i:za a xs vs)(hc:Calls P f vs.toArray w R)(ad:Fr n l a)(aL:o.dst=some d)(j:fs d n=true)
 (k:∀e w',R e w'-> ∃v,e= .returned v/\ ∀b,Fr n ((d,v)::l) b->wpList P ops Q rest b w'):wpList P ops Q (o::rest) a w:=by
 refine wpList_step λ K b8=>?_
 rw[if_pos c]
 refine aKi g h i hc λ e w' m=>?_
 obtain⟨v,p,q⟩:=k e w' m
 rw[aL]
 exact⟨v,p,b8 _ _ (q _ (ad.put j))⟩
end
section
variable{P:Program}{ops:Array Oper}{Q:Exit->Act->World->Prop}{a:Act}{w w':World}{rest:List Oper}{o:Oper}{n:cE}{d:Nat}{l:List (Nat×Value)}{v:Value}
theorem aIE{f:FuncId}{b:Operand}{xs:List Operand}{kP:Array TypeId}{vs cs:List Value}
 (c:o.op= .call { callee:=.value b,args:=xs.toArray,argTypes:=kP })(e:∀args w,(callFunc f args).run P w= .ok (.enter f args) w)(g:a.eval b= .func (.func f) #[] cs.toArray)
 (h:za a xs vs):(execOp a.eval o).run P w= .ok (.enter f (vs++cs).toArray) w:=by
 have i:=NF h
 simp only[execOp,c,resolve,hK,i,g]
 simp[Deferred.ofValue,invoke,e]
theorem aaN{f:FuncId}{b:Operand}{xs:List Operand}{kP:Array TypeId}{vs cs:List Value}{R:Ending->World->Prop}(g:Region.wanted o (yielded ops a.tmps)=true)
 (h:o.op= .call { callee:=.value b,args:=xs.toArray,argTypes:=kP })(i:∀args w,(callFunc f args).run P w= .ok (.enter f args) w)(j:a.eval b= .func (.func f) #[] cs.toArray)
 (m:za a xs vs)(hc:Calls P f (vs++cs).toArray w R)(ad:Fr n l a)(aL:o.dst=some d)(p:fs d n=true)
 (k:∀e w',R e w'-> ∃v,e= .returned v/\ ∀c,Fr n ((d,v)::l) c->wpList P ops Q rest c w'):wpList P ops Q (o::rest) a w:=by
 refine wpList_step λ K b8=>?_
 rw[if_pos g]
 unfold Oper.wp
 rw[aIE h i j m]
 refine hc.mono λ e w' q=>?_
 obtain⟨v,rfl,r⟩:=k e w' q
 rw[aL]
 exact b8 _ _ (r _ (ad.put p))
end
section
variable{P:Program}{Q:Exit->Act->World->Prop}{a:Act}{w:World}
theorem TJ{c:Code}(b:Nat->Act->World->Prop)(k:Nat)(h:b k a w)(e:∀a w,¬b 0 a w)
 (round:∀k a w,b (k+1) a w-> ∀K:Act->World->Prop,(∀a w,b k a w->K a w)->c.wp P (Exit.then K Q) a w):(Code.loop c).wp P Q a w:=
 wp_loop_ghost b k h λ m a w d=>by
  cases m with
  |zero=>exact absurd d (e a w)
  |succ m=>exact round m a w d _ λ f w' h'=>⟨m,l4 m,h'⟩
theorem aHr{fn:Func}{R:Ending->World->Prop}{n:Nat}{l:List (Nat×Value)}(b:fn.results= #[])(ad:Fr ⟨n,[]⟩ l a)(h:R (.returned (.tuple #[])) w):bodyPost P fn R .ret a w:=
 ⟨ad.defers,_,results_none b _ _ _,h⟩
theorem Av{fn:Func}{R:Ending->World->Prop}{n:Nat}{t:Nat}{l:List (Nat×Value)}{v:Value}(b:fn.results= #[.tmp t])(ad:Fr ⟨n,[]⟩ l a)(c:ev l t=some v)(h:R (.returned v) w):bodyPost P fn R .ret a w:=
 ⟨ad.defers,_,results_tmp b _ _ _,by rw[ad.get _ _ c];exact h⟩
def aax(P:Program)(a:Act)(w:World):ResultVar->Value->Prop
 | .tmp t,v=>a.tmps.getD t undef=v
 | .cell en ty,v=>∃b p,a.tmps.getD en undef= .pointer (some ⟨b,p,none⟩)/\
  ((∃cs:List Value,(∀w,(isAgg ty).run P w= .ok true w)/\(∀w,(Go.sizeOf ty).run P w= .ok cs.length w)/\fo w ⟨b,p,none⟩ cs/\v= .agg cs.toArray)\/
   ((∀w,(isAgg ty).run P w= .ok false w)/\w.cell? ⟨b,p,none⟩=some v))
def Qw(P:Program)(a:Act)(w:World):List ResultVar->List Value->Prop
 |[],[]=>True
 |r::rs,v::vs=>aax P a w r v/\Qw P a w rs vs
 |_,_=>False
def pack:List Value->Value
 |[v]=>v
 |vs=>.tuple vs.toArray
def Qv(a:Act):ResultVar->Sem Value
 | .tmp t=>pure (a.tmps.getD t undef)
 | .cell en t=>do loadVar t (<-asAddr (a.tmps.getD en undef))
theorem aIJ{r:ResultVar}{v:Value}(h:aax P a w r v):(Qv a r).run P w= .ok v w:=by
 cases r with
 |tmp t=>exact congrArg (λ x=>Result.ok x w) h
 |cell en ty=>
  obtain⟨b,p,e,J⟩:=h
  simp only[Qv,e]
  rcases J with⟨cs,c,aj,hc,rfl⟩|⟨c,hc⟩
  ·have d:=run_loadCells_list (P:=P) w ⟨b,p,none⟩ cs (λ j u aA=>by rw[lm];exact hc j u aA)
   unfold loadCells at d
   simp[go_sem,loadVar,asAddr,c,aj,d]
  ·simp[go_sem,loadVar,asAddr,c,hc]
theorem alO:∀ {rs:List ResultVar}{vs:List Value},Qw P a w rs vs->(rs.mapM (Qv a)).run P w= .ok vs w
 |[],[],_=>rfl
 |r::rs,v::vs,h=>by
  have b:=aIJ h.1;have J:=alO h.2;rw[List.mapM_cons];simp only[Sem.run_bind,b,J,Result.andThen_ok];rfl
theorem aHp{fn:Func}{R:Ending->World->Prop}{n:Nat}{l:List (Nat×Value)}{rs:List ResultVar}{vs:List Value}(b:fn.results=rs.toArray)(ad:Fr ⟨n,[]⟩ l a)(c:Qw P a w rs vs)
 (h:R (.returned (pack vs)) w):bodyPost P fn R .ret a w:=by
 refine⟨ad.defers,pack vs,?_,h⟩
 have d:=alO c
 unfold results
 have e:(λ x=>match x with| .tmp t=>pure (a.tmps.getD t undef)| .cell en t=>do loadVar t (<-asAddr (a.tmps.getD en undef)):ResultVar->Sem Value)=Qv a:=by
  funext x;cases x<;>rfl
 rw[b,List.mapM_toArray]
 simp only[Sem.run_bind]
 show Result.andThen (((List.toArray <$> rs.mapM (λ x=>match x with| .tmp t=>pure (a.tmps.getD t undef)| .cell en t=>do loadVar t (<-asAddr (a.tmps.getD en undef)):ResultVar->Sem Value))).run P w) _=_
 rw[e,map_eq_pure_bind,Sem.run_bind,d]
 match vs with
 |[]=>rfl
 |[v]=>rfl
 |v::u::r=>rfl
end
section
variable{P:Program}{ops:Array Oper}{Q:Exit->Act->World->Prop}{a:Act}{w:World}{rest:List Oper}{o:Oper}{n:cE}{d:Nat}{l:List (Nat×Value)}
 {W:World}{M0 X:List Nat}{E:List bb}{D:List bF}
theorem bz.new(c:bz W M0 X w E D)(t:TypeId)(cs:List Value):bz W M0 X (w.alloc (.cells cs.toArray t)) (bb.ck w.heap.size t cs::E) D:=
 c.push _ (br.alloc _ _ _) (aun w t cs) (λ k b=>by simp[bb.ck]at b;subst b;exact⟨cT _,by simp⟩) (by simp[bb.ck])
theorem xQ{g p sz:Nat}{t tb:TypeId}{x y:Operand}{cs vs:List Value}{v:Value}(i:Nat)(e:bz W M0 X w E D)(hi:E[i]? =some (bb.ck g tb cs))(f:Region.wanted o (yielded ops a.tmps)=true)
 (h:v.cells=vs.toArray)(aj:∀w,(Go.sizeOf t).run P w= .ok sz w)(j:cy vs.length sz=true)(b:vs.all (·.oneCell')=true)(c:jF (p+vs.length) cs.length=true)
 (m:o.op= .store t x y)(q:a.eval x= .pointer (some ⟨g,p,none⟩))(hy:a.eval y=v)(aL:o.dst=none)
 (k:∀w',bz W M0 X w' (E.set i (bb.ck g tb (lay cs p vs))) D->wpList P ops Q rest a w'):wpList P ops Q (o::rest) a w:=by
 obtain⟨w',b,J,r⟩:=ac9 h aj j b c (e.e i hi) m q hy
 exact jA f b aL (k w' (e.Q0 i hi J r (by simp[bb.ck]) (λ k s=>.inl s)))
theorem bz.KF{α:Type}(b:bz W M0 X w E D)(e:TypeId)(size:Nat):bz W M0 X w (bb.row e size (.slice none 0 0) ([]:List α) []::E) D:=
 b.push _ (br.refl _ _) (World.ownsRow_nil w 0 e size) (λ k c=>by simp[bb.row,Value.ownBlock]at c) (by simp[bb.row,Value.ownBlock])
theorem aFp(o:Option Nat):o.toList.Nodup:=by cases o<;>simp
theorem aio{e:TypeId}{z:Value}{sz bytes:Nat}(h:(P.info? e).map (λ i=>(i.zero,i.size,i.bytes))=some (some z,sz,bytes)):∃i,P.info? e=some i/\i.zero=some z/\i.size=sz/\i.bytes=bytes:=by
 cases hi:P.info? e with
 |none=>rw[hi]at h;cases h
 |some i=>
  rw[hi]at h
  simp only[fU,aH,cF]at h
  exact⟨i,rfl,h.1,h.2.1,h.2.2⟩
end
end ay
namespace ay
open Go Go.RowKit I
section
variable{P:Program}{ops:Array Oper}{C:World->Prop}{o9:Act->Prop}{a:Act}{w:World}{rest:List Oper}{o:Oper}{n:cE}{d:Nat}{l:List (Nat×Value)}{v:Value}
theorem q'(c:Region.wanted o (yielded ops a.tmps)=true)(hy:∀w,C w->bh P o a w v w)(ad:Fr n l a)(aL:o.dst=some d)(e:fs d n=true)(k:∀b,Fr n ((d,v)::l) b->wpQuiet P ops C o9 rest b):wpQuiet P ops C o9 (o::rest) a:=by
 unfold wpQuiet;rw[if_pos c];refine⟨v,λ w hc=>?_,?_⟩
 ·unfold Oper.quietAt
  rw[show(execOp a.eval o).run P w=_ from hy w hc]
  exact⟨rfl,rfl⟩
 ·rw[aL];exact k _ (ad.put e)
theorem qs(c:Region.wanted o (yielded ops a.tmps)=false)(ad:Fr n l a)(aL:o.dst=some d)(e:fs d n=true)(k:∀b,Fr n ((d,undef)::l) b->wpQuiet P ops C o9 rest b):wpQuiet P ops C o9 (o::rest) a:=by
 unfold wpQuiet;rw[if_neg (by simp[c]),aL];exact k _ (ad.put e)
theorem auW{id:Nat}{Q:Exit->Act->World->Prop}{l:List Oper}(b:P.follows .mixedOrders=true)(c:Region.lexB .any l.toArray=true)
 (h:wpQuiet P l.toArray (λ w'=>br [] w w') (λ a=>∀w',br [] w w'->Q .normal a w') l a):(Code.region id l.toArray true).wp P Q a w:=
 wp_region_quiet (C:=λ w'=>br [] w w') b c (br.drew [] w) (by
  refine Eq.mp ?_ h;rw[List.toList_toArray])|>λ h=>wp_mono h (λ e a w q=>q)
end
theorem axv{w w':World}{p:Addr}{v:Value}(h:br [] w w')(hc:w.cell? p=some v):w'.cell? p=some v:=
 (World.cell?_of_block (h.block p.block (World.block_lt_of_cell? w p hc) (by simp))).trans hc
theorem FL{w w':World}{p:Addr}{cs:List Value}(h:br [] w w')(hc:fo w p cs):fo w' p cs:=λ j u aA=>axv h (hc j u aA)
section
variable{P:Program}{Q:Exit->Act->World->Prop}{K:Act->World->Prop}{a:Act}{w:World}
theorem tx{i:Nat}(h:Q (.exit i) a w):Exit.then K Q (.exit i) a w:=h
theorem HX{i:Nat}(h:Q .normal a w):Exit.inBlock i Q (.exit i) a w:=by simpa[Exit.inBlock]using h
theorem Sf(h:Q .ret a w):Exit.then K Q .ret a w:=h
theorem app{i:Nat}(h:Q .ret a w):Exit.inBlock i Q .ret a w:=h
theorem M_{id:Nat}{c:Code}(b:Act->World->Prop)(d:∀K:Act->World->Prop,(∀a w,b a w->K a w)->c.wp P (Exit.inBlock id (Exit.then K Q)) a w)(hy:∀a w,b a w->Q .normal a w):(Code.block id c).wp P Q a w:=by
 refine wp_block (wp_mono (d _ hy) ?_);intro e a w h;cases e with
 |exit i=>
  by_cases hi:i=id
  ·simpa[Exit.inBlock,Exit.then,hi]using h
  ·simpa[Exit.inBlock,Exit.then,hi]using h
 |_=>exact h
theorem pj{id:Nat}{l:List Oper}(h:wpList P l.toArray Q l a w):(Code.region id l.toArray false).wp P Q a w:=wp_region_lit h
end
section
variable{W w:World}{M0 X:List Nat}{E:List bb}{D:List bF}
def P4(D:List bF):List bF->Prop
 |[]=>True
 |y::r=>(∃i:Nat,D[i]? =some y)/\P4 D r
theorem akE{D:List bF}:∀ {a:List bF},P4 D a-> ∀y∈a,y∈D
 |[],_,y,hy=>by simp at hy
 |z::r,h,y,hy=>by
  rcases cI.1 hy with rfl |e
  ·obtain⟨i,hi⟩:=h.1;exact bG hi
  ·exact akE h.2 y e
theorem bz.pick(h:bz W M0 X w E D){a:List bF}(aj:P4 D a):bz W M0 X w E a:=h.less (akE aj)
theorem bz.agk(h:bz W [] X w E D):br [] W w:=h.bY
theorem bz.Nt(h:bz W M0 X w E D)(i:Nat):bz W M0 X w (E.eraseIdx i) D:=h.drop (List.eraseIdx_sublist E i)
theorem bz.freeze{α:Type}{T:dj α}{e:TypeId}{A:Option Addr}{n c:Nat}{l:List α}{xs:List Value}(h:bz W M0 X w E D)(i j:Nat)(hi:E[i]? =some (bb.row e T.size (.slice A n c) l xs))(aA:D[j]? =some (bF.rows T xs l)) :
 bz W M0 X w (E.eraseIdx i) (bF.of (b5 T) [.slice A n c] l::D):=by
 have b:=h.Nt i
 refine b.more (aIm (h.e i hi) (b.d j aA) ?_)
 intro k a d
 rcases cj.1 d with ai |ai
 ·have f:=h.hW k ai
  rcases(h.lt k (hM.2 ⟨_,bG hi,a⟩)).2 with ao |ao
  ·exact f.2 ao
  ·omega
 ·obtain⟨m,g⟩:=aP.1 hi
  have a7:E=E.take i++E[i]::E.drop (i+1):=by simp
  have aL:=h.bC
  rw[a7,g]at aL
  have ao:bZ (E.take i++bb.row e T.size (.slice A n c) l xs::E.drop (i+1))=bZ (E.take i)++((bb.row e T.size (.slice A n c) l xs).bE++bZ (E.drop (i+1))):=by simp[bZ]
  rw[ao,fA,fA]at aL
  rw[List.eraseIdx_eq_take_drop_succ]at ai
  rcases cj.1 (by simpa[bZ]using ai:k∈bZ (E.take i)++bZ (E.drop (i+1)))with aT |aT
  ·exact aL.2.2 k aT k (cj.2 (.inl a)) rfl
  ·exact aL.2.1.2.2 k a k aT rfl
theorem bz.agK{g:Nat}{t:TypeId}{cs:List Value}(h:bz W M0 X w E D)(i:Nat)(hi:E[i]? =some (bb.ck g t cs)):bz W M0 X w (E.eraseIdx i) (bF.jm g cs::D):=by
 have b:=h.Nt i;refine b.more ⟨?_,IC (h.e i hi),λ j u aA=>?_⟩
 ·intro c
  have a:g∈(bb.ck g t cs).bE:=by simp[bb.ck]
  rcases cj.1 c with ai |ai
  ·have d:=h.hW g ai
   rcases(h.lt g (hM.2 ⟨_,bG hi,a⟩)).2 with ao |ao
   ·exact d.2 ao
   ·omega
  ·obtain⟨f,e⟩:=aP.1 hi
   have a7:E=E.take i++E[i]::E.drop (i+1):=by simp
   have aL:=h.bC
   rw[a7,e]at aL
   have ao:bZ (E.take i++bb.ck g t cs::E.drop (i+1))=bZ (E.take i)++((bb.ck g t cs).bE++bZ (E.drop (i+1))):=by simp[bZ]
   rw[ao,fA,fA]at aL
   rw[List.eraseIdx_eq_take_drop_succ]at ai
   rcases cj.1 (by simpa[bZ]using ai:g∈bZ (E.take i)++bZ (E.drop (i+1)))with aT |aT
   ·exact aL.2.2 g aT g (cj.2 (.inl a)) rfl
   ·exact aL.2.1.2.2 g a g aT rfl
 ·have:=yZ (h.e i hi) aA
  simpa using this
end
end ay
namespace ay
open Go Go.RowKit I
def dV(n:Nat):List Nat->Array Bool
 |[]=>Array.replicate n false
 |i::d=>(dV n d).setIfInBounds i true
def E_(K:Act->World->Prop)(Q:Exit->Act->World->Prop):Exit->Act->World->Prop
 | .normal,a,w=>K a w
 |e,a,w=>Q e a w
section
variable{P:Program}{ops:Array Oper}{Q:Exit->Act->World->Prop}{a:Act}{w:World}{o:Oper}{n:cE}{f d i:Nat}{ds:List Nat}{l:List (Nat×Value)}{v:Value}
def QS(ops:Array Oper)(ds:List Nat)(i:Nat):Bool:=Region.noSelect ops&&Region.free .any ops (dV ops.size ds) i&&(Region.ready .any ops (dV ops.size ds)).contains i
theorem aKh{K:Act->World->Prop}{Q:Exit->Act->World->Prop}(h:o.wp P a w K (E_ K Q)):o.wp P a w K Q:=by
 unfold Oper.wp at *;generalize(execOp a.eval o).run P w=r at *;cases r with
 |ok n w'=>
  cases n<;>simp only[Oper.upon]at h⊢ <;>
   first
    |exact h
    |exact Calls.mono h (λ e w'' b=>by cases e<;>first |exact b |exact b)
 |halt x w'=>cases x<;>simp only[Oper.upon]at h⊢ <;>exact h
theorem abw{K:Act->World->Prop}(hi:ops[i]? =some o)(h:wpList P ops (E_ K (NoPanic Q)) [o] a w):wpOp P ops (NoPanic Q) i K a w:=by
 unfold wpOp;simp only[hi];unfold wpList at h;split at h
 ·rename_i b
  rw[if_pos b]
  rcases h with h |⟨c,J⟩
  ·exact .inl (aKh h)
  ·exact .inr ⟨c,J.elim λ a h=>h.elim λ w h=>⟨a,w,h⟩⟩
 ·rename_i b
  rw[if_neg b]
  exact h
end
section
variable{P:Program}{o:Oper}{a:Act}{w:World}{t t':TypeId}{x y:Operand}{cf:Array Go.Field}{xs ys:Array Value}{b:Bool}
theorem Sr(c:P.underlying t=some (.struct cf))(d:P.stoodInHeld t=false)(e:P.eqGuardType P.depth t=false)
 (f:(Op.eqFields 9999 xs ys cf.toList).run P w= .ok b w)(g:o.op= .binOp .eql t x y t')(i:a.eval x= .agg xs)(hy:a.eval y= .agg ys):bh P o a w (.bool b) w:=by
 have ad:P.fieldsOf t=cf:=by simp[Program.fieldsOf,c]
 have h:=run_equalIn_struct (P:=P) w 9999 t xs ys (by rw[ad];exact c) d
 rw[ad,f]at h
 have h:(Op.equalIn 10000 t (Value.agg xs) (Value.agg ys)).run P w= .ok b w:=h
 simp only[bh,execOp,g,i,hy]
 simp[go_sem,Op.equal,Op.maxDepth,h,run_eqGuard_agg w _ _ _ _ _ _ e]
theorem St(c:P.underlying t=some (.struct cf))(d:P.stoodInHeld t=false)(e:P.eqGuardType P.depth t=false)
 (f:(Op.eqFields 9999 xs ys cf.toList).run P w= .ok b w)(g:o.op= .binOp .neq t x y t')(i:a.eval x= .agg xs)(hy:a.eval y= .agg ys):bh P o a w (.bool (!b)) w:=by
 have ad:P.fieldsOf t=cf:=by simp[Program.fieldsOf,c]
 have h:=run_equalIn_struct (P:=P) w 9999 t xs ys (by rw[ad];exact c) d
 rw[ad,f]at h
 have h:(Op.equalIn 10000 t (Value.agg xs) (Value.agg ys)).run P w= .ok b w:=h
 simp only[bh,execOp,g,i,hy]
 simp[go_sem,Op.equal,Op.maxDepth,h,run_eqGuard_agg w _ _ _ _ _ _ e]
theorem tW{d:Nat}:(Op.eqFields d xs ys []).run P w= .ok true w:=rfl
theorem n'{d:Nat}{f:Go.Field}{l:List Go.Field}{k:IntKind}{m n:Int}{e:Prop} [Decidable e](g:(f.name != "_")=true)(i:P.underlying f.type=some (.int k))(j:∀w,(isAgg f.type).run P w= .ok false w)
 (p:xs[f.offset]? =some (.int k m))(hy:ys[f.offset]? =some (.int k n))(h:(Op.eqFields (d+1) xs ys l).run P w= .ok (decide e) w):(Op.eqFields (d+1) xs ys (f::l)).run P w= .ok (decide (m=n/\e)) w:=by
 have q:f.name≠ "_" :=by simpa using g
 simp only[Op.eqFields,q,if_true,ne_eq,not_false_iff,part,Sem.run_bind,j,Result.andThen_ok,p,hy,hX,if_false,Sem.run_pure,run_equalIn_int w d f.type k k m n i]
 by_cases c:m=n
 ·subst c;simp[h]
 ·simp[c,show(m==n)=false from by simpa using c]
end
end ay
namespace ay
open Go Go.RowKit Go.ChangeShapes Go.WideShapes Go.Deep I
section
variable{H:Type}{enc:TypeId×Value->H}{P:Program}
theorem aex(e:laidOutB P=true){W cu:World}{hI:Nat->Bool}:∀ {b:List TypeId}{vs:List Value}{ds:List (DataW H)}{ps:List MemPlace},DataW.TrodAll enc P W 0 (λ _=>true) true b vs ds ps ->
 (b.all λ t=>P.readableRec t&&fs t P.types.size)=true->(∀p∈ps,W.sameAt cu p)->(∀p∈ps,hI p.block=true)->DataW.TrodAll enc P cu 0 hI true b vs ds ps
 |[],vs,ds,ps,h,_,_,_=>by obtain⟨rfl,rfl,rfl⟩:=trodAll_nil h;exact trodAll_mk0
 |t::b,vs,ds,ps,h,c,aj,f=>by
  obtain⟨v,k,d,g,p,q,rfl,rfl,rfl,i,j⟩:=trodAll_cons h;simp only[List.all_cons,cb]at c
  exact trodAll_cons_mk (WideElems.Trod_stays e c.1.1 (cS c.1.2) i (λ x a=>aj x (gi _ a)) (λ x a=>f x (gi _ a)))
   (aex e j c.2 (λ x a=>aj x (gI _ a)) (λ x a=>f x (gI _ a)))
theorem aFG{f:Func}{s:ChangeSpec}{W cu:World}{args:Array Value}{ds gs:List (DataW H)}{before:List MemPlace}{tb:TypeId}
 (e:DataW.Whole enc P f.params.toList s.vars false W args.toList ds gs before)(w:laidOutB P=true)(y:(f.params.toList.all λ t=>P.readableRec t&&fs t P.types.size)=true)
 (l:s.vars=[])(g:s.fn H ds= { results:=[.lit (.bool true)],args:=ds })(ag:P.underlying tb=some .bool)(c:f.resultTypes= #[tb])(z:br [] W cu) :
 s.post enc P f false true false false W args (.bool true) cu:=by
 have h:=z.below
 have i:∀p∈before,p.block<W.heap.size:=λ p j=>e.lt p j
 have k:=e
 obtain⟨p,q,A,m,n,B,C⟩:=e
 rw[l]at m
 obtain⟨rfl,rfl⟩:=trodVars_none m
 simp only[hR]at n
 subst n
 have d:∀x∈before,(λ b=>decide (b<W.heap.size)) x.block=true:=λ x a=>by simpa using i x a
 have o:∀hI:Nat->Bool,(∀x∈before,hI x.block=true)->DataW.TrodAll enc P cu 0 hI true f.params.toList args.toList ds before:=
  λ hI C8=>aex w A y (λ x a=>h.same (i x a)) C8
 have r:∀(b:Nat)(hI:Nat->Bool)(aL:Bool),DataW.TrodAll enc P cu b hI aL f.resultTypes.toList ((Value.bool true).resultList f.resultTypes.size) [.lit (.bool true)] []:=λ b hI aL=>by
  rw[c];exact trodAll_cons_mk (p:=[]) (shut_bool ag true) trodAll_mk0
 have u:∀hI:Nat->Bool,DataW.TrodVars enc P cu hI s.vars [] []:=λ hI=>by rw[l];rfl
 refine⟨ds,[],before,[],before,[],k,?_,?_,?_,World.keptBut_mono (λ x a=>⟨a,Or.inr (by simpa using a)⟩) (h.frame (·∈before)),λ _=>?_⟩
 ·simp only[hR,g];exact r _ _ _
 ·simp only[hR,g];exact o _ d
 ·simp only[hR,g];exact u _
 ·refine⟨ok_one c rfl (okWide_bool_mk ag true),_,_,([]++before)++[],⟨[]++before,[],trodAll_append (o (λ _=>true) (λ _ _=>rfl)) (r _ _ _),u _,rfl,?_,?_⟩,?_⟩
  ·intro b off j
   have v:MemPlace.cell b off∈before:=by simpa using j
   rw[h.frozen (i _ v)]
   exact B b off v
  ·intro D;simpa using C D
  ·intro x a _;simpa using a
theorem alN{α:Type}{T:dj α}{F:Nat->Prop}{W:World}{b o:Nat}{R:α->Prop}:∀m:Nat,(∀i,i<m-> ∃cs d,fo W ⟨b,o+i*T.size,none⟩ cs/\T.rd F W cs d/\R d) ->
 ∃(l:List α)(xs:List Value),l.length=m/\dM T F W xs l/\fo W ⟨b,o,none⟩ xs/\ ∀d∈l,R d
 |0,_=>⟨[],[],rfl,rfl,λ j u aA=>by simp at aA,λ d aL=>by cases aL⟩
 |m+1,h=>by
  obtain⟨l,xs,a,J,f,g⟩:=alN m (λ i hi=>h i (by omega));obtain⟨cs,d,c1,c2,c3⟩:=h m (by omega);refine⟨l++[d],xs++cs,by simp[a],alm (T:=T) c2 J,λ j u aA=>?_,λ e k=>?_⟩
  ·have c:=xK (T:=T) J
   rcases gL j xs.length with n |Ol
   ·exact f j u (by simpa[np,n]using aA)
   ·rw[fq Ol]at aA
    have:=c1 (j-xs.length) u aA
    rw[c,a]at this
    rw[show o+j=o+m*T.size+(j-m*T.size) by rw[c,a]at Ol;omega]
    simpa using this
  ·rcases cj.1 k with ai |ai
   ·exact g e ai
   ·simp at ai;subst ai;exact c3
end
end ay
namespace ay
open Go Go.RowKit Go.ChangeShapes Go.WideShapes Go.Deep I
def hP{H:Type}(P:Program)(enc:TypeId×Value->H)(N:Nat)(t:TypeId){α:Type}(T:dj α)(R:α->Prop):Prop:=
 ∀(W:World)(n:Nat)(cs:List Value)(x:DataW H×List MemPlace),DataW.trod enc P W 0 (λ _=>true) true n t cs=some x->(∀p∈x.2,p.block<W.heap.size)->(∀m∈x.1.weights P t,m<=N)-> ∃d,T.rd (im [] W) W cs d/\R d
def jQ(n:Int):Prop:=-9223372036854775808<=n/\n<=9223372036854775807
section
variable{H:Type}{enc:TypeId×Value->H}{P:Program}{N:Nat}{t e:TypeId}
theorem Aw(a:P.underlying t=some .string):hP P enc N t jB (λ s=>s.length<=N):=by
 intro W n cs x h _ b;obtain⟨s,rfl,rfl,_⟩:=DataW.trod_string a h;exact⟨s.data.toList,rfl,b _ (by simp[DataW.weights])⟩
theorem oP(a:P.underlying t=some (.int .i64)):hP P enc N t (fk .i64) jQ:=by
 intro W n cs x h _ _;obtain⟨z,rfl,_,b⟩:=DataW.trod_int a h;exact⟨z,rfl,by simpa[jQ,Lit.wf,IntKind.min,IntKind.max,IntKind.signed,IntKind.bits]using b⟩
theorem aHY(a:P.underlying t=some .bool):hP P enc N t aJD (λ _=>True):=by
 intro W n cs x h _ _;obtain⟨b,rfl,_⟩:=DataW.trod_bool a h;exact⟨b,rfl,trivial⟩
theorem ajB{d:DataW H}{m:Nat}(a:m∈d.weights P e):∀ {l:List (DataW H)},d∈l->m∈DataW.weightsAll P e l
 |[],h=>by cases h
 |x::r,h=>by
  simp only[DataW.weightsAll,cj];rcases cI.1 h with rfl |h
  ·exact .inl a
  ·exact .inr (ajB a h)
theorem sX{α:Type}{T:dj α}{R:α->Prop}(w:P.underlying t=some (.slice e))(O:P.cellsOf e=T.size)(B:fs 0 T.size=true)(Q:hP P enc N e T R):hP P enc N t (b5 T) (λ l=>l.length*P.bytesOf e<=N/\ ∀d∈l,R d):=by
 have B:0<T.size:=cS B;intro W n cs x h C E;rcases open_slice w h with⟨rfl,rfl⟩|⟨a,c,cap,m,gp,D,y,rfl,_,S,G,U,I,hi⟩
 ·exact⟨[],⟨none,0,rfl,cT _,gT _,λ _=>rfl,λ h=>absurd rfl h⟩,by simp,λ d aL=>by cases aL⟩
 ·have V:m=cap:=by simpa using U
  subst V
  have f:x.2=MemPlace.row a (m*P.cellsOf e)++(ed m).flatMap y:=congrArg Prod.snd I
  have g:x.1= .slice ((ed c).map D) ((ed (m-c)).map λ j=>D (c+j)):=congrArg lz I
  have X:(c+(m-c))*P.bytesOf e<=N:=by
   refine E _ ?_;rw[g];simp only[DataW.weights,w,gC,iZ];exact il
  have q:c*P.bytesOf e<=N:=hv (kA _ (Nat.le_add_right _ _)) X
  by_cases Y:c=0
  ·subst Y
   exact⟨[],⟨some a,m,rfl,by simp,G,λ h=>(by cases h),λ h=>absurd rfl h⟩,by simp,λ d aL=>by cases aL⟩
  ·have K:∀i,i<c-> ∃cs d,(∀j u,cs[j]? =some u->W.cell? (a.add (i*T.size+j))=some u)/\cs.length=T.size/\T.rd (im [] W) W cs d/\R d:=λ i z=>by
    have r:i<m:=by omega
    obtain⟨L,hc,Z⟩:=hi i r;obtain⟨d,aL,ei⟩:=Q W gp L _ Z (λ p WX=>C p (by
     rw[f,cj];exact .inr (hM.2 ⟨i,by simpa using r,WX⟩))) (λ k hk=>E k (by
     rw[g];simp only[DataW.weights,w,cI,cj];exact .inr (.inl (ajB hk (hY.2 ⟨i,by simpa using z,rfl⟩)))))
    rw[O]at hc;obtain⟨_,M,uf⟩:=World.cells?_some hc;refine⟨L,d,λ j u aA=>?_,M,aL,ei⟩;have ku:j<T.size:=by rw[<-M];exact(aP.1 aA).1
    have:=uf j ku;rw[aA,Go.Deep.add_add]at this;exact this
   have s:a.spot=none:=by
    obtain⟨cs,d,A,J,_⟩:=K 0 (by omega);have:=A 0 _ (aK (by omega));unfold World.cell? at this;split at this
    ·split at this
     ·cases this
     ·rename_i aj;simpa[Addr.add]using aj
    ·cases this
   obtain⟨ab,v,aN6⟩:=a;simp only at s;subst s;obtain⟨l,xs,A,J,aq,a_⟩:=alN (T:=T) (F:=im [] W) (W:=W) (b:=ab) (o:=v) (R:=R) c (λ i z=>by
    obtain⟨cs,d,c1,_,c3,c4⟩:=K i z;exact⟨cs,d,λ j u aA=>by have:=c1 j u aA;rw[lm]at this;simpa[kU]using this,c3,c4⟩)
   subst A;refine⟨l,⟨_,m,rfl,S,G,λ h=>(by cases h),λ _=>⟨rfl,⟨by simp,?_⟩,xs,J,aq⟩⟩,q,a_⟩;have ez:MemPlace.cell ab v∈x.2:=by
    rw[f,cj];left;have:0<m*P.cellsOf e:=Nat.mul_pos (by omega) (by omega);simp only[MemPlace.row,hY,lB];exact⟨0,this,by simp⟩
   exact C _ ez
theorem ajC{m:Nat}:∀ {a:List TypeId}{l:List (DataW H)}{j:Nat}{u:TypeId}{d:DataW H},a[j]? =some u->l[j]? =some d->m∈d.weights P u->m∈DataW.weightsEach P a l
 |[],_,j,_,_,h,_,_=>by simp at h
 |_::_,[],j,_,_,_,h,_=>by simp at h
 |t::a,x::l,0,u,d,b,J,c=>by
  simp only[dU,aH]at b J;subst b;subst J;simp only[DataW.weightsEach,cj];exact .inl c
 |t::a,x::l,j+1,u,d,b,J,c=>by
  simp only[DataW.weightsEach,cj];exact .inr (ajC (j:=j) (by simpa using b) (by simpa using J) c)
theorem pt{cf:Array Go.Field}{W:World}{n:Nat}{cs:List Value}{x:DataW H×List MemPlace}(a:P.underlying t=some (.struct cf))(h:DataW.trod enc P W 0 (λ _=>true) true n t cs=some x)(c:∀p∈x.2,p.block<W.heap.size)(g:∀m∈x.1.weights P t,m<=N) :
 ∃gp,cs.length=P.cellsOf t/\ ∀(j:Nat)(f:Go.Field),cf[j]? =some f-> ∃y,DataW.trod enc P W 0 (λ _=>true) true gp f.type ((cs.drop f.offset).take (P.cellsOf f.type))=some y/\(∀p∈y.2,p.block<W.heap.size)/\(∀m∈y.1.weights P f.type,m<=N):=by
 obtain⟨ys,gp,_,b,i,k,l⟩:=DataW.trod_struct a h
 refine⟨gp,i,λ j f aA=>?_⟩
 have r:j<cf.size:=(gw.1 aA).1
 have hy:ys[j]? =some (ys[j]'(by omega)):=aK _
 refine⟨ys[j]'(by omega),by rw[l j f aA,hy],λ p o=>c p ?_,λ m q=>g m ?_⟩
 ·rw[b]
  exact hM.2 ⟨_,hg _,o⟩
 ·rw[b]
  simp only[DataW.weights,a]
  refine ajC (j:=j) (u:=f.type) (d:=(ys[j]'(by omega)).1) ?_ ?_ q
  ·rw[jw,hT,aA];rfl
  ·rw[jw,hy];rfl
theorem fE{cf:Array Go.Field}{W:World}{gp:Nat}{cs:List Value}(ad:∀(j:Nat)(f:Go.Field),cf[j]? =some f-> ∃y,DataW.trod enc P W 0 (λ _=>true) true gp f.type ((cs.drop f.offset).take (P.cellsOf f.type))=some y/\(∀p∈y.2,p.block<W.heap.size)/\(∀m∈y.1.weights P f.type,m<=N))
 (j:Nat){f:Go.Field}(aA:cf[j]? =some f){t off k:Nat}(b:f.type=t)(d:f.offset=off)(g:P.cellsOf t=k){r:List Value}(h:(cs.drop off).take k=r):∃y,DataW.trod enc P W 0 (λ _=>true) true gp t r=some y/\(∀p∈y.2,p.block<W.heap.size)/\(∀m∈y.1.weights P t,m<=N):=by
 obtain⟨y,a,J,c⟩:=ad j f aA
 rw[b,d]at a
 rw[b]at c
 rw[g,h]at a
 exact⟨y,a,J,c⟩
theorem adT{v:Array Value}{l:List Value}(h:(Value.agg v).cells.toList=l):v=l.toArray:=by
 have h:v.toList=l:=h;rw[<-h]
theorem TA{α:Type}{T:dj α}{R:α->Prop}{W:World}{v:Value}{d:DataW H}{ps:List MemPlace}(a:hP P enc N t T R)(h:DataW.Trod enc P W 0 (λ _=>true) true t v d ps)(b:∀p∈ps,p.block<W.heap.size)(c:∀m∈d.weights P t,m<=N):∃d',T.rd (im [] W) W v.cells.toList d'/\R d':=by
 obtain⟨n,f⟩:=h;exact a W n _ _ f b c
end
end ay
namespace ay
open Go Go.RowKit I
inductive n0
 |i (k:IntKind)
 |b
 |s
 |cv
def n0.ok(P:Program)(t:TypeId):n0->Prop
 | .i k=>P.underlying t=some (.int k)
 | .b=>P.underlying t=some .bool
 | .s=>P.underlying t=some .string
 | .cv=>∃e,P.underlying t=some (.slice e)
structure mJ where
 oU:List (Nat×n0)
 pt:List (Nat×Nat×Nat)
 Lk:List (Nat×Option Nat)
def abg(P:Program):List (Nat×n0)->Prop
 |[]=>True
 |p::r=>p.2.ok P p.1/\abg P r
def S4(P:Program)(s j off:Nat):Prop:=∃cf f sz,P.underlying s=some (.struct cf)/\cf[j]? =some f/\f.offset=off/\sz≠0/\ ∀w,(Go.sizeOf f.type).run P w= .ok sz w
def UQ(P:Program):List (Nat×Nat×Nat)->Prop
 |[]=>True
 |p::r=>S4 P p.1 p.2.1 p.2.2/\UQ P r
def adP(P:Program)(t:Nat):Option Nat->Prop
 |none=>∀w,(isAgg t).run P w= .ok false w
 |some n=>(∀w,(isAgg t).run P w= .ok true w)/\ ∀w,(Go.sizeOf t).run P w= .ok n w
def aaS(P:Program):List (Nat×Option Nat)->Prop
 |[]=>True
 |p::r=>adP P p.1 p.2/\aaS P r
structure tC (P:Program) (G:mJ):Prop where
 oU:abg P G.oU
 pt:UQ P G.pt
 Lk:aaS P G.Lk
theorem eM{P:Program}{s j off sz:Nat}{cf:Array Go.Field}{f:Go.Field}(h:P.underlying s=some (.struct cf))(ad:cf[j]? =some f)(a:f.offset=off)(aj:∀w,(Go.sizeOf f.type).run P w= .ok sz w)(b:cy sz 0=false):S4 P s j off:=
 ⟨cf,f,sz,h,ad,a,(λ e=>by subst e;simp at b),aj⟩
def pN{β:Type}:List (Nat×β)->Nat->Option β
 |[],_=>none
 |p::r,t=>match cy p.1 t with
  |true=>some p.2
  |false=>pN r t
def Ku:List (Nat×Nat×Nat)->Nat->Nat->Option Nat
 |[],_,_=>none
 |p::r,s,j=>match cy p.1 s&&cy p.2.1 j with
  |true=>some p.2.2
  |false=>Ku r s j
theorem Eb{P:Program}{l:List (Nat×n0)}(h:abg P l){t:Nat}{k:n0}(a:pN l t=some k):k.ok P t:=by
 induction l with
 |nil=>simp[pN]at a
 |cons p r b=>
  simp only[pN]at a
  cases ag:cy p.1 t with
  |true=>
   rw[ag]at a
   simp only[aH]at a
   rw[<-bd ag,<-a];exact h.1
  |false=>rw[ag]at a;exact b h.2 a
theorem amc{P:Program}{l:List (Nat×Option Nat)}(h:aaS P l){t:Nat}{k:Option Nat}(a:pN l t=some k):adP P t k:=by
 induction l with
 |nil=>simp[pN]at a
 |cons p r b=>
  simp only[pN]at a
  cases ag:cy p.1 t with
  |true=>
   rw[ag]at a
   simp only[aH]at a
   rw[<-bd ag,<-a];exact h.1
  |false=>rw[ag]at a;exact b h.2 a
theorem axI{P:Program}{l:List (Nat×Nat×Nat)}(h:UQ P l){s j off:Nat}(a:Ku l s j=some off):S4 P s j off:=by
 induction l with
 |nil=>simp[Ku]at a
 |cons p r b=>
  simp only[Ku]at a
  cases ag:cy p.1 s&&cy p.2.1 j with
  |true=>
   rw[ag]at a
   simp only[aH]at a
   simp only[cb]at ag
   rw[<-bd ag.1,<-bd ag.2,<-a];exact h.1
  |false=>rw[ag]at a;exact b h.2 a
def j6(w:World):List (Nat×Nat×List Value)->Prop
 |[]=>True
 |m::r=>fo w ⟨m.1,m.2.1,none⟩ m.2.2/\j6 w r
theorem gK{w:World}:j6 w []:=trivial
theorem hl{w:World}{b p:Nat}{cs:List Value}{M:List (Nat×Nat×List Value)}(h:fo w ⟨b,p,none⟩ cs)(k:j6 w M):j6 w ((b,p,cs)::M):=⟨h,k⟩
theorem ajz{w:World}{M:List (Nat×Nat×List Value)}(h:j6 w M){i b p:Nat}{cs:List Value}(hi:M[i]? =some (b,p,cs)):fo w ⟨b,p,none⟩ cs:=by
 induction M generalizing i with
 |nil=>simp at hi
 |cons m r a=>
  cases i with
  |zero=>
   simp only[dU,aH]at hi
   subst hi
   exact h.1
  |succ i=>exact a h.2 (by simpa using hi)
theorem lp{w:World}{g:Nat}{t:TypeId}{cs:List Value}(h:(bb.ck g t cs).ok w):fo w ⟨g,0,none⟩ cs:=λ j u aA=>by
 have:=yZ h aA;simpa using this
structure gU where
 t:Nat
 j:Nat
 want:Bool
 v:Value
def D6:List (Nat×Value)->Nat->List (Nat×Value)
 |[],_=>[]
 |p::r,d=>match cy p.1 d with
  |true=>D6 r d
  |false=>p::D6 r d
def s3:List gU->Nat->List gU
 |[],_=>[]
 |p::r,d=>match cy p.t d||cy p.j d with
  |true=>s3 r d
  |false=>p::s3 r d
def CO:List (Nat×Bool)->Nat->Bool->Bool
 |[],_,_=>false
 |p::r,j,b=>(cy p.1 j&&(p.2==b))||CO r j b
def Kv:List gU->List (Nat×Bool)->Nat->Option Value
 |[],_,_=>none
 |p::r,cur,t=>match cy p.t t&&CO cur p.j p.want with
  |true=>some p.v
  |false=>Kv r cur t
def mW(a:Act):List gU->Prop
 |[]=>True
 |p::r=>(a.tmps.getD p.j undef= .bool p.want->a.tmps.getD p.t undef=p.v)/\mW a r
def jU(a:Act):List (Nat×Bool)->Prop
 |[]=>True
 |p::r=>a.tmps.getD p.1 undef= .bool p.2/\jU a r
theorem ahs{a:Act}{cur:List (Nat×Bool)}(h:jU a cur){j:Nat}{b:Bool}(bB:CO cur j b=true):a.tmps.getD j undef= .bool b:=by
 induction cur with
 |nil=>simp[CO]at bB
 |cons p r c=>
  simp only[CO,ia,cb,beq_iff_eq]at bB
  rcases bB with⟨d,J⟩|bB
  ·rw[<-bd d,<-J];exact h.1
  ·exact c h.2 bB
theorem aDT{a:Act}{gs:List gU}(h:mW a gs){cur:List (Nat×Bool)}(hc:jU a cur){t:Nat}{v:Value}(b:Kv gs cur t=some v):a.tmps.getD t undef=v:=by
 induction gs with
 |nil=>simp[Kv]at b
 |cons p r c=>
  simp only[Kv]at b
  cases ag:cy p.t t&&CO cur p.j p.want with
  |true=>
   rw[ag]at b
   simp only[aH]at b
   simp only[cb]at ag
   rw[<-bd ag.1,<-b]
   exact h.1 (ahs hc ag.2)
  |false=>rw[ag]at b;exact c h.2 b
def ii(fr:List (Nat×Value))(gs:List gU)(cur:List (Nat×Bool)):Operand->Option Value
 | .const v=>some v
 | .global g=>some (.pointer (some ⟨g,0,none⟩))
 | .tmp t=>match ev fr t with
   |some v=>some v
   |none=>Kv gs cur t
 | .func _=>none
theorem PX{n:cE}{fr:List (Nat×Value)}{gs:List gU}{cur:List (Nat×Bool)}{a:Act}(ad:Fr n fr a)(c:mW a gs)(hc:jU a cur){x:Operand}{v:Value}(h:ii fr gs cur x=some v):a.eval x=v:=by
 cases x with
 |const u=>simp only[ii,aH]at h;rw[<-h];rfl
 |global g=>simp only[ii,aH]at h;rw[<-h];rfl
 |func f=>simp[ii]at h
 |tmp t=>
  simp only[ii]at h
  cases b:ev fr t with
  |some u=>rw[b]at h;simp only[aH]at h;rw[<-h];exact ad.g b
  |none=>rw[b]at h;exact aDT c hc h
def GN(fr:List (Nat×Value))(gs:List gU)(cur:List (Nat×Bool)):List Operand->Option (List Value)
 |[]=>some []
 |x::r=>match ii fr gs cur x,GN fr gs cur r with
  |some v,some vs=>some (v::vs)
  |_,_=>none
theorem YT{n:cE}{fr:List (Nat×Value)}{gs:List gU}{cur:List (Nat×Bool)}{a:Act}(ad:Fr n fr a)(b:mW a gs)(hc:jU a cur):∀ {xs:List Operand}{vs:List Value},GN fr gs cur xs=some vs->xs.map a.eval=vs
 |[],vs,h=>by simp only[GN,aH]at h;subst h;rfl
 |x::r,vs,h=>by
  simp only[GN]at h;split at h
  ·rename_i v us c J
   simp only[aH]at h
   subst h
   rw[eB,PX ad b hc c,YT ad b hc J]
  ·cases h
def Kd:Operand->Bool
 | .const (.int _ n)=>n !=0
 |_=>false
def nh:IntKind->IntKind->Bool
 | .i64,.i64 | .u8,.u8 | .i32,.i32 | .u64,.u64 | .u32,.u32 | .u16,.u16 | .i16,.i16 | .i8,.i8=>true
 |_,_=>false
theorem pK{j k:IntKind}(h:nh j k=true):j=k:=by cases j<;>cases k<;>simp_all [nh]
def mf(k:IntKind):Bool:=nh k .i64
theorem mg{k:IntKind}(h:mf k=true):k= .i64:=pK h
def aea(a:Option n0)(gr:Bool)(op:BinOp)(j k:IntKind)(m n:Int):Option Value:=
 match op with
 | .add=>match mf j&&mf k with|true=>some (.int .i64 (ax (m+n)))|false=>none
 | .sub=>match mf j&&mf k with|true=>some (.int .i64 (ax (m-n)))|false=>none
 | .mul=>match mf j&&mf k with|true=>some (.int .i64 (ax (m*n)))|false=>none
 | .quo=>match mf j&&mf k&&gr with|true=>some (.int .i64 (ax (m.tdiv n)))|false=>none
 | .rem=>match mf j&&mf k&&gr with|true=>some (.int .i64 (m.tmod n))|false=>none
 | .or=>match mf j&&mf k with|true=>some (.int .i64 (YW m n))|false=>none
 | .and=>match mf j&&mf k with|true=>some (.int .i64 (Tz m n))|false=>none
 | .lss=>match nh j k with|true=>some (.bool (decide (m<n)))|false=>none
 | .leq=>match nh j k with|true=>some (.bool (decide (m<=n)))|false=>none
 | .gtr=>match nh j k with|true=>some (.bool (decide (n<m)))|false=>none
 | .geq=>match nh j k with|true=>some (.bool (decide (n<=m)))|false=>none
 | .eql=>match a with
   |some (.i i)=>match nh i j&&nh j k with|true=>some (.bool (decide (m=n)))|false=>none
   |_=>none
 | .neq=>match a with
   |some (.i i)=>match nh i j&&nh j k with|true=>some (.bool (!decide (m=n)))|false=>none
   |_=>none
 |_=>none
def aeb(a:Option n0)(op:BinOp)(p q:List UInt8):Option Value:=
 match op,a with
 | .eql,some .s=>some (.bool (decide (p=q)))
 | .neq,some .s=>some (.bool (!decide (p=q)))
 |_,_=>none
def ad'(a:Option n0)(op:BinOp)(p q:Bool):Option Value:=
 match op,a with
 | .eql,some .b=>some (.bool (p==q))
 | .neq,some .b=>some (.bool (!(p==q)))
 |_,_=>none
def bin(a:Option n0)(gr:Bool)(op:BinOp):Value->Value->Option Value
 | .int j m,.int k n=>aea a gr op j k m n
 | .string ⟨⟨p⟩⟩,.string ⟨⟨q⟩⟩=>aeb a op p q
 | .bool p,.bool q=>ad' a op p q
 |_,_=>none
section
variable{P:Program}{o:Oper}{a:Act}{w:World}{x y:Operand}{t t':TypeId}
theorem aec{l:Option n0}(e:∀k,l=some k->k.ok P t){gr:Bool}(s:gr=true-> ∀k n,a.eval y= .int k n->n≠0){op:BinOp}{u v r:Value}(h:bin l gr op u v=some r)(c:o.op= .binOp op t x y t')(d:a.eval x=u)(hy:a.eval y=v):bh P o a w r w:=by
 unfold bin at h;split at h
 ·rename_i j m k n
  unfold aea at h
  split at h
  case h_1=>
   split at h
   ·rename_i ag
    simp only[cb]at ag
    obtain⟨b,J⟩:=ag
    have b:=mg b;have J:=mg J
    subst b;subst J
    simp only[aH]at h
    subst h
    exact ac7 c d hy
   ·cases h
  case h_2=>
   split at h
   ·rename_i ag
    simp only[cb]at ag
    obtain⟨b,J⟩:=ag
    have b:=mg b;have J:=mg J
    subst b;subst J
    simp only[aH]at h
    subst h
    exact apH c d hy
   ·cases h
  case h_3=>
   split at h
   ·rename_i ag
    simp only[cb]at ag
    obtain⟨b,J⟩:=ag
    have b:=mg b;have J:=mg J
    subst b;subst J
    simp only[aH]at h
    subst h
    exact aND c d hy
   ·cases h
  case h_4=>
   split at h
   ·rename_i ag
    simp only[cb]at ag
    obtain⟨⟨b,J⟩,f⟩:=ag
    have b:=mg b;have J:=mg J
    subst b;subst J
    simp only[aH]at h
    subst h
    have g:=s f _ _ hy
    exact apE c d hy (by rw[ha,decide_eq_false_iff_not];exact g)
   ·cases h
  case h_5=>
   split at h
   ·rename_i ag
    simp only[cb]at ag
    obtain⟨⟨b,J⟩,f⟩:=ag
    have b:=mg b;have J:=mg J
    subst b;subst J
    simp only[aH]at h
    subst h
    have g:=s f _ _ hy
    exact apF c d hy (by rw[ha,decide_eq_false_iff_not];exact g)
   ·cases h
  case h_6=>
   split at h
   ·rename_i ag
    simp only[cb]at ag
    obtain⟨b,J⟩:=ag
    have b:=mg b;have J:=mg J
    subst b;subst J
    simp only[aH]at h
    subst h
    exact aNI c d hy
   ·cases h
  case h_7=>
   split at h
   ·rename_i ag
    simp only[cb]at ag
    obtain⟨b,J⟩:=ag
    have b:=mg b;have J:=mg J
    subst b;subst J
    simp only[aH]at h
    subst h
    exact aNj c d hy
   ·cases h
  case h_8=>
   split at h
   ·rename_i ag
    have ag:=pK ag
    subst ag
    simp only[aH]at h
    subst h
    exact aNA c d hy
   ·cases h
  case h_9=>
   split at h
   ·rename_i ag
    have ag:=pK ag
    subst ag
    simp only[aH]at h
    subst h
    exact aNz c d hy
   ·cases h
  case h_10=>
   split at h
   ·rename_i ag
    have ag:=pK ag
    subst ag
    simp only[aH]at h
    subst h
    exact apy c d hy
   ·cases h
  case h_11=>
   split at h
   ·rename_i ag
    have ag:=pK ag
    subst ag
    simp only[aH]at h
    subst h
    exact aNv c d hy
   ·cases h
  case h_12=>
   split at h
   ·rename_i i
    have hi:=e _ rfl
    split at h
    ·rename_i ag
     simp only[cb]at ag
     have b:=pK ag.1;have J:=pK ag.2
     subst b;subst J
     simp only[aH]at h
     subst h
     exact aNt hi c d hy
    ·cases h
   ·cases h
  case h_13=>
   split at h
   ·rename_i i
    have hi:=e _ rfl
    split at h
    ·rename_i ag
     simp only[cb]at ag
     have b:=pK ag.1;have J:=pK ag.2
     subst b;subst J
     simp only[aH]at h
     subst h
     exact aNF hi c d hy
    ·cases h
   ·cases h
  case h_14=>cases h
 ·rename_i p q
  unfold aeb at h
  split at h
  ·simp only[aH]at h
   subst h
   exact aNu (e _ rfl) c d hy
  ·simp only[aH]at h
   subst h
   exact aNG (e _ rfl) c d hy
  ·cases h
 ·rename_i p q
  unfold ad' at h
  split at h
  ·simp only[aH]at h
   subst h
   exact aNs (e _ rfl) c d hy
  ·simp only[aH]at h
   subst h
   exact aNE (e _ rfl) c d hy
  ·cases h
 ·cases h
end
end ay
namespace ay
open Go Go.RowKit I
def nth{α:Type}:List α->Nat->Option α
 |[],_=>none
 |x::_,0=>some x
 |_::r,i+1=>nth r i
theorem dh{α:Type}:∀(l:List α)(i:Nat),nth l i=l[i]?
 |[],i=>by simp[nth]
 |x::r,0=>rfl
 |x::r,i+1=>by simp[nth,dh r i]
def XA:Operand->Bool
 | .const (.bool b)=>b
 |_=>false
def Xw:Operand->Bool
 | .const (.bool b)=>!b
 |_=>false
def P3(x y:Operand)(b:Bool):Value->Value->Option Value
 | .bool p,.bool q=>match XA x with
   |true=>some (.bool (b||q))
   |false=>match Xw y with
    |true=>some (.bool (b&&p))
    |false=>some (.bool (cond b p q))
 | .int j m,.int k n=>match nh j k with
   |true=>some (.int j (cond b m n))
   |false=>none
 | .string ⟨⟨p⟩⟩,.string ⟨⟨q⟩⟩=>some (cw (cond b p q))
 |_,_=>none
theorem aBG{a:Act}{x:Operand}(h:XA x=true):a.eval x= .bool true:=by
 unfold XA at h;split at h
 ·subst h;rfl
 ·cases h
theorem aBB{a:Act}{x:Operand}(h:Xw x=true):a.eval x= .bool false:=by
 unfold Xw at h;split at h
 ·rename_i b
  have:b=false:=by simpa using h
  subst this;rfl
 ·cases h
theorem akC{a:Act}{x y:Operand}{b:Bool}{u v r:Value}(h:P3 x y b u v=some r)(c:b=true->a.eval x=u)(hy:b=false->a.eval y=v):(if b then a.eval x else a.eval y)=r:=by
 unfold P3 at h;split at h
 ·rename_i p q
  split at h
  ·rename_i d
   simp only[aH]at h
   subst h
   cases b with
   |true=>rw[if_pos rfl,aBG d];rfl
   |false=>rw[if_neg (by simp),hy rfl];rfl
  ·split at h
   ·rename_i ad
    simp only[aH]at h
    subst h
    cases b with
    |true=>rw[if_pos rfl,c rfl];rfl
    |false=>rw[if_neg (by simp),aBB ad];rfl
   ·simp only[aH]at h
    subst h
    cases b with
    |true=>rw[if_pos rfl,c rfl];rfl
    |false=>rw[if_neg (by simp),hy rfl];rfl
 ·split at h
  ·rename_i e
   have:=pK e
   subst this
   simp only[aH]at h
   subst h
   cases b with
   |true=>rw[if_pos rfl,c rfl];rfl
   |false=>rw[if_neg (by simp),hy rfl];rfl
  ·cases h
 ·simp only[aH]at h
  subst h
  cases b with
  |true=>rw[if_pos rfl,c rfl];rfl
  |false=>rw[if_neg (by simp),hy rfl];rfl
 ·cases h
abbrev Out:=Value×List Nat×List (Nat×Nat)
def lH(aj:List Nat)(v:Value):Option Out:=some (v,aj,[])
def FJ(G:mJ)(M:List (Nat×Nat×List Value))(t m a:Nat)(aj:List Nat)(c dl:Nat):Option Out:=
 match nth M m,pN G.Lk t with
 |some (b,off,cs),some none=>match nth cs a with
  |some v=>some (v,aj,[(c,b),(dl,off+a)])
  |none=>none
 |some (b,off,cs),some (some n)=>match jF (a+n) cs.length with
  |true=>some (.agg ((cs.drop a).take n).toArray,aj,[(c,b),(dl,off+a)])
  |false=>none
 |_,_=>none
def age(G:mJ)(s d:Nat)(aj:List Nat):Value->Option Out
 | .int k m=>match mf k,pN G.oU s,pN G.oU d with
   |true,some (.i .i64),some (.i .i64)=>lH aj (.int .i64 (ax m))
   |true,some (.i .i64),some (.i .u8)=>lH aj (.int .u8 ((jT m).toNat:Int))
   |_,_,_=>none
 |_=>none
def agi(G:mJ)(t:Nat)(aj:List Nat):Value->Option Out
 | .string ⟨⟨p⟩⟩=>match pN G.oU t with
   |some .s=>lH aj (.int .i64 (p.length:Int))
   |_=>none
 | .slice _ n _=>match pN G.oU t with
   |some .cv=>lH aj (.int .i64 (n:Int))
   |_=>none
 |_=>none
def agl(fr:List (Nat×Value))(gs:List gU)(cur:List (Nat×Bool))(c x y:Operand):List Nat->Option Out
 |0::aj=>match c with
  | .tmp a=>match ii fr gs cur (.tmp a),ii fr gs ((a,true)::cur) x,ii fr gs ((a,false)::cur) y with
    |some (.bool b),some u,some v=>match P3 x y b u v with
     |some r=>lH aj r
     |none=>none
    |_,_,_=>none
  |_=>none
 |_::aj=>match ii fr gs cur c with
  |some (.bool b)=>match b with
   |true=>match ii fr gs cur x with|some v=>lH aj v |none=>none
   |false=>match ii fr gs cur y with|some v=>lH aj v |none=>none
  |_=>none
 |[]=>none
def r8(G:mJ)(M:List (Nat×Nat×List Value))(aj:List Nat)(fr:List (Nat×Value))(gs:List gU)(cur:List (Nat×Bool)):Op->Option Out
 | .move x=>match ii fr gs cur x with|some v=>lH aj v |none=>none
 | .assign x=>match ii fr gs cur x with|some v=>lH aj v |none=>none
 | .pick c x y=>agl fr gs cur c x y aj
 | .binOp op t x y _=>match ii fr gs cur x,ii fr gs cur y with
   |some u,some v=>match bin (pN G.oU t) (Kd y) op u v with
    |some r=>lH aj r
    |none=>none
   |_,_=>none
 | .unOp .not _ x=>match ii fr gs cur x with
   |some (.bool p)=>lH aj (.bool (!p))
   |_=>none
 | .convert s d x=>match ii fr gs cur x with
   |some v=>age G s d aj v
   |none=>none
 | .load t x=>match ii fr gs cur x,aj with
   |some (.pointer (some ⟨e,dl,none⟩)),m::a::f=>FJ G M t m a f e dl
   |_,_=>none
 | .fieldAddr s x j=>match ii fr gs cur x,Ku G.pt s j with
   |some (.pointer (some ⟨b,p,none⟩)),some off=>lH aj (.pointer (some ⟨b,p+off,none⟩))
   |_,_=>none
 | .nilCheck x=>match ii fr gs cur x with
   |some (.pointer (some p))=>lH aj (.pointer (some p))
   |_=>none
 | .extract x i=>match ii fr gs cur x with
   |some (.tuple ⟨vs⟩)=>match nth vs i with
    |some v=>lH aj v
    |none=>none
   |_=>none
 | .makeFunc fn ⟨xs⟩ ⟨ys⟩=>match GN fr gs cur xs,GN fr gs cur ys with
   |some us,some vs=>lH aj (.func fn us.toArray vs.toArray)
   |_,_=>none
 | .call ⟨.builtin .len,⟨[x]⟩,⟨[t]⟩⟩=>match ii fr gs cur x with
   |some v=>agi G t aj v
   |none=>none
 |_=>none
theorem ng{aj a:List Nat}{u v:Value}{l:List (Nat×Nat)}(h:lH aj u=some (v,a,l)):u=v:=by
 simp only[lH,aH,cF]at h;exact h.1
def oa:List (Nat×Nat)->Prop
 |[]=>True
 |p::r=>p.1=p.2/\oa r
section
variable{P:Program}{G:mJ}{M:List (Nat×Nat×List Value)}{w:World}{a:Act}{o:Oper}
theorem agd{n:cE}{fr:List (Nat×Value)}{gs:List gU}{cur:List (Nat×Bool)}{aj S:List Nat}{v:Value}{l:List (Nat×Nat)}(z:tC P G)(N:j6 w M)(ad:Fr n fr a)(E:mW a gs)(hc:jU a cur)
 {op:Op}(q:o.op=op)(h:r8 G M aj fr gs cur op=some (v,S,l))(O:oa l):bh P o a w v w:=by
 have opn:∀ {x:Operand}{u:Value},ii fr gs cur x=some u->a.eval x=u:=λ A=>PX ad E hc A
 unfold r8 at h
 split at h
 ·split at h
  ·rename_i A
   rw[<-ng h];exact vv q (opn A)
  ·cases h
 ·split at h
  ·rename_i A
   rw[<-ng h];exact yg q (opn A)
  ·cases h
 ·rename_i c x y
  unfold agl at h
  split at h
  ·split at h
   ·rename_i K
    split at h
    ·rename_i b u fl g J B
     split at h
     ·rename_i r L
      rw[<-ng h]
      have H:a.eval (.tmp K)= .bool b:=opn g
      have A:b=true->a.eval x=u:=λ ag=>PX ad E (show jU a ((K,true)::cur) from⟨by subst ag;exact H,hc⟩) J
      have hy:b=false->a.eval y=fl:=λ ag=>PX ad E (show jU a ((K,false)::cur) from⟨by subst ag;exact H,hc⟩) B
      have Q:=akC (a:=a) L A hy
      cases b with
      |true=>exact Sv q H (by simpa using Q)
      |false=>exact Su q H (by simpa using Q)
     ·cases h
    ·cases h
   ·cases h
  ·split at h
   ·rename_i b g
    split at h
    ·split at h
     ·rename_i u J
      rw[<-ng h];exact Sv q (opn g) (opn J)
     ·cases h
    ·split at h
     ·rename_i u J
      rw[<-ng h];exact Su q (opn g) (opn J)
     ·cases h
   ·cases h
  ·cases h
 ·rename_i op t x y t'
  split at h
  ·rename_i u fl g J
   split at h
   ·rename_i r L
    rw[<-ng h]
    refine aec (λ k T=>Eb z.oU T) (λ I k n R=>?_) L q (opn g) (opn J)
    unfold Kd at I
    split at I
    ·rename_i k' gp
     have:a.eval (.const (.int k' gp))= .int k' gp:=rfl
     rw[this]at R
     injection R with _ e
     subst e
     simpa using I
    ·cases I
   ·cases h
  ·cases h
 ·rename_i x
  split at h
  ·rename_i p g
   rw[<-ng h];exact apD q (opn g)
  ·cases h
 ·rename_i s d x
  split at h
  ·rename_i u g
   unfold age at h
   split at h
   ·rename_i k m
    split at h
    ·rename_i J B D
     have:=mg J
     subst this
     rw[<-ng h];exact aNn (Eb z.oU B) (Eb z.oU D) q (opn g)
    ·rename_i J B D
     have:=mg J
     subst this
     rw[<-ng h];exact aNo (Eb z.oU B) (Eb z.oU D) q (opn g)
    ·cases h
   ·cases h
  ·cases h
 ·rename_i t x
  split at h
  ·rename_i KM dl m F j2 g
   have A:=opn g
   unfold FJ at h
   split at h
   ·rename_i b off cs J B
    split at h
    ·rename_i u D
     simp only[aH,cF]at h
     obtain⟨rfl,_,rfl⟩:=h
     obtain⟨C,ao,_⟩:=O
     simp only at C ao
     subst C;subst ao
     rw[dh]at J D
     exact yh (amc z.Lk B) q A (ajz N J F u D)
    ·cases h
   ·rename_i b off cs k J B
    split at h
    ·rename_i ag
     simp only[aH,cF]at h
     obtain⟨rfl,_,rfl⟩:=h
     obtain⟨C,ao,_⟩:=O
     simp only at C ao
     subst C;subst ao
     rw[dh]at J
     have aj:=amc z.Lk B
     have U:=cS ag
     refine apB aj.1 aj.2 (by simp;omega) q A (λ j u aA=>?_)
     have V:=ajz N J
     rw[hG]at aA
     split at aA
     ·rw[i_]at aA
      have:=V (F+j) u aA
      simpa[kU]using this
     ·cases aA
    ·cases h
   ·cases h
  ·cases h
 ·rename_i s x j
  split at h
  ·rename_i b p off g J
   rw[<-ng h]
   obtain⟨cf,f,sz,W,X,Y,Z,g5⟩:=axI z.pt J
   rw[<-Y]
   exact Ss W X g5 (by cases aE:cy sz 0 with|false=>rfl |true=>exact absurd (bd aE) Z) q (opn g)
  ·cases h
 ·rename_i x
  split at h
  ·rename_i p g
   rw[<-ng h];exact Mq q (opn g)
  ·cases h
 ·rename_i x i
  split at h
  ·rename_i vs g
   split at h
   ·rename_i u J
    rw[<-ng h]
    rw[dh]at J
    exact Mp (vs:=vs) q (opn g) J
   ·cases h
  ·cases h
 ·rename_i fn xs ys
  split at h
  ·rename_i us vs g J
   rw[<-ng h]
   have C:=YT ad E hc g
   have ao:=YT ad E hc J
   simp only[bh,execOp,q,Instr.makeFunc]
   rw[show(Array.map a.eval ⟨xs⟩)=us.toArray by rw[<-C];simp,show(Array.map a.eval ⟨ys⟩)=vs.toArray by rw[<-ao];simp]
   rfl
  ·cases h
 ·rename_i x t
  split at h
  ·rename_i u g
   unfold agi at h
   split at h
   ·split at h
    ·rename_i J
     rw[<-ng h];exact apA (Eb z.oU J) q (opn g)
    ·cases h
   ·split at h
    ·rename_i J
     rw[<-ng h]
     obtain⟨e,he⟩:=Eb z.oU J
     exact apz he q (opn g)
    ·cases h
   ·cases h
  ·cases h
 ·cases h
end
end ay
namespace ay
open Go Go.RowKit I
def Ja(ops:Array Oper)(j:Nat):Option Nat:=match nth ops.toList j with
 |some o=>o.dst
 |none=>none
theorem ag6{ops:Array Oper}{j bC:Nat}(h:Ja ops j=some bC):(ops[j]?).bind (·.dst)=some bC:=by
 unfold Ja at h;rw[dh,hT]at h;split at h
 ·rename_i o a
  rw[a];exact h
 ·cases h
abbrev at0:=List (Nat×Value)×List gU×List (Nat×Nat)
def bY(G:mJ)(ops:Array Oper)(n:Nat)(M:List (Nat×Nat×List Value)):List Oper->List Nat->List (Nat×Value)->List gU->List (Nat×Nat)->Option at0
 |[],_,fr,gs,l=>some (fr,gs,l)
 |o::rest,aj,fr,gs,l=>match o.dst with
  |none=>none
  |some d=>match fs d n with
   |false=>none
   |true=>match o.guard with
    |none=>match r8 G M aj fr gs [] o.op with
     |some (v,a,l')=>bY G ops n M rest a ((d,v)::fr) (s3 gs d) (l'++l)
     |none=>none
    |some (j,want)=>match Ja ops j with
     |none=>none
     |some bC=>match fs bC n with
      |false=>none
      |true=>match aj with
       |0::a=>match cy bC d with
        |true=>none
        |false=>match r8 G M a fr gs [(bC,want)] o.op with
         |some (v,c,l')=>bY G ops n M rest c (D6 fr d) (⟨d,bC,want,v⟩::s3 gs d) (l'++l)
         |none=>none
       |_::a=>match ev fr bC with
        |some (.bool b)=>match b==want with
         |true=>match r8 G M a fr gs [] o.op with
          |some (v,c,l')=>bY G ops n M rest c ((d,v)::fr) (s3 gs d) (l'++l)
          |none=>none
         |false=>bY G ops n M rest a ((d,undef)::fr) (s3 gs d) l
        |some (.tuple ⟨[]⟩)=>bY G ops n M rest a ((d,undef)::fr) (s3 gs d) l
        |_=>none
       |[]=>none
def FB(fr:List (Nat×Value)):List Nat->Option (List (Nat×Value))
 |[]=>some []
 |t::r=>match ev fr t,FB fr r with
  |some v,some vs=>some ((t,v)::vs)
  |_,_=>none
def dup(l:List Nat):List (Nat×Nat):=l.map λ x=>(x,x)
def mU(G:mJ)(ops:Array Oper)(n:Nat)(M:List (Nat×Nat×List Value))(os:List Oper)(aj:List Nat)(fr:List (Nat×Value))(e8:List Nat):Option (List (Nat×Value)×List (Nat×Nat)):=
 match bY G ops n M os aj fr [] []with
 |some (fr',_,l)=>match FB fr' e8 with
  |some k=>some (k,l)
  |none=>none
 |none=>none
theorem Ns:∀l:List Nat,oa (dup l)
 |[]=>trivial
 |x::r=>⟨rfl,Ns r⟩
theorem y_:∀ {l l':List (Nat×Nat)},oa (l++l')->oa l/\oa l'
 |[],_,h=>⟨trivial,h⟩
 |_::_,_,h=>⟨⟨h.1,(y_ h.2).1⟩,(y_ h.2).2⟩
theorem TW{fr:List (Nat×Value)}:∀ {e8:List Nat}{k:List (Nat×Value)},FB fr e8=some k->LB fr k
 |[],k,h=>by simp only[FB,aH]at h;subst h;trivial
 |t::r,k,h=>by
  simp only[FB]at h;split at h
  ·rename_i v vs a J
   simp only[aH]at h
   subst h
   exact⟨a,TW J⟩
  ·cases h
theorem aFL{a:Act}{n:cE}{d:Nat}{v:Value}(aj:a.tmps.size=n)(aL:fs d n=true):(a.put (some d) v).tmps.getD d undef=v:=by
 have b:d<n:=cS aL;simp[Act.put,aj,b]
theorem P'{a:Act}{d t:Nat}{v:Value}(h:t≠d):(a.put (some d) v).tmps.getD t undef=a.tmps.getD t undef:=by
 simp only[Act.put,e0];rw[f_,if_neg (λ e=>h e.symm)]
theorem zf{a:Act}{d:Nat}{v:Value}:∀ {gs:List gU},mW a gs->mW (a.put (some d) v) (s3 gs d)
 |[],_=>trivial
 |p::r,h=>by
  simp only[s3];cases ag:cy p.t d||cy p.j d with
  |true=>exact zf h.2
  |false=>
   simp only[iF]at ag
   have b:p.t≠d:=λ e=>by rw[e]at ag;simp at ag
   have J:p.j≠d:=λ e=>by rw[e]at ag;simp at ag
   refine⟨?_,zf h.2⟩
   rw[P' b,P' J];exact h.1
theorem Yc{d t:Nat}{v:Value}:∀ {fr:List (Nat×Value)},ev (D6 fr d) t=some v->t≠d/\ev fr t=some v
 |[],h=>by simp[D6,ev]at h
 |p::r,h=>by
  simp only[D6]at h;cases ag:cy p.1 d with
  |true=>
   rw[ag]at h
   obtain⟨a,J⟩:=Yc h
   refine⟨a,?_⟩
   have e:=bd ag
   simp only[ev]
   cases hc:cy p.1 t with
   |true=>exact absurd ((bd hc).symm.trans e) a
   |false=>exact J
  |false=>
   rw[ag]at h
   simp only[ev]at h⊢
   cases hc:cy p.1 t with
   |true=>
    rw[hc]at h
    refine⟨λ e=>?_,h⟩
    rw[bd hc,e]at ag
    simp at ag
   |false=>
    rw[hc]at h
    exact Yc h
theorem Fr.Qx{n:cE}{d:Nat}{fr:List (Nat×Value)}{a:Act}{v:Value}(ad:Fr n fr a):Fr n (D6 fr d) (a.put (some d) v):=
 ⟨by simpa[Act.put]using ad.size,ad.defers,λ t u h=>by obtain⟨b,J⟩:=Yc h;rw[P' b];exact ad.get t u J⟩
def Gp:Op->Bool
 | .load _ _=>true
 |_=>false
theorem aw7{G:mJ}{M:List (Nat×Nat×List Value)}{aj:List Nat}{fr:List (Nat×Value)}{gs:List gU}{cur:List (Nat×Bool)}{op:Op}(h:Gp op=false):r8 G M aj fr gs cur op=r8 G [] aj fr gs cur op:=by
 cases op with
 |load t x=>simp[Gp]at h
 |unOp u t x=>cases u<;>rfl
 |call c=>
  unfold r8
  split<;>first |rfl |(rename_i e;cases e;done)|(rename_i e;cases e;rfl)
 |_=>rfl
theorem Ul{P:Program}{G:mJ}{M:List (Nat×Nat×List Value)}{C:World->Prop}{a:Act}{o:Oper}{n:cE}{fr:List (Nat×Value)}{gs:List gU}{cur:List (Nat×Bool)}{aj e:List Nat}{v:Value}{l:List (Nat×Nat)}(b:tC P G)(f:∀w,C w->j6 w M)(ad:Fr n fr a)(c:mW a gs)(hc:jU a cur)
 (h:r8 G M aj fr gs cur o.op=some (v,e,l))(d:oa l):(∀w,C w->bh P o a w v w)/\(Gp o.op=false-> ∀w,bh P o a w v w):=
 ⟨λ w g=>agd b (f w g) ad c hc rfl h d,λ i w=>agd b (M:=[]) trivial ad c hc rfl (by rw[<-aw7 i];exact h) d⟩
theorem am3{ops:Array Oper}{o:Oper}{a:Act}{n:cE}{l:List (Nat×Value)}{j bC:Nat}{want:Bool}(ad:Fr n l a)(c:o.guard=some (j,want))(aA:(ops[j]?).bind (·.dst)=some bC)(d:fs bC n=true) :
 Region.wanted o (yielded ops a.tmps)=true↔a.tmps.getD bC undef= .bool want:=by
 have e:bC<n:=cS d
 have aj:=ad.size
 have J:a.tmps[bC]? =some (a.tmps.getD bC undef):=by
  rw[jJ (by omega)];simp[e0,aj,e]
 simp only[Region.wanted,c,yielded,aA,ae,J,beq_iff_eq]
 constructor
 ·intro h
  split at h
  ·rename_i b ag
   simp only[aH]at h ag
   rw[ag,h]
  ·cases h
 ·intro h
  rw[h]
def at9(P:Program)(ops:Array Oper)(C:World->Prop)(o:Oper)(d:Nat)(a:Act)(u:Value):Prop:=
 o.dst=some d/\((Region.wanted o (yielded ops a.tmps)=true/\(∀w,C w->bh P o a w u w)/\(Gp o.op=false-> ∀w,bh P o a w u w))\/(Region.wanted o (yielded ops a.tmps)=false/\u=undef))
section
variable{P:Program}{G:mJ}{ops:Array Oper}{n:cE}{M:List (Nat×Nat×List Value)}{C:World->Prop}
theorem UG(z:tC P G)(A:∀w,C w->j6 w M){o:Oper}{rest:List Oper}{aj:List Nat}{fr:List (Nat×Value)}{gs:List gU}{l t:List (Nat×Nat)}{gy:List (Nat×Value)}{B:List gU}{a:Act}
 (ad:Fr n fr a)(c:mW a gs)(h:bY G ops n M (o::rest) aj fr gs l=some (gy,B,t))(L:oa t)
 (D:∀ {os:List Oper}{aj:List Nat}{fr:List (Nat×Value)}{gs:List gU}{l:List (Nat×Nat)},bY G ops n M os aj fr gs l=some (gy,B,t)->oa l) :
 ∃d u f fr' F l',at9 P ops C o d a u/\Fr n fr' (a.put (some d) u)/\mW (a.put (some d) u) F/\bY G ops n M rest f fr' F l'=some (gy,B,t):=by
 rw[bY]at h
 split at h
 ·cases h
 ·rename_i d aL
  split at h
  ·cases h
  ·rename_i i
   split at h
   ·rename_i g
    split at h
    ·rename_i v f l' k
     have m:=(y_ (D h)).1
     exact⟨d,v,f,_,_,_,⟨aL,.inl ⟨Q' g,Ul (cur:=[]) z A ad c trivial k m⟩⟩,ad.put i,zf c,h⟩
    ·cases h
   ·rename_i j want g
    split at h
    ·cases h
    ·rename_i bC I
     have p:=ag6 I
     split at h
     ·cases h
     ·rename_i r
      split at h
      ·rename_i f
       split at h
       ·cases h
       ·rename_i H
        split at h
        ·rename_i v x l' k
         have m:=(y_ (D h)).1
         have J:bC≠d:=λ e=>by rw[e]at H;simp at H
         by_cases y:a.tmps.getD bC undef= .bool want
         ·refine⟨d,v,x,_,_,_,⟨aL,.inl ⟨(am3 ad g p r).2 y,Ul (cur:=[(bC,want)]) z A ad c ⟨y,trivial⟩ k m⟩⟩,ad.Qx,(show mW (a.put (some d) v) (⟨d,bC,want,v⟩::s3 gs d) from⟨λ _=>aFL ad.size i,zf c⟩),h⟩
         ·refine⟨d,undef,x,_,_,_,⟨aL,.inr ⟨by rw[gQ];exact λ K=>y ((am3 ad g p r).1 K),rfl⟩⟩,ad.Qx,(show mW (a.put (some d) undef) (⟨d,bC,want,v⟩::s3 gs d) from⟨λ E=>?_,zf c⟩),h⟩
          simp only at E
          rw[P' J]at E
          exact absurd E y
        ·cases h
      ·rename_i q f N
       split at h
       ·rename_i b ag
        split at h
        ·rename_i s
         have s:b=want:=by simpa using s
         subst s
         split at h
         ·rename_i v x l' k
          have m:=(y_ (D h)).1
          exact⟨d,v,x,_,_,_,⟨aL,.inl ⟨aJ9 ad g p ag r,Ul (cur:=[]) z A ad c trivial k m⟩⟩,ad.put i,zf c,h⟩
         ·cases h
        ·rename_i s
         exact⟨d,undef,f,_,_,_,⟨aL,.inr ⟨aJ8 ad g p ag s r,rfl⟩⟩,ad.put i,zf c,h⟩
       ·rename_i ag
        exact⟨d,undef,f,_,_,_,⟨aL,.inr ⟨aJ_ ad g p ag r,rfl⟩⟩,ad.put i,zf c,h⟩
       ·cases h
      ·cases h
theorem y'{gy:List (Nat×Value)}{c:List gU}{b:List (Nat×Nat)}(a:oa b):∀ {os:List Oper}{aj:List Nat}{fr:List (Nat×Value)}{gs:List gU}{l:List (Nat×Nat)},bY G ops n M os aj fr gs l=some (gy,c,b)->oa l
 |[],aj,fr,gs,l,h=>by
  simp only[bY,aH,cF]at h;rw[h.2.2];exact a
 |o::rest,aj,fr,gs,l,h=>by
  rw[bY]at h;split at h
  ·cases h
  ·split at h
   ·cases h
   ·split at h
    ·split at h
     ·exact(y_ (y' a h)).2
     ·cases h
    ·split at h
     ·cases h
     ·split at h
      ·cases h
      ·split at h
       ·split at h
        ·cases h
        ·split at h
         ·exact(y_ (y' a h)).2
         ·cases h
       ·split at h
        ·split at h
         ·split at h
          ·exact(y_ (y' a h)).2
          ·cases h
         ·exact y' a h
        ·exact y' a h
        ·cases h
       ·cases h
theorem amg{w:World}{Q:Exit->Act->World->Prop}(g:tC P G)(i:j6 w M){gy:List (Nat×Value)}{p:List gU}{j:List (Nat×Nat)}(c:oa j):∀(k:Nat){rest:List Oper}{aj:List Nat}{fr:List (Nat×Value)}{gs:List gU}{l:List (Nat×Nat)}{a:Act},
 Fr n fr a->mW a gs->bY G ops n M (rest.take k) aj fr gs l=some (gy,p,j)->(∀m,Fr n gy m->wpList P ops Q (rest.drop k) m w)->wpList P ops Q rest a w
 |0,rest,aj,fr,gs,l,a,ad,_,h,b=>by
  simp only[mv,bY,aH,cF]at h;have:=b a (by rw[<-h.1];exact ad);simpa using this
 |k+1,[],aj,fr,gs,l,a,ad,_,h,b=>by
  simp only[List.take_nil,bY,aH,cF]at h;have:=b a (by rw[<-h.1];exact ad);simpa using this
 |k+1,o::rest,aj,fr,gs,l,a,ad,q,h,b=>by
  rw[kO]at h;obtain⟨d,u,t,fr',v,l',⟨aL,r⟩,ec,s,h'⟩:=UG (C:=λ w'=>w'=w) g (λ w' e=>by subst e;exact i) ad q h c (y' c);have next:=amg g i c k ec s h' (by simpa using b)
  refine wpList_step λ K b8=>?_;rcases r with⟨f,hy,_⟩|⟨f,rfl⟩
  ·rw[if_pos f]
   unfold Oper.wp
   rw[show(execOp a.eval o).run P w=_ from hy w rfl]
   show K (a.put o.dst u) w
   rw[aL]
   exact b8 _ _ next
  ·rw[if_neg (by simp[f]),aL]
   exact b8 _ _ next
theorem ak4{f:Act->Prop}(g:tC P G)(i:∀w,C w->j6 w M){gy:List (Nat×Value)}{p:List gU}{j:List (Nat×Nat)}(c:oa j):∀(k:Nat){rest:List Oper}{aj:List Nat}{fr:List (Nat×Value)}{gs:List gU}{l:List (Nat×Nat)}{a:Act},
 Fr n fr a->mW a gs->bY G ops n M (rest.take k) aj fr gs l=some (gy,p,j)->(∀m,Fr n gy m->wpQuiet P ops C f (rest.drop k) m)->wpQuiet P ops C f rest a
 |0,rest,aj,fr,gs,l,a,ad,_,h,b=>by
  simp only[mv,bY,aH,cF]at h;have:=b a (by rw[<-h.1];exact ad);simpa using this
 |k+1,[],aj,fr,gs,l,a,ad,_,h,b=>by
  simp only[List.take_nil,bY,aH,cF]at h;have:=b a (by rw[<-h.1];exact ad);simpa using this
 |k+1,o::rest,aj,fr,gs,l,a,ad,q,h,b=>by
  rw[kO]at h;obtain⟨d,u,t,fr',v,l',⟨aL,r⟩,ec,s,h'⟩:=UG (C:=C) g i ad q h c (y' c);have next:=ak4 g i c k ec s h' (by simpa using b)
  unfold wpQuiet;rcases r with⟨e,hy,_⟩|⟨e,rfl⟩
  ·rw[if_pos e]
   refine⟨u,λ w hc=>?_,?_⟩
   ·unfold Oper.quietAt
    rw[show(execOp a.eval o).run P w=_ from hy w hc]
    exact⟨rfl,rfl⟩
   ·rw[aL];exact next
  ·rw[if_neg (by simp[e]),aL]
   exact next
theorem UH{os:List Oper}{aj:List Nat}{fr:List (Nat×Value)}{e8:List Nat}{k:List (Nat×Value)}{L:List (Nat×Nat)}(h:mU G ops n M os aj fr e8=some (k,L)):∃gy a,bY G ops n M os aj fr [] []=some (gy,a,L)/\LB gy k:=by
 unfold mU at h;split at h
 ·rename_i fr' b l c
  split at h
  ·rename_i k' J
   simp only[aH,cF]at h
   obtain⟨rfl,rfl⟩:=h
   exact⟨fr',b,c,TW J⟩
  ·cases h
 ·cases h
theorem hI(k:Nat)(e8 aj:List Nat){w:World}{Q:Exit->Act->World->Prop}{rest:List Oper}{fr fr':List (Nat×Value)}{L:List Nat}{a:Act}(c:tC P G)(d:j6 w M)(ad:Fr n fr a)(e:mU G ops n M (rest.take k) aj fr e8=some (fr',dup L))
 (next:∀b,Fr n fr' b->wpList P ops Q (rest.drop k) b w):wpList P ops Q rest a w:=by
 obtain⟨gy,g,f,J⟩:=UH e
 exact amg (gs:=[]) c d (Ns L) k ad trivial f λ b ec=>next b (ec.sub J)
theorem aF8(k:Nat)(e8 aj:List Nat){c:Act->Prop}{rest:List Oper}{fr fr':List (Nat×Value)}{L:List Nat}{a:Act}(d:tC P G)(e:∀w,C w->j6 w M)(ad:Fr n fr a)(f:mU G ops n M (rest.take k) aj fr e8=some (fr',dup L))
 (next:∀b,Fr n fr' b->wpQuiet P ops C c (rest.drop k) b):wpQuiet P ops C c rest a:=by
 obtain⟨gy,h,g,J⟩:=UH f
 exact ak4 (gs:=[]) d e (Ns L) k ad trivial g λ b ec=>next b (ec.sub J)
end
def ff:List Nat->Nat->Bool
 |[],_=>false
 |i::r,j=>cy i j||ff r j
section
variable{P:Program}{ops:Array Oper}{Q:Exit->Act->World->Prop}{md:Region.Mode}{S:World->Prop}{p:Nat}
def xY(P:Program)(md:Region.Mode)(ops:Array Oper)(Q:Exit->Act->World->Prop)(p:Nat)(S:World->Prop):Nat->Array Bool->Act->World->Prop
 |0,listed,a,w=>Region.ready md ops listed=[]/\Q .normal a w
 |cM+1,listed,a,w=>
  (Region.ready md ops listed=[]->Q .normal a w)/\
  ∀i∈Region.ready md ops listed,wpOp P ops Q i (λ b w'=>((listed.setIfInBounds i true).getD p false=false->S w')/\xY P md ops Q p S cM (listed.setIfInBounds i true) b w') a w
theorem anb:∀(cM:Nat)(listed:Array Bool)(a:Act)(w:World),xY P md ops Q p S cM listed a w->wpAny P md ops Q cM listed a w
 |0,_,_,_,h=>h
 |cM+1,_,_,_,h=>⟨h.1,λ i hi=>wpOp_mono (λ b w' h'=>anb cM _ b w' h'.2) (h.2 i hi)⟩
theorem al5{a:Array Bool}{i p:Nat}(h:a.getD p false=true):(a.setIfInBounds i true).getD p false=true:=by
 simp only[e0,f_]at h⊢;split
 ·rename_i e
  subst e
  split
  ·rfl
  ·rename_i b
   rw[ib (by omega)]at h
   cases h
 ·exact h
theorem am'{c:Nat}{d:World->Prop}:∀(cM:Nat)(listed:Array Bool)(a:Act)(w:World),listed.getD p false=true->xY P md ops Q c d cM listed a w->xY P md ops Q p S cM listed a w
 |0,_,_,_,_,h=>h
 |cM+1,_,_,_,b,h=>⟨h.1,λ i hi=>wpOp_mono (λ e w' h'=>⟨λ ad=>absurd ((al5 b).symm.trans ad) (by simp),am' cM _ e w' (al5 b) h'.2⟩) (h.2 i hi)⟩
def n9:List Oper->Nat->Nat->List Nat->List Nat
 |[],_,_,acc=>acc
 |o::r,k,i,acc=>n9 r (k+1) i (match o.after.toList.any λ e=>Region.binds .any e&&(cy e.on i||ff acc e.on)with|true=>k::acc |false=>acc)
theorem sw{l:List Nat}{j:Nat}(h:ff l j=true):j∈l:=by
 induction l with
 |nil=>simp[ff]at h
 |cons i r a=>
  simp only[ff,ia]at h
  rcases h with h |h
  ·rw[bd h];simp
  ·exact dZ _ (a h)
def E2(ops:Array Oper)(i:Nat)(U:List Nat):Prop:=∀u∈U,∃o,ops[u]? =some o/\ ∃e∈o.after,Region.binds .any e=true/\(e.on=i\/e.on∈U)
theorem TZ{ops:Array Oper}{i:Nat}:∀ {l:List Oper}{k:Nat}{acc:List Nat},(∀m o,l[m]? =some o->ops[k+m]? =some o)->E2 ops i acc->E2 ops i (n9 l k i acc)
 |[],_,_,_,h=>h
 |o::r,k,acc,d,h=>by
  rw[n9];refine TZ (λ m a f=>by have:=d (m+1) a (by simpa using f);rwa [show k+(m+1)=k+1+m by omega]at this) ?_;split
  ·rename_i ag
   intro u hu
   rcases cI.1 hu with rfl |hu
   ·simp only[iY,cb,ia]at ag
    obtain⟨e,b,c,J⟩:=ag
    refine⟨o,by simpa using d 0 o rfl,e,by simpa using b,c,?_⟩
    rcases J with J |J
    ·exact .inl (bd J)
    ·exact .inr (dZ _ (sw J))
   ·obtain⟨a,g,e,b,c,J⟩:=h u hu
    exact⟨a,g,e,b,c,J.imp id (dZ _)⟩
  ·exact h
def abp(ops:Array Oper)(p i:Nat)(ds:List Nat):Bool:=(match nth ops.toList p with
 |none=>true
 |some _=>ff (n9 ops.toList 0 i []) p)&&(n9 ops.toList 0 i []).all λ u=>!(dV ops.size ds).getD u false
theorem abq{ops:Array Oper}{p i:Nat}{ds:List Nat}(h:abp ops p i ds=true):E2 ops i (n9 ops.toList 0 i [])/\(ops[p]? =none\/p∈n9 ops.toList 0 i [])/\ ∀u∈n9 ops.toList 0 i [],(dV ops.size ds).getD u false=false:=by
 unfold abp at h;rw[cb]at h;refine⟨TZ (λ m o c=>by simpa using c) (λ u a=>by simp at a),?_,λ u a=>?_⟩
 ·have b:=h.1
  rw[dh,hT]at b
  split at b
  ·rename_i d;exact .inl d
  ·exact .inr (sw b)
 ·have:=k_.1 h.2 u a
  simpa using this
theorem aKf{i:Nat}{oi:Oper}{v:Value}(hi:ops[i]? =some oi)(C:∀(j:Nat)(o:Oper) cs b,ops[j]? =some o->o.op≠ .select cs b)(N:p≠i)
 (O:∀c a w,Q (.panic c) (a.put oi.dst v) w->Q (.panic c) a w){U:List Nat}(R:E2 ops i U)(A:ops[p]? =none\/p∈U) :
 ∀(n:Nat)(listed:Array Bool)(a:Act)(w:World),
  (∀j f,ops[j]? =some f->j≠i->listed.getD j true=false->(∀e∈f.after,Region.binds .any e=true->e.on≠i)->oi.apart ops f=true) ->
  listed.getD p false=false->(∀u∈U,listed.getD u false=false)->i∈Region.ready .any ops listed->YieldsIf P ops S oi v a->S w ->
  xY P .any ops Q p S n (listed.setIfInBounds i true) (a.put oi.dst v) w->xY P .any ops Q p S (n+1) listed a w:=by
 intro n
 induction n with
 |zero=>
  intro listed a w _ _ _ g hy q H
  refine⟨λ h=>(by rw[h]at g;cases g),λ j aA=>?_⟩
  by_cases d:j=i
  ·subst d;exact hy.wpOp hi q ⟨λ _=>q,H⟩
  ·have:=ready_mono aA d
   rw[H.1]at this
   cases this
 |succ n T=>
  intro listed a w D y r g hy q H
  refine⟨λ h=>(by rw[h]at g;cases g),λ j aA=>?_⟩
  by_cases d:j=i
  ·subst d;exact hy.wpOp hi q ⟨λ _=>q,H⟩
  ·have l:=H.2 j (ready_mono aA d)
   obtain⟨E,f,s,F⟩:=mem_ready.1 aA
   have G:∀e∈f.after,Region.binds .any e=true->e.on≠i:=λ e z ag heq=>by
    have l:=F e z ag;have I:=(mem_ready.1 g).1;rw[heq]at l;rcases gL i listed.size with h' |h'
    ·simp[h']at I l;rw[I]at l;cases l
    ·simp[ib h']at l
   have K:j∉U:=λ V=>by
    obtain⟨c',B,e,z,ag,J⟩:=R j V;rw[s]at B;simp only[aH]at B;subst B;rcases J with J |J
    ·exact G e z ag J
    ·have m:=F e z ag
     rw[r _ J]at m
     cases m
   have t:j≠p:=λ e=>by
    subst e;rcases A with h |h
    ·rw[s]at h;cases h
    ·exact K h
   have W:∀u∈U,(listed.setIfInBounds j true).getD u false=false:=λ u L=>by
    have:=r u L;have X:j≠u:=λ e=>K (e▸L);simp only[e0,f_,if_neg X]at this⊢;exact this
   have Y:(listed.setIfInBounds j true).getD p false=false:=by
    simp only[e0,f_,if_neg t]at y⊢;exact y
   have x:((listed.setIfInBounds i true).setIfInBounds j true).getD p false=false:=by
    simp only[e0,f_,if_neg t,if_neg (Ne.symm N)]at y⊢;exact y
   have J:=wpOp_putIf s (D j f s d E G) (λ cs b=>C i oi cs b hi) (λ cs b=>C j f cs b s) O hy l
   have Z:∀k ok,ops[k]? =some ok->k≠i->(listed.setIfInBounds j true).getD k true=false ->
    (∀e∈ok.after,Region.binds .any e=true->e.on≠i)->oi.apart ops ok=true:=λ k ok hk JL r j0=>by
    refine D k ok hk JL ?_ j0
    by_cases M:j=k
    ·subst M;exact E
    ·rw[getD_set_ne true M]at r;exact r
   refine wpOp_mono (λ aU w' m=>⟨λ _=>m.2.1 x,T (listed.setIfInBounds j true) aU w' Z Y W (ready_mono g (Ne.symm d)) m.1 (m.2.1 x) ?_⟩) J
   rw[jK _ _ d]
   exact m.2.2
theorem am_{i:Nat}{oi:Oper}{v:Value}(hi:ops[i]? =some oi)(u:∀(j:Nat)(o:Oper) cs b,ops[j]? =some o->o.op≠ .select cs b)(D:p≠i)
 (E:∀c a w,Q (.panic c) (a.put oi.dst v) w->Q (.panic c) a w) :
 ∀(m:Nat)(listed:Array Bool)(a:Act)(w:World),
  (∀j f,ops[j]? =some f->j≠i->listed.getD j true=false->(∀e∈f.after,Region.binds .any e=true->e.on≠i)->oi.apart ops f=true) ->
  (listed.getD p false=false->S w)->i∈Region.ready .any ops listed->YieldsIf P ops (λ _=>True) oi v a ->
  xY P .any ops Q p S m (listed.setIfInBounds i true) (a.put oi.dst v) w->xY P .any ops Q p S (m+1) listed a w:=by
 have q:∀(r:Array Bool)(b:Bool),(r.setIfInBounds i true).getD p b=r.getD p b:=λ r b=>by
  simp only[e0,f_,if_neg (Ne.symm D)]
 intro m
 induction m with
 |zero=>
  intro listed a w _ s g hy H
  refine⟨λ h=>(by rw[h]at g;cases g),λ j aA=>?_⟩
  by_cases d:j=i
  ·subst d;exact hy.wpOp hi trivial ⟨λ h=>s (by rwa [q]at h),H⟩
  ·have:=ready_mono aA d
   rw[H.1]at this
   cases this
 |succ m F=>
  intro listed a w x s g hy H
  refine⟨λ h=>(by rw[h]at g;cases g),λ j aA=>?_⟩
  by_cases d:j=i
  ·subst d;exact hy.wpOp hi trivial ⟨λ h=>s (by rwa [q]at h),H⟩
  ·have l:=H.2 j (ready_mono aA d)
   obtain⟨y,f,t,G⟩:=mem_ready.1 aA
   have I:∀e∈f.after,Region.binds .any e=true->e.on≠i:=λ e K ag heq=>by
    have l:=G e K ag;have z:=(mem_ready.1 g).1;rw[heq]at l;rcases gL i listed.size with h' |h'
    ·simp[h']at z l;rw[z]at l;cases l
    ·simp[ib h']at l
   have J:=wpOp_putIf t (x j f t d y I) (λ cs b=>u i oi cs b hi) (λ cs b=>u j f cs b t) E hy l
   have L:∀k ok,ops[k]? =some ok->k≠i->(listed.setIfInBounds j true).getD k true=false ->
    (∀e∈ok.after,Region.binds .any e=true->e.on≠i)->oi.apart ops ok=true:=λ k ok M N A O=>by
    refine x k ok M N ?_ O
    by_cases B:j=k
    ·subst B;exact y
    ·rw[getD_set_ne true B]at A;exact A
   have C:∀w',(((listed.setIfInBounds i true).setIfInBounds j true).getD p false=false->S w')->(listed.setIfInBounds j true).getD p false=false->S w':=λ w' R T=>
    R (by rw[jK _ _ (Ne.symm d),q];exact T)
   refine wpOp_mono (λ U w' n=>⟨C w' n.2.1,F (listed.setIfInBounds j true) U w' L (C w' n.2.1) (ready_mono g (Ne.symm d)) n.1 ?_⟩) J
   rw[jK _ _ d]
   exact n.2.2
end
def ft(P:Program)(ops:Array Oper)(Q:Exit->Act->World->Prop)(p:Nat)(S:World->Prop)(f:Nat)(ds:List Nat)(a:Act)(w:World):Prop:=((dV ops.size ds).getD p false=false->S w)/\xY P .any ops (NoPanic Q) p S f (dV ops.size ds) a w
def DZ(ops:List Oper):List Nat->Option (List Oper)
 |[]=>some []
 |i::r=>match nth ops i,DZ ops r with
  |some o,some os=>some (o::os)
  |_,_=>none
def aj6(ops:Array Oper)(i:Nat):Bool:=match nth ops.toList i with
 |some o=>!Gp o.op
 |none=>false
def Hn(ops:Array Oper)(p:Nat):List Nat->List Nat->Bool
 |_,[]=>true
 |ds,i::r=>QS ops ds i&&(abp ops p i ds||aj6 ops i)&& !cy p i&&Hn ops p (i::ds) r
def K':List Nat->List Nat->List Nat
 |[],ds=>ds
 |i::r,ds=>K' r (i::ds)
section
variable{P:Program}{G:mJ}{ops:Array Oper}{n:cE}{M:List (Nat×Nat×List Value)}{S:World->Prop}{Q:Exit->Act->World->Prop}{a:Act}{w:World}{f p:Nat}{ds:List Nat}
theorem aEe(i:Nat):dV ops.size (i::ds)=(dV ops.size ds).setIfInBounds i true:=rfl
theorem ft.wpAny(h:ft P ops Q p S f ds a w):Go.wpAny P .any ops (NoPanic Q) f (dV ops.size ds) a w:=anb f _ a w h.2
theorem MV(hc:(Region.ready .any ops (dV ops.size ds)).isEmpty=true)(h:Q .normal a w)(c:(dV ops.size ds).getD p false=false->S w):ft P ops Q p S f ds a w:=by
 refine⟨c,?_⟩;have b:=List.isEmpty_iff.1 hc;cases f with
 |zero=>exact⟨b,NoPanic.normal h⟩
 |succ f=>exact⟨λ _=>NoPanic.normal h,by rw[b];simp⟩
theorem ft.next(c:Nat)(d:World->Prop)(b:(dV ops.size ds).getD p false=true)(h:ft P ops Q c d f ds a w):ft P ops Q p S f ds a w:=
 ⟨λ ad=>absurd (b.symm.trans ad) (by simp),am' f _ a w b h.2⟩
theorem adY(B:tC P G)(D:∀w,S w->j6 w M)(m:S w){gy:List (Nat×Value)}{L:List gU}{E:List (Nat×Nat)}(q:oa E):∀(is:List Nat){os:List Oper}{aj ds:List Nat}{fr:List (Nat×Value)}{gs:List gU}{l:List (Nat×Nat)}{a:Act},
 (dV ops.size ds).getD p false=false->DZ ops.toList is=some os->Hn ops p ds is=true->Fr n fr a->mW a gs->bY G ops n M os aj fr gs l=some (gy,L,E)->(∀F,Fr n gy F->ft P ops Q p S f (K' is ds) F w)->ft P ops Q p S (f+is.length) ds a w
 |[],os,aj,ds,fr,gs,l,a,_,b,_,ad,_,h,r=>by
  simp only[DZ,aH]at b;subst b;simp only[bY,aH,cF]at h;exact r a (by rw[<-h.1];exact ad)
 |i::is,os,aj,ds,fr,gs,l,a,s,b,H,ad,N,h,r=>by
  simp only[DZ]at b;split at b
  ·rename_i o O j J
   simp only[aH]at b
   subst b
   rw[dh,hT]at j
   simp only[Hn,cb,ha]at H
   obtain⟨⟨⟨g,k⟩,I⟩,t⟩:=H
   have z:p≠i:=λ e=>by rw[e]at I;simp at I
   obtain⟨d,u,U,fr',V,l',⟨aL,K⟩,ec,R,h'⟩:=UG (C:=S) B D ad N h q (y' q)
   have T:(dV ops.size (i::ds)).getD p false=false:=by
    rw[aEe];simp only[e0,f_,if_neg (Ne.symm z)]at s⊢;exact s
   have next:=adY B D m q is T J t ec R h' r
   simp only[QS,cb]at g
   refine⟨λ _=>m,?_⟩
   have:=next.2
   rw[show f+(i::is).length=f+is.length+1 by simp[kU]]
   rw[ia]at k
   rcases k with k |JU
   ·refine aKf (v:=u) j (Region.noSelect_spec g.1.1) z (λ c a w h=>h) (abq k).1 (abq k).2.1 (f+is.length) _ a w (Region.free_spec j g.1.2) s (abq k).2.2 (by simpa using g.2) (K.imp (λ⟨x,y,_⟩=>⟨x,y⟩) id) m ?_
    rw[aL]
    exact this
   ·have A:Gp o.op=false:=by
     unfold aj6 at JU;rw[dh,hT,j]at JU;simpa using JU
    refine am_ (v:=u) j (Region.noSelect_spec g.1.1) z (λ c a w h=>h) (f+is.length) _ a w (Region.free_spec j g.1.2) (λ _=>m) (by simpa using g.2) (K.imp (λ⟨x,_,y⟩=>⟨x,λ w _=>y A w⟩) id) ?_;rw[aL];exact this
  ·cases b
theorem auf(is:List Nat)(k:Nat)(e8 aj:List Nat){os:List Oper}{fr fr':List (Nat×Value)}{L:List Nat}(d:tC P G)(e:∀w,S w->j6 w M)(ad:Fr n fr a)(c:cy is.length k=true)(g:(dV ops.size ds).getD p false=false)(hi:DZ ops.toList is=some os)(h:Hn ops p ds is=true)
 (i:mU G ops n M os aj fr e8=some (fr',dup L))(j:S w)(next:∀b,Fr n fr' b->ft P ops Q p S f (K' is ds) b w):ft P ops Q p S (f+k) ds a w:=by
 have c:=bd c
 subst c
 obtain⟨gy,m,l,J⟩:=UH i
 exact adY (gs:=[]) d e j (Ns L) is g hi h ad trivial l λ b ec=>next b (ec.sub J)
theorem mQ(i:Nat){o:Oper}(hi:ops[i]? =some o)(hc:(Region.ready .any ops (dV ops.size ds)==[i])=true)(d:(dV ops.size ds).getD p false=false->S w)(h:wpList P ops (E_ (ft P ops Q p S f (i::ds)) (NoPanic Q)) [o] a w):ft P ops Q p S (f+1) ds a w:=by
 have b:=eq_of_beq hc;refine⟨d,⟨λ c=>(by rw[b]at c;cases c),λ j aA=>?_⟩⟩;rw[b]at aA;have:j=i:=by simpa using aA
 subst this;exact abw hi h
theorem adU(i j:Nat){o b:Oper}(hi:ops[i]? =some o)(aA:ops[j]? =some b)(hc:(Region.ready .any ops (dV ops.size ds)==[i,j])=true)(g:(dV ops.size ds).getD p false=false->S w)(h:wpList P ops (E_ (ft P ops Q p S f (i::ds)) (NoPanic Q)) [o] a w)
 (h':wpList P ops (E_ (ft P ops Q p S f (j::ds)) (NoPanic Q)) [b] a w):ft P ops Q p S (f+1) ds a w:=by
 have c:=eq_of_beq hc
 refine⟨g,⟨λ d=>(by rw[c]at d;cases d),λ q e=>?_⟩⟩
 rw[c]at e
 have:q=i\/q=j:=by simpa using e
 rcases this with rfl |rfl
 ·exact abw hi h
 ·exact abw aA h'
theorem ko(h:ft P ops Q p S f ds a w):wpList P ops (E_ (ft P ops Q p S f ds) (NoPanic Q)) [] a w:=h
end
end ay
namespace ay
open Go Go.RowKit I
theorem TC(p q:List UInt8):((⟨⟨p⟩⟩:ByteArray)==⟨⟨q⟩⟩)=decide (p=q):=by
 show((⟨p⟩:Array UInt8)==⟨q⟩)=_
 rw[iT];simp
structure lY (cR:Type) [DecidableEq cR] where
 enc:cR->Value
 desc:TypeDesc
 same:∀a b,Instr.sameNow desc (enc a) (enc b)=some (decide (b=a))
 bits:∀a,Instr.sameBits 10000 (enc a) (enc a)=true
 check:∀(P:Program)(w:World)(e:Bool)(t:TypeId)(a:cR),P.underlying t=some desc->(Instr.checkKey e 10000 t (enc a)).run P w= .ok () w
def aCg:lY Int where
 enc n:=.int .i64 n
 desc:=.int .i64
 same a b:=by
  simp only[Instr.sameNow,if_true,aH];rw[iT];simp only[beq_iff_eq,decide_eq_true_iff];exact eq_comm
 bits a:=by
  have h:∀n,Instr.sameBits n (.int .i64 a) (.int .i64 a)=true:=λ n=>by cases n<;>simp[Instr.sameBits]
  exact h 10000
 check P w e t a h:=by
  have h':∀n:Nat,(Instr.checkKey e (n+1) t (.int .i64 a)).run P w= .ok () w:=λ n=>by simp[Instr.checkKey,run_underlying h]
  exact h' 9999
def nj:lY (List UInt8) where
 enc s:=cw s
 desc:=.string
 same a b:=by
  simp only[Instr.sameNow,aH];have e:decide (a=b)=decide (b=a):=by rw[decide_eq_decide];exact eq_comm
  exact(TC a b).trans e
 bits a:=by
  have h:∀n,Instr.sameBits n (cw a) (cw a)=true:=λ n=>by
   have e:((⟨⟨a⟩⟩:ByteArray)==⟨⟨a⟩⟩)=true:=(TC a a).trans (by simp);cases n<;>(simp only[Instr.sameBits];exact e)
  exact h 10000
 check P w e t a h:=by
  have h':∀n:Nat,(Instr.checkKey e (n+1) t (cw a)).run P w= .ok () w:=λ n=>by simp[Instr.checkKey,run_underlying h]
  exact h' 9999
section
variable{cR β:Type} [DecidableEq cR](K:lY cR)(bY:β->Value)
def S2(es:List MapEntry)(d:List (cR×β)):Prop:=es.map (λ e=>(e.key,e.val))=d.map (λ p=>(K.enc p.1,bY p.2))
def adI(w:World)(r:Nat)(d:List (cR×β)):Prop:=∃es clock,w.heap[r]? =some (.map es clock)/\S2 K bY es.toList d/\(es.toList.map (·.born)).Pairwise (·< ·)/\ ∀e∈es.toList,e.born<clock
def bb.map(r:Nat)(d:List (cR×β)):bb where
 bE:=[r]
 ok w:=adI K bY w r d
 law w w' h a:=by
  obtain⟨es,c,b,J⟩:=a;exact⟨es,c,(h r (by simp)).trans b,J⟩
def bF.map(r:Nat)(d:List (cR×β)):bF where
 ok M w:=r∉M/\r<w.heap.size/\adI K bY w r d
 law M jR w w' a f h:=by
  obtain⟨b,J,es,c,g,i⟩:=h;exact⟨λ j=>by rcases f r j with e |e;exact b e;omega,fe J a.size,es,c,(a.block r J b).trans g,i⟩
end
section
variable{cR β:Type} [DecidableEq cR]{K:lY cR}{bY:β->Value}
variable{P:Program}{o:Oper}{a:Act}{w:World}{x y z:Operand}{t kt IX:TypeId}{r:Nat}{d:List (cR×β)}{k:cR}{v:β}
theorem aNB(b:o.op= .makeMap t none):bh P o a w (.map (some w.heap.size)) (w.alloc (.map #[] 0)):=by
 simp only[bh,execOp,b,Sem.run_bind];rfl
end
end ay
namespace ay
open Go Go.RowKit I
def ady(E:List bb):Prop:=∀(i:Nat)(x:bb),E[i]? =some x->x.bE.Nodup/\ ∀(j:Nat)(y:bb),E[j]? =some y->i≠j-> ∀k∈x.bE,k∉y.bE
theorem UJ:∀ {E:List bb},(bZ E).Nodup->ady E
 |[],_=>λ i x h=>by simp at h
 |e::E,h=>by
  have h':(e.bE++bZ E).Nodup:=by simpa[bZ]using h
  rw[fA]at h';obtain⟨l,J,d⟩:=h';have f:=UJ J;intro i x a;cases i with
  |zero=>
   simp only[dU,aH]at a
   subst a
   refine⟨l,λ j y hy g k b c=>?_⟩
   cases j with
   |zero=>exact g rfl
   |succ j=>exact d k b k (hM.2 ⟨y,bG (by simpa using hy),c⟩) rfl
  |succ i=>
   have a:E[i]? =some x:=by simpa using a
   refine⟨(f i x a).1,λ j y hy g k b c=>?_⟩
   cases j with
   |zero=>
    simp only[dU,aH]at hy
    subst hy
    exact d k c k (hM.2 ⟨x,bG a,b⟩) rfl
   |succ j=>exact(f i x a).2 j y (by simpa using hy) (by omega) k b c
theorem aka:∀ {E:List bb},ady E->(bZ E).Nodup
 |[],_=>by simp[bZ]
 |e::E,h=>by
  have f:bZ (e::E)=e.bE++bZ E:=by simp[bZ]
  rw[f,fA];refine⟨(h 0 e rfl).1,aka λ i x c=>⟨(h (i+1) x (by simpa using c)).1,λ j y hy m k d=>(h (i+1) x (by simpa using c)).2 (j+1) y (by simpa using hy) (by omega) k d⟩,λ a g b ag l=>?_⟩;subst l;obtain⟨x,c,d⟩:=hM.1 ag;obtain⟨i,hi,rfl⟩:=jf.1 c;exact(h 0 e rfl).2 (i+1) E[i] (by simp[hi]) (by omega) a g d
def Hg(E:List bb):List Nat->Option (List bb)
 |[]=>some []
 |i::r=>match nth E i,Hg E r with
  |some x,some xs=>some (x::xs)
  |_,_=>none
def OL:List Nat->Nat->Bool
 |[],_=>false
 |i::r,j=>cy i j||OL r j
def KD:List Nat->Bool
 |[]=>true
 |i::r=>!OL r i&&KD r
theorem aBt{l:List Nat}{j:Nat}(h:OL l j=false):j∉l:=by
 induction l with
 |nil=>simp
 |cons i r a=>
  simp only[OL,iF]at h
  intro b
  rcases cI.1 b with rfl |e
  ·simp at h
  ·exact a h.2 e
theorem ajQ:∀ {l:List Nat},KD l=true->l.Nodup
 |[],_=>by simp
 |i::r,h=>by
  simp only[KD,cb,ha]at h;exact ie.2 ⟨aBt h.1,ajQ h.2⟩
theorem QE{E:List bb}:∀ {is:List Nat}{b:List bb},Hg E is=some b-> ∀(m:Nat)(x:bb),b[m]? =some x-> ∃i:Nat,is[m]? =some i/\E[i]? =some x
 |[],b,h,m,x,a=>by simp only[Hg,aH]at h;subst h;simp at a
 |i::r,b,h,m,x,a=>by
  simp only[Hg]at h;split at h
  ·rename_i y ys c J
   simp only[aH]at h
   subst h
   cases m with
   |zero=>
    simp only[dU,aH]at a
    subst a
    exact⟨i,rfl,by rw[<-dh];exact c⟩
   |succ m=>obtain⟨q,d,e⟩:=QE J m x (by simpa using a);exact⟨q,by simpa using d,e⟩
  ·cases h
section
variable{W w w':World}{M0 X:List Nat}{E:List bb}{D:List bF}
theorem bz.sel(h:bz W M0 X w E D)(is:List Nat){c:List bb}(o:KD is=true)(aj:Hg E is=some c):bz W M0 X w c D:=by
 have d:∀x∈c,x∈E:=λ x a=>by
  obtain⟨m,p,rfl⟩:=jf.1 a;obtain⟨i,_,hi⟩:=QE aj m _ (aK p);exact bG hi
 have ad:∀k∈bZ c,k∈bZ E:=λ k b=>by
  obtain⟨x,a,q⟩:=hM.1 b;exact hM.2 ⟨x,d x a,q⟩
 have aL:=UJ h.bC;have f:=ajQ o;refine⟨h.bY,h.hW,λ k b=>h.lt k (ad k b),λ x a=>h.ok x (d x a),aka λ m x a=>?_,λ y hy=>y.law _ _ w w (br.refl _ _) (λ k b=>.inl ?_) (h.rd y hy)⟩
 ·obtain⟨i,hi,g⟩:=QE aj m x a
  refine⟨(aL i x g).1,λ e9 y hy r k b=>?_⟩
  obtain⟨j,aA,s⟩:=QE aj e9 y hy
  refine(aL i x g).2 j y s (λ e=>?_) k b
  subst e
  obtain⟨l1,l⟩:=aP.1 hi
  obtain⟨n,ao⟩:=aP.1 aA
  rcases Nat.lt_or_gt_of_ne r with bD |bD
  ·exact(jl.1 f m e9 l1 n bD) (l.trans ao.symm)
  ·exact(jl.1 f e9 m n l1 bD) (ao.trans l.symm)
 ·rcases cj.1 b with e |e
  ·exact cj.2 (.inl e)
  ·exact cj.2 (.inr (ad k e))
theorem FO(A B:List bb):bZ (A++B)=bZ A++bZ B:=by simp[bZ]
theorem bz.into(h:bz W M0 X w E D)(m:Nat):bz w (bZ (E.take m)) (X++bZ (E.drop m)) w (E.take m) D:=by
 have a7:bZ E=bZ (E.take m)++bZ (E.drop m):=by rw[<-FO,jv]
 have aL:=h.bC;rw[a7,fA]at aL;refine⟨br.refl _ _,λ k a=>?_,λ k a=>⟨(h.lt k (by rw[a7];simp[a])).1,.inl a⟩,λ x c=>h.ok x (List.mem_of_mem_take c),aL.1,λ y hy=>y.law _ _ w w (br.refl _ _) (λ k a=>.inl ?_) (h.rd y hy)⟩
 ·rcases cj.1 a with e |e
  ·refine⟨fe (h.hW k e).1 h.bY.size,λ b=>?_⟩
   have:=(h.lt k (by rw[a7];simp[b])).2
   rcases this with ao |ao
   ·exact(h.hW k e).2 ao
   ·have:=(h.hW k e).1;omega
  ·exact⟨(h.lt k (by rw[a7];simp[e])).1,λ b=>aL.2.2 k b k e rfl⟩
 ·rw[a7]
  simp only[cj]at a⊢
  rcases a with(e |e)|e<;>simp[e]
def S5:List bF->Prop
 |[]=>True
 |y::r=>(∀M jR w w',y.ok M w->y.ok jR w')/\S5 r
theorem adz:∀ {D:List bF},S5 D-> ∀y∈D,∀M jR w w',y.ok M w->y.ok jR w'
 |[],_,y,hy=>by simp at hy
 |z::r,h,y,hy=>by
  rcases cI.1 hy with rfl |e
  ·exact h.1
  ·exact adz h.2 y e
theorem bz.ad4(h:bz W M0 X w E D)(m:Nat){l:List Nat}{d:List bb}{i:List bF}(k:bz w (bZ (E.take m)) l w' d i)(n:∀y∈i,y.ok (X++bZ (d++E.drop m)) w'):bz W M0 X w' (d++E.drop m) (i++D):=by
 have a7:bZ E=bZ (E.take m)++bZ (E.drop m):=by rw[<-FO,jv]
 have aL:=h.bC;rw[a7,fA]at aL;have j:∀b∈bZ (E.take m),b<w.heap.size/\(b∈M0\/W.heap.size<=b):=λ b ag=>h.lt b (by rw[a7];simp[ag]);have f:∀b∈bZ (E.drop m),b<w.heap.size/\(b∈M0\/W.heap.size<=b):=λ b ag=>h.lt b (by rw[a7];simp[ag]);have g:=k.bY;have o:∀b∈bZ d,b∉bZ (E.drop m):=λ b ag c=>by
  rcases(k.lt b ag).2 with e |e
  ·exact aL.2.2 b e b c rfl
  ·have:=(f b c).1;omega
 refine⟨h.bY.trans g (λ b ag=>(j b ag).2),h.hW,λ b ag=>?_,λ x p=>?_,?_,λ y hy=>?_⟩
 ·rw[FO]at ag
  rcases cj.1 ag with e |e
  ·refine⟨(k.lt b e).1,?_⟩
   rcases(k.lt b e).2 with ao |ao
   ·exact(j b ao).2
   ·exact .inr (hv h.bY.size ao)
  ·exact⟨fe (f b e).1 g.size,(f b e).2⟩
 ·rcases cj.1 p with e |e
  ·exact k.ok x e
  ·refine x.law w w' (λ b ag=>?_) (h.ok x (l7 e))
   have c:b∈bZ (E.drop m):=hM.2 ⟨x,e,ag⟩
   exact g.block b (f b c).1 (λ q=>aL.2.2 b q b c rfl)
 ·rw[FO,fA]
  exact⟨k.bC,aL.2.1,λ a r b ag e=>by subst e;exact o a r ag⟩
 ·rcases cj.1 hy with e |e
  ·exact n y e
  ·refine y.law _ _ w w' (g.mono λ b ag=>?_) (λ b ag=>?_) (h.rd y e)
   ·rw[a7];simp[ag]
   ·rw[FO]at ag
    rw[a7]
    simp only[cj]at ag⊢
    rcases ag with ai |ai |ai
    ·simp[ai]
    ·rcases(k.lt b ai).2 with ao |ao
     ·simp[ao]
     ·exact .inr ao
    ·simp[ai]
theorem bz.back(h:bz W M0 X w E D)(m:Nat){a:List bb}{c:List bF}(k:bz w (bZ (E.take m)) (X++bZ (E.drop m)) w' a c):bz W M0 X w' (a++E.drop m) (c++D):=
 h.ad4 m k λ y hy=>y.law _ _ w' w' (br.refl _ _) (λ b ag=>.inl (by
  rw[FO]at ag;simp only[cj]at ag⊢;rcases ag with e |e |e<;>simp[e])) (k.rd y hy)
theorem bz.gx(h:bz W M0 X w E D)(m:Nat){c:List Nat}{b:List bb}{a:List bF}(d:S5 a)(k:bz w (bZ (E.take m)) c w' b a):bz W M0 X w' (b++E.drop m) (a++D):=
 h.ad4 m k λ y hy=>adz d y hy _ _ _ _ (k.rd y hy)
end
end ay
namespace ay
open Go Go.RowKit I
section
variable{P:Program}{ops:Array Oper}{Q:Exit->Act->World->Prop}{a:Act}{w:World}{rest:List Oper}{o:Oper}{n:cE}{d:Nat}{l:List (Nat×Value)}
 {W:World}{M0 X:List Nat}{E:List bb}{D:List bF}
theorem bz.alL(h:bz W M0 X w E D){α:Type}{T:dj α}{xs:List Value}{li:List α}(b:dM T (im (X++bZ E) w) w xs li):bz W M0 X w E (bF.rows T xs li::D):=h.more b
theorem QD{α:Type}{T:dj α}{t e:TypeId}{x y:Operand}{z:Value}{bytes m c:Nat}{v:Value}{li ml l':List α}{xs cs:List Value}{en:Addr}(i:Nat)(r:bz W M0 X w E D)(hi:E[i]? =some (bb.row e T.size v li xs))
 (C:P.underlying t=some (.slice e))(F:(P.info? e).map (λ i=>(i.zero,i.size,i.bytes))=some (some z,T.size,bytes))(G:z.cells.size=T.size)(H:0<T.size)
 (I:bI bytes li ml=some l')(K:ml.length=m)(L:0<bytes)
 (M:dM T (im (X++bZ E) w) w xs li)(hcs:dM T (im (X++bZ E) w) w cs ml)(N:∀j u,cs[j]? =some u->w.cell? (en.add j)=some u)
 (O:Region.wanted o (yielded ops a.tmps)=true)
 (R:o.op= .call { callee:=.builtin .append,args:=#[x,y],argTypes:=#[t,t] })(S:a.eval x=v)(hy:a.eval y= .slice (some en) m c)(ad:Fr n l a)(aL:o.dst=some d)(U:fs d n=true)
 (k:∀f A b w',br v.ownBlock.toList w w'->Fr n ((d,.slice A l'.length b)::l) f->bz W M0 X w' (E.set i (bb.row e T.size (.slice A l'.length b) l' (xs++cs))) (bF.rows T (xs++cs) l'::D)->wpList P ops Q rest f w'):wpList P ops Q (o::rest) a w:=by
 obtain⟨V,Y,g,C6,Z⟩:=aio F
 obtain⟨wx,rfl⟩:=MX I
 have lD:w.ownsRow 0 e T.size v li.length xs:=r.e i hi
 subst K
 have h:li.length+ml.length<=maxLen:=by
  have J:=mC (li.length+ml.length) L;simp only[maxLen];omega
 obtain⟨fl,w',gA,J,s,_,cZ⟩:=run_append_own_at (P:=P) w 0 t o.type e V z T.size bytes C Y g C6 Z G H v li.length xs lD en ml.length c cs (xK T hcs)
  N (G8 T hcs) h wx (gT _)
 have B:(bb.row e T.size fl (li++ml) (xs++cs)).ok w':=by
  show w'.ownsRow 0 e T.size fl (li++ml).length (xs++cs)
  rw[dR];exact J
 obtain⟨A,b,rfl,_⟩:=La B
 have pF:bh P o a w (.slice A (li++ml).length b) w':=by
  simp only[bh,execOp,R,resolve,invoke,builtin,Sem.run_bind,Sem.run_pure,Result.andThen_ok,hK,eB,iD,S,hy,gA]
 have ux:=r.alL (K3 T hcs M)
 refine fS O pF ad aL U λ f ec=>k f A b w' (br.grown s) ec (ux.Q0 i hi (br.grown s) B (aFp _) λ q aN=>?_)
 have sp:(Value.slice A (li++ml).length b).ownBlock=some q:=by simpa[bb.row]using aN
 rcases cZ with dw |dw
 ·left;simpa[bb.row,<-dw]using sp
 ·right
  rw[dw]at sp
  injection sp with sp
  subst sp
  refine⟨cT _,?_⟩
  rcases J.2 with⟨p,_⟩|⟨g',cap,cur,p,_,fG,_⟩
  ·rw[p]at dw;simp[Value.ownBlock]at dw
  ·rw[p]at dw
   have:g'=w.heap.size:=by simpa[Value.ownBlock]using dw
   subst this
   exact(gw.1 fG).1
theorem Lg{α:Type}{T:dj α}{t e:TypeId}{x y:Operand}{z:Value}{bytes g m c:Nat}{v:Value}{li ml l':List α}{xs cs:List Value}(i j q:Nat)(h:bz W M0 X w E D)(hi:E[i]? =some (bb.row e T.size v li xs))(aA:E[j]? =some (bb.ck g e cs))(p:D[q]? =some (bF.rows T xs li))
 (r:P.underlying t=some (.slice e))(s:(P.info? e).map (λ i=>(i.zero,i.size,i.bytes))=some (some z,T.size,bytes))(B:z.cells.size=T.size)(C:fs 0 T.size=true)
 (F:bI bytes li ml=some l')(G:ml.length=m)(H:fs 0 bytes=true)(hcs:dM T (im (X++bZ E) w) w cs ml)
 (I:Region.wanted o (yielded ops a.tmps)=true)
 (J:o.op= .call { callee:=.builtin .append,args:=#[x,y],argTypes:=#[t,t] })(K:a.eval x=v)(hy:a.eval y= .slice (some ⟨g,0,none⟩) m c)(ad:Fr n l a)(aL:o.dst=some d)(L:fs d n=true)
 (k:∀b A f e5 w',Fr n ((d,.slice A l'.length f)::l) b->bz W M0 X w' ((E.set i (bb.row e T.size (.slice A l'.length f) l' e5)).eraseIdx j) (bF.rows T e5 l'::D)->wpList P ops Q rest b w'):wpList P ops Q (o::rest) a w:=by
 have ag:=h.e j aA
 exact QD i h hi r s B (cS C) F G (cS H) (h.d q p) hcs (λ j u M=>by rw[lm];simpa using yZ ag M) I J K hy ad aL L
  λ b A f w' _ ec N=>k b A f _ w' ec (N.Nt j)
theorem aaM{α:Type}{T:dj α}{t e:TypeId}{x y:Operand}{z:Value}{bytes g m c:Nat}{v:Value}{li ml l':List α}{xs cs:List Value}(i j q:Nat)(h:bz W M0 X w E D)(hi:E[i]? =some (bb.row e T.size v li xs))(aA:E[j]? =some (bb.ck g e cs))(p:D[q]? =some (bF.rows T xs li))
 (r:P.underlying t=some (.slice e))(s:(P.info? e).map (λ i=>(i.zero,i.size,i.bytes))=some (some z,T.size,bytes))(B:z.cells.size=T.size)(C:fs 0 T.size=true)
 (F:bI bytes li ml=some l')(G:ml.length=m)(H:fs 0 bytes=true)(hcs:dM T (im (X++bZ E) w) w cs ml)
 (I:Region.wanted o (yielded ops a.tmps)=true)
 (J:o.op= .call { callee:=.builtin .append,args:=#[x,y],argTypes:=#[t,t] })(K:a.eval x=v)(hy:a.eval y= .slice (some ⟨g,0,none⟩) m c)(ad:Fr n l a)(aL:o.dst=some d)(L:fs d n=true)
 (k:∀b A f e5 w',br v.ownBlock.toList w w'->Fr n ((d,.slice A l'.length f)::l) b->bz W M0 X w' ((E.set i (bb.row e T.size (.slice A l'.length f) l' e5)).eraseIdx j) (bF.rows T e5 l'::D)->wpList P ops Q rest b w'):wpList P ops Q (o::rest) a w:=by
 have ag:=h.e j aA
 exact QD i h hi r s B (cS C) F G (cS H) (h.d q p) hcs (λ j u M=>by rw[lm];simpa using yZ ag M) I J K hy ad aL L
  λ b A f w' N ec O=>k b A f _ w' N ec (O.Nt j)
theorem aNk{t e:TypeId}{x y:Operand}{v:Value}{sz k:Nat}{xs:List Value}{z:Value}{bytes:Nat}(b:P.underlying t=some (.slice e))(c:(P.info? e).map (λ i=>(i.zero,i.size,i.bytes))=some (some z,sz,bytes))(f:w.ownsRow 0 e sz v k xs)
 (g:o.op= .call { callee:=.builtin .append,args:=#[x,y],argTypes:=#[t,t] })(h:a.eval x=v)(hy:a.eval y= .slice none 0 0):bh P o a w v w:=by
 obtain⟨j,m,p,C6,r⟩:=aio c
 have q:=run_append_owned_none (P:=P) (w:=w) 0 t o.type e j sz b m v k xs f
 simp only[bh,execOp,g,resolve,invoke,builtin,Sem.run_bind,Sem.run_pure,Result.andThen_ok,hK,eB,iD,h,hy,q]
theorem aIV{α:Type}{T:dj α}{t e:TypeId}{x y:Operand}{z:Value}{bytes c:Nat}{v:Value}{li ml l':List α}{xs:List Value}{h:Option Addr}(i q p:Nat)(g:bz W M0 X w E D)(hi:E[i]? =some (bb.row e T.size v li xs))(V:D[q]? =some (bF.rows T xs li))(Y:D[p]? =some (bF.of (b5 T) [.slice h ml.length c] ml))
 (m:P.underlying t=some (.slice e))(r:(P.info? e).map (λ i=>(i.zero,i.size,i.bytes))=some (some z,T.size,bytes))(M:z.cells.size=T.size)(N:fs 0 T.size=true)
 (s:bI bytes li ml=some l')(O:fs 0 bytes=true)
 (B:Region.wanted o (yielded ops a.tmps)=true)
 (C:o.op= .call { callee:=.builtin .append,args:=#[x,y],argTypes:=#[t,t] })(F:a.eval x=v)(hy:a.eval y= .slice h ml.length c)(ad:Fr n l a)(aL:o.dst=some d)(G:fs d n=true)
 (k:∀f A b e5 w',br v.ownBlock.toList w w'->Fr n ((d,.slice A l'.length b)::l) f->bz W M0 X w' (E.set i (bb.row e T.size (.slice A l'.length b) l' e5)) (bF.rows T e5 l'::D)->wpList P ops Q rest f w'):wpList P ops Q (o::rest) a w:=by
 have H:=g.d q V
 have I:(b5 T).rd (im (X++bZ E) w) w [.slice h ml.length c] ml:=g.d p Y
 obtain⟨ep,c1,R,ao,aT,bQ,dw⟩:=I
 simp only[h3,Value.slice.injEq,and_true,true_and]at R
 obtain⟨rfl,rfl⟩:=R
 by_cases S:ml=[]
 ·subst S
  cases h with
  |none=>
   have Z:=bQ rfl
   subst Z
   have lD:w.ownsRow 0 e T.size v li.length xs:=g.e i hi
   have oz:(bb.row e T.size v li xs).ok w:=g.e i hi
   obtain⟨A,b,rfl,_⟩:=La oz
   obtain⟨_,rfl⟩:=MX s
   refine fS B (aNk m r lD C F hy) ad aL G λ f ec=>?_
   have U:li++[]=li:=hR li
   refine k f A b xs w (br.refl _ w) (by rw[U];exact ec) ?_
   rw[U]
   have a7:E.set i (bb.row e T.size (.slice A li.length b) li xs)=E:=by
    obtain⟨bD,he⟩:=aP.1 hi;rw[<-he,mI]
   rw[a7]
   exact g.more H
  |some en=>
   exact QD (cs:=[]) i g hi m r M (cS N) s rfl (cS O) H rfl (λ j u J=>by simp at J) B C F hy ad aL G λ f A b w' K ec L=>k f A b _ w' K ec L
 ·obtain⟨g1,g2,cs,g3,g4⟩:=dw S
  rw[g1]at hy
  exact QD (cs:=cs) i g hi m r M (cS N) s rfl (cS O) H g3 (λ j u J=>by rw[lm];exact g4 j u J) B C F hy ad aL G λ f A b w' K ec L=>k f A b _ w' K ec L
theorem aIU{α:Type}{T:dj α}{t e:TypeId}{x y:Operand}{z:Value}{bytes c:Nat}{v:Value}{li ml l':List α}{xs:List Value}{g:Option Addr}(i q p:Nat)(h:bz W M0 X w E D)(hi:E[i]? =some (bb.row e T.size v li xs))(j:D[q]? =some (bF.rows T xs li))(m:D[p]? =some (bF.of (b5 T) [.slice g ml.length c] ml))
 (r:P.underlying t=some (.slice e))(s:(P.info? e).map (λ i=>(i.zero,i.size,i.bytes))=some (some z,T.size,bytes))(u:z.cells.size=T.size)(B:fs 0 T.size=true)
 (C:bI bytes li ml=some l')(F:fs 0 bytes=true)
 (G:Region.wanted o (yielded ops a.tmps)=true)
 (H:o.op= .call { callee:=.builtin .append,args:=#[x,y],argTypes:=#[t,t] })(I:a.eval x=v)(hy:a.eval y= .slice g ml.length c)(ad:Fr n l a)(aL:o.dst=some d)(J:fs d n=true)
 (k:∀b A f e5 w',Fr n ((d,.slice A l'.length f)::l) b->bz W M0 X w' (E.set i (bb.row e T.size (.slice A l'.length f) l' e5)) (bF.rows T e5 l'::D)->wpList P ops Q rest b w'):wpList P ops Q (o::rest) a w:=
 aIV i q p h hi j m r s u B C F G H I hy ad aL J λ b A f e5 w' _=>k b A f e5 w'
theorem Az{x:Value}{y:Nat}{code:BoundsCode}{k:IntKind}{i:Int}(b:x= .int k i)(h:0<=i/\i<=y):(Instr.sliceBound x y code).run P w= .ok i.toNat w:=by
 subst b;simp[Instr.sliceBound,asIntOf,h]
end
end ay
namespace ay
open Go Go.RowKit I
section
variable{α:Type}{T:dj α}
theorem aao{F:Nat->Prop}{w:World}{d':α}{b:List Value}(h':T.rd F w b d'):∀ {li:List α}{xs:List Value}{i:Nat},dM T F w xs li->i<li.length->dM T F w (xs.take (i*T.size)++b++xs.drop (i*T.size+T.size)) (li.set i d')
 |[],_,i,_,hi=>by simp at hi
 |d::r,xs,0,h,_=>by
  obtain⟨cs,ys,rfl,a,J⟩:=h;have c:=T.len a;refine⟨b,ys,?_,h',J⟩;simp[<-c]
 |d::r,xs,i+1,h,hi=>by
  obtain⟨cs,ys,rfl,a,J⟩:=h;have c:=T.len a;have e:=aao h' J (i:=i) (by simpa using hi);refine⟨cs,_,?_,a,e⟩;have f:(i+1)*T.size=cs.length+i*T.size:=by rw[jP];omega
  rw[f,lE,h0 (by omega),show cs.length+i*T.size-cs.length=i*T.size by omega,List.drop_append,jp (l:=cs) (by omega),
   show cs.length+i*T.size+T.size-cs.length=i*T.size+T.size by omega]
  simp
end
theorem aaZ{β:Type}{L vs:List β}{p N:Nat}(b:p+vs.length<=N)(J:N<=L.length):(L.take p++vs++L.drop (p+vs.length)).take N=(L.take N).take p++vs++(L.take N).drop (p+vs.length):=by
 have a:(L.take p++vs).length=p+vs.length:=by rw[dR,fZ];omega
 rw[lE,h0 (by omega),a,List.take_take,mj (by omega),List.drop_take]
section
variable{P:Program}{ops:Array Oper}{Q:Exit->Act->World->Prop}{a:Act}{w:World}{rest:List Oper}{o:Oper}{n:cE}{d:Nat}{l:List (Nat×Value)}
 {W:World}{M0 X:List Nat}{E:List bb}{D:List bF}
theorem agq{xs cs:List Value}{p:Nat}(h:∀j u,cs[j]? =some u->xs[p+j]? =some u):(xs.drop p).take cs.length=cs:=by
 apply lu;intro j;rw[hG];by_cases aA:j<cs.length
 ·rw[if_pos aA,i_,aK aA]
  exact h j _ (aK aA)
 ·rw[if_neg aA,gE (by omega)]
theorem aJc{α:Type}{T:dj α}{t e:TypeId}{x y:Operand}{A:Option Addr}{c kk sz:Nat}{li:List α}{xs cs0 vs:List Value}{z:Int}{R d':α}{v:Value}(i q:Nat)(B:bz W M0 X w E D)(hi:E[i]? =some (bb.row e T.size (.slice A li.length c) li xs))(aN:D[q]? =some (bF.rows T xs li))
 (ah:idx li z=some R)(hcs:T.rd (im (X++bZ E) w) w cs0 R)(S:fo w ⟨dD A,fP A+z.toNat*T.size,none⟩ cs0)(hw:Region.wanted o (yielded ops a.tmps)=true)
 (af:v.cells=vs.toArray)(aj:∀w,(Go.sizeOf t).run P w= .ok sz w)(al:cy vs.length sz=true)(h1:vs.all (·.oneCell')=true)(C:jF (kk+vs.length) cs0.length=true)
 (JS:T.rd (im (X++bZ E) w) w (lay cs0 kk vs) d')
 (au:o.op= .store t x y)(F:a.eval x= .pointer (some ⟨dD A,fP A+z.toNat*T.size+kk,none⟩))(hy:a.eval y=v)(aL:o.dst=none)
 (k:∀e5 w',br (Value.slice A li.length c).ownBlock.toList w w'->bz W M0 X w' (E.set i (bb.row e T.size (.slice A li.length c) (li.set z.toNat d') e5)) (bF.rows T e5 (li.set z.toNat d')::D)->wpList P ops Q rest a w'):wpList P ops Q (o::rest) a w:=by
 obtain⟨z0,U,z2⟩:=lF ah
 have f:vs.length=sz:=bd al
 have F8:kk+vs.length<=cs0.length:=cS C
 have ma:=T.len hcs
 have G:w.ownsRow 0 e T.size (.slice A li.length c) li.length xs:=B.e i hi
 have H:dM T (im (X++bZ E) w) w xs li:=B.d q aN
 rcases G.2 with⟨_,cr⟩|⟨g,cap,cur,V,_,Y,h,uk,zm,I⟩
 ·omega
 simp only[Value.slice.injEq,true_and]at V
 obtain⟨rfl,rfl⟩:=V
 have J:dD (some ⟨g,0,none⟩)=g:=rfl
 have K:fP (some ⟨g,0,none⟩)=0:=rfl
 simp only[J,K,jM]at F S
 have Z:(z.toNat+1)*T.size<=li.length*T.size:=kA _ U
 have aOA:li.length*T.size<=c*T.size:=kA _ h
 have aic:(z.toNat+1)*T.size=z.toNat*T.size+T.size:=by rw[jP,Nat.one_mul]
 have qS:xs.length=li.length*T.size:=G.1
 have m:(xs.drop (z.toNat*T.size)).take cs0.length=cs0:=agq λ j u aA=>by
  have:=S j u aA;have ku:j<cs0.length:=(aP.1 aA).1;rw[World.ownsRow.cellAt G (z.toNat*T.size+j) (by omega)]at this;exact this
 have r:=run_storeCells_at P g (z.toNat*T.size+kk) e vs 0 cur w Y (by omega) (λ u hu=>k_.1 h1 u hu)
 simp only[lf]at r
 obtain⟨p,aC⟩:∃p,p=z.toNat*T.size+kk:=⟨_,rfl⟩
 rw[<-aC]at r F
 have aOt:cur.toList.length=c*T.size:=by simpa using zm
 obtain⟨e5,L⟩:∃e5,e5=xs.take p++vs++xs.drop (p+vs.length):=⟨_,rfl⟩
 have M:e5=xs.take (z.toNat*T.size)++lay cs0 kk vs++xs.drop (z.toNat*T.size+T.size):=by
  rw[L,X5 _ _ _ F8];have N:xs=xs.take (z.toNat*T.size)++(cs0++xs.drop (z.toNat*T.size+T.size)):=by
   conv=>lhs;rw[<-jv (z.toNat*T.size) xs]
   congr 1;rw[<-jv cs0.length (xs.drop (z.toNat*T.size)),m,List.drop_drop,ma]
  have s:(xs.take (z.toNat*T.size)).length=z.toNat*T.size:=by rw[fZ];omega
  conv=>lhs;rw[N]
  rw[lE,h0 (by rw[s];omega),s,List.drop_append,jp (l:=xs.take (z.toNat*T.size)) (by rw[s];omega),s,
   show p-z.toNat*T.size=kk by omega,show p+vs.length-z.toNat*T.size=kk+vs.length by omega,kh (by omega),List.drop_append_of_le_length (by omega)]
  simp
 have O:e5.length=li.length*T.size:=by
  rw[L];simp only[dR,fZ,ks];omega
 have oz:(bb.row e T.size (.slice (some ⟨g,0,none⟩) li.length c) (li.set z.toNat d') e5).ok (w.setRow g (cur.toList.take p++vs++cur.toList.drop (p+vs.length)).toArray):=by
  show World.ownsRow _ 0 e T.size _ (li.set z.toNat d').length e5
  rw[kc];refine⟨O,.inr ⟨g,c,(cur.toList.take p++vs++cur.toList.drop (p+vs.length)).toArray,rfl,gT _,?_,h,uk,?_,?_⟩⟩
  ·simp only[World.setRow,ke,if_true,Y]
   rfl
  ·simp only[List.size_toArray,dR,fZ,ks];omega
  ·rw[List.toList_toArray,L,<-I]
   exact aaZ (by omega) (by omega)
 have Xi:rX P o a w (w.setRow g (cur.toList.take p++vs++cur.toList.drop (p+vs.length)).toArray):=by
  simp only[rX,execOp,au,F,hy];simp only[g_,f]at r⊢;have et:=af;unfold Value.cells at et;simp[go_sem,Instr.storeAt,storeVar,aj,et,f,r]
 have ux:=B.alL (T:=T) (xs:=e5) (li:=li.set z.toNat d') (by rw[M];exact aao JS H U)
 have jo:br (Value.slice (some ⟨g,0,none⟩) li.length c).ownBlock.toList w (w.setRow g (cur.toList.take p++vs++cur.toList.drop (p+vs.length)).toArray):=⟨rfl,rfl,rfl,by simp[World.setRow],λ b _ aB=>by
  simp only[World.setRow,ke];rw[if_neg (by simpa[Value.ownBlock,eq_comm]using aB)]⟩
 exact jA hw Xi aL (k e5 _ jo (ux.Q0 i hi jo oz (by simp[bb.row,Value.ownBlock]) (λ b ag=>.inl (by simpa[bb.row]using ag))))
theorem aJd{α:Type}{T:dj α}{t e:TypeId}{x y:Operand}{A:Option Addr}{c kk sz:Nat}{li b:List α}{xs cs0 vs:List Value}{z:Int}{g d':α}{v:Value}(i q:Nat)(wN:some (li.set z.toNat d')=some b)(h:bz W M0 X w E D)(hi:E[i]? =some (bb.row e T.size (.slice A li.length c) li xs))(j:D[q]? =some (bF.rows T xs li))
 (m:idx li z=some g)(hcs:T.rd (im (X++bZ E) w) w cs0 g)(p:fo w ⟨dD A,fP A+z.toNat*T.size,none⟩ cs0)(r:Region.wanted o (yielded ops a.tmps)=true)
 (s:v.cells=vs.toArray)(aj:∀w,(Go.sizeOf t).run P w= .ok sz w)(u:cy vs.length sz=true)(B:vs.all (·.oneCell')=true)(f:jF (kk+vs.length) cs0.length=true)
 (C:T.rd (im (X++bZ E) w) w (lay cs0 kk vs) d')
 (F:o.op= .store t x y)(G:a.eval x= .pointer (some ⟨dD A,fP A+z.toNat*T.size+kk,none⟩))(hy:a.eval y=v)(aL:o.dst=none)
 (k:∀e5 w',li.length=b.length->br (Value.slice A li.length c).ownBlock.toList w w'->bz W M0 X w' (E.set i (bb.row e T.size (.slice A li.length c) b e5)) (bF.rows T e5 b::D)->wpList P ops Q rest a w'):wpList P ops Q (o::rest) a w:=by
 obtain rfl:=eJ wN
 exact aJc i q h hi j m hcs p r s aj u B f C F G hy aL λ e5 w'=>k e5 w' (by rw[kc])
theorem aIF{A:Option Addr}{m c sz:Nat}{t e:TypeId}{lo hi:Option Value}{i j:Int}(f:P.underlying t=some (.slice e))(aj:∀w,(Go.sizeOf e).run P w= .ok sz w)
 (g:(lo=none/\i=0)\/lo=some (.int .i64 i))(kT:(hi=none/\j=m)\/hi=some (.int .i64 j))(h:0<=i/\i<=j/\j<=m)(k:m<=c) :
 (Instr.slice t (.slice A m c) lo hi none).run P w= .ok (.slice (if c=i.toNat then A else A.map (·.add (i.toNat*sz))) (j.toNat-i.toNat) (c-i.toNat)) w:=by
 have ag:(Instr.sliceBounds true m c lo hi none).run P w= .ok (i.toNat,j.toNat,c) w:=by
  have b:∀code,(Instr.sliceBound (.int .i64 j) c code).run P w= .ok j.toNat w:=λ code=>Az rfl (by omega);have p:∀code,(Instr.sliceBound (.int .i64 i) j.toNat code).run P w= .ok i.toNat w:=λ code=>Az rfl (by omega);have q:j=m-> ∀code,(Instr.sliceBound (.int .i64 i) m code).run P w= .ok i.toNat w:=λ e code=>Az rfl (by omega);rcases g with⟨rfl,rfl⟩|rfl<;>rcases kT with⟨rfl,aA⟩|rfl
  ·simp[Instr.sliceBounds,aA]
  ·simp[Instr.sliceBounds,b]
  ·simp[Instr.sliceBounds,q aA,aA]
  ·simp[Instr.sliceBounds,b,p]
 simp[Instr.slice,run_underlying f,ag,aj]
theorem Sq{A:Option Addr}{m c sz:Nat}{t e:TypeId}{x:Operand}{lo hi:Option Operand}{i j:Int}(g:P.underlying t=some (.slice e))(aj:∀w,(Go.sizeOf e).run P w= .ok sz w)(k:o.op= .slice t x lo hi none)(p:a.eval x= .slice A m c)
 (q:(lo=none/\i=0)\/ ∃z,lo=some z/\a.eval z= .int .i64 i)(kT:(hi=none/\j=m)\/ ∃z,hi=some z/\a.eval z= .int .i64 j)(h:0<=i/\i<=j/\j<=m)(b:m<=c) :
 bh P o a w (.slice (if c=i.toNat then A else A.map (·.add (i.toNat*sz))) (j.toNat-i.toNat) (c-i.toNat)) w:=by
 have r:=aIF (P:=P) (w:=w) (A:=A) (m:=m) (c:=c) (lo:=lo.map a.eval) (hi:=hi.map a.eval) g aj (i:=i) (j:=j)
  (q.imp (λ h=>⟨by rw[h.1];rfl,h.2⟩) (λ⟨z,f,J⟩=>by rw[f,fU,J])) (kT.imp (λ h=>⟨by rw[h.1];rfl,h.2⟩) (λ⟨z,f,J⟩=>by rw[f,fU,J])) h b
 simp only[bh,execOp,k,p,Instr.sliceAt,Sem.run_bind,run_underlying g,Result.andThen_ok,jq,r]
 rfl
theorem TX{α:Type}{l r:List α}{i j:Int}(h:cut l i j=some r):(0<=i/\i<=j/\j<=l.length)/\r=(l.take j.toNat).drop i.toNat:=by
 unfold cut at h;split at h
 ·rename_i b;exact⟨b,by simpa using h.symm⟩
 ·cases h
theorem u2{α:Type}{T:dj α}{F:Nat->Prop}{w:World}:∀ {l:List α}{xs:List Value}(i j:Nat),dM T F w xs l->dM T F w ((xs.take (j*T.size)).drop (i*T.size)) ((l.take j).drop i)
 |[],xs,i,j,h=>by
  have h:xs=[]:=h;subst h;have e:(([]:List α).take j).drop i=[]:=by simp
  rw[e];show List.drop _ (mV _ _)=[]
  simp
 |d::r,xs,i,0,h=>by
  have e:((d::r).take 0).drop i=[]:=by simp
  rw[e];show List.drop _ (mV _ _)=[]
  simp
 |d::r,xs,0,j+1,h=>by
  obtain⟨cs,ys,rfl,b,J⟩:=h;have f:=T.len b;have c:=u2 0 j J;simp only[Nat.zero_mul,hB]at c⊢;rw[kO,show(j+1)*T.size=cs.length+j*T.size by rw[jP];omega,lE,h0 (by omega),show cs.length+j*T.size-cs.length=j*T.size by omega];exact⟨cs,_,rfl,b,c⟩
 |d::r,xs,i+1,j+1,h=>by
  obtain⟨cs,ys,rfl,b,J⟩:=h;have f:=T.len b;have c:=u2 i j J
  rw[kO,List.drop_succ_cons,show(j+1)*T.size=cs.length+j*T.size by rw[jP];omega,lE,h0 (by omega),show cs.length+j*T.size-cs.length=j*T.size by omega,
   show(i+1)*T.size=cs.length+i*T.size by rw[jP];omega,List.drop_append,jp (l:=cs) (by omega),show cs.length+i*T.size-cs.length=i*T.size by omega,kK]
  exact c
end
end ay
namespace ay
open Go Go.RowKit I
section
variable{P:Program}{ops:Array Oper}{Q:Exit->Act->World->Prop}{a:Act}{w:World}{rest:List Oper}{o:Oper}{n:cE}{d:Nat}{l:List (Nat×Value)}
 {W:World}{M0 X:List Nat}{E:List bb}{D:List bF}
theorem Fr.l3(ad:Fr n l a)(t:Nat){b c:Bool}(f:ev l t=some (.bool b))(ag:b=c):Fr n ((t,.bool c)::l) a:=
 ⟨ad.size,ad.defers,λ u v h=>by
  simp only[ev]at h;cases e:cy t u with
  |true=>
   rw[e]at h
   simp only[aH]at h
   rw[<-bd e,<-h,<-ag]
   exact ad.get t _ f
  |false=>rw[e]at h;exact ad.get u v h⟩
theorem Ak{t:TypeId}{cs:List Value}(c:Region.wanted o (yielded ops a.tmps)=true)(hy:bh P o a w (.pointer (some ⟨w.heap.size,0,none⟩)) (w.alloc (.cells cs.toArray t)))(ad:Fr n l a)(e:bz W M0 X w E D)
 (aL:o.dst=some d)(f:fs d n=true)(k:∀b g w',br [] w w'->Fr n ((d,.pointer (some ⟨g,0,none⟩))::l) b->bz W M0 X w' (bb.ck g t cs::E) D->wpList P ops Q rest b w'):wpList P ops Q (o::rest) a w:=
 fS c hy ad aL f λ b ec=>k b _ _ (br.alloc _ _ _) ec (e.new t cs)
theorem ajY{t:TypeId}{cs:List Value}{m:Nat}(c:Region.wanted o (yielded ops a.tmps)=true)(hy:bh P o a w (.slice (some ⟨w.heap.size,0,none⟩) m m) (w.alloc (.cells cs.toArray t)))(ad:Fr n l a)(e:bz W M0 X w E D)
 (aL:o.dst=some d)(f:fs d n=true)(k:∀b g w',br [] w w'->Fr n ((d,.slice (some ⟨g,0,none⟩) m m)::l) b->bz W M0 X w' (bb.ck g t cs::E) D->wpList P ops Q rest b w'):wpList P ops Q (o::rest) a w:=
 fS c hy ad aL f λ b ec=>k b _ _ (br.alloc _ _ _) ec (e.new t cs)
theorem aNm{t e:TypeId}{sz:Nat}(b:P.underlying t=some (.slice e))(aj:∀w,(Go.sizeOf e).run P w= .ok sz w)(c:o.op= .buildSlice t 0 (List.toArray [])) :
 bh P o a w (.slice (some ⟨w.heap.size,0,none⟩) 0 0) (w.alloc (.cells (List.toArray []) e)):=by
 simp only[bh,execOp,c,Instr.buildSlice,Sem.run_bind,Sem.run_pure,aj,Result.andThen_ok,run_underlying b]
 simp[Instr.fill,newRow,go_sem]
theorem aud{S:World->Prop}{f p:Nat}{ds:List Nat}{v:Value}(i:Nat)(hi:ops[i]? =some o)(g:(QS ops ds i&& !cy p i)=true)(r:Region.wanted o (yielded ops a.tmps)=true)(hy:∀w',bh P o a w' v w')(j:S w)
 (ad:Fr n l a)(aL:o.dst=some d)(s:fs d n=true)(k:∀m,Fr n ((d,v)::l) m->ft P ops Q p S f (i::ds) m w):ft P ops Q p S (f+1) ds a w:=by
 simp only[cb,ha]at g
 obtain⟨b,q⟩:=g
 have t:p≠i:=λ e=>by rw[e]at q;simp at q
 simp only[QS,cb]at b
 refine⟨λ _=>j,?_⟩
 refine am_ (v:=v) hi (Region.noSelect_spec b.1.1) t (λ c a w h=>h) f _ a w (Region.free_spec hi b.1.2) (λ _=>j) (by simpa using b.2) (.inl ⟨r,λ w _=>hy w⟩) ?_
 rw[aL]
 exact(k _ (ad.put s)).2
theorem bz.swap{x y:bb}(h:bz W M0 X w (x::y::E) D):bz W M0 X w (y::x::E) D:=by
 have ad:∀k,k∈bZ (y::x::E)↔k∈bZ (x::y::E):=λ k=>by
  simp only[bZ,ig,cj];exact⟨λ h=>by rcases h with h |h |h<;>simp[h],λ h=>by rcases h with h |h |h<;>simp[h]⟩
 refine⟨h.bY,h.hW,λ k i=>h.lt k ((ad k).1 i),λ z f=>h.ok z (by simp only[cI]at f⊢;rcases f with h |h |h<;>simp[h]),?_,λ z f=>z.law _ _ w w (br.refl _ _) (λ k i=>.inl (by
  rcases cj.1 i with e |e
  ·exact cj.2 (.inl e)
  ·exact cj.2 (.inr ((ad k).1 e)))) (h.rd z f)⟩
 have aL:=h.bC;have r:bZ (x::y::E)=x.bE++(y.bE++bZ E):=by simp[bZ]
 have ao:bZ (y::x::E)=y.bE++(x.bE++bZ E):=by simp[bZ]
 rw[r,fA,fA]at aL;rw[ao,fA,fA];obtain⟨j,⟨m,p,q⟩,c⟩:=aL;exact⟨m,⟨j,p,λ a g b ag=>c a g b (by simp[ag])⟩,λ a g b ag=>by
  rcases cj.1 ag with e |e
  ·exact λ aT=>c b e a (by simp[g]) aT.symm
  ·exact q a g b e⟩
end
section
variable{P:Program}{o:Oper}{a:Act}{w:World}{xs ys:Array Value}
theorem afL{d sz:Nat}{f:Go.Field}{l:List Go.Field}{us vs:List Value}{e q:Prop} [Decidable e] [Decidable q](c:(f.name != "_")=true)(g:∀w,(isAgg f.type).run P w= .ok true w)(aj:∀w,(Go.sizeOf f.type).run P w= .ok sz w)
 (i:xs.extract f.offset (f.offset+sz)=us.toArray)(hy:ys.extract f.offset (f.offset+sz)=vs.toArray)(j:(Op.equalIn (d+1) f.type (.agg us.toArray) (.agg vs.toArray)).run P w= .ok (decide q) w)
 (h:(Op.eqFields (d+1) xs ys l).run P w= .ok (decide e) w):(Op.eqFields (d+1) xs ys (f::l)).run P w= .ok (decide (q/\e)) w:=by
 have k:f.name≠ "_" :=by simpa using c
 simp only[Op.eqFields,k,if_true,ne_eq,not_false_iff,part,Sem.run_bind,g,aj,Result.andThen_ok,i,hy,Sem.run_pure,j]
 by_cases b:q
 ·simp[b,h]
 ·simp[b]
theorem afM{d:Nat}{t:TypeId}{cf:Array Go.Field}{q:Prop} [Decidable q](b:P.underlying t=some (.struct cf))(c:P.stoodInHeld t=false)(h:(Op.eqFields d xs ys cf.toList).run P w= .ok (decide q) w):(Op.equalIn (d+1) t (.agg xs) (.agg ys)).run P w= .ok (decide q) w:=by
 have ad:P.fieldsOf t=cf:=by simp[Program.fieldsOf,b]
 have h':=run_equalIn_struct (P:=P) w d t xs ys (by rw[ad];exact b) c;rw[ad,h]at h';exact h'
theorem y9{d:Nat}{f:Go.Field}{l:List Go.Field}{m n:List UInt8}{e:Prop} [Decidable e](c:(f.name != "_")=true)(g:P.underlying f.type=some .string)(i:∀w,(isAgg f.type).run P w= .ok false w)
 (j:xs[f.offset]? =some (cw m))(hy:ys[f.offset]? =some (cw n))(h:(Op.eqFields (d+1) xs ys l).run P w= .ok (decide e) w):(Op.eqFields (d+1) xs ys (f::l)).run P w= .ok (decide (m=n/\e)) w:=by
 have k:f.name≠ "_" :=by simpa using c
 have heq:(Op.equalIn (d+1) f.type (cw m) (cw n)).run P w= .ok (decide (m=n)) w:=by
  simp only[Op.equalIn,Sem.run_bind,run_underlying g,Result.andThen_ok];rw[<-TC m n];rfl
 simp only[Op.eqFields,k,if_true,ne_eq,not_false_iff,part,Sem.run_bind,i,Result.andThen_ok,j,hy,hX,if_false,Sem.run_pure,heq]
 by_cases b:m=n
 ·subst b;simp[h]
 ·simp[b]
end
section
variable{P:Program}{ops:Array Oper}{Q:Exit->Act->World->Prop}{a:Act}{w:World}{rest:List Oper}{o:Oper}{n:cE}{d:Nat}{l:List (Nat×Value)}
 {W:World}{M0 X:List Nat}{E:List bb}{D:List bF}
theorem alr{F:Nat->Prop}{w:World}:∀s:List UInt8,dM Q1 F w (s.map λ b=>Value.int .u8 (b.toNat:Int)) s
 |[]=>rfl
 |b::r=>⟨[.int .u8 (b.toNat:Int)],_,rfl,rfl,alr r⟩
end
end ay
namespace ay
open Go Go.RowKit I
section
variable{P:Program}{Q:Exit->Act->World->Prop}{a:Act}{w:World}
theorem Na{c:Operand}{x y:Code}{t:Bool}{ρ:Type}{p q:Option ρ}{r:ρ}(hc:a.eval c= .bool t)(h:cond t p q=some r)(b:t=true->p=some r->x.wp P Q a w)(ad:t=false->q=some r->y.wp P Q a w):(Code.cond c x y).wp P Q a w:=
 wp_cond_split hc (λ e=>b e (TT e h)) (λ e=>ad e (TS e h))
end
end ay
namespace ay
open Go Go.RowKit I
section
variable{P:Program}{ops:Array Oper}{Q:Exit->Act->World->Prop}{a:Act}{w w0 w':World}{rest:List Oper}{o:Oper}{n:cE}{d:Nat}{l:List (Nat×Value)}
 {W:World}{M0 X:List Nat}{E:List bb}{D:List bF}
theorem aNH{t:TypeId}{x:Operand}{m:Int}(b:o.op= .unOp .neg t x)(c:a.eval x= .int .i64 m):bh P o a w (.int .i64 (ax (0-m))) w:=by
 rw[<-xX];simp only[bh,execOp,b,c];simp[go_sem]
theorem bz.PS(h:bz W M0 X w E D){g:Nat}{t:TypeId}{cs:List Value}{x:bb}(i j:Nat)(hi:E[i]? =some (bb.ck g t cs))(aA:E[j]? =some x)(b:i≠j):g∉x.bE:=λ c=>
 (UJ h.bC i _ hi).2 j x aA b g (by simp[bb.ck]) c
theorem NC{M:List Nat}{p:Addr}{cs:List Value}(h:br M w w')(b:p.block∉M)(c:p.block<w.heap.size)(hc:fo w p cs):fo w' p cs:=hc.law (h.block p.block c b)
theorem KG{t:TypeId}{cs:List Value}{m:Nat}(c:Region.wanted o (yielded ops a.tmps)=true)(hy:bh P o a w (.slice (some ⟨w.heap.size,0,none⟩) m m) (w.alloc (.cells cs.toArray t)))(ad:Fr n l a)(e:bz W M0 X w E D)
 (aL:o.dst=some d)(f:fs d n=true)(k:∀b g w',br [] w w'->w.heap.size<=g->Fr n ((d,.slice (some ⟨g,0,none⟩) m m)::l) b->bz W M0 X w' (bb.ck g t cs::E) D->wpList P ops Q rest b w'):wpList P ops Q (o::rest) a w:=
 fS c hy ad aL f λ b ec=>k b _ _ (br.alloc _ _ _) (cT _) ec (e.new t cs)
end
end ay
namespace ay
open Go Go.RowKit I
def q7:List Oper->Bool
 |[]=>true
 |o::r=>(match o.op with
  | .defer _=>false
  |_=>true)&&q7 r
theorem PP:∀ {l:List Oper},q7 l=true-> ∀o∈l,∀c,o.op≠ .defer c
 |[],_,o,a,_=>by simp at a
 |p::r,h,o,a,c=>by
  simp only[q7,cb]at h;rcases cI.1 a with rfl |e
  ·intro ao
   rw[ao]at h
   exact absurd h.1 (by simp)
  ·exact PP h.2 o e c
def Rd(ro:Option Nat):Fence:={ Fence.wide with round:=ro }
theorem aap{ro:Option Nat}{q:Prop}:(Rd ro).depth.isSome=true->q:=λ h=>by simp[Rd,Fence.wide]at h
section
variable{P:Program}{ops:Array Oper}{Q:Exit->Act->World->Prop}{K:Act->World->Prop}{a:Act}{w:World}{o:Oper}{ro:Option Nat}{n:Nat}
theorem YS(aL:∀c,o.op≠ .defer c)(h:o.wp P a w K Q):o.wpIn (Rd ro) n P a w K Q:=by
 unfold Oper.wpIn;refine⟨λ _ _=>trivial,?_⟩;rw[Oper.semAt_eq _ _ _ aL];unfold Oper.wp at h;generalize(execOp a.eval o).run P w=r at *;cases r with
 |ok x w'=>
  cases x<;>simp only[Oper.upon,Oper.uponIn]at h⊢ <;>first
   |exact h
   |exact⟨aap,(callsIn_wide (n:=n-1)).2 h⟩
   |exact⟨aap,λ c cs _=>let⟨v,w',r,s⟩:=h c cs;⟨v,w',r,stepsIn_wide.2 s⟩⟩
 |halt x w'=>cases x<;>simp only[Oper.upon,Oper.uponIn]at h⊢ <;>exact h
theorem Pf(b:∀a w,¬Q .outgrown a w):∀ {os:List Oper}{a:Act}{w:World},q7 os=true->wpList P ops Q os a w->wpListIn (Rd ro) n P ops Q os a w
 |[],_,_,_,h=>h
 |o::r,a,w,aL,h=>by
  have c:=aL;simp only[q7,cb]at c;simp only[wpList]at h;simp only[wpListIn];split
  ·rename_i d
   rw[if_pos d]at h
   rcases h with h |⟨_,e,w',h⟩
   ·exact YS (PP aL o (by simp)) (Oper.wp_mono (λ a w h=>Pf b c.2 h) h)
   ·exact absurd h (b _ _)
  ·rename_i d
   rw[if_neg d]at h
   exact⟨λ _ _=>trivial,Pf b c.2 h⟩
theorem aDL(k:Nat){lo:List Oper}(aL:q7 (lo.take k)=true)(h:wpList P ops (Exit.then (wpListIn (Rd ro) n P ops Q (lo.drop k)) (λ _ _ _=>False)) (lo.take k) a w):wpListIn (Rd ro) n P ops Q lo a w:=by
 have key:∀(os rest:List Oper)(a:Act)(w:World),q7 os=true->wpList P ops (Exit.then (wpListIn (Rd ro) n P ops Q rest) (λ _ _ _=>False)) os a w->wpListIn (Rd ro) n P ops Q (os++rest) a w:=by
  intro os;induction os with
  |nil=>intro rest a w _ h;exact h
  |cons o r f=>
   intro rest a w aL h
   have c:=aL
   simp only[q7,cb]at c
   simp only[wpList]at h
   simp only[iE,wpListIn]
   split
   ·rename_i d
    rw[if_pos d]at h
    rcases h with h |⟨_,j,w',h⟩
    ·have g:=YS (ro:=ro) (n:=n) (PP aL o (by simp)) (Oper.wp_mono (λ a w h=>f rest a w c.2 h) h)
     refine⟨g.1,?_⟩
     have J:=g.2
     revert J
     generalize(o.semAt (Rd ro).round a.eval).run P w=i
     intro J
     cases i with
     |ok x w'=>
      cases x<;>simp only[Oper.uponIn]at J⊢ <;>first
       |exact J
       |exact⟨J.1,CallsIn.mono J.2 (λ e w'' b=>by cases e<;>first |exact b |exact absurd b (by simp[Exit.then,LetsOut]))⟩
       |exact⟨J.1,RoundIn.mono J.2 (λ e w'' b=>by cases e<;>first |exact b |exact absurd b (by simp[Exit.then,LetsOut]))⟩
     |halt x w'=>cases x<;>simp only[Oper.uponIn]at J⊢ <;>first |exact J |exact absurd J (by simp[Exit.then])
    ·exact absurd h (by simp[Exit.then])
   ·rename_i d
    rw[if_neg d]at h
    exact⟨λ _ _=>trivial,f rest _ _ c.2 h⟩
 have:=key (lo.take k) (lo.drop k) a w aL h;rwa [jv]at this
theorem aFn(d:∀a w,¬Q .outgrown a w)(aL:q7 ops.toList=true){i:Nat}(h:wpOp P ops Q i K a w):wpOpIn (Rd ro) n P ops Q i K a w:=by
 unfold wpOp at h;unfold wpOpIn;split
 ·rename_i e
  rw[e]at h
  exact h
 ·rename_i o c
  rw[c]at h
  have f:o∈ops.toList:=by
   have:=bG (l:=ops.toList) (i:=i) (a:=o) (by rw[hT];exact c);exact this
  simp only at h
  split
  ·rename_i b
   rw[if_pos b]at h
   rcases h with h |⟨_,g,w',h⟩
   ·exact YS (PP aL o f) h
   ·exact absurd h (d _ _)
  ·rename_i b
   rw[if_neg b]at h
   exact⟨λ _ _=>trivial,h⟩
theorem adW(b:∀a w,¬Q .outgrown a w)(aL:q7 ops.toList=true):∀ {f:Nat}{ls:Array Bool}{a:Act}{w:World},wpAny P .any ops Q f ls a w->wpAnyIn (Rd ro) n P .any ops Q f ls a w
 |0,_,_,_,h=>h
 |f+1,ls,a,w,h=>⟨h.1,λ i hi=>aFn b aL (wpOp_mono (λ a w h=>adW b aL h) (h.2 i hi))⟩
end
def gG(ro:Option Nat)(n:Nat)(P:Program)(c:Code)(Q:Exit->Act->World->Prop)(a:Act)(w:World):Prop:=(∀a w,¬Q .outgrown a w)->c.wpIn (Rd ro) n P Q a w
section
variable{P:Program}{Q:Exit->Act->World->Prop}{a:Act}{w:World}{ro:Option Nat}{n:Nat}
theorem Rh(h:Q .normal a w):gG ro n P .skip Q a w:=λ _=>wpIn_skip h
theorem abB{id:Nat}(h:Q (.exit id) a w):gG ro n P (.exit id) Q a w:=λ _=>wpIn_exit h
theorem nC{x y:Code}(h:∀K:Act->World->Prop,(∀a w,gG ro n P y Q a w->K a w)->gG ro n P x (Exit.then K Q) a w):gG ro n P (.seq x y) Q a w:=
 λ b=>wpIn_seq (h _ (λ _ _ h=>h b) b)
theorem abA{c:Operand}{x y:Code}{t:Bool}(hc:a.eval c= .bool t)(d:t=true->gG ro n P x Q a w)(ad:t=false->gG ro n P y Q a w):gG ro n P (.cond c x y) Q a w:=
 λ b=>wpIn_cond_split hc (λ e=>d e b) (λ e=>ad e b)
theorem aKk{c:Operand}{x y:Code}{b:Bool}(hc:a.eval c= .bool b)(ag:b=false)(h:gG ro n P y Q a w):gG ro n P (.cond c x y) Q a w:=λ d=>wpIn_cond_false (by rw[hc,ag]) (h d)
theorem aby{id:Nat}{c:Code}(h:gG ro n P c (Exit.inBlock id Q) a w):gG ro n P (.block id c) Q a w:=λ b=>wpIn_block (h b)
theorem abz{id:Nat}{c:Code}(b:Act->World->Prop)(d:∀K:Act->World->Prop,(∀a w,b a w->K a w)->gG ro n P c (Exit.inBlock id (Exit.then K Q)) a w)(hy:∀a w,b a w->Q .normal a w):gG ro n P (.block id c) Q a w:=by
 intro f;refine wpIn_block (wpIn_mono (d _ hy f) ?_);intro e a w h;cases e with
 |exit i=>
  by_cases hi:i=id
  ·simpa[Exit.inBlock,Exit.then,hi]using h
  ·simpa[Exit.inBlock,Exit.then,hi]using h
 |_=>exact h
theorem anf{c:Code}(b:Nat->Act->World->Prop)(k:Nat)(h:b k a w)(f:∀a w,¬b 0 a w)
 (round:∀k a w,b (k+1) a w-> ∀K:Act->World->Prop,(∀a w,b k a w->K a w)->gG ro n P c (Exit.then K Q) a w):gG ro n P (.loop c) Q a w:=by
 intro g
 refine wpIn_loop (λ a w=>∃n,b n a w) (λ a w=>leastOf (λ n=>b n a w)) ⟨k,h⟩ ?_
 intro a w i
 have d:=(leastOf_spec i).1
 cases e:leastOf (λ n=>b n a w)with
 |zero=>rw[e]at d;exact absurd d (f a w)
 |succ m=>
  rw[e]at d
  exact round m a w d _ (λ j w' h'=>⟨⟨m,h'⟩,Nat.lt_succ_of_le ((leastOf_spec ⟨m,h'⟩).2 m h')⟩) g
theorem p5{id:Nat}{l:List Oper}(aL:q7 l=true)(h:wpList P l.toArray Q l a w):gG ro n P (.region id l.toArray false) Q a w:=λ b=>wpIn_region_lit (Pf b aL h)
theorem ane{id m:Nat}{lo:List Oper}(p:Nat)(S:World->World->Prop)(c:P.follows .mixedOrders=true)(b:cy lo.length m=true)(aL:q7 lo=true)(h:∀w',br [] w w'->ft P lo.toArray Q p (S w') m [] a w'):gG ro n P (.region id lo.toArray true) Q a w:=by
 have b:=bd b;subst b;intro d;exact wpIn_mono (Q:=NoPanic Q) (wpIn_region_any c (adW (Q:=NoPanic Q) (λ a w=>d a w) aL (h _ (br.drew [] w)).wpAny)) NoPanic.imp
theorem aKl{id:Nat}{l:List Oper}(h:(∀a w,¬Q .outgrown a w)->wpListIn (Rd ro) n P l.toArray Q l a w):gG ro n P (.region id l.toArray false) Q a w:=λ b=>wpIn_region_lit (h b)
end
def bb.obj(g:Nat)(o:Obj):bb where
 bE:=[g]
 ok w:=w.heap[g]? =some o
 law w w' h a:=(h g (by simp)).trans a
section
variable{W w:World}{M0 X:List Nat}{E:List bb}{D:List bF}
theorem axw(w:World)(g:Nat)(o:Obj):br [g] w (w.putObj g o):=
 ⟨rfl,rfl,rfl,by simp,λ k _ a=>World.putObj_heap_other (by simpa using a)⟩
theorem bz.putObj{g:Nat}{o:Obj}(b:bz W M0 X w E D)(i:Nat)(hi:E[i]? =some (bb.obj g o))(a:Obj):bz W M0 X (w.putObj g a) (E.set i (bb.obj g a)) D:=
 b.Q0 i hi (axw w g a) (by
  have h:w.heap[g]? =some o:=b.e i hi;exact World.putObj_heap_same (gw.1 h).1) (by simp[bb.obj]) (λ k c=>.inl c)
theorem bz.newObj(b:bz W M0 X w E D)(o:Obj):bz W M0 X (w.alloc o) (bb.obj w.heap.size o::E) D:=
 b.push _ (br.alloc _ _ _) (World.alloc_heap_new w o) (λ k a=>by simp[bb.obj]at a;subst a;exact⟨cT _,by simp⟩) (by simp[bb.obj])
end
def mark(r:Nat):Deferred:={ target:=.collected r,args:=#[] }
theorem afH{P:Program}{f:FuncId}{fn:Func}{c:Code}{vs:List Value}{w:World}{R:Ending->World->Prop}{n:Nat}
 (ad:P.funcs[f]? =some fn)(ag:fn.body=some c)(b:fn.ntmps=n)(d:jF vs.length n=true)
 (h:∀a,Fr ⟨n,[]⟩ (tV 0 vs) a->c.wp P (bodyPostM Fence.wide 0 P fn R) a w):Calls P f vs.toArray w R:=by
 refine(callsIn_wide (n:=0)).1 (callsIn_of_wp_marks ad ag trivial (wpIn_wide.2 ?_))
 rw[b]
 exact h _ (Fr.init vs n d)
section
variable{P:Program}{a:Act}{w:World}{W:World}{M0 X:List Nat}{E:List bb}{D:List bF}{fn:Func}{R:Ending->World->Prop}{l:List (Nat×Value)}{n g t u:Nat}{v fl:Value}
theorem ajw(i:Nat)(ad:Fr ⟨n,[mark g]⟩ l a)(b:bz W M0 X w E D)(hi:E[i]? =some (bb.obj g (.deferred (some []))))(h:∀w',bz W M0 X w' (E.set i (bb.obj g (.deferred none))) D-> ∃v,(results fn a.tmps).run P w'= .ok v w'/\R (.returned v) w') :
 bodyPostM Fence.wide 0 P fn R .ret a w:=by
 show LeavesInM Fence.wide 0 P fn a.tmps R a.defers .returning w
 rw[ad.defers]
 exact⟨by simp,.inl ⟨g,_,rfl,run_takeDeferred (b.e i hi),h _ (b.putObj i hi _)⟩⟩
theorem aD3(i:Nat)(b:fn.results= #[.tmp t])(ad:Fr ⟨n,[mark g]⟩ l a)(c:bz W M0 X w E D)(hi:E[i]? =some (bb.obj g (.deferred (some []))))(d:ev l t=some v)
 (h:∀w',bz W M0 X w' (E.set i (bb.obj g (.deferred none))) D->R (.returned v) w'):bodyPostM Fence.wide 0 P fn R .ret a w:=
 ajw i ad c hi λ w' e=>⟨_,results_tmp b _ _ _,by rw[ad.get _ _ d];exact h w' e⟩
theorem aD4(i:Nat)(b:fn.results= #[.tmp t,.tmp u])(ad:Fr ⟨n,[mark g]⟩ l a)(c:bz W M0 X w E D)(hi:E[i]? =some (bb.obj g (.deferred (some []))))(d:ev l t=some v)(e:ev l u=some fl)
 (h:∀w',bz W M0 X w' (E.set i (bb.obj g (.deferred none))) D->R (.returned (.tuple #[v,fl])) w'):bodyPostM Fence.wide 0 P fn R .ret a w:=
 ajw i ad c hi λ w' f=>⟨_,results_tmp2 b _ _ _,by rw[ad.get _ _ d,ad.get _ _ e];exact h w' f⟩
end
theorem awO{P:Program}{f:FuncId}{fn:Func}{c:Code}{vs:List Value}{w:World}{R:Ending->World->Prop}{n:Nat}
 (ad:P.funcs[f]? =some fn)(ag:fn.body=some c)(b:fn.ntmps=n)(d:jF vs.length n=true)(e:∀w,¬R .outgrown w)
 (h:∀a,Fr ⟨n,[]⟩ (tV 0 vs) a->gG none 1 P c (bodyPost P fn R) a w):CallsIn (Rd none) 1 P f vs.toArray w R:=by
 refine callsIn_of_wp ad ag trivial ?_
 rw[b]
 exact h _ (Fr.init vs n d) (λ a w h=>e w h)
theorem auk{P:Program}{fn:Func}{R:Ending->World->Prop}{a:Act}{w:World}(h:bodyPost P fn R .ret a w):bodyPost P fn R .normal a w:=h
theorem amY{n:Nat}(h:n<=maxLen):I.ax ((n:Int)-1)=(n:Int)-1:=by
 unfold I.ax;simp only[maxLen]at h;omega
theorem aBk{a pre rem:List Int}{x:Int}(h:a=(x::rem).reverse++pre):I.idx a (rem.length:Int)=some x:=by
 subst h;unfold I.idx;rw[if_pos (by omega)];simp
def adB(P:Program)(f:FuncId):Prop:=∀(a:List Int->World->Prop)(b:List Int)(A:Option Addr)(c fx L:Nat)(w0:World),
 (∀rem w,a rem w-> ∃W M0 X E,bz W M0 X w E [bF.jm fx [.slice A b.length c],bF.of (b5 (fk .i64)) [.slice A b.length c] b]) ->
 (∀x rem w,a (x::rem) w->YieldAt (Rd none) 0 P L #[.int .i64 (rem.length:Int),.int .i64 x] w (λ e w'=>e= .returned (.bool true)/\a rem w')) ->
 a b.reverse w0->CallsIn (Rd none) 1 P f #[.func (.yield L) #[] #[],.pointer (some ⟨fx,0,none⟩)] w0 (λ e w'=>(∃v,e= .returned v)/\a [] w')
section
variable{P:Program}{ops:Array Oper}{Q:Exit->Act->World->Prop}{a:Act}{w:World}{rest:List Oper}{o:Oper}{n:cE}{d L:Nat}{l:List (Nat×Value)}
theorem aIK{b:Operand}{xs:List Operand}{kP:Array TypeId}{vs:List Value}(c:o.op= .call { callee:=.value b,args:=xs.toArray,argTypes:=kP })(e:a.eval b= .func (.yield L) #[] #[])(f:za a xs vs) :
 (execOp a.eval o).run P w=(Instr.yield L vs.toArray).run P w:=by
 have g:=NF f
 simp only[execOp,c,resolve,hK,g,e]
 simp[Deferred.ofValue,invoke]
theorem aNO{b:Operand}{xs:List Operand}{kP:Array TypeId}{vs:List Value}{R:Ending->World->Prop}(g:Region.wanted o (yielded ops a.tmps)=true)(c:o.op= .call { callee:=.value b,args:=xs.toArray,argTypes:=kP })
 (h:a.eval b= .func (.yield L) #[] #[])(i:za a xs vs)(hy:YieldAt (Rd none) 0 P L vs.toArray w R)(ad:Fr n l a)(aL:o.dst=some d)(j:fs d n=true)
 (k:∀e w',R e w'-> ∃v,e= .returned v/\ ∀f,Fr n ((d,v)::l) f->wpListIn (Rd none) 1 P ops Q rest f w'):wpListIn (Rd none) 1 P ops Q (o::rest) a w:=by
 refine wpListIn_step λ K b8=>?_
 rw[if_pos g]
 refine⟨λ _ _=>trivial,?_⟩
 obtain⟨fn,tmps,assign,body,m,J⟩:=hy
 rw[Oper.semAt_eq _ _ _ (by rw[c];simp),aIK c h i,m]
 refine⟨aap,RoundIn.mono J ?_⟩
 intro e w' p
 obtain⟨v,rfl,q⟩:=k e w' p
 rw[aL]
 exact b8 _ _ (q _ (ad.put j))
end
section
variable{P:Program}{Q:Exit->Act->World->Prop}{a:Act}{w:World}{W:World}{M0 X:List Nat}{E:List bb}{D:List bF}
theorem aer{β:Type}{q t f j n fx c:Nat}{A:Option Addr}{l:List (Nat×Value)}{l1:Int->Int->List (Nat×Value)}{assign body:Code}(r:β->List bb)(k:β->List bF)(d:List Int->β->Prop)(u:List Int)(b0:β)(Y Z:Nat)
 (uu:adB P q)(Np:∀args w,(callFunc q args).run P w= .ok (.enter q args) w)
 (ad:Fr ⟨n,[]⟩ l a)(az:ev l t=some (.func (.func q) #[] #[.pointer (some ⟨fx,0,none⟩)]))(zv:fs f n=true)(C4:fs j n=true)
 (hm:bz W M0 X w (r b0) (k b0))(aE:d u.reverse b0)
 (kx:∀b,(k b)[Y]? =some (bF.jm fx [.slice A u.length c]))(sq:∀b,(k b)[Z]? =some (bF.of (b5 (fk .i64)) [.slice A u.length c] u))
 (ar:∀L i x w m (K:Act->World->Prop),Fr ⟨n,[]⟩ ((j,.int .i64 x)::(f,.int .i64 i)::l) m->(∀s,Fr ⟨n,[]⟩ (l1 i x) s->K s w)->gG (some L) 0 P assign (Exit.then K (λ _ _ _=>False)) m w)
 (ag:∀L g O R S b i x rem w m (K:Exit->Act->World->Prop),d (x::rem) b->Fr ⟨n,[]⟩ (l1 i x) m->bz W M0 X w (bb.obj g O::bb.obj R S::r b) (k b) ->
  (∀z s w',d rem z->bz W M0 X w' (bb.obj g O::bb.obj R S::r z) (k z)->K .normal s w')->gG (some L) 0 P body K m w)
 (H:∀g b m w',d [] b->Fr ⟨n,[mark g]⟩ l m->bz W M0 X w' (bb.obj g (.deferred (some []))::r b) (k b)->Q .normal m w') :
 (Code.rangeFunc (.tmp t) #[f,j] assign body).wp P Q a w:=by
 refine(wpIn_wide (n:=2)).1 (wpIn_rangeFunc λ fn _=>?_)
 obtain⟨rec,o⟩:∃rec:LoopState->Loop,rec=λ gP=>{ state:=gP,pending:=none,fn,tmps:=a.tmps,params:=#[f,j],assign,body,defers:=w.heap.size }:=⟨_,rfl⟩
 obtain⟨p,B⟩:∃p,(w.alloc (.deferred (some []))).alloc (.loop (rec .ready))=p:=⟨_,rfl⟩
 have WJ:bz W M0 X p (bb.obj (w.heap.size+1) (.loop (rec .ready))::bb.obj w.heap.size (.deferred (some []))::r b0) (k b0):=by
  have:=(hm.newObj (.deferred (some []))).newObj (.loop (rec .ready));rw[B]at this;simpa using this
 refine⟨w.heap.size+1,[mark w.heap.size],p,{ target:=.fn (.func q) #[.pointer (some ⟨fx,0,none⟩)],args:=#[.func (.yield (w.heap.size+1)) #[] #[]] },p,q,
  #[.func (.yield (w.heap.size+1)) #[] #[],.pointer (some ⟨fx,0,none⟩)],p,?_,?_,λ _ _=>trivial,?_,λ _=>by decide,?_⟩
 ·rw[<-B,o];exact run_enterLoop_outer _ _ _ _ _
 ·have JA:=ad.g az
  simp only[resolve,JA]
  simp[go_sem]
 ·simp[invoke,go_sem,Np]
 ·refine CallsIn.mono (uu (λ rem w'=>∃b,d rem b/\bz W M0 X w' (bb.obj (w.heap.size+1) (.loop (rec .ready))::bb.obj w.heap.size (.deferred (some []))::r b) (k b)) u A c fx (w.heap.size+1) p ?_ ?_ ⟨b0,aE,WJ⟩) ?_
  ·rintro rem w' ⟨b,_,G⟩
   exact⟨_,_,_,_,G.less λ y hy=>by
    simp only[cI,iH,or_false]at hy;rcases hy with rfl |rfl
    ·exact bG (kx b)
    ·exact bG (sq b)⟩
  ·rintro x rem w' ⟨b,I,G⟩
   have T:w'.heap[w.heap.size+1]? =some (.loop (rec .ready)):=G.e 0 rfl
   have hy:=run_yield (P:=P) (args:=#[.int .i64 (rem.length:Int),.int .i64 x]) T (by rw[o];rfl)
   rw[o]at hy
   refine⟨fn,_,assign,body,hy,roundIn_of_wpIn trivial ?_⟩
   have J:Fr ⟨n,[]⟩ ((j,.int .i64 x)::(f,.int .i64 (rem.length:Int))::l) ⟨((#[f,j]:Array Tmp).zip #[Value.int .i64 (rem.length:Int),.int .i64 x]).foldl (λ tmps (x:Tmp×Value)=>tmps.setIfInBounds x.1 x.2) a.tmps,[]⟩:=by
    have U:=(ad.put (v:=.int .i64 (rem.length:Int)) zv).put (v:=.int .i64 x) C4;have e:((#[f,j]:Array Tmp).zip #[Value.int .i64 (rem.length:Int),.int .i64 x]).foldl (λ tmps (x:Tmp×Value)=>tmps.setIfInBounds x.1 x.2) a.tmps=((a.put (some f) (.int .i64 (rem.length:Int))).put (some j) (.int .i64 x)).tmps:=by simp[Act.put]
    refine⟨?_,rfl,?_⟩
    ·simp only[e];exact U.size
    ·simp only[e];exact U.get
   refine ar (w.heap.size+1) _ _ w' _ _ J ?_ (λ a w h=>h)
   intro s M
   have ux:=G.putObj 0 rfl (.loop { rec .ready with state:=.busy })
   refine⟨_,run_beginRound T (by rw[o]),?_⟩
   refine ag (w.heap.size+1) _ _ _ _ b _ x rem _ s _ I M ux ?_ (λ a w h=>h)
   intro z a3 N mb C
   have C0:N.heap[w.heap.size+1]? =some (.loop { rec .ready with state:=.busy }):=C.e 0 rfl
   refine⟨_,_,run_endRound none C0,rfl,z,mb,?_⟩
   have F:=C.putObj 0 rfl (.loop (rec .ready))
   rw[o]at F⊢
   exact F
  ·rintro e N ⟨⟨v,rfl⟩,b,I,C⟩
   have C0:N.heap[w.heap.size+1]? =some (.loop (rec .ready)):=C.e 0 rfl
   have V:=run_endLoop (P:=P) C0 (by rw[o];simp)
   rw[o]at V
   refine⟨none,_,V,?_⟩
   have F:=C.putObj 0 rfl (.loop { rec .ready with state:=.exhausted })
   rw[o]at F
   refine H w.heap.size b _ _ I ⟨ad.size,?_,ad.get⟩ (F.drop (List.sublist_cons_self _ _))
   show[mark w.heap.size]++a.defers=[mark w.heap.size]
   rw[ad.defers];rfl
end
end ay
namespace ay
open Go Go.RowKit I
def bF.aJz:bF:=⟨λ _ _=>True,λ _ _ _ _ _ _ _=>trivial⟩
def bF.akj{α:Type}(o:Option α)(f:α->bF):bF:=match o with
 |none=>bF.aJz
 |some x=>f x
section
variable{P:Program}{ops:Array Oper}{Q:Exit->Act->World->Prop}{a:Act}{w:World}{rest:List Oper}{o:Oper}{n:cE}{d:Nat}{l:List (Nat×Value)}
 {W:World}{M0 X:List Nat}{E:List bb}{D:List bF}
theorem bz.none(h:bz W M0 X w E D){α:Type}(f:α->bF):bz W M0 X w E (bF.akj (Option.none:Option α) f::D):=h.more (y:=bF.akj (Option.none:Option α) f) trivial
theorem aNq{t e:TypeId}{sz:Nat}{x:Operand}{lo hi:Option Operand}(b:P.underlying t=some (.slice e))(aj:∀w,(Go.sizeOf e).run P w= .ok sz w)(c:o.op= .slice t x lo hi none)(f:a.eval x= .slice none 0 0)
 (g:(lo=none/\(0 :Int)=0)\/ ∃z,lo=some z/\a.eval z= .int .i64 0)(kT:(hi=none/\(0 :Int)=(0 :Nat))\/ ∃z,hi=some z/\a.eval z= .int .i64 0):bh P o a w (.slice none 0 0) w:=by
 have h:=Sq (P:=P) (w:=w) b aj c f g kT (i:=0) (j:=0) ⟨lI _,lI _,by omega⟩ (cT 0)
 simpa using h
theorem aNp{t e:TypeId}{A:Option Addr}{m c:Nat}{x:Operand}(b:P.underlying t=some (.slice e))(f:o.op= .call { callee:=.builtin .cap,args:=#[x],argTypes:=#[t] })(g:a.eval x= .slice A m c):bh P o a w (.int .i64 c) w:=by
 simp[bh,execOp,f,resolve,invoke,builtin,Builtin.cap_,g,run_underlying b,goInt]
theorem aNM{t t':TypeId}{x y:Operand}{k:IntKind}{m:Int}{n:Nat}(c:jF n 64=true)(e:o.op= .binOp .shr t x y t')(f:a.eval x= .int .u64 m)(hy:a.eval y= .int k (n:Int)):bh P o a w (.int .u64 (xM m n)) w:=by
 have b:=cS c;unfold xM;simp only[bh,execOp,e,f,hy];simp[go_sem,b]
end
end ay
namespace ay
open Go Go.RowKit I
section
variable{P:Program}{W w w':World}{M0 X:List Nat}{E:List bb}{D:List bF}{n:cE}{l:List (Nat×Value)}{a:Act}{o:Oper}{ops:Array Oper}{rest:List Oper}{Q:Exit->Act->World->Prop}{d:Nat}
theorem aIG{A:Option Addr}{m c sz:Nat}{t e:TypeId}{j:Int}(b:P.underlying t=some (.slice e))(aj:∀w,(Go.sizeOf e).run P w= .ok sz w)(h:0<=j/\j<=c) :
 (Instr.slice t (.slice A m c) none (some (.int .i64 j)) (some (.int .i64 j))).run P w= .ok (.slice (if j.toNat=0 then A else A.map (·.add (0*sz))) j.toNat j.toNat) w:=by
 have f:∀code,(Instr.sliceBound (.int .i64 j) c code).run P w= .ok j.toNat w:=λ code=>Az rfl (by omega)
 have g:∀code,(Instr.sliceBound (.int .i64 j) j.toNat code).run P w= .ok j.toNat w:=λ code=>Az rfl (by omega)
 have ag:(Instr.sliceBounds true m c none (some (.int .i64 j)) (some (.int .i64 j))).run P w= .ok (0,j.toNat,j.toNat) w:=by
  simp[Instr.sliceBounds,f,g]
 simp[Instr.slice,run_underlying b,ag,aj]
end
end ay
namespace Go.Value
abbrev q{α:Type}(A:Option Addr)(c:Nat)(l:List α):Value:=.slice A l.length c
end Go.Value
namespace ay
open Go Go.RowKit I
abbrev iK:=Option Addr
abbrev o8:=List Value
abbrev E7:=List Int
theorem wn{ops:Array Oper}{a:Act}{o:Oper}(b:o.guard=none:=by rfl):Region.wanted o (yielded ops a.tmps)=true:=Q' b
section
variable{W w:World}{M0 X:List Nat}{E lW:List bb}{D gF:List bF}{n:cE}{l l' new fr gy:List (Nat×Value)}{a:Act}
theorem Fr.cut(ad:Fr n l a)(h:FB l (l'.map (·.1))=some l':=by kernel_rfl):Fr n l' a:=ad.sub (TW h)
def Hf(D:List bF):List Nat->Option (List bF)
 |[]=>some []
 |i::r=>match nth D i,Hf D r with
  |some y,some ys=>some (y::ys)
  |_,_=>none
theorem al2:∀ {is:List Nat}{gF:List bF},Hf D is=some gF->P4 D gF
 |[],gF,h=>by simp only[Hf,aH]at h;subst h;trivial
 |i::r,gF,h=>by
  simp only[Hf]at h;split at h
  ·rename_i y ys b J
   simp only[aH]at h
   subst h
   exact⟨⟨i,by rw[<-dh];exact b⟩,al2 J⟩
  ·cases h
theorem bz.hZ(h:bz W M0 X w E D)(is:List Nat)(e:Hf D is=some gF:=by kernel_rfl):bz W M0 X w E gF:=h.pick (al2 e)
theorem bz.u6(h:bz W M0 X w E D)(ef is:List Nat)(b:KD ef=true:=by kernel_rfl)(ao:Hg E ef=some lW:=by kernel_rfl)(e:Hf D is=some gF:=by kernel_rfl):bz W M0 X w lW gF:=(h.sel ef b ao).hZ is e
theorem oi{α:Type}{a b:α}(h:some a=some b):a=b:=eJ h
theorem os{α:Type}{a b:α}(h:some a=some b):b=a:=(eJ h).symm
def qw:List (Nat×Value)->List (Nat×Value)->List (Nat×Value)
 |[],r=>r
 |x::l,r=>x::qw l r
def wy:List (Nat×Value)->Nat->Bool
 |[],_=>false
 |p::r,j=>cy p.1 j||wy r j
def KL:List (Nat×Value)->List (Nat×Value)->List (Nat×Value)
 |_,[]=>[]
 |new,p::r=>match wy new p.1 with
  |true=>KL new r
  |false=>p::KL (p::new) r
def n_(new fr:List (Nat×Value)):List (Nat×Value):=qw new (KL new fr)
theorem ajs{t:Nat}{r:List (Nat×Value)}:∀ {l:List (Nat×Value)},ev (qw l r) t=cond (wy l t) (ev l t) (ev r t)
 |[]=>by simp[qw,wy]
 |p::l=>by
  simp only[qw,ev,wy];cases cy p.1 t with
  |true=>simp
  |false=>simp only[iQ];exact ajs
theorem Yb{t:Nat}:∀ {r new:List (Nat×Value)},wy new t=false->ev (KL new r) t=ev r t
 |[],_,_=>rfl
 |p::r,new,h=>by
  simp only[KL,ev];cases ag:cy p.1 t with
  |true=>
   have:p.1=t:=bd ag
   rw[this,h]
   simp only[ev,this,Nat.beq_refl]
  |false=>
   cases wy new p.1 with
   |true=>simp only;exact Yb h
   |false=>simp only[ev,ag];exact Yb (by simp only[wy,ag,iQ];exact h)
theorem Fr.Nl(ad:Fr n (n_ new fr) a):Fr n (qw new fr) a:=⟨ad.size,ad.defers,λ t v b=>ad.get t v (by
 unfold n_;rw[ajs]at b⊢;cases c:wy new t with
 |true=>rw[c]at b;exact b
 |false=>rw[c]at b;rw[Yb c];exact b)⟩
def NE(G:mJ)(ops:Array Oper)(n:Nat)(M:List (Nat×Nat×List Value))(is aj:List Nat)(fr:List (Nat×Value))(e8:List Nat):Option (List (Nat×Value)×List (Nat×Nat)):=
 match DZ ops.toList is with
 |some os=>mU G ops n M os aj fr e8
 |none=>none
theorem axx{G:mJ}{ops:Array Oper}{n:Nat}{M:List (Nat×Nat×List Value)}{is aj:List Nat}{fr:List (Nat×Value)}{e8:List Nat}{r:List (Nat×Value)×List (Nat×Nat)}(h:NE G ops n M is aj fr e8=some r):∃os,DZ ops.toList is=some os/\mU G ops n M os aj fr e8=some r:=by
 unfold NE at h;split at h
 ·rename_i os b;exact⟨os,b,h⟩
 ·cases h
end
end ay
namespace I
structure Kind where
 Kind:Int
 ap:List UInt8
 deriving DecidableEq
structure Handler where
 From:Int
 To:Int
 At:Int
 ap:List UInt8
 deriving DecidableEq
structure Method where
 Name:List UInt8
 Static:Bool
 cD:List Kind
 Returns:Kind
 hQ:Int
 hN:Int
 Code:List UInt8
 cL:List Handler
structure Field where
 Name:List UInt8
 Kind:Kind
 deriving DecidableEq
structure ap where
 Name:List UInt8
 c9:List UInt8
 Fields:List Field
 bp:List Method
structure Target where
 ap:Int
 Method:Int
 deriving DecidableEq
structure aO where
 a6:List ap
 aY:List Int
 Fields:List (List Field)
 Names:List (List (List UInt8))
 aZ:List (List Target)
structure bt where
 l:List ap
 b3:List ((List UInt8)×Int)
 dB:List Int
structure aV where
 Words:List Int
 ak:Int
 aM:Int
 aX:Int
 aW:Int
 aS:List Int
 Next:Int
structure b' where
 K:aO
structure bj where
 H:aV
 S:b'
 ak:List Int
 aM:List Int
 dP:List (Int×Bool)
end I
namespace I
open Go
def Ea:ay.dj Kind where
 size:=2
 rd _ _ cs d:=cs=[.int .i64 d.Kind,ay.cw d.ap]
 len h:=by subst h;rfl
 one h v a:=by subst h;simp only[cI,iH,or_false]at a;rcases a with rfl |rfl<;>rfl
 law _ h:=h
def D':ay.dj Handler where
 size:=4
 rd _ _ cs d:=cs=[.int .i64 d.From,.int .i64 d.To,.int .i64 d.At,ay.cw d.ap]
 len h:=by subst h;rfl
 one h v a:=by subst h;simp only[cI,iH,or_false]at a;rcases a with rfl |rfl |rfl |rfl<;>rfl
 law _ h:=h
def rn:ay.dj Method where
 size:=9
 rd F w cs d:=∃a c1 b c2,cs=[ay.cw d.Name,.bool d.Static,.slice a d.cD.length c1,.int .i64 d.Returns.Kind,ay.cw d.Returns.ap,.int .i64 d.hQ,.int .i64 d.hN,ay.cw d.Code,.slice b d.cL.length c2]/\(ay.b5 I.Ea).rd F w [.slice a d.cD.length c1] d.cD/\(ay.b5 I.D').rd F w [.slice b d.cL.length c2] d.cL
 len h:=by obtain⟨a,c1,b,c2,c,_⟩:=h;subst c;rfl
 one h v e:=by obtain⟨a,c1,b,c2,c,_⟩:=h;subst c;simp only[cI,iH,or_false]at e;rcases e with rfl |rfl |rfl |rfl |rfl |rfl |rfl |rfl |rfl<;>rfl
 law f h:=by obtain⟨a,c1,b,c2,c,g,J⟩:=h;exact⟨a,c1,b,c2,c,(ay.b5 I.Ea).law f g,(ay.b5 I.D').law f J⟩
def jC:ay.dj Field where
 size:=3
 rd _ _ cs d:=cs=[ay.cw d.Name,.int .i64 d.Kind.Kind,ay.cw d.Kind.ap]
 len h:=by subst h;rfl
 one h v a:=by subst h;simp only[cI,iH,or_false]at a;rcases a with rfl |rfl |rfl<;>rfl
 law _ h:=h
def kI:ay.dj ap where
 size:=4
 rd F w cs d:=∃a c1 b c2,cs=[ay.cw d.Name,ay.cw d.c9,.slice a d.Fields.length c1,.slice b d.bp.length c2]/\(ay.b5 I.jC).rd F w [.slice a d.Fields.length c1] d.Fields/\(ay.b5 I.rn).rd F w [.slice b d.bp.length c2] d.bp
 len h:=by obtain⟨a,c1,b,c2,c,_⟩:=h;subst c;rfl
 one h v e:=by obtain⟨a,c1,b,c2,c,_⟩:=h;subst c;simp only[cI,iH,or_false]at e;rcases e with rfl |rfl |rfl |rfl<;>rfl
 law f h:=by obtain⟨a,c1,b,c2,c,g,J⟩:=h;exact⟨a,c1,b,c2,c,(ay.b5 I.jC).law f g,(ay.b5 I.rn).law f J⟩
def kJ:ay.dj Target where
 size:=2
 rd _ _ cs d:=cs=[.int .i64 d.ap,.int .i64 d.Method]
 len h:=by subst h;rfl
 one h v a:=by subst h;simp only[cI,iH,or_false]at a;rcases a with rfl |rfl<;>rfl
 law _ h:=h
def aJH:ay.dj aO where
 size:=5
 rd F w cs d:=∃a c1 b c2 c c3 e c4 f c5,cs=[.slice a d.a6.length c1,.slice b d.aY.length c2,.slice c d.Fields.length c3,.slice e d.Names.length c4,.slice f d.aZ.length c5]/\(ay.b5 I.kI).rd F w [.slice a d.a6.length c1] d.a6/\(ay.b5 (ay.fk .i64)).rd F w [.slice b d.aY.length c2] d.aY/\(ay.b5 (ay.b5 I.jC)).rd F w [.slice c d.Fields.length c3] d.Fields/\(ay.b5 (ay.b5 ay.jB)).rd F w [.slice e d.Names.length c4] d.Names/\(ay.b5 (ay.b5 I.kJ)).rd F w [.slice f d.aZ.length c5] d.aZ
 len h:=by obtain⟨a,c1,b,c2,c,c3,e,c4,f,c5,g,_⟩:=h;subst g;rfl
 one h v j:=by obtain⟨a,c1,b,c2,c,c3,e,c4,f,c5,g,_⟩:=h;subst g;simp only[cI,iH,or_false]at j;rcases j with rfl |rfl |rfl |rfl |rfl<;>rfl
 law i h:=by obtain⟨a,c1,b,c2,c,c3,e,c4,f,c5,g,k,J,l,m,n⟩:=h;exact⟨a,c1,b,c2,c,c3,e,c4,f,c5,g,(ay.b5 I.kI).law i k,(ay.b5 (ay.fk .i64)).law i J,(ay.b5 (ay.b5 I.jC)).law i l,(ay.b5 (ay.b5 ay.jB)).law i m,(ay.b5 (ay.b5 I.kJ)).law i n⟩
def aJG:ay.dj aV where
 size:=7
 rd F w cs d:=∃a c1 b c2,cs=[.slice a d.Words.length c1,.int .i64 d.ak,.int .i64 d.aM,.int .i64 d.aX,.int .i64 d.aW,.slice b d.aS.length c2,.int .i64 d.Next]/\(ay.b5 (ay.fk .i64)).rd F w [.slice a d.Words.length c1] d.Words/\(ay.b5 (ay.fk .i64)).rd F w [.slice b d.aS.length c2] d.aS
 len h:=by obtain⟨a,c1,b,c2,c,_⟩:=h;subst c;rfl
 one h v e:=by obtain⟨a,c1,b,c2,c,_⟩:=h;subst c;simp only[cI,iH,or_false]at e;rcases e with rfl |rfl |rfl |rfl |rfl |rfl |rfl<;>rfl
 law f h:=by obtain⟨a,c1,b,c2,c,g,J⟩:=h;exact⟨a,c1,b,c2,c,(ay.b5 (ay.fk .i64)).law f g,(ay.b5 (ay.fk .i64)).law f J⟩
end I
namespace Go.Value
abbrev dl(g:Nat):Value:=.pointer (some ⟨g,0,none⟩)
abbrev i(n:Int):Value:=.int .i64 n
end Go.Value
namespace Go.Proofs.YteeliipnilghaaaGreat
open Go Go.RowKit
abbrev cv{α:Type}(T:ay.dj α)(A:Option Addr)(c:Nat)(l:List α):ay.bF:=ay.bF.of (ay.b5 T) [.slice A l.length c] l
def r':ay.mJ:=⟨[(3,.i .i64),(4,.b),(5,.i .u8),(9,.s),(22,.cv),(25,.cv),(26,.cv),(27,.cv),(28,.cv),(31,.i .i64),(73,.cv),(119,.cv),(120,.cv),(121,.cv),(124,.cv),(126,.cv),(129,.cv),(132,.cv),(202,.cv),(204,.cv)],[(24,0,0),(24,1,1),(24,2,2),(24,3,3),(24,4,4),(24,5,5),(24,6,6),(30,0,0),(30,1,1),(30,2,2),(30,3,3),(30,4,4),(69,0,0),(72,0,0),(72,1,7),(72,2,12),(72,3,13),(72,4,14),(117,0,0),(117,1,1),(117,2,2),(128,0,0),(128,1,1),(131,0,0),(131,1,1),(131,2,2),(131,3,3),(131,4,5),(131,5,6),(131,6,7),(131,7,8),(134,0,0),(134,1,1),(134,2,2),(134,3,3),(136,0,0),(136,1,1),(157,0,0),(157,1,1),(157,2,2),(157,3,3)],[(3,none),(4,none),(5,none),(9,none),(22,none),(24,some 7),(25,none),(26,none),(27,none),(28,none),(30,some 5),(60,none),(69,some 5),(70,none),(113,none),(115,none),(118,none),(120,none),(121,none),(124,none),(126,none),(128,some 2),(129,none),(131,some 9),(132,none),(134,some 4),(136,some 3),(157,some 4),(166,some 2)]⟩
theorem sa:ay.tC Tryz.prog r':=⟨⟨Tryz.underlying3,Tryz.underlying4,Tryz.underlying5,Tryz.underlying9,⟨_,Tryz.underlying22⟩,⟨_,Tryz.underlying25⟩,⟨_,Tryz.underlying26⟩,⟨_,Tryz.underlying27⟩,⟨_,Tryz.underlying28⟩,Tryz.underlying31,⟨_,Tryz.underlying73⟩,⟨_,Tryz.underlying119⟩,⟨_,Tryz.underlying120⟩,⟨_,Tryz.underlying121⟩,⟨_,Tryz.underlying124⟩,⟨_,Tryz.underlying126⟩,⟨_,Tryz.underlying129⟩,⟨_,Tryz.underlying132⟩,⟨_,Tryz.underlying202⟩,⟨_,Tryz.underlying204⟩,trivial⟩,⟨ay.eM Tryz.underlying24 rfl rfl Tryz.sizeOf22 rfl,ay.eM Tryz.underlying24 rfl rfl Tryz.sizeOf3 rfl,ay.eM Tryz.underlying24 rfl rfl Tryz.sizeOf3 rfl,ay.eM Tryz.underlying24 rfl rfl Tryz.sizeOf3 rfl,ay.eM Tryz.underlying24 rfl rfl Tryz.sizeOf3 rfl,ay.eM Tryz.underlying24 rfl rfl Tryz.sizeOf22 rfl,ay.eM Tryz.underlying24 rfl rfl Tryz.sizeOf3 rfl,ay.eM Tryz.underlying30 rfl rfl Tryz.sizeOf25 rfl,ay.eM Tryz.underlying30 rfl rfl Tryz.sizeOf22 rfl,ay.eM Tryz.underlying30 rfl rfl Tryz.sizeOf26 rfl,ay.eM Tryz.underlying30 rfl rfl Tryz.sizeOf27 rfl,ay.eM Tryz.underlying30 rfl rfl Tryz.sizeOf28 rfl,ay.eM Tryz.underlying69 rfl rfl Tryz.sizeOf30 rfl,ay.eM Tryz.underlying72 rfl rfl Tryz.sizeOf24 rfl,ay.eM Tryz.underlying72 rfl rfl Tryz.sizeOf69 rfl,ay.eM Tryz.underlying72 rfl rfl Tryz.sizeOf22 rfl,ay.eM Tryz.underlying72 rfl rfl Tryz.sizeOf22 rfl,ay.eM Tryz.underlying72 rfl rfl Tryz.sizeOf70 rfl,ay.eM Tryz.underlying117 rfl rfl Tryz.sizeOf25 rfl,ay.eM Tryz.underlying117 rfl rfl Tryz.sizeOf115 rfl,ay.eM Tryz.underlying117 rfl rfl Tryz.sizeOf22 rfl,ay.eM Tryz.underlying128 rfl rfl Tryz.sizeOf3 rfl,ay.eM Tryz.underlying128 rfl rfl Tryz.sizeOf9 rfl,ay.eM Tryz.underlying131 rfl rfl Tryz.sizeOf9 rfl,ay.eM Tryz.underlying131 rfl rfl Tryz.sizeOf4 rfl,ay.eM Tryz.underlying131 rfl rfl Tryz.sizeOf126 rfl,ay.eM Tryz.underlying131 rfl rfl Tryz.sizeOf128 rfl,ay.eM Tryz.underlying131 rfl rfl Tryz.sizeOf3 rfl,ay.eM Tryz.underlying131 rfl rfl Tryz.sizeOf3 rfl,ay.eM Tryz.underlying131 rfl rfl Tryz.sizeOf9 rfl,ay.eM Tryz.underlying131 rfl rfl Tryz.sizeOf129 rfl,ay.eM Tryz.underlying134 rfl rfl Tryz.sizeOf9 rfl,ay.eM Tryz.underlying134 rfl rfl Tryz.sizeOf9 rfl,ay.eM Tryz.underlying134 rfl rfl Tryz.sizeOf124 rfl,ay.eM Tryz.underlying134 rfl rfl Tryz.sizeOf132 rfl,ay.eM Tryz.underlying136 rfl rfl Tryz.sizeOf9 rfl,ay.eM Tryz.underlying136 rfl rfl Tryz.sizeOf128 rfl,ay.eM Tryz.underlying157 rfl rfl Tryz.sizeOf3 rfl,ay.eM Tryz.underlying157 rfl rfl Tryz.sizeOf3 rfl,ay.eM Tryz.underlying157 rfl rfl Tryz.sizeOf3 rfl,ay.eM Tryz.underlying157 rfl rfl Tryz.sizeOf9 rfl,trivial⟩,⟨Tryz.isAgg3,Tryz.isAgg4,Tryz.isAgg5,Tryz.isAgg9,Tryz.isAgg22,⟨Tryz.isAgg24,Tryz.sizeOf24⟩,Tryz.isAgg25,Tryz.isAgg26,Tryz.isAgg27,Tryz.isAgg28,⟨Tryz.isAgg30,Tryz.sizeOf30⟩,Tryz.isAgg60,⟨Tryz.isAgg69,Tryz.sizeOf69⟩,Tryz.isAgg70,Tryz.isAgg113,Tryz.isAgg115,Tryz.isAgg118,Tryz.isAgg120,Tryz.isAgg121,Tryz.isAgg124,Tryz.isAgg126,⟨Tryz.isAgg128,Tryz.sizeOf128⟩,Tryz.isAgg129,⟨Tryz.isAgg131,Tryz.sizeOf131⟩,Tryz.isAgg132,⟨Tryz.isAgg134,Tryz.sizeOf134⟩,⟨Tryz.isAgg136,Tryz.sizeOf136⟩,⟨Tryz.isAgg157,Tryz.sizeOf157⟩,⟨Tryz.isAgg166,Tryz.sizeOf166⟩,trivial⟩⟩
theorem aBx:(Tryz.prog.info? 3).map (λ i=>(i.zero,i.size,i.bytes))=some (some (.int .i64 0),1,8):=by kernel_rfl
theorem Xs:(Tryz.prog.info? 9).map (λ i=>(i.zero,i.size,i.bytes))=some (some (ay.cw []),1,16):=by kernel_rfl
theorem aBw:(Tryz.prog.info? 136).map (λ i=>(i.zero,i.size,i.bytes))=some (some (.agg #[ay.cw [],.int .i64 0,ay.cw []]),3,40):=by kernel_rfl
theorem Xr:(Tryz.prog.info? 166).map (λ i=>(i.zero,i.size,i.bytes))=some (some (.agg #[.int .i64 0,.int .i64 0]),2,16):=by kernel_rfl
theorem aFB:∀w,(ay.placesOf Tryz.prog 166).run Tryz.prog w= .ok #[(0,1),(1,1)] w:=λ w=>by kernel_rfl
theorem awZ{o:Oper}{a:Act}{w:World}{t':TypeId}{x y:Operand}{X Y:I.Kind}(b:o.op= .binOp .eql 128 x y t')(c:a.eval x= .agg #[.int .i64 X.Kind,ay.cw X.ap])(hy:a.eval y= .agg #[.int .i64 Y.Kind,ay.cw Y.ap]):ay.bh Tryz.prog o a w (.bool (decide (X=Y))) w:=by
 have aL:decide (X=Y)=decide (X.Kind=Y.Kind/\X.ap=Y.ap/\True):=by rcases X with⟨_,_⟩;rcases Y with⟨_,_⟩;simp
 rw[aL];exact ay.Sr Tryz.underlying128 (by kernel_rfl) (by kernel_rfl) (ay.n' rfl Tryz.underlying3 Tryz.isAgg3 rfl rfl (ay.y9 rfl Tryz.underlying9 Tryz.isAgg9 rfl rfl (by simp[ay.tW]))) b c hy
theorem aw3{o:Oper}{a:Act}{w:World}{t':TypeId}{x y:Operand}{X Y:I.Kind}(b:o.op= .binOp .neq 128 x y t')(c:a.eval x= .agg #[.int .i64 X.Kind,ay.cw X.ap])(hy:a.eval y= .agg #[.int .i64 Y.Kind,ay.cw Y.ap]):ay.bh Tryz.prog o a w (.bool (!decide (X=Y))) w:=by
 have aL:decide (X=Y)=decide (X.Kind=Y.Kind/\X.ap=Y.ap/\True):=by rcases X with⟨_,_⟩;rcases Y with⟨_,_⟩;simp
 rw[aL];exact ay.St Tryz.underlying128 (by kernel_rfl) (by kernel_rfl) (ay.n' rfl Tryz.underlying3 Tryz.isAgg3 rfl rfl (ay.y9 rfl Tryz.underlying9 Tryz.isAgg9 rfl rfl (by simp[ay.tW]))) b c hy
theorem awX{o:Oper}{a:Act}{w:World}{t':TypeId}{x y:Operand}{X Y:I.Field}(b:o.op= .binOp .eql 136 x y t')(c:a.eval x= .agg #[ay.cw X.Name,.int .i64 X.Kind.Kind,ay.cw X.Kind.ap])(hy:a.eval y= .agg #[ay.cw Y.Name,.int .i64 Y.Kind.Kind,ay.cw Y.Kind.ap]):ay.bh Tryz.prog o a w (.bool (decide (X=Y))) w:=by
 have aL:decide (X=Y)=decide (X.Name=Y.Name/\(X.Kind.Kind=Y.Kind.Kind/\X.Kind.ap=Y.Kind.ap/\True)/\True):=by rcases X with⟨_,⟨_,_⟩⟩;rcases Y with⟨_,⟨_,_⟩⟩;simp
 rw[aL];exact ay.Sr Tryz.underlying136 (by kernel_rfl) (by kernel_rfl) (ay.y9 rfl Tryz.underlying9 Tryz.isAgg9 rfl rfl (ay.afL (us:=[.int .i64 X.Kind.Kind,ay.cw X.Kind.ap]) (vs:=[.int .i64 Y.Kind.Kind,ay.cw Y.Kind.ap]) (q:=X.Kind.Kind=Y.Kind.Kind/\X.Kind.ap=Y.Kind.ap/\True) rfl Tryz.isAgg128 Tryz.sizeOf128 rfl rfl (ay.afM Tryz.underlying128 (by kernel_rfl) (ay.n' rfl Tryz.underlying3 Tryz.isAgg3 rfl rfl (ay.y9 rfl Tryz.underlying9 Tryz.isAgg9 rfl rfl (by simp[ay.tW])))) (by simp[ay.tW]))) b c hy
theorem aw1{o:Oper}{a:Act}{w:World}{t':TypeId}{x y:Operand}{X Y:I.Field}(b:o.op= .binOp .neq 136 x y t')(c:a.eval x= .agg #[ay.cw X.Name,.int .i64 X.Kind.Kind,ay.cw X.Kind.ap])(hy:a.eval y= .agg #[ay.cw Y.Name,.int .i64 Y.Kind.Kind,ay.cw Y.Kind.ap]):ay.bh Tryz.prog o a w (.bool (!decide (X=Y))) w:=by
 have aL:decide (X=Y)=decide (X.Name=Y.Name/\(X.Kind.Kind=Y.Kind.Kind/\X.Kind.ap=Y.Kind.ap/\True)/\True):=by rcases X with⟨_,⟨_,_⟩⟩;rcases Y with⟨_,⟨_,_⟩⟩;simp
 rw[aL];exact ay.St Tryz.underlying136 (by kernel_rfl) (by kernel_rfl) (ay.y9 rfl Tryz.underlying9 Tryz.isAgg9 rfl rfl (ay.afL (us:=[.int .i64 X.Kind.Kind,ay.cw X.Kind.ap]) (vs:=[.int .i64 Y.Kind.Kind,ay.cw Y.Kind.ap]) (q:=X.Kind.Kind=Y.Kind.Kind/\X.Kind.ap=Y.Kind.ap/\True) rfl Tryz.isAgg128 Tryz.sizeOf128 rfl rfl (ay.afM Tryz.underlying128 (by kernel_rfl) (ay.n' rfl Tryz.underlying3 Tryz.isAgg3 rfl rfl (ay.y9 rfl Tryz.underlying9 Tryz.isAgg9 rfl rfl (by simp[ay.tW])))) (by simp[ay.tW]))) b c hy
theorem awY{o:Oper}{a:Act}{w:World}{t':TypeId}{x y:Operand}{X Y:I.Handler}(b:o.op= .binOp .eql 157 x y t')(c:a.eval x= .agg #[.int .i64 X.From,.int .i64 X.To,.int .i64 X.At,ay.cw X.ap])(hy:a.eval y= .agg #[.int .i64 Y.From,.int .i64 Y.To,.int .i64 Y.At,ay.cw Y.ap]):ay.bh Tryz.prog o a w (.bool (decide (X=Y))) w:=by
 have aL:decide (X=Y)=decide (X.From=Y.From/\X.To=Y.To/\X.At=Y.At/\X.ap=Y.ap/\True):=by rcases X with⟨_,_,_,_⟩;rcases Y with⟨_,_,_,_⟩;simp
 rw[aL];exact ay.Sr Tryz.underlying157 (by kernel_rfl) (by kernel_rfl) (ay.n' rfl Tryz.underlying3 Tryz.isAgg3 rfl rfl (ay.n' rfl Tryz.underlying3 Tryz.isAgg3 rfl rfl (ay.n' rfl Tryz.underlying3 Tryz.isAgg3 rfl rfl (ay.y9 rfl Tryz.underlying9 Tryz.isAgg9 rfl rfl (by simp[ay.tW]))))) b c hy
theorem aw2{o:Oper}{a:Act}{w:World}{t':TypeId}{x y:Operand}{X Y:I.Handler}(b:o.op= .binOp .neq 157 x y t')(c:a.eval x= .agg #[.int .i64 X.From,.int .i64 X.To,.int .i64 X.At,ay.cw X.ap])(hy:a.eval y= .agg #[.int .i64 Y.From,.int .i64 Y.To,.int .i64 Y.At,ay.cw Y.ap]):ay.bh Tryz.prog o a w (.bool (!decide (X=Y))) w:=by
 have aL:decide (X=Y)=decide (X.From=Y.From/\X.To=Y.To/\X.At=Y.At/\X.ap=Y.ap/\True):=by rcases X with⟨_,_,_,_⟩;rcases Y with⟨_,_,_,_⟩;simp
 rw[aL];exact ay.St Tryz.underlying157 (by kernel_rfl) (by kernel_rfl) (ay.n' rfl Tryz.underlying3 Tryz.isAgg3 rfl rfl (ay.n' rfl Tryz.underlying3 Tryz.isAgg3 rfl rfl (ay.n' rfl Tryz.underlying3 Tryz.isAgg3 rfl rfl (ay.y9 rfl Tryz.underlying9 Tryz.isAgg9 rfl rfl (by simp[ay.tW]))))) b c hy
theorem aw0{o:Oper}{a:Act}{w:World}{t':TypeId}{x y:Operand}{X Y:I.Target}(b:o.op= .binOp .eql 166 x y t')(c:a.eval x= .agg #[.int .i64 X.ap,.int .i64 X.Method])(hy:a.eval y= .agg #[.int .i64 Y.ap,.int .i64 Y.Method]):ay.bh Tryz.prog o a w (.bool (decide (X=Y))) w:=by
 have aL:decide (X=Y)=decide (X.ap=Y.ap/\X.Method=Y.Method/\True):=by rcases X with⟨_,_⟩;rcases Y with⟨_,_⟩;simp
 rw[aL];exact ay.Sr Tryz.underlying166 (by kernel_rfl) (by kernel_rfl) (ay.n' rfl Tryz.underlying3 Tryz.isAgg3 rfl rfl (ay.n' rfl Tryz.underlying3 Tryz.isAgg3 rfl rfl (by simp[ay.tW]))) b c hy
theorem aw4{o:Oper}{a:Act}{w:World}{t':TypeId}{x y:Operand}{X Y:I.Target}(b:o.op= .binOp .neq 166 x y t')(c:a.eval x= .agg #[.int .i64 X.ap,.int .i64 X.Method])(hy:a.eval y= .agg #[.int .i64 Y.ap,.int .i64 Y.Method]):ay.bh Tryz.prog o a w (.bool (!decide (X=Y))) w:=by
 have aL:decide (X=Y)=decide (X.ap=Y.ap/\X.Method=Y.Method/\True):=by rcases X with⟨_,_⟩;rcases Y with⟨_,_⟩;simp
 rw[aL];exact ay.St Tryz.underlying166 (by kernel_rfl) (by kernel_rfl) (ay.n' rfl Tryz.underlying3 Tryz.isAgg3 rfl rfl (ay.n' rfl Tryz.underlying3 Tryz.isAgg3 rfl rfl (by simp[ay.tW]))) b c hy
section
open ay
variable{n:cE}{fr:List (Nat×Value)}{w:World}{a:Act}
theorem aF9(k:Nat)(aj:List Nat){ops:Array Oper}{C:World->Prop}{b:Act->Prop}{rest:List Oper}{M:List (Nat×Nat×List Value)}(fr':List (Nat×Value))(L:List Nat)(d:∀w,C w->j6 w M)(ad:Fr n fr a)
 (next:∀c,Fr n fr' c->wpQuiet Tryz.prog ops C b (rest.drop k) c)(e:mU r' ops n M (rest.take k) aj fr (fr'.map (·.1))=some (fr',dup L):=by kernel_rfl):wpQuiet Tryz.prog ops C b rest a:=aF8 k _ aj sa d ad e next
theorem rg(aj:List Nat){id:Nat}{lo:List Oper}{Q:Exit->Act->World->Prop}{M:List (Nat×Nat×List Value)}(fr':List (Nat×Value))(L:List Nat)(c:j6 w M)(ad:Fr n fr a)
 (next:∀b,Fr n fr' b->Q .normal b w)(d:mU r' lo.toArray n M lo aj fr (fr'.map (·.1))=some (fr',dup L):=by kernel_rfl):(Code.region id lo.toArray false).wp Tryz.prog Q a w:=by
 refine pj (hI lo.length _ aj sa c ad (by rw[jI];exact d) λ b ec=>?_)
 rw[iL]
 exact next b ec
theorem Ly(aj:List Nat){id:Nat}{lo:List Oper}{c:Code}{Q:Exit->Act->World->Prop}(fr':List (Nat×Value))(ad:Fr n fr a)
 (next:∀b,Fr n fr' b->c.wp Tryz.prog Q b w)(d:mU r' lo.toArray n [] lo aj fr (fr'.map (·.1))=some (fr',dup []):=by kernel_rfl):(Code.seq (.region id lo.toArray false) c).wp Tryz.prog Q a w:=wp_seq_k λ _ b8=>rg aj fr' [] gK ad (λ b ec=>b8 _ _ (next b ec)) d
theorem lq(k:Nat)(aj:List Nat){ops:Array Oper}{Q:Exit->Act->World->Prop}{rest:List Oper}(c:List (Nat×Value))(ad:Fr n fr a)
 (next:∀b,Fr n (qw c fr) b->wpList Tryz.prog ops Q (rest.drop k) b w)(d:mU r' ops n [] (rest.take k) aj fr ((n_ c fr).map (·.1))=some (n_ c fr,dup []):=by kernel_rfl):wpList Tryz.prog ops Q rest a w:=hI k _ aj sa gK ad d λ b h=>next b h.Nl
theorem tT(k:Nat)(aj:List Nat){ops:Array Oper}{Q:Exit->Act->World->Prop}{rest:List Oper}{M:List (Nat×Nat×List Value)}(c:List (Nat×Value))(L:List Nat)(d:j6 w M)(ad:Fr n fr a)
 (next:∀b,Fr n (qw c fr) b->wpList Tryz.prog ops Q (rest.drop k) b w)(e:mU r' ops n M (rest.take k) aj fr ((n_ c fr).map (·.1))=some (n_ c fr,dup L):=by kernel_rfl):wpList Tryz.prog ops Q rest a w:=hI k _ aj sa d ad e λ b h=>next b h.Nl
theorem aeV(aj:List Nat){id:Nat}{lo:List Oper}{Q:Exit->Act->World->Prop}{M:List (Nat×Nat×List Value)}(c:List (Nat×Value))(L:List Nat)(d:j6 w M)(ad:Fr n fr a)
 (next:∀b,Fr n (qw c fr) b->Q .normal b w)(e:mU r' lo.toArray n M lo aj fr ((n_ c fr).map (·.1))=some (n_ c fr,dup L):=by kernel_rfl):(Code.region id lo.toArray false).wp Tryz.prog Q a w:=rg aj _ L d ad (λ b h=>next b h.Nl) e
theorem aeW(aj:List Nat){id:Nat}{lo:List Oper}{Q:Exit->Act->World->Prop}(b:List (Nat×Value))(ad:Fr n fr a)
 (next:∀c,Fr n (qw b fr) c->Q .normal c w)(d:mU r' lo.toArray n [] lo aj fr ((n_ b fr).map (·.1))=some (n_ b fr,dup []):=by kernel_rfl):(Code.region id lo.toArray false).wp Tryz.prog Q a w:=aeV aj b [] gK ad next d
theorem qF(aj:List Nat){id:Nat}{lo:List Oper}{c:Code}{Q:Exit->Act->World->Prop}(b:List (Nat×Value))(ad:Fr n fr a)
 (next:∀d,Fr n (qw b fr) d->c.wp Tryz.prog Q d w)(e:mU r' lo.toArray n [] lo aj fr ((n_ b fr).map (·.1))=some (n_ b fr,dup []):=by kernel_rfl):(Code.seq (.region id lo.toArray false) c).wp Tryz.prog Q a w:=wp_seq_k λ _ b8=>aeV aj b [] gK ad (λ d ec=>b8 _ _ (next d ec)) e
variable{ops:Array Oper}{Q:Exit->Act->World->Prop}{S:World->Prop}{f p:Nat}{ds:List Nat}{M:List (Nat×Nat×List Value)}
theorem a0(is:List Nat)(k:Nat)(aj:List Nat)(fr':List (Nat×Value))(L:List Nat)(c:∀w,S w->j6 w M)(ad:Fr n fr a)(d:S w)(next:∀b,Fr n fr' b->ft Tryz.prog ops Q p S f (K' is ds) b w)
 (e:cy is.length k=true:=by kernel_rfl)(g:(dV ops.size ds).getD p false=false:=by kernel_rfl)(h:Hn ops p ds is=true:=by kernel_rfl)(i:NE r' ops n M is aj fr (fr'.map (·.1))=some (fr',dup L):=by kernel_rfl):ft Tryz.prog ops Q p S (f+k) ds a w:=by
 obtain⟨os,j,J⟩:=axx i
 exact auf is k _ aj sa c ad e g j h J d next
theorem en(is:List Nat)(k:Nat)(aj:List Nat)(c:List (Nat×Value))(L:List Nat)(d:∀w,S w->j6 w M)(ad:Fr n fr a)(e:S w)(next:∀b,Fr n (qw c fr) b->ft Tryz.prog ops Q p S f (K' is ds) b w)
 (g:cy is.length k=true:=by kernel_rfl)(i:(dV ops.size ds).getD p false=false:=by kernel_rfl)(j:Hn ops p ds is=true:=by kernel_rfl)(l:NE r' ops n M is aj fr ((n_ c fr).map (·.1))=some (n_ c fr,dup L):=by kernel_rfl):ft Tryz.prog ops Q p S (f+k) ds a w:=
 a0 is k aj _ L d ad e (λ b h=>next b h.Nl) g i j l
end
end Go.Proofs.YteeliipnilghaaaGreat
namespace Go.Proofs.YteeliipnilghaaaGreat
open Go Go.RowKit
theorem n2:Tryz.prog.cellsOf 3=1:=by kernel_rfl
theorem avs:Tryz.prog.cellsOf 4=1:=by kernel_rfl
theorem y3:Tryz.prog.cellsOf 9=1:=by kernel_rfl
theorem TU:Tryz.prog.cellsOf 22=1:=by kernel_rfl
theorem avm:Tryz.prog.cellsOf 24=7:=by kernel_rfl
theorem avn:Tryz.prog.cellsOf 25=1:=by kernel_rfl
theorem avo:Tryz.prog.cellsOf 26=1:=by kernel_rfl
theorem avp:Tryz.prog.cellsOf 27=1:=by kernel_rfl
theorem avq:Tryz.prog.cellsOf 28=1:=by kernel_rfl
theorem avr:Tryz.prog.cellsOf 30=5:=by kernel_rfl
theorem avh:Tryz.prog.cellsOf 120=1:=by kernel_rfl
theorem avi:Tryz.prog.cellsOf 121=1:=by kernel_rfl
theorem aeG:Tryz.prog.cellsOf 124=1:=by kernel_rfl
theorem avj:Tryz.prog.cellsOf 126=1:=by kernel_rfl
theorem Ng:Tryz.prog.cellsOf 128=2:=by kernel_rfl
theorem avk:Tryz.prog.cellsOf 129=1:=by kernel_rfl
theorem aeH:Tryz.prog.cellsOf 131=9:=by kernel_rfl
theorem avl:Tryz.prog.cellsOf 132=1:=by kernel_rfl
theorem aeI:Tryz.prog.cellsOf 134=4:=by kernel_rfl
theorem aeJ:Tryz.prog.cellsOf 136=3:=by kernel_rfl
theorem aeK:Tryz.prog.cellsOf 157=4:=by kernel_rfl
theorem aeL:Tryz.prog.cellsOf 166=2:=by kernel_rfl
theorem auF:Tryz.prog.bytesOf 3=8:=by kernel_rfl
theorem auG:Tryz.prog.bytesOf 9=16:=by kernel_rfl
theorem auv:Tryz.prog.bytesOf 120=24:=by kernel_rfl
theorem auw:Tryz.prog.bytesOf 121=24:=by kernel_rfl
theorem auy:Tryz.prog.bytesOf 124=24:=by kernel_rfl
theorem auz:Tryz.prog.bytesOf 128=24:=by kernel_rfl
theorem auA:Tryz.prog.bytesOf 131=128:=by kernel_rfl
theorem auB:Tryz.prog.bytesOf 134=80:=by kernel_rfl
theorem auC:Tryz.prog.bytesOf 136=40:=by kernel_rfl
theorem auD:Tryz.prog.bytesOf 157=40:=by kernel_rfl
theorem auE:Tryz.prog.bytesOf 166=16:=by kernel_rfl
theorem ajj{l:List Value}(h:l.length=2):∃a0 a,l=[a0,a]:=match l,h with|[a0,a],_=>⟨a0,a,rfl⟩
theorem aDD{l:List Value}(h:l.length=3):∃a0 a b,l=[a0,a,b]:=match l,h with|[a0,a,b],_=>⟨a0,a,b,rfl⟩
theorem ajk{l:List Value}(h:l.length=4):∃a0 a b a3,l=[a0,a,b,a3]:=match l,h with|[a0,a,b,a3],_=>⟨a0,a,b,a3,rfl⟩
theorem aDE{l:List Value}(h:l.length=5):∃a0 a b a3 a4,l=[a0,a,b,a3,a4]:=match l,h with|[a0,a,b,a3,a4],_=>⟨a0,a,b,a3,a4,rfl⟩
theorem aDF{l:List Value}(h:l.length=7):∃a0 a b a3 a4 a5 c,l=[a0,a,b,a3,a4,a5,c]:=match l,h with|[a0,a,b,a3,a4,a5,c],_=>⟨a0,a,b,a3,a4,a5,c,rfl⟩
theorem aDG{l:List Value}(h:l.length=9):∃a0 a b a3 a4 a5 c Ct Fo,l=[a0,a,b,a3,a4,a5,c,Ct,Fo]:=match l,h with|[a0,a,b,a3,a4,a5,c,Ct,Fo],_=>⟨a0,a,b,a3,a4,a5,c,Ct,Fo,rfl⟩
section
variable{H:Type}{enc:TypeId×Value->H}{N:Nat}
theorem Qm:ay.hP Tryz.prog enc N 22 (ay.b5 (ay.fk .i64)) (λ l=>l.length*8<=N/\ ∀a∈l,ay.jQ a):=by
 have h:=ay.sX (enc:=enc) (N:=N) Tryz.underlying22 n2 (by decide) (ay.oP Tryz.underlying3);rw[auF]at h;exact h
def adJ(N:Nat)(d:I.aV):Prop:=(d.Words.length*8<=N/\ ∀a∈d.Words,ay.jQ a)/\ay.jQ d.ak/\ay.jQ d.aM/\ay.jQ d.aX/\ay.jQ d.aW/\(d.aS.length*8<=N/\ ∀a∈d.aS,ay.jQ a)/\ay.jQ d.Next
theorem aHU:ay.hP Tryz.prog enc N 24 I.aJG (adJ N):=by
 intro W n cs x h j k;obtain⟨gp,a,ad⟩:=ay.pt Tryz.underlying24 h j k;replace a:=a.trans avm;obtain⟨a0,b,c,a3,a4,a5,d,rfl⟩:=aDF a;obtain⟨ER,l,m,w0⟩:=ay.fE ad 0 rfl rfl rfl TU (r:=[a0]) rfl;obtain⟨o,g,p⟩:=(Qm) W _ _ _ l m w0;obtain⟨q,eK,s⟩:=ay.ny g;obtain rfl:a0=_:=(fT s).1;obtain⟨cJ,t,u,v⟩:=ay.fE ad 1 rfl rfl rfl n2 (r:=[b]) rfl;obtain⟨w,y,z⟩:=(ay.oP Tryz.underlying3) W _ _ _ t u v;have A:[b]=_:=y;obtain rfl:b=_:=(fT A).1;obtain⟨iI,J,B,C⟩:=ay.fE ad 2 rfl rfl rfl n2 (r:=[c]) rfl;obtain⟨D,E,F⟩:=(ay.oP Tryz.underlying3) W _ _ _ J B C;have ao:[c]=_:=E;obtain rfl:c=_:=(fT ao).1;obtain⟨qh,G,K,L⟩:=ay.fE ad 3 rfl rfl rfl n2 (r:=[a3]) rfl;obtain⟨M,fR,O⟩:=(ay.oP Tryz.underlying3) W _ _ _ G K L;have aT:[a3]=_:=fR;obtain rfl:a3=_:=(fT aT).1;obtain⟨H2,P,Q,R⟩:=ay.fE ad 4 rfl rfl rfl n2 (r:=[a4]) rfl;obtain⟨S,k5,T⟩:=(ay.oP Tryz.underlying3) W _ _ _ P Q R;have bQ:[a4]=_:=k5;obtain rfl:a4=_:=(fT bQ).1;obtain⟨U,V,X,Y⟩:=ay.fE ad 5 rfl rfl rfl TU (r:=[a5]) rfl;obtain⟨Z,i,pJ⟩:=(Qm) W _ _ _ V X Y;obtain⟨yl,c5,dw⟩:=ay.ny i;obtain rfl:a5=_:=(fT dw).1;obtain⟨aNh,eS,xG,e⟩:=ay.fE ad 6 rfl rfl rfl n2 (r:=[d]) rfl;obtain⟨d6,f,zD⟩:=(ay.oP Tryz.underlying3) W _ _ _ eS xG e;have eR:[d]=_:=f;obtain rfl:d=_:=(fT eR).1;exact⟨⟨o,w,D,M,S,Z,d6⟩,⟨q,eK,yl,c5,rfl,g,i⟩,⟨p,z,F,O,T,pJ,zD⟩⟩
def Ig(N:Nat)(d:I.Kind):Prop:=ay.jQ d.Kind/\d.ap.length<=N
theorem aat:ay.hP Tryz.prog enc N 128 I.Ea (Ig N):=by
 intro W n cs x h c d;obtain⟨gp,a,ad⟩:=ay.pt Tryz.underlying128 h c d;replace a:=a.trans Ng;obtain⟨a0,b,rfl⟩:=ajj a;obtain⟨u,e,f,w0⟩:=ay.fE ad 0 rfl rfl rfl n2 (r:=[a0]) rfl;obtain⟨g,i,j⟩:=(ay.oP Tryz.underlying3) W _ _ _ e f w0;have k:[a0]=_:=i;obtain rfl:a0=_:=(fT k).1;obtain⟨v,l,m,o⟩:=ay.fE ad 1 rfl rfl rfl y3 (r:=[b]) rfl;obtain⟨p,q,s⟩:=(ay.Aw Tryz.underlying9) W _ _ _ l m o;have t:[b]=_:=q;obtain rfl:b=_:=(fT t).1;exact⟨⟨g,p⟩,rfl,⟨j,s⟩⟩
def If(N:Nat)(d:I.Field):Prop:=d.Name.length<=N/\Ig N d.Kind
theorem aHS:ay.hP Tryz.prog enc N 136 I.jC (If N):=by
 intro W n cs x h e f;obtain⟨gp,a,ad⟩:=ay.pt Tryz.underlying136 h e f;replace a:=a.trans aeJ;obtain⟨a0,b,c,rfl⟩:=aDD a;obtain⟨v,g,i,w0⟩:=ay.fE ad 0 rfl rfl rfl y3 (r:=[a0]) rfl;obtain⟨j,k,l⟩:=(ay.Aw Tryz.underlying9) W _ _ _ g i w0;have m:[a0]=_:=k;obtain rfl:a0=_:=(fT m).1;obtain⟨w,o,p,q⟩:=ay.fE ad 1 rfl rfl rfl Ng (r:=[b,c]) rfl;obtain⟨s,t,u⟩:=aat W _ _ _ o p q;have d:[b,c]=_:=t;simp only[h3,and_true]at d;obtain⟨rfl,rfl⟩:=d;exact⟨⟨j,s⟩,rfl,⟨l,u⟩⟩
theorem alv:ay.hP Tryz.prog enc N 124 (ay.b5 I.jC) (λ l=>l.length*40<=N/\ ∀a∈l,If N a):=by
 have h:=ay.sX (enc:=enc) (N:=N) Tryz.underlying124 aeJ (by decide) aHS;rw[auC]at h;exact h
theorem aH1:ay.hP Tryz.prog enc N 126 (ay.b5 I.Ea) (λ l=>l.length*24<=N/\ ∀a∈l,Ig N a):=by
 have h:=ay.sX (enc:=enc) (N:=N) Tryz.underlying126 Ng (by decide) aat;rw[auz]at h;exact h
def S9(N:Nat)(d:I.Handler):Prop:=ay.jQ d.From/\ay.jQ d.To/\ay.jQ d.At/\d.ap.length<=N
theorem aHT:ay.hP Tryz.prog enc N 157 I.D' (S9 N):=by
 intro W n cs x h d e;obtain⟨gp,a,ad⟩:=ay.pt Tryz.underlying157 h d e;replace a:=a.trans aeK;obtain⟨a0,b,c,a3,rfl⟩:=ajk a;obtain⟨G,f,g,w0⟩:=ay.fE ad 0 rfl rfl rfl n2 (r:=[a0]) rfl;obtain⟨i,j,k⟩:=(ay.oP Tryz.underlying3) W _ _ _ f g w0;have l:[a0]=_:=j;obtain rfl:a0=_:=(fT l).1;obtain⟨K,m,o,p⟩:=ay.fE ad 1 rfl rfl rfl n2 (r:=[b]) rfl;obtain⟨q,s,t⟩:=(ay.oP Tryz.underlying3) W _ _ _ m o p;have u:[b]=_:=s;obtain rfl:b=_:=(fT u).1;obtain⟨L,J,v,w⟩:=ay.fE ad 2 rfl rfl rfl n2 (r:=[c]) rfl;obtain⟨y,z,A⟩:=(ay.oP Tryz.underlying3) W _ _ _ J v w;have ao:[c]=_:=z;obtain rfl:c=_:=(fT ao).1;obtain⟨M,B,C,D⟩:=ay.fE ad 3 rfl rfl rfl y3 (r:=[a3]) rfl;obtain⟨E,fR,F⟩:=(ay.Aw Tryz.underlying9) W _ _ _ B C D;have aT:[a3]=_:=fR;obtain rfl:a3=_:=(fT aT).1;exact⟨⟨i,q,y,E⟩,rfl,⟨k,t,A,F⟩⟩
theorem aH2:ay.hP Tryz.prog enc N 129 (ay.b5 I.D') (λ l=>l.length*40<=N/\ ∀a∈l,S9 N a):=by
 have h:=ay.sX (enc:=enc) (N:=N) Tryz.underlying129 aeK (by decide) aHT;rw[auD]at h;exact h
def MP(N:Nat)(d:I.Method):Prop:=d.Name.length<=N/\True/\(d.cD.length*24<=N/\ ∀a∈d.cD,Ig N a)/\Ig N d.Returns/\ay.jQ d.hQ/\ay.jQ d.hN/\d.Code.length<=N/\(d.cL.length*40<=N/\ ∀a∈d.cL,S9 N a)
theorem aHW:ay.hP Tryz.prog enc N 131 I.rn (MP N):=by
 intro W n cs x h o p;obtain⟨gp,b,ad⟩:=ay.pt Tryz.underlying131 h o p;replace b:=b.trans aeH;obtain⟨a0,c,l,a3,a4,a5,d,Ct,Fo,rfl⟩:=aDG b;obtain⟨ER,q,s,w0⟩:=ay.fE ad 0 rfl rfl rfl y3 (r:=[a0]) rfl;obtain⟨t,u,v⟩:=(ay.Aw Tryz.underlying9) W _ _ _ q s w0;have w:[a0]=_:=u;obtain rfl:a0=_:=(fT w).1;obtain⟨cJ,y,z,A⟩:=ay.fE ad 1 rfl rfl rfl avs (r:=[c]) rfl;obtain⟨B,C,D⟩:=(ay.aHY Tryz.underlying4) W _ _ _ y z A;have E:[c]=_:=C;obtain rfl:c=_:=(fT E).1;obtain⟨iI,J,F,G⟩:=ay.fE ad 2 rfl rfl rfl avj (r:=[l]) rfl;obtain⟨K,m,L⟩:=(aH1) W _ _ _ J F G;obtain⟨M,c2,ao⟩:=ay.ny m;obtain rfl:l=_:=(fT ao).1;obtain⟨qh,O,P,Q⟩:=ay.fE ad 3 rfl rfl rfl Ng (r:=[a3,a4]) rfl;obtain⟨R,fR,S⟩:=aat W _ _ _ O P Q;have aT:[a3,a4]=_:=fR;simp only[h3,and_true]at aT;obtain⟨rfl,rfl⟩:=aT;obtain⟨H2,T,U,V⟩:=ay.fE ad 4 rfl rfl rfl n2 (r:=[a5]) rfl;obtain⟨X,k5,Y⟩:=(ay.oP Tryz.underlying3) W _ _ _ T U V;have bQ:[a5]=_:=k5;obtain rfl:a5=_:=(fT bQ).1;obtain⟨Z,cZ,sU,xW⟩:=ay.fE ad 5 rfl rfl rfl n2 (r:=[d]) rfl;obtain⟨d5,rc,pJ⟩:=(ay.oP Tryz.underlying3) W _ _ _ cZ sU xW;have dw:[d]=_:=rc;obtain rfl:d=_:=(fT dw).1;obtain⟨aNh,eS,xG,e⟩:=ay.fE ad 6 rfl rfl rfl y3 (r:=[Ct]) rfl;obtain⟨d6,f,zD⟩:=(ay.Aw Tryz.underlying9) W _ _ _ eS xG e;have eR:[Ct]=_:=f;obtain rfl:Ct=_:=(fT eR).1;obtain⟨aPm,hx,GQ,g⟩:=ay.fE ad 7 rfl rfl rfl avk (r:=[Fo]) rfl;obtain⟨d7,a,i⟩:=(aH2) W _ _ _ hx GQ g;obtain⟨j,k,kr⟩:=ay.ny a;obtain rfl:Fo=_:=(fT kr).1;exact⟨⟨t,B,K,R,X,d5,d6,d7⟩,⟨M,c2,j,k,rfl,m,a⟩,⟨v,D,L,S,Y,pJ,zD,i⟩⟩
theorem aH3:ay.hP Tryz.prog enc N 132 (ay.b5 I.rn) (λ l=>l.length*128<=N/\ ∀a∈l,MP N a):=by
 have h:=ay.sX (enc:=enc) (N:=N) Tryz.underlying132 aeH (by decide) aHW;rw[auA]at h;exact h
def Ic(N:Nat)(d:I.ap):Prop:=d.Name.length<=N/\d.c9.length<=N/\(d.Fields.length*40<=N/\ ∀a∈d.Fields,If N a)/\(d.bp.length*128<=N/\ ∀a∈d.bp,MP N a)
theorem aHR:ay.hP Tryz.prog enc N 134 I.kI (Ic N):=by
 intro W n cs x h e f;obtain⟨gp,a,ad⟩:=ay.pt Tryz.underlying134 h e f;replace a:=a.trans aeI;obtain⟨a0,b,c,a3,rfl⟩:=ajk a;obtain⟨L,g,i,w0⟩:=ay.fE ad 0 rfl rfl rfl y3 (r:=[a0]) rfl;obtain⟨j,k,l⟩:=(ay.Aw Tryz.underlying9) W _ _ _ g i w0;have m:[a0]=_:=k;obtain rfl:a0=_:=(fT m).1;obtain⟨M,o,p,q⟩:=ay.fE ad 1 rfl rfl rfl y3 (r:=[b]) rfl;obtain⟨s,t,u⟩:=(ay.Aw Tryz.underlying9) W _ _ _ o p q;have v:[b]=_:=t;obtain rfl:b=_:=(fT v).1;obtain⟨O,J,w,y⟩:=ay.fE ad 2 rfl rfl rfl aeG (r:=[c]) rfl;obtain⟨z,d,A⟩:=(alv) W _ _ _ J w y;obtain⟨B,c2,ao⟩:=ay.ny d;obtain rfl:c=_:=(fT ao).1;obtain⟨P,C,D,E⟩:=ay.fE ad 3 rfl rfl rfl avl (r:=[a3]) rfl;obtain⟨F,fR,G⟩:=(aH3) W _ _ _ C D E;obtain⟨K,c3,aT⟩:=ay.ny fR;obtain rfl:a3=_:=(fT aT).1;exact⟨⟨j,s,z,F⟩,⟨B,c2,K,c3,rfl,d,fR⟩,⟨l,u,A,G⟩⟩
theorem aH4:ay.hP Tryz.prog enc N 25 (ay.b5 I.kI) (λ l=>l.length*80<=N/\ ∀a∈l,Ic N a):=by
 have h:=ay.sX (enc:=enc) (N:=N) Tryz.underlying25 aeI (by decide) aHR;rw[auB]at h;exact h
theorem aH5:ay.hP Tryz.prog enc N 26 (ay.b5 (ay.b5 I.jC)) (λ l=>l.length*24<=N/\ ∀a∈l,(a.length*40<=N/\ ∀b∈a,If N b)):=by
 have h:=ay.sX (enc:=enc) (N:=N) Tryz.underlying26 aeG (by decide) (alv);rw[auy]at h;exact h
theorem aHZ:ay.hP Tryz.prog enc N 120 (ay.b5 ay.jB) (λ l=>l.length*16<=N/\ ∀a∈l,a.length<=N):=by
 have h:=ay.sX (enc:=enc) (N:=N) Tryz.underlying120 y3 (by decide) (ay.Aw Tryz.underlying9);rw[auG]at h;exact h
theorem aH6:ay.hP Tryz.prog enc N 27 (ay.b5 (ay.b5 ay.jB)) (λ l=>l.length*24<=N/\ ∀a∈l,(a.length*16<=N/\ ∀b∈a,b.length<=N)):=by
 have h:=ay.sX (enc:=enc) (N:=N) Tryz.underlying27 avh (by decide) (aHZ);rw[auv]at h;exact h
def MQ(N:Nat)(d:I.Target):Prop:=ay.jQ d.ap/\ay.jQ d.Method
theorem aHX:ay.hP Tryz.prog enc N 166 I.kJ (MQ N):=by
 intro W n cs x h c d;obtain⟨gp,a,ad⟩:=ay.pt Tryz.underlying166 h c d;replace a:=a.trans aeL;obtain⟨a0,b,rfl⟩:=ajj a;obtain⟨u,e,f,w0⟩:=ay.fE ad 0 rfl rfl rfl n2 (r:=[a0]) rfl;obtain⟨g,i,j⟩:=(ay.oP Tryz.underlying3) W _ _ _ e f w0;have k:[a0]=_:=i;obtain rfl:a0=_:=(fT k).1;obtain⟨v,l,m,o⟩:=ay.fE ad 1 rfl rfl rfl n2 (r:=[b]) rfl;obtain⟨p,q,s⟩:=(ay.oP Tryz.underlying3) W _ _ _ l m o;have t:[b]=_:=q;obtain rfl:b=_:=(fT t).1;exact⟨⟨g,p⟩,rfl,⟨j,s⟩⟩
theorem aH0:ay.hP Tryz.prog enc N 121 (ay.b5 I.kJ) (λ l=>l.length*16<=N/\ ∀a∈l,MQ N a):=by
 have h:=ay.sX (enc:=enc) (N:=N) Tryz.underlying121 aeL (by decide) aHX;rw[auE]at h;exact h
theorem aH7:ay.hP Tryz.prog enc N 28 (ay.b5 (ay.b5 I.kJ)) (λ l=>l.length*24<=N/\ ∀a∈l,(a.length*16<=N/\ ∀b∈a,MQ N b)):=by
 have h:=ay.sX (enc:=enc) (N:=N) Tryz.underlying28 avi (by decide) (aH0);rw[auw]at h;exact h
def MO(N:Nat)(d:I.aO):Prop:=(d.a6.length*80<=N/\ ∀a∈d.a6,Ic N a)/\(d.aY.length*8<=N/\ ∀a∈d.aY,ay.jQ a)/\(d.Fields.length*24<=N/\ ∀a∈d.Fields,(a.length*40<=N/\ ∀b∈a,If N b))/\(d.Names.length*24<=N/\ ∀a∈d.Names,(a.length*16<=N/\ ∀b∈a,b.length<=N))/\(d.aZ.length*24<=N/\ ∀a∈d.aZ,(a.length*16<=N/\ ∀b∈a,MQ N b))
theorem aHV:ay.hP Tryz.prog enc N 30 I.aJH (MO N):=by
 intro W n cs x h g i;obtain⟨gp,a,ad⟩:=ay.pt Tryz.underlying30 h g i;replace a:=a.trans avr;obtain⟨a0,b,c,a3,a4,rfl⟩:=aDE a;obtain⟨U,j,k,w0⟩:=ay.fE ad 0 rfl rfl rfl avn (r:=[a0]) rfl;obtain⟨l,d,m⟩:=(aH4) W _ _ _ j k w0;obtain⟨o,eK,p⟩:=ay.ny d;obtain rfl:a0=_:=(fT p).1;obtain⟨V,q,s,t⟩:=ay.fE ad 1 rfl rfl rfl TU (r:=[b]) rfl;obtain⟨u,e,v⟩:=(Qm) W _ _ _ q s t;obtain⟨w,c1,y⟩:=ay.ny e;obtain rfl:b=_:=(fT y).1;obtain⟨X,J,z,A⟩:=ay.fE ad 2 rfl rfl rfl avo (r:=[c]) rfl;obtain⟨B,f,C⟩:=(aH5) W _ _ _ J z A;obtain⟨D,c2,ao⟩:=ay.ny f;obtain rfl:c=_:=(fT ao).1;obtain⟨Y,E,F,G⟩:=ay.fE ad 3 rfl rfl rfl avp (r:=[a3]) rfl;obtain⟨K,fR,L⟩:=(aH6) W _ _ _ E F G;obtain⟨M,c3,aT⟩:=ay.ny fR;obtain rfl:a3=_:=(fT aT).1;obtain⟨Z,O,P,Q⟩:=ay.fE ad 4 rfl rfl rfl avq (r:=[a4]) rfl;obtain⟨R,k5,S⟩:=(aH7) W _ _ _ O P Q;obtain⟨T,c4,bQ⟩:=ay.ny k5;obtain rfl:a4=_:=(fT bQ).1;exact⟨⟨l,u,B,K,R⟩,⟨o,eK,w,c1,D,c2,M,c3,T,c4,rfl,d,e,f,fR,k5⟩,⟨m,v,C,L,S⟩⟩
end
end Go.Proofs.YteeliipnilghaaaGreat
namespace bc
open Go Go.RowKit ay I
inductive aI (El:Nat->Type):Type
 |p (v:Value)
 |b (i o:Nat)
 |x (t:Nat) (d:El t) (o:Nat)
 |s (t:Nat) (l:List (El t))
 |q (t:Nat) (l:List (El t))
 |r (i g:Nat)
 |v (i g:Nat) (lo hi:Int)
 |e (i g k t:Nat) (j:Int) (d:El t) (o:Nat)
 |w (i g o:Nat)
 |m (i:Nat)
 |n (kt vt:Nat) (d:List (El kt×El vt))
 |f (fn:Fn) (cs:List (aI El))
 |h (fn:Fn) (us:List (aI El))
 |a (l:List (aI El))
 |u (l:List (aI El))
 |i (t:Nat) (y:aI El)
 |pp (i g sz:Nat) (ef:List Int)
 |Au (i g sz:Nat) (q:Int)
inductive aF (El:Nat->Type):Type
 |c (ty:Nat) (cs:List (aI El))
 |r (t g k:Nat) (l:List (El t))
 |k (t sz g:Nat) (cs:List (aI El))
 |z (t g k:Nat) (l:List (El t))
 |m (kt vt:Nat) (d:List (El kt×El vt))
 |o (YP:Obj)
 |no (g:Nat)
structure h8 (cR:Type) where
 dec:DecidableEq cR
 sy: @lY cR dec
structure b7 (El:Nat->Type) (t:Nat) where
 ty:dj (El t)
 agg:Bool
 cs:El t->List (aI El)
 hz:List (aI El)->Option (El t)
 eq:Option (El t->El t->Bool)
 key:Option (h8 (El t))
structure bT where
 El:Nat->Type
 es:List (Σ t,b7 El t)
def aJF{α:Type}:dj α where
 size:=0
 rd _ _ _ _:=False
 len h:=h.elim
 one h:=h.elim
 law _ h:=h
def b7.no{El:Nat->Type}{t:Nat}:b7 El t:=⟨aJF,true,λ _=>[],λ _=>none,none,none⟩
def fM{El:Nat->Type}:List (Σ t,b7 El t)->(t:Nat)->b7 El t
 |[],_=>b7.no
 |e::r,t=>match l2 e.1 t with
  |isTrue h=>h▸e.2
  |isFalse _=>fM r t
def bT.e(T:bT)(t:Nat):b7 T.El t:=fM T.es t
def bT.ty(T:bT)(t:Nat):dj (T.El t):=(T.e t).ty
def b4{El:Nat->Type}:Option (aF El)->Nat
 |some (.r _ g _ _)=>g
 |some (.k _ _ g _)=>g
 |some (.z _ g _ _)=>g
 |some (.no g)=>g
 |_=>0
def gY{El:Nat->Type}:Option (aF El)->Nat
 |some (.r _ _ k _)=>k
 |some (.z _ _ k _)=>k
 |_=>0
def jx{El:Nat->Type}:Option (aF El)->Option (Σ t,List (El t))
 |some (.r t _ _ l)=>some ⟨t,l⟩
 |some (.z t _ _ l)=>some ⟨t,l⟩
 |_=>none
def jy(T:bT):Option (aF T.El)->Nat
 |some (.r t _ _ _)=>(T.ty t).size
 |some (.k _ sz _ _)=>sz
 |some (.z t _ _ _)=>(T.ty t).size
 |_=>0
def kZ:Value->Prop
 | .slice _ _ _=>True
 |_=>False
def wZ:Value->Prop
 | .pointer (some _)=>True
 |_=>False
def Am(agg:Bool)(xs:List Value):Value:=match agg with
 |true=>.agg ⟨xs⟩
 |false=>xs.headD undef
section
variable(T:bT)(F:Nat->Prop)(w:World)
def Cq(t:Nat)(d:T.El t)(v:Value):Prop:=∃xs,(T.ty t).rd F w xs d/\v=Am (T.e t).agg xs
def jO{kt vt:Nat}(K:h8 (T.El kt)):List MapEntry->List (T.El kt×T.El vt)->Prop
 |[],[]=>True
 |e::es,p::d=>e.key= @lY.enc _ K.dec K.sy p.1/\Cq T F w vt p.2 e.val/\jO K es d
 |_,_=>False
def yA(kt vt r:Nat)(d:List (T.El kt×T.El vt)):Prop:=∃K,(T.e kt).key=some K/\ ∃es clock,w.heap[r]? =some (.map es clock)/\jO T F w K es.toList d/\(es.toList.map (·.born)).Pairwise (·< ·)/\ ∀e∈es.toList,e.born<clock
end
section
variable{T:bT}{F F':Nat->Prop}{w w':World}
theorem jO.law(a:∀k,F k->F' k/\w'.heap[k]? =w.heap[k]?){kt vt:Nat}{K:h8 (T.El kt)}:∀ {es:List MapEntry}{d:List (T.El kt×T.El vt)},jO T F w K es d->jO T F' w' K es d
 |[],[],_=>trivial
 |[],_::_,h=>h.elim
 |_::_,[],h=>h.elim
 |e::es,p::d,h=>by
  obtain⟨b,⟨xs,J,c⟩,f⟩:=h;exact⟨b,⟨xs,(T.ty vt).law a J,c⟩,jO.law a f⟩
theorem yA.law(a:∀k,F k->F' k/\w'.heap[k]? =w.heap[k]?){kt vt r:Nat}{d:List (T.El kt×T.El vt)}(aj:w'.heap[r]? =w.heap[r]?)(h:yA T F w kt vt r d):yA T F' w' kt vt r d:=by
 obtain⟨K,b,es,cl,J,c,e⟩:=h;exact⟨K,b,es,cl,aj.trans J,c.law a,e⟩
end
def vH{El:Nat->Type}(ρ:List Value)(bl:List (aF El))(i g sz:Nat)(q:Int)(v:Value):Prop:=wZ v/\ ∃h,ρ[i]? =some h/\g<=b4 bl[i]? /\(g=b4 bl[i]? -> ∃A n c,h= .slice A n c/\0<=q/\q<n/\v= .pointer (some ⟨dD A,q.toNat*sz,none⟩))
def tH{El:Nat->Type}(ρ:List Value)(bl:List (aF El))(i g sz:Nat):List Int->List Value->Prop
 |[],vs=>vs=[]
 |q::r,vs=>∃u us,vs=u::us/\vH ρ bl i g sz q u/\tH ρ bl i g sz r us
section
variable(T:bT)(F:Nat->Prop)(w:World)(ρ:List Value)(bl:List (aF T.El))
mutual
def aw:aI T.El->Value->Prop
 | .p u,v=>v=u
 | .b i o,v=>∃g,ρ[i]? =some (.pointer (some ⟨g,0,none⟩))/\v= .pointer (some ⟨g,o,none⟩)
 | .x t d o,v=>∃a q cs,v= .pointer (some ⟨a,q+o,none⟩)/\F a/\(T.ty t).rd F w cs d/\fo w ⟨a,q,none⟩ cs
 | .s t l,v=>(b5 (T.ty t)).rd F w [v] l
 | .q t l,v=>(b5 (T.ty t)).rd F w [v] l/\ ∃A,v= .slice A l.length l.length
 | .r i g,v=>kZ v/\ ∃h,ρ[i]? =some h/\g<=b4 bl[i]? /\(g=b4 bl[i]? ->v=h)
 | .v i g lo hi,v=>kZ v/\ ∃h,ρ[i]? =some h/\g<=b4 bl[i]? /\(g=b4 bl[i]? -> ∃A n c B,h= .slice A n c/\0<=lo/\lo<=hi/\hi<=n/\v= .slice B (hi.toNat-lo.toNat) (c-lo.toNat)/\(lo=0 ->B=A)/\(lo<hi->B=A.map (·.add (lo.toNat*jy T bl[i]?))))
 | .e i g k t j d o,v=>wZ v/\ ∃h,ρ[i]? =some h/\g<=b4 bl[i]? /\(g=b4 bl[i]? ->(∃A n c,h= .slice A n c/\0<=j/\j<n/\v= .pointer (some ⟨dD A,j.toNat*jy T bl[i]? +o,none⟩))/\k<=gY bl[i]? /\(k=gY bl[i]? -> ∃l,jx bl[i]? =some ⟨t,l⟩/\idx l j=some d))
 | .w i g o,v=>wZ v/\ ∃h,ρ[i]? =some h/\g<=b4 bl[i]? /\(g=b4 bl[i]? -> ∃A n c,h= .slice A n c/\0<n/\v= .pointer (some ⟨dD A,o,none⟩))
 | .m i,v=>∃r,ρ[i]? =some (.map (some r))/\v= .map (some r)
 | .n kt vt d,v=>∃r,v= .map (some r)/\F r/\yA T F w kt vt r d
 | .f fn cs,v=>∃vs,v= .func fn #[] ⟨vs⟩/\a8 cs vs
 | .h fn us,v=>∃vs,v= .func fn ⟨vs⟩ #[]/\a8 us vs
 | .a l,v=>∃vs,v= .agg ⟨vs⟩/\a8 l vs
 | .u l,v=>∃vs,v= .tuple ⟨vs⟩/\a8 l vs
 | .i t y,v=>∃u,v= .iface t u/\aw y u
 | .pp i g sz ef,v=>∃A c,v= .slice A ef.length c/\ef.length<=c/\(A=none->c=0)/\(ef≠[]->A=some ⟨dD A,fP A,none⟩/\F (dD A)/\ ∃xs,tH ρ bl i g sz ef xs/\fo w ⟨dD A,fP A,none⟩ xs)
 | .Au i g sz q,v=>∃a o u,v= .pointer (some ⟨a,o,none⟩)/\F a/\vH ρ bl i g sz q u/\fo w ⟨a,o,none⟩ [u]
def a8:List (aI T.El)->List Value->Prop
 |[],vs=>vs=[]
 |y::r,vs=>∃u us,vs=u::us/\aw y u/\a8 r us
end
end
structure mM (T:bT) (ρ ρ':List Value) (bl bl':List (aF T.El)):Prop where
 at_:∀(i:Nat)(h:Value),ρ[i]? =some h-> ∃h',ρ'[i]? =some h'/\(¬kZ h->h'=h)/\b4 bl[i]? <=b4 bl'[i]? /\(b4 bl'[i]? =b4 bl[i]? ->h'=h/\jy T bl'[i]? =jy T bl[i]? /\gY bl[i]? <=gY bl'[i]? /\(gY bl'[i]? =gY bl[i]? ->jx bl'[i]? =jx bl[i]?))
theorem mM.refl{T:bT}{ρ:List Value}{bl:List (aF T.El)}:mM T ρ ρ bl bl:=⟨λ i h hi=>⟨h,hi,λ _=>rfl,cT _,λ _=>⟨rfl,rfl,cT _,λ _=>rfl⟩⟩⟩
theorem mM.trans{T:bT}{ρ ρ' g:List Value}{bl bl' d:List (aF T.El)}(h:mM T ρ ρ' bl bl')(k:mM T ρ' g bl' d):mM T ρ g bl d:=⟨λ i v hi=>by
 obtain⟨fl,j,J,l,b⟩:=h.at_ i v hi;obtain⟨f,m,n,o,c⟩:=k.at_ i fl j;refine⟨f,m,λ aj=>?_,hv l o,λ e=>?_⟩
 ·have a:=J aj
  rw[n (by rw[a];exact aj),a]
 ·have a:b4 bl'[i]? =b4 bl[i]? :=by omega
  have ao:b4 d[i]? =b4 bl'[i]? :=by omega
  refine⟨(c ao).1.trans (b a).1,(c ao).2.1.trans (b a).2.1,hv (b a).2.2.1 (c ao).2.2.1,λ aT=>?_⟩
  have p:=(b a).2.2.1
  have q:=(c ao).2.2.1
  exact((c ao).2.2.2 (by omega)).trans ((b a).2.2.2 (by omega))⟩
section
variable{T:bT}{F F':Nat->Prop}{w w':World}{ρ ρ':List Value}{bl bl':List (aF T.El)}
theorem vH.later{i g sz:Nat}{q:Int}{v:Value}(a:mM T ρ ρ' bl bl')(h:vH ρ bl i g sz q v):vH ρ' bl' i g sz q v:=by
 obtain⟨b,u,c,J,d⟩:=h;obtain⟨f,j,_,k,l⟩:=a.at_ i _ c;refine⟨b,f,j,hv J k,λ e=>?_⟩;have m:b4 bl'[i]? =b4 bl[i]? :=by omega
 rw[(l m).1];exact d (by omega)
theorem tH.imp{El a:Nat->Type}{bl:List (aF El)}{bl':List (aF a)}{i g i' g' sz:Nat}(hi:∀q v,vH ρ bl i g sz q v->vH ρ' bl' i' g' sz q v):∀ {ef:List Int}{xs:List Value},tH ρ bl i g sz ef xs->tH ρ' bl' i' g' sz ef xs
 |[],_,h=>h
 |q::r,xs,h=>by
  obtain⟨u,us,rfl,b,J⟩:=h;exact⟨u,us,rfl,hi _ _ b,tH.imp hi J⟩
theorem tH.at_{i g sz:Nat}:∀ {ef:List Int}{xs:List Value}{m:Nat}{q:Int},tH ρ bl i g sz ef xs->ef[m]? =some q-> ∃u,xs[m]? =some u/\vH ρ bl i g sz q u
 |[],_,m,q,_,a=>by simp at a
 |p::r,xs,0,q,h,a=>by
  obtain⟨u,us,rfl,b,J⟩:=h;simp only[dU,aH]at a;subst a;exact⟨u,rfl,b⟩
 |p::r,xs,m+1,q,h,a=>by
  obtain⟨u,us,rfl,b,J⟩:=h;simpa using tH.at_ J (by simpa using a)
mutual
theorem aw.later(f:∀k,F k->F' k/\w'.heap[k]? =w.heap[k]?)(m:mM T ρ ρ' bl bl'):∀(y:aI T.El){v:Value},aw T F w ρ bl y v->aw T F' w' ρ' bl' y v
 | .p _,_,h=>by simpa only[aw]using h
 | .b i o,v,h=>by
   simp only[aw]at h⊢;obtain⟨g,b,J⟩:=h;obtain⟨h',n,D,_⟩:=m.at_ i _ b;exact⟨g,by rw[n,D (by simp[kZ])],J⟩
 | .x t d o,v,h=>by
   simp only[aw]at h⊢;obtain⟨a,q,cs,b,J,s,E⟩:=h;exact⟨a,q,cs,b,(f a J).1,(T.ty t).law f s,E.law (f a J).2⟩
 | .s t l,v,h=>by
   simp only[aw]at h⊢;exact(b5 (T.ty t)).law f h
 | .q t l,v,h=>by
   simp only[aw]at h⊢;exact⟨(b5 (T.ty t)).law f h.1,h.2⟩
 | .r i g,v,h=>by
   simp only[aw]at h⊢;obtain⟨B,u,b,J,s⟩:=h;obtain⟨C,n,_,z,x⟩:=m.at_ i _ b;refine⟨B,C,n,hv J z,λ e=>?_⟩;have p:b4 bl'[i]? =b4 bl[i]? :=by omega
   rw[(x p).1];exact s (by omega)
 | .v i g lo hi,v,h=>by
   simp only[aw]at h⊢;obtain⟨B,u,b,J,s⟩:=h;obtain⟨C,n,_,z,x⟩:=m.at_ i _ b;refine⟨B,C,n,hv J z,λ e=>?_⟩;have p:b4 bl'[i]? =b4 bl[i]? :=by omega
   rw[(x p).1,(x p).2.1];exact s (by omega)
 | .e i g k t j d o,v,h=>by
   simp only[aw]at h⊢;obtain⟨B,u,b,J,s⟩:=h;obtain⟨C,n,_,z,x⟩:=m.at_ i _ b;refine⟨B,C,n,hv J z,λ e=>?_⟩;have p:b4 bl'[i]? =b4 bl[i]? :=by omega
   obtain⟨G,H,I,K⟩:=x p;obtain⟨L,M,fR⟩:=s (by omega);rw[G,H];refine⟨L,hv M I,λ e=>?_⟩;rw[K (by omega)];exact fR (by omega)
 | .w i g o,v,h=>by
   simp only[aw]at h⊢;obtain⟨B,u,b,J,s⟩:=h;obtain⟨C,n,_,z,x⟩:=m.at_ i _ b;refine⟨B,C,n,hv J z,λ e=>?_⟩;have p:b4 bl'[i]? =b4 bl[i]? :=by omega
   rw[(x p).1];exact s (by omega)
 | .m i,v,h=>by
   simp only[aw]at h⊢;obtain⟨g,b,J⟩:=h;obtain⟨h',n,D,_⟩:=m.at_ i _ b;exact⟨g,by rw[n,D (by simp[kZ])],J⟩
 | .n kt vt d,v,h=>by
   simp only[aw]at h⊢;obtain⟨r,b,J,s⟩:=h;exact⟨r,b,(f r J).1,s.law f (f r J).2⟩
 | .f fn cs,v,h=>by
   simp only[aw]at h⊢;obtain⟨vs,b,J⟩:=h;exact⟨vs,b,a8.later f m cs J⟩
 | .h fn us,v,h=>by
   simp only[aw]at h⊢;obtain⟨vs,b,J⟩:=h;exact⟨vs,b,a8.later f m us J⟩
 | .a l,v,h=>by
   simp only[aw]at h⊢;obtain⟨vs,b,J⟩:=h;exact⟨vs,b,a8.later f m l J⟩
 | .u l,v,h=>by
   simp only[aw]at h⊢;obtain⟨vs,b,J⟩:=h;exact⟨vs,b,a8.later f m l J⟩
 | .i t y,v,h=>by
   simp only[aw]at h⊢;obtain⟨u,b,J⟩:=h;exact⟨u,b,aw.later f m y J⟩
 | .pp i g sz ef,v,h=>by
   simp only[aw]at h⊢;obtain⟨A,c,p,ao,aT,bQ⟩:=h;refine⟨A,c,p,ao,aT,λ N=>?_⟩;obtain⟨n,D,xs,z,x⟩:=bQ N;exact⟨n,(f _ D).1,xs,z.imp λ q v=>vH.later m,x.law (f _ D).2⟩
 | .Au i g sz q,v,h=>by
   simp only[aw]at h⊢;obtain⟨a,o,u,p,ao,aT,bQ⟩:=h;exact⟨a,o,u,p,(f _ ao).1,aT.later m,bQ.law (f _ ao).2⟩
theorem a8.later(a:∀k,F k->F' k/\w'.heap[k]? =w.heap[k]?)(b:mM T ρ ρ' bl bl'):∀(l:List (aI T.El)){vs:List Value},a8 T F w ρ bl l vs->a8 T F' w' ρ' bl' l vs
 |[],_,h=>by simpa only[a8]using h
 |y::r,vs,h=>by
  simp only[a8]at h⊢;obtain⟨u,us,c,J,d⟩:=h;exact⟨u,us,c,aw.later a b y J,a8.later a b r d⟩
end
theorem a8.len:∀ {l:List (aI T.El)}{vs:List Value},a8 T F w ρ bl l vs->vs.length=l.length
 |[],_,h=>by simp only[a8]at h;subst h;rfl
 |y::r,vs,h=>by
  simp only[a8]at h;obtain⟨u,us,rfl,_,a⟩:=h;simp[a8.len a]
theorem a8.at_:∀ {l:List (aI T.El)}{vs:List Value}{i:Nat}{y:aI T.El},a8 T F w ρ bl l vs->l[i]? =some y-> ∃v,vs[i]? =some v/\aw T F w ρ bl y v
 |[],_,i,y,_,hi=>by simp at hi
 |z::r,vs,0,y,h,hi=>by
  simp only[a8]at h;obtain⟨u,us,rfl,J,_⟩:=h;simp only[dU,aH]at hi;subst hi;exact⟨u,rfl,J⟩
 |z::r,vs,i+1,y,h,hi=>by
  simp only[a8]at h;obtain⟨u,us,rfl,_,a⟩:=h;simpa using a8.at_ a (by simpa using hi)
theorem a8.bI:∀ {l l':List (aI T.El)}{vs a:List Value},a8 T F w ρ bl l vs->a8 T F w ρ bl l' a->a8 T F w ρ bl (l++l') (vs++a)
 |[],_,_,_,h,h'=>by simp only[a8]at h;subst h;exact h'
 |y::r,l',vs,a,h,h'=>by
  simp only[a8]at h;obtain⟨u,us,rfl,J,b⟩:=h;simp only[iE,a8];exact⟨u,us++a,rfl,J,a8.bI b h'⟩
theorem a8.drop:∀ {l:List (aI T.El)}{vs:List Value}(n:Nat),a8 T F w ρ bl l vs->a8 T F w ρ bl (l.drop n) (vs.drop n)
 |l,vs,0,h=>by simpa using h
 |[],vs,n+1,h=>by simp only[a8]at h;subst h;simp[a8]
 |y::r,vs,n+1,h=>by
  simp only[a8]at h;obtain⟨u,us,rfl,J,a⟩:=h;simpa using a8.drop n a
theorem a8.take:∀ {l:List (aI T.El)}{vs:List Value}(n:Nat),a8 T F w ρ bl l vs->a8 T F w ρ bl (l.take n) (vs.take n)
 |l,vs,0,h=>by simp[a8]
 |[],vs,n+1,h=>by simp only[a8]at h;subst h;simp[a8]
 |y::r,vs,n+1,h=>by
  simp only[a8]at h;obtain⟨u,us,rfl,J,a⟩:=h;simp only[kO,a8];exact⟨u,us.take n,rfl,J,a8.take n a⟩
end
end bc
