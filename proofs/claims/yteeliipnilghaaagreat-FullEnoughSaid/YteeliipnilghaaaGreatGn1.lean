/- Part 1 of the proof that is ended in the last text: small logic, what the functions compute, walks, plain laws. -/
import Derived.WalkKit
import Derived.Deep.LoopGhost
import Derived.Deep.Quiet
import Derived.Maps.AppendAt
import Derived.KernelRfl
import Derived.Deep.RegionHeld3
import Derived.Laws.StructEq
import Derived.Carry
import Derived.ChangeSame
import Derived.OpenShut
import Derived.Deep.Slices
import Derived.Deep.Fields
import Derived.ChangeMaps5
import Derived.Lib.LaidTab
import Derived.OrdersHeld
import Derived.MapKept
import Derived.Laws.OwnMore
import Derived.Laws.IdiomStrings
import Derived.RangeFuncRecord
import Derived.RangeFuncSeq
import Derived.RangeFuncIn
import Derived.RangeFuncLeaves
import Derived.OrdersIn
import Derived.TacticsIn
import Derived.Deep.OwnRows
import Derived.Lib.AppendZeros
import Derived.ArgAppend
import Derived.Test.YteeliipnilghaaaGreatChecked
open Array renaming getD_eq_getD_getElem?->eF,getElem?_eq_getElem->jz,getElem?_eq_none->h6,getElem?_eq_some_iff->gz,getElem?_modify->j2,getElem?_setIfInBounds->gm,getElem?_toList->hR,setIfInBounds_comm->jA
open Bool renaming and_eq_true->cd,eq_false_iff->gQ,eq_iff_iff->iy,false_eq_true->hM,false_or->iu,not_eq_true'->hh,or_eq_false_iff->ik,or_eq_true->h3
open Int renaming eq_ofNat_of_zero_le->lH,le_refl->k7
open List renaming all_eq_true->kp,any_eq_true->il,append_assoc->fA,append_nil->hv,cons.inj->fN,cons.injEq->hU,cons_append->ih,drop_length->hW,drop_of_length_le->jd,drop_zero->hf,eq_nil_of_length_eq_zero->hD,ext_getElem?->kX,flatMap_cons->h7,getElem?_append->mR,getElem?_append_right->eS,getElem?_cons_zero->ee,getElem?_drop->iF,getElem?_eq_getElem->aN,getElem?_eq_none->gH,getElem?_eq_some_iff->aR,getElem?_map->jv,getElem?_take->hx,getElem_mem->hj,length_append->dM,length_cons->di,length_drop->j6,length_map->hd,length_range->iC,length_set->hg,length_take->gl,map_cons->ez,map_nil->ig,map_toArray->hz,mem_append->cf,mem_append_left->e8,mem_append_right->fe,mem_cons->cH,mem_cons_of_mem->d_,mem_cons_self->hZ,mem_flatMap->hN,mem_iff_getElem->iZ,mem_map->hQ,mem_of_getElem?->bH,mem_of_mem_drop->lW,mem_range->kF,nil_append->jI,nodup_append->fx,nodup_cons->h4,not_mem_nil->io,pairwise_iff_getElem->i_,range->ef,replicate->gk,set_getElem_self->mv,take->mB,take_append->k3,take_append_drop->ju,take_append_of_le_length->j5,take_length->jy,take_of_length_le->hS,take_succ_cons->j9,take_zero->mf
open Nat renaming add_assoc->kb,add_mul->jP,add_zero->j_,beq->cj,ble->jw,blt->fg,decEq->lL,eq_of_beq_eq_true->bd,le_mul_of_pos_right->mm,le_of_ble_eq_true->cJ,le_refl->cP,le_trans->hl,lt_of_lt_of_le->eN,lt_or_ge->gI,lt_succ_self->lM,min_eq_left->l2,mul_le_mul_right->j8,zero_add->jO,zero_le->gY
open Option renaming bind_some->ae,map_none->je,map_some->fY,some.inj->eD,some.injEq->aF
open Prod renaming fst->k1,mk.injEq->cB
noncomputable section
theorem mU{p : Prop} [Decidable p](h : p) : decide p=true:=_root_.decide_eq_true h
theorem mV{p : Prop} [Decidable p](h : ¬p) : decide p=false:=_root_.decide_eq_false h
theorem nc{c : Prop}{_ : Decidable c}(h : ¬c){α : Sort _}{t e : α} : ite c t e=e:=_root_.if_neg h
theorem nf{c : Prop}{_ : Decidable c}(h : c){α : Sort _}{t e : α} : ite c t e=t:=_root_.if_pos h
theorem ng{α : Sort _}(a b : α) : cond true a b=a:=rfl
theorem nh{α : Sort _}(a b : α) : cond false a b=b:=rfl
namespace I
def aw(n:Int):Int:=(n+9223372036854775808)%18446744073709551616-9223372036854775808
def Io(n:Int):Int:=n%18446744073709551616
def Zh(a b:Int):Int:=aw ((BitVec.ofInt 64 a|||BitVec.ofInt 64 b).toNat:Int)
def T1(a b:Int):Int:=aw ((BitVec.ofInt 64 a&&&BitVec.ofInt 64 b).toNat:Int)
def yw(a:Int)(n:Nat):Int:=a / 2^n
def kN(n:Int):UInt8:=UInt8.ofNat (n%256).toNat
def idx{α:Type}(l:List α)(i:Int):Option α:=if 0<=i then l[i.toNat]? else none
def yk(b:Bool):Option Unit:=if b then some ()else none
def bI{α:Type}(bytes:Nat)(l m:List α):Option (List α):=if(l.length+m.length)*bytes<=140737488355328 then some (l++m)else none
def bytesOf(s:List UInt8):Option (List UInt8):=if s.length<=140737488355328 then some s else none
def x'{α:Type}(z:α)(bytes:Nat)(n:Int):Option (List α):=if 0<=n/\bytes*n.toNat<=140737488355328 then some (gk n.toNat z)else none
def Jo{α:Type}(z:α)(bytes:Nat)(n:Int):Option (List α):=if 0<n/\bytes*n.toNat<=140737488355328 then some (gk n.toNat z)else none
def cut{α:Type}(l:List α)(i j:Int):Option (List α):=if 0<=i/\i<=j/\j<=l.length then some ((l.take j.toNat).drop i.toNat)else none
theorem Uj{α:Type}{b:Bool}{x y:Option α}{r:α}(ag:b=true)(h:cond b x y=some r):x=some r:=by subst ag;exact h
theorem Ui{α:Type}{b:Bool}{x y:Option α}{r:α}(ag:b=false)(h:cond b x y=some r):y=some r:=by subst ag;exact h
theorem gr{α β:Type}{o:Option α}{f:α->Option β}{r:β}(h:o.bind f=some r):∃x,o=some x/\f x=some r:=by
 cases o with
 |none=>cases h
 |some x=>exact⟨x,rfl,h⟩
theorem l9{α:Type}{l:List α}{i:Int}{d:α}(h:idx l i=some d):0<=i/\i.toNat<l.length/\l[i.toNat]? =some d:=by unfold idx at h;split at h;rename_i a;exact⟨a,(aR.1 h).1,h⟩;cases h
theorem Nv{α:Type}{bytes:Nat}{l m r:List α}(h:bI bytes l m=some r):(l.length+m.length)*bytes<=140737488355328/\r=l++m:=by unfold bI at h;split at h;rename_i a;exact⟨a,by simpa using h.symm⟩;cases h
theorem aE6{α:Type}{z:α}{bytes:Nat}{n:Int}{r:List α}(h:x' z bytes n=some r):0<=n/\bytes*n.toNat<=140737488355328/\r=gk n.toNat z:=by unfold x' at h;split at h;rename_i a;exact⟨a.1,a.2,by simpa using h.symm⟩;cases h
theorem au3{α:Type}{z:α}{bytes:Nat}{n:Int}{r:List α}(h:Jo z bytes n=some r):0<n/\bytes*n.toNat<=140737488355328/\r=gk n.toNat z:=by unfold Jo at h;split at h;rename_i a;exact⟨a.1,a.2,by simpa using h.symm⟩;cases h
theorem Y4{b:Bool}{u:Unit}(h:yk b=some u):b=true:=by unfold yk at h;split at h;assumption;cases h
theorem au5(n:Int):((kN n).toNat:Int)=n%256:=by unfold kN;have a:0<=n%256:=Int.emod_nonneg _ (by omega);have b:n%256<256:=Int.emod_lt_of_pos _ (by omega);simp only[UInt8.toNat_ofNat'];omega
def join{cS α:Type}(k:cS)(b:cS->Option α):Option α:=b k
section
variable{cS β:Type} [DecidableEq cS]
def cE:List (cS×β)->cS->Option β
 |[],_=>none
 |p::r,k=>if p.1=k then some p.2 else cE r k
def gy:List (cS×β)->cS->β->List (cS×β)
 |[],k,v=>[(k,v)]
 |p::r,k,v=>if p.1=k then(k,v)::r else p::gy r k v
def qk:List (cS×β)->cS->Option Nat
 |[],_=>none
 |p::r,k=>if p.1=k then some 0 else(qk r k).map (·+1)
end
inductive Way (ρ α:Type)
 |go (a:α)
 |out (r:ρ)
def cr{ρ α:Type}(x:Option (Way ρ α))(k:α->Option ρ):Option ρ:=match x with
 |none=>none
 |some (.go a)=>k a
 |some (.out r)=>some r
def df{ρ α β:Type}(x:Option (Way ρ α))(k:α->Option (Way ρ β)):Option (Way ρ β):=match x with
 |none=>none
 |some (.go a)=>k a
 |some (.out r)=>some (.out r)
def aeY{ρ α:Type}(k:α->Option ρ):Way ρ α->Option ρ
 | .go a=>k a
 | .out r=>some r
theorem aJS{ρ α:Type}{x:Option (Way ρ α)}{k:α->Option ρ}{r:ρ}(h:cr x k=some r):∃y,x=some y/\aeY k y=some r:=by
 cases x with
 |none=>cases h
 |some y=>cases y<;>exact⟨_,rfl,h⟩
@[simp] theorem r3 {ρ α:Type} (a:α) (k:α->Option ρ):cr (some (.go a)) k=k a:=rfl
@[simp] theorem amz {ρ α:Type} (r:ρ) (k:α->Option ρ):cr (some (.out r)) k=some r:=rfl
@[simp] theorem pt {ρ α β:Type} (a:α) (k:α->Option (Way ρ β)):df (some (.go a)) k=k a:=rfl
@[simp] theorem aP1 {ρ α β:Type} (r:ρ) (k:α->Option (Way ρ β)):df (some (.out r)) k=some (.out r):=rfl
end I
namespace ay
open Go Go.RowKit
def ey:List (Nat×Value)->Nat->Option Value
 |[],_=>none
 |p::r,t=>match cj p.1 t with
  |true=>some p.2
  |false=>ey r t
structure cG where
 n:Nat
 ds:List Deferred
instance:Coe cG Nat:=⟨cG.n⟩
structure Fr (n:cG) (l:List (Nat×Value)) (a:Act):Prop where
 size:a.tmps.size=n.n
 defers:a.defers=n.ds
 get:∀t v,ey l t=some v->a.tmps.getD t undef=v
theorem Fr.g{n:cG}{l:List (Nat×Value)}{a:Act}{t:Nat}{v:Value}(ad:Fr n l a)(h:ey l t=some v):a.eval (.tmp t)=v:=ad.get t v h
theorem Fr.put{n:cG}{d:Nat}{l:List (Nat×Value)}{a:Act}{v:Value}(ad:Fr n l a)(aJ:fg d n=true):Fr n ((d,v)::l) (a.put (some d) v):=by
 have b:d<n:=cJ aJ;refine⟨by simpa[Act.put]using ad.size,ad.defers,λ t u h=>?_⟩;have aj:=ad.size;simp only[ey]at h;cases ag:cj d t with
 |true=>rw[ag]at h;simp only[aF]at h;have e:d=t:=bd ag;subst e;subst h;simp[Act.put,aj,b]
 |false=>
  rw[ag]at h;have e:d≠t:=by intro e;subst e;simp at ag
  have:=ad.get t u h;simp only[Act.put,eF]at this⊢;rw[gm,nc e];exact this
def Mm(l:List (Nat×Value)):List (Nat×Value)->Prop
 |[]=>True
 |p::r=>ey l p.1=some p.2/\Mm l r
theorem aED{l l':List (Nat×Value)}(h:Mm l l'):∀t v,ey l' t=some v->ey l t=some v:=by
 induction l' with
 |nil=>intro t v a;simp[ey]at a
 |cons p r b=>
  intro t v a;simp only[ey]at a;cases ag:cj p.1 t with
  |true=>rw[ag]at a;have e:p.1=t:=bd ag;simp only[aF]at a;rw[<-e,<-a];exact h.1
  |false=>rw[ag]at a;exact b h.2 t v a
theorem Fr.sub{n:cG}{l l':List (Nat×Value)}{a:Act}(ad:Fr n l a)(h:Mm l l'):Fr n l' a:=⟨ad.size,ad.defers,λ t v b=>ad.get t v (aED h t v b)⟩
def uS:Nat->List Value->List (Nat×Value)
 |_,[]=>[]
 |k,v::r=>(k,v)::uS (k+1) r
theorem aEC(vs:List Value):∀k t v,ey (uS k vs) t=some v->k<=t/\vs[t-k]? =some v:=by
 induction vs with
 |nil=>intro k t v h;simp[uS,ey]at h
 |cons u r a=>
  intro k t v h;simp only[uS,ey]at h;cases ag:cj k t with
  |true=>rw[ag]at h;have e:k=t:=bd ag;subst e;simpa using h
  |false=>
   rw[ag]at h;have e:k≠t:=by intro e;subst e;simp at ag
   obtain⟨b,J⟩:=a (k+1) t v h;refine⟨by omega,?_⟩;have:t-k=(t- (k+1))+1:=by omega
   rw[this];simpa using J
theorem Fr.init(vs:List Value)(n:Nat)(h:jw vs.length n=true):Fr ⟨n,[]⟩ (uS 0 vs) { tmps:=vs.toArray++Array.replicate (n-vs.toArray.size) undef,defers:=[] }:=by
 have c:vs.length<=n:=by simpa using h
 refine⟨by simp;omega,rfl,λ t v d=>?_⟩;obtain⟨_,J⟩:=aEC vs 0 t v d;have a:t<vs.length:=by rcases gI t vs.length with h |h;exact h;rw[gH (by simpa using h)]at J;cases J
 have b:vs[t]? =some v:=by simpa using J
 rw[eF];rw[aN a,aF]at b;simp[Array.getElem?_append,a,b]
theorem enter{P:Program}{f:FuncId}{fn:Func}{c:Code}{vs:List Value}{w:World}{R:Ending->World->Prop}{n:Nat}
 (ad:P.funcs[f]? =some fn)(ag:fn.body=some c)(b:fn.ntmps=n)(d:jw vs.length n=true)
 (h:∀a,Fr ⟨n,[]⟩ (uS 0 vs) a->c.wp P (bodyPost P fn R) a w):Calls P f vs.toArray w R:=by
 refine calls_of_wp ad ag ?_
 rw[b]
 exact h _ (Fr.init vs n d)
structure br (M:List Nat) (w w':World):Prop where
 os:w'.os=w.os
 tape:w'.tape=w.tape
 output:w'.output=w.output
 size:w.heap.size<=w'.heap.size
 block:∀k,k<w.heap.size->k∉M->w'.heap[k]? =w.heap[k]?
theorem br.refl(M:List Nat)(w:World):br M w w:=⟨rfl,rfl,rfl,cP _,λ _ _ _=>rfl⟩
theorem br.trans{M kc:List Nat}{a b c:World}(h:br M a b)(k:br kc b c)(f:∀x∈kc,x∈M\/a.heap.size<=x):br M a c:=⟨k.os.trans h.os,k.tape.trans h.tape,k.output.trans h.output,hl h.size k.size,λ i hi d=>(k.block i (eN hi h.size) (λ g=>by rcases f i g with e |e;exact d e;omega)).trans (h.block i hi d)⟩
theorem br.drew(M:List Nat)(w:World):br M w w.drew:=⟨rfl,rfl,rfl,cP _,λ _ _ _=>rfl⟩
theorem br.alloc(M:List Nat)(w:World)(o:Obj):br M w (w.alloc o):=⟨rfl,rfl,rfl,by simp,λ k a _=>Below.heap_alloc _ _ _ a⟩
theorem br.set(w:World)(a:Addr)(u:Value):br [a.block] w (w.setCell a u):=⟨rfl,rfl,rfl,by simp[World.setCell],λ k _ b=>Below.heap_setCell _ _ _ _ (by simpa using b)⟩
theorem br.mono{M kc:List Nat}{a b:World}(h:br M a b)(c:∀x∈M,x∈kc):br kc a b:=⟨h.os,h.tape,h.output,h.size,λ k d e=>h.block k d (λ f=>e (c k f))⟩
theorem br.grown{w w':World}{row:Option Nat}(h:w.grownBy w' row):br row.toList w w':=⟨h.os,h.tape,h.output,h.size,λ k a b=>h.block k a (λ e=>b (by rw[<-e];simp))⟩
theorem br.below{w w':World}(h:br [] w w'):Below w.heap.size w w':=⟨h.os,h.tape,h.output,h.size,λ k a=>h.block k a (by simp)⟩
structure bc where
 bF:List Nat
 ok:World->Prop
 law:∀w w',(∀k∈bF,w'.heap[k]? =w.heap[k]?)->ok w->ok w'
structure bG where
 ok:List Nat->World->Prop
 law:∀M kc w w',br M w w'->(∀k∈kc,k∈M\/w.heap.size<=k)->ok M w->ok kc w'
def b1(E:List bc):List Nat:=E.flatMap bc.bF
structure bz (W:World) (M0 X:List Nat) (w:World) (E:List bc) (D:List bG):Prop where
 bZ:br M0 W w
 ij:∀k∈X,k<W.heap.size/\k∉M0
 lt:∀k∈b1 E,k<w.heap.size/\(k∈M0\/W.heap.size<=k)
 ok:∀x∈E,x.ok w
 bC:(b1 E).Nodup
 rd:∀y∈D,y.ok (X++b1 E) w
section
variable{W w w':World}{M0 X:List Nat}{E:List bc}{D:List bG}
theorem bz.start(M0 X:List Nat)(w:World)(E:List bc)(D:List bG)(c:∀k∈X,k<w.heap.size/\k∉M0)(a:∀k∈b1 E,k<w.heap.size/\k∈M0)(d:∀x∈E,x.ok w)(e:(b1 E).Nodup)(f:∀y∈D,y.ok (X++b1 E) w) :
 bz w M0 X w E D:=⟨br.refl _ _,c,λ k b=>⟨(a k b).1,.inl (a k b).2⟩,d,e,f⟩
theorem bz.fi(h:bz W M0 X w E D)(b:br [] w w'):bz W M0 X w' E D:=
 ⟨h.bZ.trans b (by simp),h.ij,λ k a=>⟨eN (h.lt k a).1 b.size,(h.lt k a).2⟩,
  λ x c=>x.law w w' (λ k a=>b.block k (h.lt k (hN.2 ⟨x,c,a⟩)).1 (by simp)) (h.ok x c),h.bC,
  λ y hy=>y.law (X++b1 E) _ w w' (b.mono (by simp)) (λ k a=>.inl a) (h.rd y hy)⟩
theorem bz.drew(h:bz W M0 X w E D):bz W M0 X w.drew E D:=h.fi (br.drew _ _)
theorem bz.push(h:bz W M0 X w E D)(x:bc)(f:br [] w w')(i:x.ok w')(ad:∀k∈x.bF,w.heap.size<=k/\k<w'.heap.size)(j:x.bF.Nodup):bz W M0 X w' (x::E) D:=by
 have c:=h.fi f;refine⟨c.bZ,h.ij,λ k d=>?_,λ y hy=>?_,?_,λ y hy=>?_⟩;rcases cf.1 (by simpa[b1]using d:k∈x.bF++b1 E)with e |e;exact⟨(ad k e).2,.inr (hl h.bZ.size (ad k e).1)⟩;exact c.lt k e;rcases cH.1 hy with rfl |e;exact i;exact c.ok y e
 ·have:b1 (x::E)=x.bF++b1 E:=by simp[b1]
  rw[this,fx];refine⟨j,h.bC,λ a ap b ag e=>?_⟩;subst e;have:=(ad a ap).1;have:=(h.lt a ag).1;omega
 ·refine y.law (X++b1 E) _ w w' (f.mono (by simp)) (λ k d=>?_) (h.rd y hy);have g:k∈X++(x.bF++b1 E):=by simpa[b1]using d
  simp only[cf]at g;rcases g with e |e |e;exact .inl (by simp[e]);exact .inr (ad k e).1;exact .inl (by simp[e])
theorem bz.drop(h:bz W M0 X w E D){b:List bc}(aj:List.Sublist b E):bz W M0 X w b D:=by
 have ad:List.Sublist (b1 b) (b1 E):=by
  unfold b1;clear h;induction aj with
  |slnil=>simp
  |cons a _ c=>simpa using c.trans (List.sublist_append_right _ _)
  |cons_cons a _ c=>simpa using List.Sublist.append_left c a.bF
 exact⟨h.bZ,h.ij,λ k d=>h.lt k (ad.subset d),λ x f=>h.ok x (aj.subset f),h.bC.sublist ad,
  λ y hy=>y.law (X++b1 E) _ w w (br.refl _ _) (λ k d=>.inl (by rcases cf.1 d with e |e;exact cf.2 (.inl e);exact cf.2 (.inr (ad.subset e)))) (h.rd y hy)⟩
theorem bz.dD(h:bz W M0 X w E D){A B:List bc}{x e2:bc}(a8:E=A++x::B)(d:br x.bF w w')(s:e2.ok w')(t:e2.bF.Nodup)
 (ad:∀k∈e2.bF,k∈x.bF\/(w.heap.size<=k/\k<w'.heap.size)):bz W M0 X w' (A++e2::B) D:=by
 subst a8
 have c:b1 (A++x::B)=b1 A++(x.bF++b1 B):=by simp[b1]
 have ao:b1 (A++e2::B)=b1 A++(e2.bF++b1 B):=by simp[b1]
 have n:=h.bC
 rw[c,fx,fx]at n
 obtain⟨i,⟨u,j,f⟩,l⟩:=n
 have m:∀k∈x.bF,k<w.heap.size/\(k∈M0\/W.heap.size<=k):=λ k hk=>h.lt k (by rw[c];simp[hk])
 refine⟨h.bZ.trans d (λ k hk=>(m k hk).2),h.ij,λ k hk=>?_,λ y hy=>?_,?_,λ y hy=>?_⟩
 ·rw[ao]at hk;simp only[cf]at hk;rcases hk with hk |hk |hk;have:=h.lt k (by rw[c];simp[hk]);exact⟨eN this.1 d.size,this.2⟩;rcases ad k hk with e |e;exact⟨eN (m k e).1 d.size,(m k e).2⟩;exact⟨e.2,.inr (hl h.bZ.size e.1)⟩;have:=h.lt k (by rw[c];simp[hk]);exact⟨eN this.1 d.size,this.2⟩
 ·have g:∀z,z∈A\/z∈B->z.ok w':=λ z o=>by
   have p:z∈A++x::B:=by rcases o with e |e<;>simp[e]
   refine z.law w w' (λ k hk=>d.block k (h.lt k (hN.2 ⟨z,p,hk⟩)).1 (λ q=>?_)) (h.ok z p);rcases o with e |e
   ·exact l k (hN.2 ⟨z,e,hk⟩) k (by simp[q]) rfl
   ·exact f k q k (hN.2 ⟨z,e,hk⟩) rfl
  simp only[cf,cH]at hy;rcases hy with hy |rfl |hy
  ·exact g y (.inl hy)
  ·exact s
  ·exact g y (.inr hy)
 ·rw[ao,fx,fx];have r:∀k∈e2.bF,∀b,(b∈b1 A\/b∈b1 B)->k≠b:=λ k hk b ag e=>by subst e;rcases ad k hk with e |e;rcases ag with ag |ag;exact l k ag k (by simp[e]) rfl;exact f k e k ag rfl;have:=(h.lt k (by rw[c];rcases ag with ag |ag<;>simp[ag])).1;omega
  exact⟨i,⟨t,j,λ a ap b ag=>r a ap b (.inr ag)⟩,λ a ap b ag=>by
   rcases cf.1 ag with ag |ag;exact λ e=>r b ag a (.inl ap) e.symm
   ·exact l a ap b (by simp[ag])⟩
 ·refine y.law (X++b1 (A++x::B)) _ w w' (d.mono (λ k hk=>by rw[c];simp[hk])) (λ k hk=>?_) (h.rd y hy);rw[ao]at hk;simp only[cf]at hk;rcases hk with hk |hk |hk |hk;exact .inl (by simp[hk]);exact .inl (by rw[c];simp[hk]);rcases ad k hk with e |e;exact .inl (by rw[c];simp[e]);exact .inr e.1;exact .inl (by rw[c];simp[hk])
theorem bz.more(h:bz W M0 X w E D){y:bG}(hy:y.ok (X++b1 E) w):bz W M0 X w E (y::D):=⟨h.bZ,h.ij,h.lt,h.ok,h.bC,λ z a=>by rcases cH.1 a with rfl |e;exact hy;exact h.rd z e⟩
theorem bz.less(h:bz W M0 X w E D){a:List bG}(aj:∀y∈a,y∈D):bz W M0 X w E a:=⟨h.bZ,h.ij,h.lt,h.ok,h.bC,λ y hy=>h.rd y (aj y hy)⟩
theorem bz.e(h:bz W M0 X w E D)(i:Nat){x:bc}(hi:E[i]? =some x):x.ok w:=h.ok x (bH hi)
theorem bz.d(h:bz W M0 X w E D)(i:Nat){y:bG}(hi:D[i]? =some y):y.ok (X++b1 E) w:=h.rd y (bH hi)
theorem bG.less{y:bG}{M kc:List Nat}(h:y.ok M w)(a:∀k∈kc,k∈M):y.ok kc w:=y.law M kc w w (br.refl _ _) (λ k b=>.inl (a k b)) h
theorem bz.RE(h:bz W M0 X w E D)(i:Nat){x e2:bc}(hi:E[i]? =some x)(a:br x.bF w w')(b:e2.ok w')(c:e2.bF.Nodup)
 (ad:∀k∈e2.bF,k∈x.bF\/(w.heap.size<=k/\k<w'.heap.size)):bz W M0 X w' (E.set i e2) D:=by
 obtain⟨d,rfl⟩:=aR.1 hi
 have a8:E=E.take i++E[i]::E.drop (i+1):=by simp
 have:=h.dD a8 a b c ad
 rwa [List.set_eq_take_append_cons_drop,nf d]
end
open Go Go.RowKit I
abbrev cy(l:List UInt8):Value:=.string ⟨⟨l⟩⟩
structure dm (α:Type) where
 size:Nat
 rd:(Nat->Prop)->World->List Value->α->Prop
 len:∀ {F w cs d},rd F w cs d->cs.length=size
 one:∀ {F w cs d},rd F w cs d->∀v∈cs,v.oneCell'=true
 law:∀ {F F' w w' cs d},(∀k,F k->F' k/\w'.heap[k]? =w.heap[k]?)->rd F w cs d->rd F' w' cs d
def iK(M:List Nat)(w:World):Nat->Prop:=λ k=>k∉M/\k<w.heap.size
def bG.of{α:Type}(T:dm α)(cs:List Value)(d:α):bG where
 ok M w:=T.rd (iK M w) w cs d
 law M kc w w' b c h:=T.law (λ k a=>⟨⟨λ f=>by rcases c k f with e |e;exact a.1 e;exact absurd a.2 (by omega),eN a.2 b.size⟩,b.block k a.2 a.1⟩) h
def fv(k:IntKind):dm Int where
 size:=1
 rd _ _ cs d:=cs=[.int k d]
 len h:=by subst h;rfl
 one h v a:=by subst h;simp at a;subst a;rfl
 law _ h:=h
def RF:dm UInt8 where
 size:=1
 rd _ _ cs d:=cs=[.int .u8 (d.toNat:Int)]
 len h:=by subst h;rfl
 one h v a:=by subst h;simp at a;subst a;rfl
 law _ h:=h
def aKA:dm Bool where
 size:=1
 rd _ _ cs d:=cs=[.bool d]
 len h:=by subst h;rfl
 one h v a:=by subst h;simp at a;subst a;rfl
 law _ h:=h
def jX:dm (List UInt8) where
 size:=1
 rd _ _ cs d:=cs=[cy d]
 len h:=by subst h;rfl
 one h v a:=by subst h;simp at a;subst a;rfl
 law _ h:=h
section
variable{α:Type}(T:dm α)
def dN(F:Nat->Prop)(w:World):List Value->List α->Prop
 |xs,[]=>xs=[]
 |xs,d::r=>∃cs ys,xs=cs++ys/\T.rd F w cs d/\dN F w ys r
theorem yu{F:Nat->Prop}{w:World}:∀ {l:List α}{xs:List Value},dN T F w xs l->xs.length=l.length*T.size
 |[],xs,h=>by simp only[dN]at h;subst h;simp
 |d::r,xs,h=>by obtain⟨cs,ys,rfl,a,J⟩:=h;rw[dM,T.len a,yu J,di,jP];omega
theorem HZ{F:Nat->Prop}{w:World}:∀ {l:List α}{xs:List Value},dN T F w xs l->∀v∈xs,v.oneCell'=true
 |[],xs,h=>by simp only[dN]at h;subst h;simp
 |d::r,xs,h=>by obtain⟨cs,ys,rfl,a,J⟩:=h;intro v b;rcases cf.1 b with e |e;exact T.one a v e;exact HZ J v e
theorem po{F F':Nat->Prop}{w w':World}(a:∀k,F k->F' k/\w'.heap[k]? =w.heap[k]?):∀ {l:List α}{xs:List Value},dN T F w xs l->dN T F' w' xs l
 |[],xs,h=>h
 |d::r,xs,h=>by obtain⟨cs,ys,rfl,b,J⟩:=h;exact⟨cs,ys,rfl,T.law a b,po a J⟩
theorem alS{F:Nat->Prop}{w:World}{d:α}{cs:List Value}(aJ:T.rd F w cs d):∀ {l:List α}{xs:List Value},dN T F w xs l->dN T F w (xs++cs) (l++[d])
 |[],xs,h=>by simp only[dN]at h;subst h;exact⟨cs,[],by simp,aJ,rfl⟩
 |e::r,xs,h=>by obtain⟨c,ys,rfl,a,J⟩:=h;exact⟨c,ys++cs,by simp,a,alS aJ J⟩
theorem LO{F:Nat->Prop}{w:World}{l':List α}{a:List Value}(h':dN T F w a l'):∀ {l:List α}{xs:List Value},dN T F w xs l->dN T F w (xs++a) (l++l')
 |[],xs,h=>by simp only[dN]at h;subst h;simpa using h'
 |e::r,xs,h=>by obtain⟨c,ys,rfl,b,J⟩:=h;exact⟨c,ys++a,by simp,b,LO h' J⟩
theorem LP{F:Nat->Prop}{w:World}:∀ {l:List α}{xs:List Value}{i:Nat}{d:α},dN T F w xs l->l[i]? =some d ->
 ∃cs,T.rd F w cs d/\∀j u,cs[j]? =some u->xs[i*T.size+j]? =some u
 |[],_,i,d,_,hi=>by simp at hi
 |e::r,xs,0,d,h,hi=>by
  obtain⟨cs,ys,rfl,a,_⟩:=h;simp only[ee,aF]at hi;subst hi;refine⟨cs,a,λ j u aA=>?_⟩;have f:j<cs.length:=by rcases gI j cs.length with h |h;exact h;rw[gH h]at aA;cases aA
  simpa[mR,f]using aA
 |e::r,xs,i+1,d,h,hi=>by
  obtain⟨cs,ys,rfl,a,J⟩:=h;obtain⟨c,hc,aA⟩:=LP (i:=i) J (by simpa using hi);refine⟨c,hc,λ j u g=>?_⟩;have b:=T.len a;have k:(i+1)*T.size+j=cs.length+(i*T.size+j):=by rw[jP];omega
  rw[k,eS (by omega)];simpa using aA j u g
def fy(w:World)(a:Addr)(xs:List Value):Prop:=∀j u,xs[j]? =some u->w.cell? ⟨a.block,a.off+j,none⟩=some u
theorem fy.law{w w':World}{a:Addr}{xs:List Value}(h:fy w a xs)(ag:w'.heap[a.block]? =w.heap[a.block]?):fy w' a xs:=λ j u aA=>(World.cell?_of_block (a:=⟨a.block,a.off+j,none⟩) ag).trans (h j u aA)
def dC(A:Option Addr):Nat:=(A.getD ⟨0,0,none⟩).block
def gd(A:Option Addr):Nat:=(A.getD ⟨0,0,none⟩).off
def b7:dm (List α) where
 size:=1
 rd F w cs l:=∃A c,cs=[.slice A l.length c]/\l.length<=c/\c<=maxLen/\(A=none->c=0)/\
  (l≠[]->A=some ⟨dC A,gd A,none⟩/\F (dC A)/\∃xs,dN T F w xs l/\fy w ⟨dC A,gd A,none⟩ xs)
 len h:=by obtain⟨A,c,rfl,_⟩:=h;rfl
 one h v b:=by obtain⟨A,c,rfl,_⟩:=h;simp at b;subst b;rfl
 law a h:=by obtain⟨A,c,d,e,f,g,i⟩:=h;refine⟨A,c,d,e,f,g,λ j=>?_⟩;obtain⟨k,ao,xs,aW,bR⟩:=i j;exact⟨k,(a _ ao).1,xs,po T a aW,bR.law (a _ ao).2⟩
theorem nb{F:Nat->Prop}{w:World}{v:Value}{l:List α}(h:(b7 T).rd F w [v] l):∃A c,v= .slice A l.length c:=by obtain⟨A,c,a,_⟩:=h;exact⟨A,c,by simpa using a⟩
theorem E3{F:Nat->Prop}{w:World}{A:Option Addr}{n c:Nat}{l:List α}{i:Int}{d:α}(h:(b7 T).rd F w [.slice A n c] l)(hi:idx l i=some d) :
 A=some ⟨dC A,gd A,none⟩/\(0<=i/\i<n)/\∃cs,T.rd F w cs d/\fy w ⟨dC A,gd A+i.toNat*T.size,none⟩ cs:=by
 obtain⟨e,a,J⟩:=l9 hi
 obtain⟨cu,p,b,aW,bR,dx,eV⟩:=h
 simp only[hU,Value.slice.injEq,and_true]at b
 obtain⟨rfl,rfl,rfl⟩:=b
 obtain⟨f,q,xs,g,k⟩:=eV (λ m=>by rw[m]at a;simp at a)
 obtain⟨cs,hc,o⟩:=LP T g J
 refine⟨f,⟨e,by omega⟩,cs,hc,λ j u aA=>?_⟩
 have:=k (i.toNat*T.size+j) u (o j u aA)
 simpa[kb]using this
end
def bc.cp(g:Nat)(t:TypeId)(cs:List Value):bc where
 bF:=[g]
 ok w:=w.heap[g]? =some (.cells cs.toArray t (0,0))
 law w w' h a:=(h g (by simp)).trans a
def bc.row{α:Type}(e:TypeId)(size:Nat)(v:Value)(l:List α)(xs:List Value):bc where
 bF:=v.ownBlock.toList
 ok w:=w.ownsRow 0 e size v l.length xs
 law w w' h a:=by refine⟨a.1,?_⟩;rcases a.2 with b |⟨g,cap,cur,rfl,ag,c,rest⟩;exact .inl b;exact .inr ⟨g,cap,cur,rfl,ag,(h g (by simp[Value.ownBlock])).trans c,rest⟩
def bG.rows{α:Type}(T:dm α)(xs:List Value)(l:List α):bG where
 ok M w:=dN T (iK M w) w xs l
 law M kc w w' b c h:=po T (λ k a=>⟨⟨λ d=>by rcases c k d with e |e;exact a.1 e;exact absurd a.2 (by omega),eN a.2 b.size⟩,b.block k a.2 a.1⟩) h
theorem LY{α:Type}{w:World}{e:TypeId}{size:Nat}{v:Value}{l:List α}{xs:List Value}(h:(bc.row e size v l xs).ok w):∃A c,v= .slice A l.length c/\l.length<=c/\c<=maxLen/\(A=none->c=0)/\(A≠none->A=some ⟨dC A,0,none⟩):=by have h':w.ownsRow 0 e size v l.length xs:=h;rcases h'.2 with⟨rfl,a⟩|⟨g,cap,cur,rfl,_,_,b,J,_⟩;exact⟨none,0,by rw[a],by omega,gY _,λ _=>rfl,λ h=>absurd rfl h⟩;exact⟨some ⟨g,0,none⟩,cap,rfl,b,J,(λ h=>by cases h),λ _=>rfl⟩
theorem aJg{α:Type}{T:dm α}{M:List Nat}{w:World}{e:TypeId}{A:Option Addr}{n c:Nat}{l:List α}{xs:List Value}(h:(bc.row e T.size (.slice A n c) l xs).ok w)(f:(bG.rows T xs l).ok M w)
 (i:∀k∈(Value.slice A n c).ownBlock.toList,k∉M):(bG.of (b7 T) [.slice A n c] l).ok M w:=by
 have h':w.ownsRow 0 e T.size (.slice A n c) l.length xs:=h
 have m:dN T (iK M w) w xs l:=f
 show(b7 T).rd (iK M w) w _ l
 rcases h'.2 with⟨a,o⟩|⟨g,cap,cur,a,_,p,b,q,aj,s⟩
 ·have r:l=[]:=hD o;simp only[Value.slice.injEq]at a;obtain⟨rfl,rfl,rfl⟩:=a;subst r;exact⟨none,0,rfl,by simp,gY _,λ _=>rfl,λ h=>absurd rfl h⟩
 ·simp only[Value.slice.injEq]at a;obtain⟨rfl,rfl,rfl⟩:=a;refine⟨_,_,rfl,b,q,(λ h=>by cases h),λ _=>⟨rfl,⟨i g (by simp[Value.ownBlock]),(gz.1 p).1⟩,xs,m,λ j u aA=>?_⟩⟩;have d:=h'.cells (g:=g) rfl j u aA
  simpa[Addr.add,dC,gd]using(by
   have e:(⟨g,0,none⟩:Addr).add j=⟨g,0+j,none⟩:=by unfold Addr.add;split<;>simp_all
   rw[e]at d;exact d:w.cell? ⟨g,0+j,none⟩=some u)
theorem zK{w:World}{g:Nat}{t:TypeId}{cs:List Value}(h:(bc.cp g t cs).ok w){j:Nat}{v:Value}(aA:cs[j]? =some v):w.cell? ⟨g,j,none⟩=some v:=by have h':w.heap[g]? =some (.cells cs.toArray t (0,0)):=h;simp[World.cell?,h',aA]
theorem Jt{w:World}{g:Nat}{t:TypeId}{cs:List Value}(h:(bc.cp g t cs).ok w):g<w.heap.size:=by have h':w.heap[g]? =some (.cells cs.toArray t (0,0)):=h;exact(gz.1 h').1
theorem au9(w:World)(t:TypeId)(cs:List Value):(bc.cp w.heap.size t cs).ok (w.alloc (.cells cs.toArray t)):=heap_alloc_new w _
def bG.jJ(g:Nat)(cs:List Value):bG where
 ok M w:=g∉M/\g<w.heap.size/\fy w ⟨g,0,none⟩ cs
 law M kc w w' a b h:=⟨λ c=>by rcases b g c with e |e;exact h.1 e;exact absurd h.2.1 (by omega),eN h.2.1 a.size,h.2.2.law (a.block g h.2.1 h.1)⟩
theorem n2{α:Type}{T:dm α}{F:Nat->Prop}{w:World}{cs:List Value}{l:List α}(h:(b7 T).rd F w cs l):∃A c,cs=[.slice A l.length c]:=by obtain⟨A,c,a,_⟩:=h;exact⟨A,c,a⟩
theorem aJf{α:Type}{T:dm α}{M:List Nat}{w:World}{e:TypeId}{A:Option Addr}{n c:Nat}{l:List α}{xs:List Value}{i:Int}{d:α}(h:(bc.row e T.size (.slice A n c) l xs).ok w)(f:(bG.rows T xs l).ok M w)(hi:idx l i=some d) :
 A=some ⟨dC A,gd A,none⟩/\(0<=i/\i<n)/\∃cs,T.rd (iK M w) w cs d/\fy w ⟨dC A,gd A+i.toNat*T.size,none⟩ cs:=by
 obtain⟨k,p,J⟩:=l9 hi
 have h':w.ownsRow 0 e T.size (.slice A n c) l.length xs:=h
 have m:dN T (iK M w) w xs l:=f
 rcases h'.2 with⟨a,q⟩|⟨g,cap,cur,a,_,r,_⟩
 ·omega
 ·simp only[Value.slice.injEq]at a;obtain⟨rfl,rfl,rfl⟩:=a;obtain⟨cs,hc,o⟩:=LP T m J;refine⟨rfl,⟨k,by omega⟩,cs,hc,λ j u aA=>?_⟩;have b:=h'.cells (g:=g) rfl _ u (o j u aA);have ao:(⟨g,0,none⟩:Addr).add (i.toNat*T.size+j)=⟨g,0+(i.toNat*T.size+j),none⟩:=by unfold Addr.add;split<;>simp_all
  rw[ao]at b;show w.cell? ⟨g,0+i.toNat*T.size+j,none⟩=some u
  rw[kb];exact b
theorem ajI(p q:List UInt8):(p==q)=decide (p=q):=by rw[iy];simp
section
variable{P:Program}{o:Oper}{a:Act}{w:World}
abbrev bh(P:Program)(o:Oper)(a:Act)(w:World)(v:Value)(w':World):Prop:=(execOp a.eval o).run P w= .ok (.value v) w'
abbrev sF(P:Program)(o:Oper)(a:Act)(w:World)(w':World):Prop:=(execOp a.eval o).run P w= .ok .skip w'
theorem wu{x:Operand}{v:Value}(b:o.op= .move x)(c:a.eval x=v):bh P o a w v w:=by simp only[bh,execOp,b,c];rfl
theorem y2{x:Operand}{v:Value}(b:o.op= .assign x)(c:a.eval x=v):bh P o a w v w:=by simp only[bh,execOp,b,c];rfl
theorem SY{c x y:Operand}{v:Value}(b:o.op= .pick c x y)(hc:a.eval c= .bool true)(d:a.eval x=v):bh P o a w v w:=by simp only[bh,execOp,b,hc,d];rfl
theorem SX{c x y:Operand}{v:Value}(b:o.op= .pick c x y)(hc:a.eval c= .bool false)(hy:a.eval y=v):bh P o a w v w:=by simp only[bh,execOp,b,hc,hy];rfl
section
variable{x y:Operand}{t t':TypeId}{k:IntKind}{m n:Int}
theorem aOc(b:o.op= .binOp .add t x y t')(c:a.eval x= .int k m)(hy:a.eval y= .int k n):bh P o a w (.int k (k.wrap (m+n))) w:=by simp only[bh,execOp,b,c,hy];simp[go_sem]
theorem aOH(b:o.op= .binOp .sub t x y t')(c:a.eval x= .int k m)(hy:a.eval y= .int k n):bh P o a w (.int k (k.wrap (m-n))) w:=by simp only[bh,execOp,b,c,hy];simp[go_sem]
theorem aOw(b:o.op= .binOp .mul t x y t')(c:a.eval x= .int k m)(hy:a.eval y= .int k n):bh P o a w (.int k (k.wrap (m*n))) w:=by simp only[bh,execOp,b,c,hy];simp[go_sem]
theorem aOF(b:o.op= .binOp .quo t x y t')(c:a.eval x= .int k m)(hy:a.eval y= .int k n)(d:n≠0):bh P o a w (.int k (k.wrap (m.tdiv n))) w:=by simp only[bh,execOp,b,c,hy];simp[go_sem,d]
theorem aOu(b:o.op= .binOp .lss t x y t')(c:a.eval x= .int k m)(hy:a.eval y= .int k n):bh P o a w (.bool (decide (m<n))) w:=by simp only[bh,execOp,b,c,hy];simp[go_sem]
theorem aOt(b:o.op= .binOp .leq t x y t')(c:a.eval x= .int k m)(hy:a.eval y= .int k n):bh P o a w (.bool (decide (m<=n))) w:=by simp only[bh,execOp,b,c,hy];simp[go_sem]
theorem aqe(b:o.op= .binOp .gtr t x y t')(c:a.eval x= .int k m)(hy:a.eval y= .int k n):bh P o a w (.bool (decide (n<m))) w:=by simp only[bh,execOp,b,c,hy];simp[go_sem]
theorem aOp(b:o.op= .binOp .geq t x y t')(c:a.eval x= .int k m)(hy:a.eval y= .int k n):bh P o a w (.bool (decide (n<=m))) w:=by simp only[bh,execOp,b,c,hy];simp[go_sem]
theorem aOn(b:P.underlying t=some (.int k))(c:o.op= .binOp .eql t x y t')(d:a.eval x= .int k m)(hy:a.eval y= .int k n):bh P o a w (.bool (decide (m=n))) w:=by have:=run_underlying (P:=P) b;simp only[bh,execOp,c,d,hy];simp[go_sem,this];rfl
theorem aOz(b:P.underlying t=some (.int k))(c:o.op= .binOp .neq t x y t')(d:a.eval x= .int k m)(hy:a.eval y= .int k n):bh P o a w (.bool (!decide (m=n))) w:=by have:=run_underlying (P:=P) b;simp only[bh,execOp,c,d,hy];simp[go_sem,this];rfl
end
section
variable{x y:Operand}{t t':TypeId}{p q:Bool}
theorem aJB(b:P.underlying t=some .bool)(p q:Bool)(w:World):(binOp .eql t (.bool p) (.bool q)).run P w= .ok (.bool (p==q)) w:=by
 have h:∀d:Nat,(Op.equalIn (d+1) t (.bool p) (.bool q)).run P w= .ok (p==q) w:=λ d=>by simp[Op.equalIn,run_underlying b]
 simp only[binOp];simp[Op.equal,Op.maxDepth,h 9999]
theorem aJC(b:P.underlying t=some .bool)(p q:Bool)(w:World):(binOp .neq t (.bool p) (.bool q)).run P w= .ok (.bool (!(p==q))) w:=by
 have h:∀d:Nat,(Op.equalIn (d+1) t (.bool p) (.bool q)).run P w= .ok (p==q) w:=λ d=>by simp[Op.equalIn,run_underlying b]
 simp only[binOp];simp[Op.equal,Op.maxDepth,h 9999]
theorem aOm(b:P.underlying t=some .bool)(c:o.op= .binOp .eql t x y t')(d:a.eval x= .bool p)(hy:a.eval y= .bool q):bh P o a w (.bool (p==q)) w:=by simp only[bh,execOp,c,d,hy];simp[go_sem,aJB b]
theorem aOy(b:P.underlying t=some .bool)(c:o.op= .binOp .neq t x y t')(d:a.eval x= .bool p)(hy:a.eval y= .bool q):bh P o a w (.bool (!(p==q))) w:=by simp only[bh,execOp,c,d,hy];simp[go_sem,aJC b]
theorem aqj(b:o.op= .unOp .not t x)(c:a.eval x= .bool p):bh P o a w (.bool (!p)) w:=by simp only[bh,execOp,b,c];simp[go_sem]
end
section
variable{x y:Operand}{t t':TypeId}{p q:List UInt8}
theorem aOo(b:P.underlying t=some .string)(c:o.op= .binOp .eql t x y t')(d:a.eval x=cy p)(hy:a.eval y=cy q):bh P o a w (.bool (decide (p=q))) w:=by have:=run_underlying (P:=P) b;simp only[bh,execOp,c,d,hy];simp[go_sem,this];exact ajI p q
theorem aOA(b:P.underlying t=some .string)(c:o.op= .binOp .neq t x y t')(d:a.eval x=cy p)(hy:a.eval y=cy q):bh P o a w (.bool (!decide (p=q))) w:=by have:=run_underlying (P:=P) b;simp only[bh,execOp,c,d,hy];simp[go_sem,this];exact ajI p q
theorem aqg{b:TypeId}(c:P.underlying b=some .string)(d:o.op= .call { callee:=.builtin .len,args:=#[x],argTypes:=#[b] })(e:a.eval x=cy p):bh P o a w (.int .i64 p.length) w:=by simp only[bh,execOp,d,resolve,invoke,hz,ez,ig,e];simp[go_sem,Builtin.len_,run_underlying c,goInt]
theorem aqf{b:TypeId}{A:Option Addr}{n c:Nat}{e:TypeId}(d:P.underlying b=some (.slice e))(f:o.op= .call { callee:=.builtin .len,args:=#[x],argTypes:=#[b] })(g:a.eval x= .slice A n c):bh P o a w (.int .i64 n) w:=by simp only[bh,execOp,f,resolve,invoke,hz,ez,ig,g];simp[go_sem,Builtin.len_,run_underlying d,goInt]
theorem aOr{i:Nat}{b:UInt8}(c:P.underlying t=some .string)(d:o.op= .index t x y)(f:a.eval x=cy p)(hy:a.eval y= .int .i64 i)(ag:p[i]? =some b):bh P o a w (.int .u8 b.toNat) w:=by
 simp only[bh,execOp,d,f,hy];obtain⟨g,J⟩:=aR.1 ag;have e:(⟨⟨p⟩⟩:ByteArray)[i]? =some b:=by
  show(if h:i<_ then some _ else none)=_
  rw[dif_pos (show i<(⟨⟨p⟩⟩:ByteArray).size from g)];exact congrArg some J
 simp[go_sem,Instr.index,run_underlying c,e]
theorem adp{k k':IntKind}{n:Int}(b:P.underlying t=some (.int k))(c:P.underlying t'=some (.int k'))(d:o.op= .convert t t' x)(e:a.eval x= .int k n):bh P o a w (.int k' (k'.wrap n)) w:=by simp only[bh,execOp,d,e];simp[go_sem,convert,run_underlying b,run_underlying c]
end
end
theorem yH(n:Int):IntKind.i64.wrap n=aw n:=by rw[IntKind.wrap_i64];rfl
theorem ane(n:Int):IntKind.u8.wrap n=((kN n).toNat:Int):=by rw[au5,IntKind.wrap_u8]
section
variable{P:Program}{o:Oper}{a:Act}{w:World}{x y:Operand}{t t':TypeId}{m n:Int}
theorem ado(b:o.op= .binOp .add t x y t')(c:a.eval x= .int .i64 m)(hy:a.eval y= .int .i64 n):bh P o a w (.int .i64 (aw (m+n))) w:=by rw[<-yH];exact aOc b c hy
theorem aqn(b:o.op= .binOp .sub t x y t')(c:a.eval x= .int .i64 m)(hy:a.eval y= .int .i64 n):bh P o a w (.int .i64 (aw (m-n))) w:=by rw[<-yH];exact aOH b c hy
theorem aOx(b:o.op= .binOp .mul t x y t')(c:a.eval x= .int .i64 m)(hy:a.eval y= .int .i64 n):bh P o a w (.int .i64 (aw (m*n))) w:=by rw[<-yH];exact aOw b c hy
theorem aql(c:o.op= .binOp .rem t x y t')(d:a.eval x= .int .i64 m)(hy:a.eval y= .int .i64 n)(b:(!decide (n=0))=true):bh P o a w (.int .i64 (m.tmod n)) w:=by
 have b:n≠0:=by simpa using b
 simp only[bh,execOp,c,d,hy];simp[go_sem,b]
theorem aqk(b:o.op= .binOp .quo t x y t')(c:a.eval x= .int .i64 m)(hy:a.eval y= .int .i64 n)(d:(!decide (n=0))=true):bh P o a w (.int .i64 (aw (m.tdiv n))) w:=by rw[<-yH];exact aOF b c hy (by simpa using d)
theorem aOh(b:P.underlying t=some (.int .i64))(c:P.underlying t'=some (.int .i64))(d:o.op= .convert t t' x)(e:a.eval x= .int .i64 m):bh P o a w (.int .i64 (aw m)) w:=by have h:=adp (P:=P) (w:=w) b c d e;rwa [yH]at h
theorem aOi(b:P.underlying t=some (.int .i64))(c:P.underlying t'=some (.int .u8))(d:o.op= .convert t t' x)(e:a.eval x= .int .i64 m):bh P o a w (.int .u8 ((kN m).toNat:Int)) w:=by have h:=adp (P:=P) (w:=w) b c d e;rwa [ane]at h
theorem NY(a:Act)(g:Nat):a.eval (.global g)= .pointer (some ⟨g,0,none⟩):=rfl
theorem MW{vs:List Value}{i:Nat}{v:Value}(b:o.op= .extract x i)(c:a.eval x= .tuple vs.toArray)(d:vs[i]? =some v):bh P o a w v w:=by simp only[bh,execOp,b,c];simp[go_sem,Instr.extract,d]
theorem MX{p:Addr}(b:o.op= .nilCheck x)(c:a.eval x= .pointer (some p)):bh P o a w (.pointer (some p)) w:=by simp only[bh,execOp,b,c];rfl
end
theorem lR(b o n:Nat):(⟨b,o,none⟩:Addr).add n=⟨b,o+n,none⟩:=by unfold Addr.add;split<;>simp_all
section
variable{P:Program}{o:Oper}{a:Act}{w:World}{x y:Operand}{t e s:TypeId}
theorem aOs{i:Int}{b:UInt8}{p:List UInt8}(c:P.underlying t=some .string)(d:o.op= .index t x y)(f:a.eval x=cy p)(hy:a.eval y= .int .i64 i)(ag:idx p i=some b):bh P o a w (.int .u8 b.toNat) w:=by obtain⟨g,h,J⟩:=l9 ag;obtain⟨n,rfl⟩:=lH g;exact aOr c d f hy (by simpa using J)
theorem qV{A:Option Addr}{n c sz:Nat}{i:Int}(d:P.underlying t=some (.slice e))(aj:∀w,(Go.sizeOf e).run P w= .ok sz w)
 (f:o.op= .indexAddr t x y)(b:a.eval x= .slice A n c)(hy:a.eval y= .int .i64 i)(g:A=some ⟨dC A,gd A,none⟩)(hi:0<=i/\i<n) :
 bh P o a w (.pointer (some ⟨dC A,gd A+i.toNat*sz,none⟩)) w:=by
 obtain⟨h,l⟩:=hi
 obtain⟨k,rfl⟩:=lH h
 have j:k<n:=by omega
 rw[g]at b
 simp only[bh,execOp,f,b,hy]
 simp[go_sem,Instr.indexAt,run_underlying d,j,aj,lR]
theorem SU{cm:Array Field}{f:Field}{j b p sz:Nat}(d:P.underlying s=some (.struct cm))(ad:cm[j]? =some f)(aj:∀w,(Go.sizeOf f.type).run P w= .ok sz w)(g:cj sz 0=false)
 (h:o.op= .fieldAddr s x j)(i:a.eval x= .pointer (some ⟨b,p,none⟩)):bh P o a w (.pointer (some ⟨b,p+f.offset,none⟩)) w:=by
 have c:sz≠0:=by intro e;subst e;simp at g
 simp only[bh,execOp,h,i]
 simp[go_sem,Instr.fieldAt,run_underlying d,ad,fieldPlace,aj,c,lR]
theorem y3{b p:Nat}{v:Value}(c:∀w,(isAgg t).run P w= .ok false w)(d:o.op= .load t x)(f:a.eval x= .pointer (some ⟨b,p,none⟩))(hc:w.cell? ⟨b,p,none⟩=some v):bh P o a w v w:=by simp only[bh,execOp,d,f];simp[go_sem,Instr.loadAt,loadVar,c,hc]
theorem aqh{b p sz:Nat}{cs:List Value}(c:∀w,(isAgg t).run P w= .ok true w)(aj:∀w,(Go.sizeOf t).run P w= .ok sz w)(d:cs.length=sz)(f:o.op= .load t x)
 (g:a.eval x= .pointer (some ⟨b,p,none⟩))(hc:fy w ⟨b,p,none⟩ cs):bh P o a w (.agg cs.toArray) w:=by
 have h:=run_loadCells_list (P:=P) w ⟨b,p,none⟩ cs (λ j u aA=>by rw[lR];exact hc j u aA)
 rw[d]at h
 unfold loadCells at h
 simp only[bh,execOp,f,g]
 simp[go_sem,Instr.loadAt,loadVar,c,aj,h]
theorem SQ{v:Value}{cs:List Value}(b:v.cells=cs.toArray)(c:o.op= .box t x)(d:a.eval x=v):bh P o a w (.pointer (some ⟨w.heap.size,0,none⟩)) (w.alloc (.cells cs.toArray t)):=by have ev:=b;unfold Value.cells at ev;simp only[bh,execOp,c,d];simp[go_sem,Instr.box,newVar,newRow,ev]
theorem Cm{z:Value}{cs:List Value}(b:∀w,(zeroValue t).run P w= .ok z w)(c:z.cells=cs.toArray)(d:o.op= .alloc t):bh P o a w (.pointer (some ⟨w.heap.size,0,none⟩)) (w.alloc (.cells cs.toArray t)):=by have ev:=c;unfold Value.cells at ev;simp only[bh,execOp,d];simp[go_sem,Instr.alloc,newVar,newRow,b,ev]
end
def lay:List Value->Nat->List Value->List Value
 |l,0,cs=>cs++l.drop cs.length
 |[],_+1,_=>[]
 |u::l,n+1,cs=>u::lay l n cs
theorem Yr:∀(l:List Value)(n:Nat)(cs:List Value),n+cs.length<=l.length->lay l n cs=l.take n++cs++l.drop (n+cs.length)
 |l,0,cs,_=>by simp[lay]
 |[],n+1,cs,h=>by simp at h
 |u::l,n+1,cs,h=>by
  have:=Yr l n cs (by simp at h;omega);simp only[lay,this,j9,ih];have e:n+1+cs.length=(n+cs.length)+1:=by omega
  rw[e,List.drop_succ_cons]
section
variable{P:Program}{o:Oper}{a:Act}{w:World}{x y:Operand}{t e s:TypeId}
theorem adq{g p sz:Nat}{tb:TypeId}{cs vs:List Value}{v:Value}(i:v.cells=vs.toArray)(aj:∀w,(Go.sizeOf t).run P w= .ok sz w)(j:cj vs.length sz=true)(l:vs.all (·.oneCell')=true)
 (c:jw (p+vs.length) cs.length=true)(ag:(bc.cp g tb cs).ok w)(m:o.op= .store t x y)(n:a.eval x= .pointer (some ⟨g,p,none⟩))(hy:a.eval y=v) :
 ∃w',sF P o a w w'/\br [g] w w'/\(bc.cp g tb (lay cs p vs)).ok w':=by
 have d:w.heap[g]? =some (.cells cs.toArray tb (0,0)):=ag
 have b:vs.length=sz:=bd j
 have f:p+vs.length<=cs.length:=cJ c
 have h:=run_storeCells_at P g p tb vs 0 cs.toArray w d (by simpa using f) (λ u q=>kp.1 l u q)
 simp only[j_]at h
 refine⟨w.setRow g (lay cs p vs).toArray,?_,?_,?_⟩
 ·simp only[sF,execOp,m,n,hy];rw[Yr _ _ _ f];simp only[fA,b]at h;have ev:=i;unfold Value.cells at ev;simp[go_sem,Instr.storeAt,storeVar,aj,ev,b,h]
 ·refine⟨rfl,rfl,rfl,by simp[World.setRow],λ k _ r=>?_⟩;simp only[World.setRow,j2];rw[nc (by simpa[eq_comm]using r)]
 ·show(w.setRow g _).heap[g]? =_
  simp[World.setRow,j2,d]
end
section
variable{P:Program}{o:Oper}{a:Act}{w:World}{x y:Operand}{t e:TypeId}
def Oc(a:Act):List (Nat×Operand)->List (Nat×Value)->Prop
 |[],[]=>True
 |(i,x)::xs,(j,v)::vs=>(a.eval x=v/\i=j)/\Oc a xs vs
 |_,_=>False
theorem U8:∀ {xs:List (Nat×Operand)}{vs:List (Nat×Value)},Oc a xs vs->xs.map (λ p=>(p.1,a.eval p.2))=vs
 |[],[],_=>rfl
 |(i,x)::xs,(j,v)::vs,h=>by obtain⟨⟨b,rfl⟩,J⟩:=h;rw[ez,U8 J,b]
def placesOf(P:Program)(t:TypeId):Sem (Array (Nat×Nat)):=(match P.underlying t with|some (.struct cm)=>cm |_=>#[]).mapM λ(f:Field)=>do pure (f.offset,<-Go.sizeOf f.type)
theorem aOf{z:Value}{cm:Array Field}{pl:Array (Nat×Nat)}{xs:List (Nat×Operand)}{vs:List (Nat×Value)}{cs:List Value}(d:∀w,(zeroValue t).run P w= .ok z w)(b:P.underlying t=some (.struct cm))
 (f:∀w,(placesOf P t).run P w= .ok pl w)(g:o.op= .build t xs.toArray)(h:Oc a xs vs)(j:Instr.fill (λ i=>pl[i]?) z.cells vs=some cs.toArray):bh P o a w (.agg cs.toArray) w:=by
 have c:=f w
 simp only[placesOf,b]at c
 have k:=U8 h
 simp only[bh,execOp,g,Instr.build,Sem.run_bind,d,Result.andThen_ok,run_underlying b,c,hz]
 have e:(xs.map λ(i,x)=>(i,a.eval x))=vs:=k
 simp only[e,j]
 rfl
theorem FN{z:Value}{sz n:Nat}{xs:List (Nat×Operand)}{vs:List (Nat×Value)}{cs:List Value}(d:P.underlying t=some (.slice e))(aj:∀w,(Go.sizeOf e).run P w= .ok sz w)(f:∀w,(zeroValue e).run P w= .ok z w)
 (b:jw (n*sz) 16777216=true)(c:cj (n*sz) 0=false)(g:o.op= .buildSlice t n xs.toArray)(h:Oc a xs vs)
 (j:Instr.fill (λ i=>some (i*sz,sz)) ((Array.range (n*sz)).map (z.cells[·%z.cells.size]!)) vs=some cs.toArray) :
 bh P o a w (.slice (some ⟨w.heap.size,0,none⟩) n n) (w.alloc (.cells cs.toArray e)):=by
 have k:=U8 h
 have l:(xs.map λ(i,x)=>(i,a.eval x))=vs:=k
 have J: ¬(n*sz>2^24):=by have:=cJ b;omega
 have m:n*sz≠0:=by intro p;rw[p]at c;simp at c
 simp only[bh,execOp,g,Instr.buildSlice,Sem.run_bind,Sem.run_pure,aj,f,Result.andThen_ok,run_underlying d,hz,l,nc J,nc m,j]
 rfl
theorem aOC{t':TypeId}{m n:Int}(b:o.op= .binOp .or t x y t')(c:a.eval x= .int .i64 m)(hy:a.eval y= .int .i64 n):bh P o a w (.int .i64 (Zh m n)) w:=by unfold Zh;rw[<-yH];simp only[bh,execOp,b,c,hy];rfl
theorem aOd{t':TypeId}{m n:Int}(b:o.op= .binOp .and t x y t')(c:a.eval x= .int .i64 m)(hy:a.eval y= .int .i64 n):bh P o a w (.int .i64 (T1 m n)) w:=by unfold T1;rw[<-yH];simp only[bh,execOp,b,c,hy];rfl
theorem aqi{fn:Fn}{xs:List Operand}{vs:List Value}(b:o.op= .makeFunc fn #[] xs.toArray)(c:xs.map a.eval=vs):bh P o a w (.func fn #[] vs.toArray) w:=by simp only[bh,execOp,b,Instr.makeFunc,hz,c];rfl
end
section
variable{P:Program}{ops:Array Oper}{Q:Exit->Act->World->Prop}{a:Act}{w w':World}{rest:List Oper}{o:Oper}{n:cG}{d:Nat}{l:List (Nat×Value)}{v:Value}
theorem RP(b:o.guard=none):Region.wanted o (yielded ops a.tmps)=true:=by simp[Region.wanted,b]
theorem gi(c:Region.wanted o (yielded ops a.tmps)=true)(hy:bh P o a w v w')(ad:Fr n l a)(aJ:o.dst=some d)(e:fg d n=true)(k:∀b,Fr n ((d,v)::l) b->wpList P ops Q rest b w'):wpList P ops Q (o::rest) a w:=by
 refine wpList_step λ K f=>?_;rw[nf c];unfold Oper.wp;rw[show(execOp a.eval o).run P w=_ from hy];show K (a.put o.dst v) w'
 rw[aJ];exact f _ _ (k _ (ad.put e))
theorem jW(b:Region.wanted o (yielded ops a.tmps)=true)(hy:sF P o a w w')(aJ:o.dst=none)(k:wpList P ops Q rest a w'):wpList P ops Q (o::rest) a w:=by
 refine wpList_step λ K c=>?_;rw[nf b];unfold Oper.wp;rw[show(execOp a.eval o).run P w=_ from hy];show K (a.put o.dst undef) w'
 rw[aJ];exact c _ _ k
theorem aK_{j bC:Nat}{b:Bool}(ad:Fr n l a)(c:o.guard=some (j,b))(aA:(ops[j]?).bind (·.dst)=some bC)(e:ey l bC=some (.bool b))(f:fg bC n=true):Region.wanted o (yielded ops a.tmps)=true:=by
 have g:bC<n:=cJ f;have h:=ad.get bC _ e;have aj:=ad.size;have J:a.tmps[bC]? =some (.bool b):=by rw[jz (by omega)];simpa[eF,aj,g]using h
 simp[Region.wanted,c,yielded,aA,J]
theorem aK9{j bC:Nat}{b c:Bool}(ad:Fr n l a)(e:o.guard=some (j,b))(aA:(ops[j]?).bind (·.dst)=some bC)(f:ey l bC=some (.bool c))(g:(c==b)=false)(i:fg bC n=true):Region.wanted o (yielded ops a.tmps)=false:=by
 have k:bC<n:=cJ i;have h:=ad.get bC _ f;have aj:=ad.size;have J:a.tmps[bC]? =some (.bool c):=by rw[jz (by omega)];simpa[eF,aj,k]using h
 simpa[Region.wanted,e,yielded,aA,J]using g
theorem aK'{j bC:Nat}{b:Bool}(ad:Fr n l a)(c:o.guard=some (j,b))(aA:(ops[j]?).bind (·.dst)=some bC)(e:ey l bC=some undef)(f:fg bC n=true):Region.wanted o (yielded ops a.tmps)=false:=by
 have g:bC<n:=cJ f;have h:=ad.get bC _ e;have aj:=ad.size;have J:a.tmps[bC]? =some undef:=by rw[jz (by omega)];simpa[eF,aj,g]using h
 simp[Region.wanted,c,yielded,aA,J,undef]
theorem ss(c:Region.wanted o (yielded ops a.tmps)=false)(ad:Fr n l a)(aJ:o.dst=some d)(e:fg d n=true)(k:∀b,Fr n ((d,undef)::l) b->wpList P ops Q rest b w):wpList P ops Q (o::rest) a w:=by refine wpList_step λ K f=>?_;rw[nc (by simp[c]),aJ];exact f _ _ (k _ (ad.put e))
def zY(a:Act):List Operand->List Value->Prop
 |[],[]=>True
 |x::xs,v::vs=>a.eval x=v/\zY a xs vs
 |_,_=>False
theorem Of:∀ {xs:List Operand}{vs:List Value},zY a xs vs->xs.map a.eval=vs
 |[],[],_=>rfl
 |x::xs,v::vs,h=>by rw[ez,h.1,Of h.2]
theorem aLj{f:FuncId}{xs:List Operand}{b:Array TypeId}{vs:List Value}{R:Ending->World->Prop}{K:Act->World->Prop}
 (c:o.op= .call { callee:=.value (.func f),args:=xs.toArray,argTypes:=b })(g:∀args w,(callFunc f args).run P w= .ok (.enter f args) w)
 (h:zY a xs vs)(hc:Calls P f vs.toArray w R)(k:∀e w',R e w'->∃v,e= .returned v/\K (a.put o.dst v) w'):o.wp P a w K Q:=by
 unfold Oper.wp
 have e:(execOp a.eval o).run P w= .ok (.enter f vs.toArray) w:=by have i:=Of h;simp only[execOp,c,resolve,hz,i];simp[go_sem,Act.eval,Deferred.ofValue,invoke,g]
 rw[e]
 exact hc.mono λ e w' j=>by obtain⟨v,rfl,m⟩:=k e w' j;exact m
theorem L4{f:FuncId}{xs:List Operand}{c:Array TypeId}{vs:List Value}{R:Ending->World->Prop}(g:Region.wanted o (yielded ops a.tmps)=true)
 (h:o.op= .call { callee:=.value (.func f),args:=xs.toArray,argTypes:=c })(i:∀args w,(callFunc f args).run P w= .ok (.enter f args) w)
 (j:zY a xs vs)(hc:Calls P f vs.toArray w R)(ad:Fr n l a)(aJ:o.dst=some d)(m:fg d n=true)
 (k:∀e w',R e w'->∃v,e= .returned v/\∀b,Fr n ((d,v)::l) b->wpList P ops Q rest b w'):wpList P ops Q (o::rest) a w:=by
 refine wpList_step λ K p=>?_
 rw[nf g]
 refine aLj h i j hc λ e w' q=>?_
 obtain⟨v,r,s⟩:=k e w' q
 rw[aJ]
 exact⟨v,r,p _ _ (s _ (ad.put m))⟩
end
section
variable{P:Program}{ops:Array Oper}{Q:Exit->Act->World->Prop}{a:Act}{w w':World}{rest:List Oper}{o:Oper}{n:cG}{d:Nat}{l:List (Nat×Value)}{v:Value}
theorem aJy{f:FuncId}{b:Operand}{xs:List Operand}{c:Array TypeId}{vs cs:List Value}
 (e:o.op= .call { callee:=.value b,args:=xs.toArray,argTypes:=c })(g:∀args w,(callFunc f args).run P w= .ok (.enter f args) w)(h:a.eval b= .func (.func f) #[] cs.toArray)
 (i:zY a xs vs):(execOp a.eval o).run P w= .ok (.enter f (vs++cs).toArray) w:=by
 have j:=Of i
 simp only[execOp,e,resolve,hz,j,h]
 simp[Deferred.ofValue,invoke,g]
theorem aa8{f:FuncId}{b:Operand}{xs:List Operand}{g:Array TypeId}{vs cs:List Value}{R:Ending->World->Prop}(h:Region.wanted o (yielded ops a.tmps)=true)
 (i:o.op= .call { callee:=.value b,args:=xs.toArray,argTypes:=g })(j:∀args w,(callFunc f args).run P w= .ok (.enter f args) w)(m:a.eval b= .func (.func f) #[] cs.toArray)
 (p:zY a xs vs)(hc:Calls P f (vs++cs).toArray w R)(ad:Fr n l a)(aJ:o.dst=some d)(q:fg d n=true)
 (k:∀e w',R e w'->∃v,e= .returned v/\∀c,Fr n ((d,v)::l) c->wpList P ops Q rest c w'):wpList P ops Q (o::rest) a w:=by
 refine wpList_step λ K r=>?_
 rw[nf h]
 unfold Oper.wp
 rw[aJy i j m p]
 refine hc.mono λ e w' s=>?_
 obtain⟨v,rfl,t⟩:=k e w' s
 rw[aJ]
 exact r _ _ (t _ (ad.put q))
end
section
variable{P:Program}{Q:Exit->Act->World->Prop}{a:Act}{w:World}
theorem Ua{c:Code}(b:Nat->Act->World->Prop)(k:Nat)(h:b k a w)(e:∀a w,¬b 0 a w)
 (round:∀k a w,b (k+1) a w->∀K:Act->World->Prop,(∀a w,b k a w->K a w)->c.wp P (Exit.then K Q) a w):(Code.loop c).wp P Q a w:=
 wp_loop_ghost b k h λ m a w d=>by
  cases m with
  |zero=>exact absurd d (e a w)
  |succ m=>exact round m a w d _ λ f w' h'=>⟨m,lM m,h'⟩
theorem aIl{fn:Func}{R:Ending->World->Prop}{n:Nat}{l:List (Nat×Value)}(b:fn.results= #[])(ad:Fr ⟨n,[]⟩ l a)(h:R (.returned (.tuple #[])) w):bodyPost P fn R .ret a w:=⟨ad.defers,_,results_none b _ _ _,h⟩
theorem Br{fn:Func}{R:Ending->World->Prop}{n:Nat}{t:Nat}{l:List (Nat×Value)}{v:Value}(b:fn.results= #[.tmp t])(ad:Fr ⟨n,[]⟩ l a)(c:ey l t=some v)(h:R (.returned v) w):bodyPost P fn R .ret a w:=⟨ad.defers,_,results_tmp b _ _ _,by rw[ad.get _ _ c];exact h⟩
def aaS(P:Program)(a:Act)(w:World):ResultVar->Value->Prop
 | .tmp t,v=>a.tmps.getD t undef=v
 | .cell eo ty,v=>∃b p,a.tmps.getD eo undef= .pointer (some ⟨b,p,none⟩)/\
  ((∃cs:List Value,(∀w,(isAgg ty).run P w= .ok true w)/\(∀w,(Go.sizeOf ty).run P w= .ok cs.length w)/\fy w ⟨b,p,none⟩ cs/\v= .agg cs.toArray)\/
   ((∀w,(isAgg ty).run P w= .ok false w)/\w.cell? ⟨b,p,none⟩=some v))
def Q_(P:Program)(a:Act)(w:World):List ResultVar->List Value->Prop
 |[],[]=>True
 |r::rs,v::vs=>aaS P a w r v/\Q_ P a w rs vs
 |_,_=>False
def pack:List Value->Value
 |[v]=>v
 |vs=>.tuple vs.toArray
def Q9(a:Act):ResultVar->Sem Value
 | .tmp t=>pure (a.tmps.getD t undef)
 | .cell eo t=>do loadVar t (<-asAddr (a.tmps.getD eo undef))
theorem aJD{r:ResultVar}{v:Value}(h:aaS P a w r v):(Q9 a r).run P w= .ok v w:=by
 cases r with
 |tmp t=>exact congrArg (λ x=>Result.ok x w) h
 |cell eo ty=>obtain⟨b,p,e,J⟩:=h;simp only[Q9,e];rcases J with⟨cs,c,aj,hc,rfl⟩|⟨c,hc⟩;have d:=run_loadCells_list (P:=P) w ⟨b,p,none⟩ cs (λ j u aA=>by rw[lR];exact hc j u aA);unfold loadCells at d;simp[go_sem,loadVar,asAddr,c,aj,d];simp[go_sem,loadVar,asAddr,c,hc]
theorem amk:∀ {rs:List ResultVar}{vs:List Value},Q_ P a w rs vs->(rs.mapM (Q9 a)).run P w= .ok vs w
 |[],[],_=>rfl
 |r::rs,v::vs,h=>by have b:=aJD h.1;have J:=amk h.2;rw[List.mapM_cons];simp only[Sem.run_bind,b,J,Result.andThen_ok];rfl
theorem aIj{fn:Func}{R:Ending->World->Prop}{n:Nat}{l:List (Nat×Value)}{rs:List ResultVar}{vs:List Value}(b:fn.results=rs.toArray)(ad:Fr ⟨n,[]⟩ l a)(c:Q_ P a w rs vs)
 (h:R (.returned (pack vs)) w):bodyPost P fn R .ret a w:=by
 refine⟨ad.defers,pack vs,?_,h⟩
 have d:=amk c
 unfold results
 have e:(λ x=>match x with| .tmp t=>pure (a.tmps.getD t undef)| .cell eo t=>do loadVar t (<-asAddr (a.tmps.getD eo undef)):ResultVar->Sem Value)=Q9 a:=by funext x;cases x<;>rfl
 rw[b,List.mapM_toArray]
 simp only[Sem.run_bind]
 show Result.andThen (((List.toArray <$> rs.mapM (λ x=>match x with| .tmp t=>pure (a.tmps.getD t undef)| .cell eo t=>do loadVar t (<-asAddr (a.tmps.getD eo undef)):ResultVar->Sem Value))).run P w) _=_
 rw[e,map_eq_pure_bind,Sem.run_bind,d]
 match vs with
 |[]=>rfl
 |[v]=>rfl
 |v::u::r=>rfl
end
section
variable{P:Program}{ops:Array Oper}{Q:Exit->Act->World->Prop}{a:Act}{w:World}{rest:List Oper}{o:Oper}{n:cG}{d:Nat}{l:List (Nat×Value)}
 {W:World}{M0 X:List Nat}{E:List bc}{D:List bG}
theorem bz.new(c:bz W M0 X w E D)(t:TypeId)(cs:List Value):bz W M0 X (w.alloc (.cells cs.toArray t)) (bc.cp w.heap.size t cs::E) D:=c.push _ (br.alloc _ _ _) (au9 w t cs) (λ k b=>by simp[bc.cp]at b;subst b;exact⟨cP _,by simp⟩) (by simp[bc.cp])
theorem yA{g p sz:Nat}{t tb:TypeId}{x y:Operand}{cs vs:List Value}{v:Value}(i:Nat)(e:bz W M0 X w E D)(hi:E[i]? =some (bc.cp g tb cs))(f:Region.wanted o (yielded ops a.tmps)=true)
 (h:v.cells=vs.toArray)(aj:∀w,(Go.sizeOf t).run P w= .ok sz w)(j:cj vs.length sz=true)(b:vs.all (·.oneCell')=true)(c:jw (p+vs.length) cs.length=true)
 (m:o.op= .store t x y)(q:a.eval x= .pointer (some ⟨g,p,none⟩))(hy:a.eval y=v)(aJ:o.dst=none)
 (k:∀w',bz W M0 X w' (E.set i (bc.cp g tb (lay cs p vs))) D->wpList P ops Q rest a w'):wpList P ops Q (o::rest) a w:=by
 obtain⟨w',b,J,r⟩:=adq h aj j b c (e.e i hi) m q hy
 exact jW f b aJ (k w' (e.RE i hi J r (by simp[bc.cp]) (λ k s=>.inl s)))
theorem bz.Lq{α:Type}(b:bz W M0 X w E D)(e:TypeId)(size:Nat):bz W M0 X w (bc.row e size (.slice none 0 0) ([]:List α) []::E) D:=b.push _ (br.refl _ _) (World.ownsRow_nil w 0 e size) (λ k c=>by simp[bc.row,Value.ownBlock]at c) (by simp[bc.row,Value.ownBlock])
theorem aGd(o:Option Nat):o.toList.Nodup:=by cases o<;>simp
theorem aiO{e:TypeId}{z:Value}{sz bytes:Nat}(h:(P.info? e).map (λ i=>(i.zero,i.size,i.bytes))=some (some z,sz,bytes)):∃i,P.info? e=some i/\i.zero=some z/\i.size=sz/\i.bytes=bytes:=by
 cases hi:P.info? e with
 |none=>rw[hi]at h;cases h
 |some i=>rw[hi]at h;simp only[fY,aF,cB]at h;exact⟨i,rfl,h.1,h.2.1,h.2.2⟩
end
section
variable{P:Program}{ops:Array Oper}{C:World->Prop}{pN:Act->Prop}{a:Act}{w:World}{rest:List Oper}{o:Oper}{n:cG}{d:Nat}{l:List (Nat×Value)}{v:Value}
theorem rW(c:Region.wanted o (yielded ops a.tmps)=true)(hy:∀w,C w->bh P o a w v w)(ad:Fr n l a)(aJ:o.dst=some d)(e:fg d n=true)(k:∀b,Fr n ((d,v)::l) b->wpQuiet P ops C pN rest b):wpQuiet P ops C pN (o::rest) a:=by unfold wpQuiet;rw[nf c];refine⟨v,λ w hc=>?_,?_⟩;unfold Oper.quietAt;rw[show(execOp a.eval o).run P w=_ from hy w hc];exact⟨rfl,rfl⟩;rw[aJ];exact k _ (ad.put e)
theorem qs(c:Region.wanted o (yielded ops a.tmps)=false)(ad:Fr n l a)(aJ:o.dst=some d)(e:fg d n=true)(k:∀b,Fr n ((d,undef)::l) b->wpQuiet P ops C pN rest b):wpQuiet P ops C pN (o::rest) a:=by unfold wpQuiet;rw[nc (by simp[c]),aJ];exact k _ (ad.put e)
theorem avF{id:Nat}{Q:Exit->Act->World->Prop}{l:List Oper}(b:P.follows .mixedOrders=true)(c:Region.lexB .any l.toArray=true)
 (h:wpQuiet P l.toArray (λ w'=>br [] w w') (λ a=>∀w',br [] w w'->Q .normal a w') l a):(Code.region id l.toArray true).wp P Q a w:=
 wp_region_quiet (C:=λ w'=>br [] w w') b c (br.drew [] w) (by refine Eq.mp ?_ h;rw[List.toList_toArray])|>λ h=>wp_mono h (λ e a w q=>q)
end
theorem ayb{w w':World}{p:Addr}{v:Value}(h:br [] w w')(hc:w.cell? p=some v):w'.cell? p=some v:=(World.cell?_of_block (h.block p.block (World.block_lt_of_cell? w p hc) (by simp))).trans hc
theorem GD{w w':World}{p:Addr}{cs:List Value}(h:br [] w w')(hc:fy w p cs):fy w' p cs:=λ j u aA=>ayb h (hc j u aA)
section
variable{P:Program}{Q:Exit->Act->World->Prop}{K:Act->World->Prop}{a:Act}{w:World}
theorem uu{i:Nat}(h:Q (.exit i) a w):Exit.then K Q (.exit i) a w:=h
theorem IK{i:Nat}(h:Q .normal a w):Exit.inBlock i Q (.exit i) a w:=by simpa[Exit.inBlock]using h
theorem SG(h:Q .ret a w):Exit.then K Q .ret a w:=h
theorem ap7{i:Nat}(h:Q .ret a w):Exit.inBlock i Q .ret a w:=h
theorem NH{id:Nat}{c:Code}(b:Act->World->Prop)(d:∀K:Act->World->Prop,(∀a w,b a w->K a w)->c.wp P (Exit.inBlock id (Exit.then K Q)) a w)(hy:∀a w,b a w->Q .normal a w):(Code.block id c).wp P Q a w:=by
 refine wp_block (wp_mono (d _ hy) ?_);intro e a w h;cases e with
 |exit i=>by_cases hi:i=id;simpa[Exit.inBlock,Exit.then,hi]using h;simpa[Exit.inBlock,Exit.then,hi]using h
 |_=>exact h
theorem pU{id:Nat}{l:List Oper}(h:wpList P l.toArray Q l a w):(Code.region id l.toArray false).wp P Q a w:=wp_region_lit h
end
section
variable{W w:World}{M0 X:List Nat}{E:List bc}{D:List bG}
def QG(D:List bG):List bG->Prop
 |[]=>True
 |y::r=>(∃i:Nat,D[i]? =some y)/\QG D r
theorem ak5{D:List bG}:∀ {a:List bG},QG D a->∀y∈a,y∈D
 |[],_,y,hy=>by simp at hy
 |z::r,h,y,hy=>by rcases cH.1 hy with rfl |e;obtain⟨i,hi⟩:=h.1;exact bH hi;exact ak5 h.2 y e
theorem bz.pick(h:bz W M0 X w E D){a:List bG}(aj:QG D a):bz W M0 X w E a:=h.less (ak5 aj)
theorem bz.agD(h:bz W [] X w E D):br [] W w:=h.bZ
theorem bz.N3(h:bz W M0 X w E D)(i:Nat):bz W M0 X w (E.eraseIdx i) D:=h.drop (List.eraseIdx_sublist E i)
theorem bz.freeze{α:Type}{T:dm α}{e:TypeId}{A:Option Addr}{n c:Nat}{l:List α}{xs:List Value}(h:bz W M0 X w E D)(i j:Nat)(hi:E[i]? =some (bc.row e T.size (.slice A n c) l xs))(aA:D[j]? =some (bG.rows T xs l)) :
 bz W M0 X w (E.eraseIdx i) (bG.of (b7 T) [.slice A n c] l::D):=by
 have b:=h.N3 i
 refine b.more (aJg (h.e i hi) (b.d j aA) ?_)
 intro k a d
 rcases cf.1 d with ai |ai
 ·have f:=h.ij k ai;rcases(h.lt k (hN.2 ⟨_,bH hi,a⟩)).2 with ao |ao;exact f.2 ao;omega
 ·obtain⟨m,g⟩:=aR.1 hi;have a8:E=E.take i++E[i]::E.drop (i+1):=by simp
  have aJ:=h.bC;rw[a8,g]at aJ;have ao:b1 (E.take i++bc.row e T.size (.slice A n c) l xs::E.drop (i+1))=b1 (E.take i)++((bc.row e T.size (.slice A n c) l xs).bF++b1 (E.drop (i+1))):=by simp[b1]
  rw[ao,fx,fx]at aJ;rw[List.eraseIdx_eq_take_drop_succ]at ai;rcases cf.1 (by simpa[b1]using ai:k∈b1 (E.take i)++b1 (E.drop (i+1)))with aW |aW;exact aJ.2.2 k aW k (cf.2 (.inl a)) rfl;exact aJ.2.1.2.2 k a k aW rfl
theorem bz.ag3{g:Nat}{t:TypeId}{cs:List Value}(h:bz W M0 X w E D)(i:Nat)(hi:E[i]? =some (bc.cp g t cs)):bz W M0 X w (E.eraseIdx i) (bG.jJ g cs::D):=by
 have b:=h.N3 i;refine b.more ⟨?_,Jt (h.e i hi),λ j u aA=>?_⟩
 ·intro c;have a:g∈(bc.cp g t cs).bF:=by simp[bc.cp]
  rcases cf.1 c with ai |ai;have d:=h.ij g ai;rcases(h.lt g (hN.2 ⟨_,bH hi,a⟩)).2 with ao |ao;exact d.2 ao;omega
  ·obtain⟨f,e⟩:=aR.1 hi;have a8:E=E.take i++E[i]::E.drop (i+1):=by simp
   have aJ:=h.bC;rw[a8,e]at aJ;have ao:b1 (E.take i++bc.cp g t cs::E.drop (i+1))=b1 (E.take i)++((bc.cp g t cs).bF++b1 (E.drop (i+1))):=by simp[b1]
   rw[ao,fx,fx]at aJ;rw[List.eraseIdx_eq_take_drop_succ]at ai;rcases cf.1 (by simpa[b1]using ai:g∈b1 (E.take i)++b1 (E.drop (i+1)))with aW |aW;exact aJ.2.2 g aW g (cf.2 (.inl a)) rfl;exact aJ.2.1.2.2 g a g aW rfl
 ·have:=zK (h.e i hi) aA;simpa using this
end
def dW(n:Nat):List Nat->Array Bool
 |[]=>Array.replicate n false
 |i::d=>(dW n d).setIfInBounds i true
def F4(K:Act->World->Prop)(Q:Exit->Act->World->Prop):Exit->Act->World->Prop
 | .normal,a,w=>K a w
 |e,a,w=>Q e a w
section
variable{P:Program}{ops:Array Oper}{Q:Exit->Act->World->Prop}{a:Act}{w:World}{o:Oper}{n:cG}{f d i:Nat}{ds:List Nat}{l:List (Nat×Value)}{v:Value}
def Rw(ops:Array Oper)(ds:List Nat)(i:Nat):Bool:=Region.noSelect ops&&Region.free .any ops (dW ops.size ds) i&&(Region.ready .any ops (dW ops.size ds)).contains i
theorem aLi{K:Act->World->Prop}{Q:Exit->Act->World->Prop}(h:o.wp P a w K (F4 K Q)):o.wp P a w K Q:=by
 unfold Oper.wp at *
 generalize(execOp a.eval o).run P w=r at *
 cases r with
 |ok n w'=>
  cases n<;>simp only[Oper.upon]at h⊢ <;>
   first
    |exact h
    |exact Calls.mono h (λ e w'' b=>by cases e<;>first |exact b |exact b)
 |halt x w'=>cases x<;>simp only[Oper.upon]at h⊢ <;>exact h
theorem abR{K:Act->World->Prop}(hi:ops[i]? =some o)(h:wpList P ops (F4 K (NoPanic Q)) [o] a w):wpOp P ops (NoPanic Q) i K a w:=by unfold wpOp;simp only[hi];unfold wpList at h;split at h;rename_i b;rw[nf b];rcases h with h |⟨c,J⟩;exact .inl (aLi h);exact .inr ⟨c,J.elim λ a h=>h.elim λ w h=>⟨a,w,h⟩⟩;rename_i b;rw[nc b];exact h
end
section
variable{P:Program}{o:Oper}{a:Act}{w:World}{t t':TypeId}{x y:Operand}{cm:Array Go.Field}{xs ys:Array Value}{b:Bool}
theorem SS(c:P.underlying t=some (.struct cm))(d:P.stoodInHeld t=false)(e:P.eqGuardType P.depth t=false)
 (f:(Op.eqFields 9999 xs ys cm.toList).run P w= .ok b w)(g:o.op= .binOp .eql t x y t')(i:a.eval x= .agg xs)(hy:a.eval y= .agg ys):bh P o a w (.bool b) w:=by
 have ad:P.fieldsOf t=cm:=by simp[Program.fieldsOf,c]
 have h:=run_equalIn_struct (P:=P) w 9999 t xs ys (by rw[ad];exact c) d
 rw[ad,f]at h
 have h:(Op.equalIn 10000 t (Value.agg xs) (Value.agg ys)).run P w= .ok b w:=h
 simp only[bh,execOp,g,i,hy]
 simp[go_sem,Op.equal,Op.maxDepth,h,run_eqGuard_agg w _ _ _ _ _ _ e]
theorem SV(c:P.underlying t=some (.struct cm))(d:P.stoodInHeld t=false)(e:P.eqGuardType P.depth t=false)
 (f:(Op.eqFields 9999 xs ys cm.toList).run P w= .ok b w)(g:o.op= .binOp .neq t x y t')(i:a.eval x= .agg xs)(hy:a.eval y= .agg ys):bh P o a w (.bool (!b)) w:=by
 have ad:P.fieldsOf t=cm:=by simp[Program.fieldsOf,c]
 have h:=run_equalIn_struct (P:=P) w 9999 t xs ys (by rw[ad];exact c) d
 rw[ad,f]at h
 have h:(Op.equalIn 10000 t (Value.agg xs) (Value.agg ys)).run P w= .ok b w:=h
 simp only[bh,execOp,g,i,hy]
 simp[go_sem,Op.equal,Op.maxDepth,h,run_eqGuard_agg w _ _ _ _ _ _ e]
theorem uT{d:Nat}:(Op.eqFields d xs ys []).run P w= .ok true w:=rfl
theorem oR{d:Nat}{f:Go.Field}{l:List Go.Field}{k:IntKind}{m n:Int}{e:Prop} [Decidable e](g:(f.name != "_")=true)(i:P.underlying f.type=some (.int k))(j:∀w,(isAgg f.type).run P w= .ok false w)
 (p:xs[f.offset]? =some (.int k m))(hy:ys[f.offset]? =some (.int k n))(h:(Op.eqFields (d+1) xs ys l).run P w= .ok (decide e) w):(Op.eqFields (d+1) xs ys (f::l)).run P w= .ok (decide (m=n/\e)) w:=by
 have q:f.name≠ "_" :=by simpa using g
 simp only[Op.eqFields,q,if_true,ne_eq,not_false_iff,part,Sem.run_bind,j,Result.andThen_ok,p,hy,hM,if_false,Sem.run_pure,run_equalIn_int w d f.type k k m n i]
 by_cases c:m=n
 ·subst c;simp[h]
 ·simp[c,show(m==n)=false from by simpa using c]
end
open Go Go.RowKit Go.ChangeShapes Go.WideShapes Go.Deep I
section
variable{H:Type}{enc:TypeId×Value->H}{P:Program}
theorem aeQ(e:laidOutB P=true){W W':World}{hq:Nat->Bool}:∀ {b:List TypeId}{vs:List Value}{ds:List (DataW H)}{ps:List MemPlace},DataW.TrodAll enc P W 0 (λ _=>true) true b vs ds ps ->
 (b.all λ t=>P.readableRec t&&fg t P.types.size)=true->(∀p∈ps,W.sameAt W' p)->(∀p∈ps,hq p.block=true)->DataW.TrodAll enc P W' 0 hq true b vs ds ps
 |[],vs,ds,ps,h,_,_,_=>by obtain⟨rfl,rfl,rfl⟩:=trodAll_nil h;exact trodAll_mk0
 |t::b,vs,ds,ps,h,c,aj,f=>by
  obtain⟨v,k,d,g,p,q,rfl,rfl,rfl,i,j⟩:=trodAll_cons h;simp only[List.all_cons,cd]at c
  exact trodAll_cons_mk (WideElems.Trod_stays e c.1.1 (cJ c.1.2) i (λ x a=>aj x (e8 _ a)) (λ x a=>f x (e8 _ a)))
   (aeQ e j c.2 (λ x a=>aj x (fe _ a)) (λ x a=>f x (fe _ a)))
theorem aGy{f:Func}{s:ChangeSpec}{W W':World}{args:Array Value}{ds gs:List (DataW H)}{before:List MemPlace}{tb:TypeId}
 (e6:DataW.Whole enc P f.params.toList s.vars false W args.toList ds gs before)(u:laidOutB P=true)(v:(f.params.toList.all λ t=>P.readableRec t&&fg t P.types.size)=true)
 (k:s.vars=[])(e:s.fn H ds= { results:=[.lit (.bool true)],args:=ds })(ag:P.underlying tb=some .bool)(c:f.resultTypes= #[tb])(w:br [] W W') :
 s.post enc P f false true false false W args (.bool true) W':=by
 have g:=w.below
 have h:∀p∈before,p.block<W.heap.size:=λ p i=>e6.lt p i
 have j:=e6
 obtain⟨p,q,y,l,m,z,A⟩:=e6
 rw[k]at l
 obtain⟨rfl,rfl⟩:=trodVars_none l
 simp only[hv]at m
 subst m
 have d:∀x∈before,(λ b=>decide (b<W.heap.size)) x.block=true:=λ x a=>by simpa using h x a
 have Wy:∀hq:Nat->Bool,(∀x∈before,hq x.block=true)->DataW.TrodAll enc P W' 0 hq true f.params.toList args.toList ds before:=λ hq B=>aeQ u y v (λ x a=>g.same (h x a)) B
 have n:∀(b:Nat)(hq:Nat->Bool)(aJ:Bool),DataW.TrodAll enc P W' b hq aJ f.resultTypes.toList ((Value.bool true).resultList f.resultTypes.size) [.lit (.bool true)] []:=λ b hq aJ=>by rw[c];exact trodAll_cons_mk (p:=[]) (shut_bool ag true) trodAll_mk0
 have o:∀hq:Nat->Bool,DataW.TrodVars enc P W' hq s.vars [] []:=λ hq=>by rw[k];rfl
 refine⟨ds,[],before,[],before,[],j,?_,?_,?_,World.keptBut_mono (λ x a=>⟨a,Or.inr (by simpa using a)⟩) (g.frame (·∈before)),λ _=>?_⟩
 ·simp only[hv,e];exact n _ _ _
 ·simp only[hv,e];exact Wy _ d
 ·simp only[hv,e];exact o _
 ·refine⟨ok_one c rfl (okWide_bool_mk ag true),_,_,([]++before)++[],⟨[]++before,[],trodAll_append (Wy (λ _=>true) (λ _ _=>rfl)) (n _ _ _),o _,rfl,?_,?_⟩,?_⟩
  ·intro b off i;have r:MemPlace.cell b off∈before:=by simpa using i
   rw[g.frozen (h _ r)];exact z b off r
  ·intro ap;simpa using A ap
  ·intro x a _;simpa using a
theorem aeh{W:World}{r:Reach}{b0:Nat}{hq:Nat->Bool}{aJ:Bool}{t:TypeId}{v:Value}{d:DataW H}{ps:List MemPlace}(a:P.underlying t=some (.int .i64))(b:Value.okWide P W r b0 t v)(h:DataW.Trod enc P W 0 hq aJ t v d ps) :
 ∃n:Int,v= .int .i64 n/\ -9223372036854775808<=n/\n<=9223372036854775807:=by
 obtain⟨n,rfl,_,_,c⟩:=open_int a b h
 exact⟨n,rfl,by simpa[Lit.wf,IntKind.min,IntKind.max,IntKind.signed,IntKind.bits]using c⟩
theorem amh{α:Type}{T:dm α}{F:Nat->Prop}{W:World}{b o:Nat}{R:α->Prop}:∀m:Nat,(∀i,i<m->∃cs d,fy W ⟨b,o+i*T.size,none⟩ cs/\T.rd F W cs d/\R d) ->
 ∃(l:List α)(xs:List Value),l.length=m/\dN T F W xs l/\fy W ⟨b,o,none⟩ xs/\∀d∈l,R d
 |0,_=>⟨[],[],rfl,rfl,λ j u aA=>by simp at aA,λ d aJ=>by cases aJ⟩
 |m+1,h=>by obtain⟨l,xs,a,J,f,g⟩:=amh m (λ i hi=>h i (by omega));obtain⟨cs,d,c1,c2,c3⟩:=h m (by omega);refine⟨l++[d],xs++cs,by simp[a],alS (T:=T) c2 J,λ j u aA=>?_,λ e k=>?_⟩;have c:=yu (T:=T) J;rcases gI j xs.length with n |O1;exact f j u (by simpa[mR,n]using aA);rw[eS O1]at aA;have:=c1 (j-xs.length) u aA;rw[c,a]at this;rw[show o+j=o+m*T.size+(j-m*T.size) by rw[c,a]at O1;omega];simpa using this;rcases cf.1 k with ai |ai;exact g e ai;simp at ai;subst ai;exact c3
end
def h_{H:Type}(P:Program)(enc:TypeId×Value->H)(N:Nat)(t:TypeId){α:Type}(T:dm α)(R:α->Prop):Prop:=∀(W:World)(n:Nat)(cs:List Value)(x:DataW H×List MemPlace),DataW.trod enc P W 0 (λ _=>true) true n t cs=some x->(∀p∈x.2,p.block<W.heap.size)->(∀m∈x.1.weights P t,m<=N)->∃d,T.rd (iK [] W) W cs d/\R d
def ja(n:Int):Prop:=-9223372036854775808<=n/\n<=9223372036854775807
section
variable{H:Type}{enc:TypeId×Value->H}{P:Program}{N:Nat}{t e:TypeId}
theorem Bs(a:P.underlying t=some .string):h_ P enc N t jX (λ s=>s.length<=N):=by intro W n cs x h _ b;obtain⟨s,rfl,rfl,_⟩:=DataW.trod_string a h;exact⟨s.data.toList,rfl,b _ (by simp[DataW.weights])⟩
theorem pq(a:P.underlying t=some (.int .i64)):h_ P enc N t (fv .i64) ja:=by intro W n cs x h _ _;obtain⟨z,rfl,_,b⟩:=DataW.trod_int a h;exact⟨z,rfl,by simpa[ja,Lit.wf,IntKind.min,IntKind.max,IntKind.signed,IntKind.bits]using b⟩
theorem aIS(a:P.underlying t=some .bool):h_ P enc N t aKA (λ _=>True):=by intro W n cs x h _ _;obtain⟨b,rfl,_⟩:=DataW.trod_bool a h;exact⟨b,rfl,trivial⟩
theorem aj4{d:DataW H}{m:Nat}(a:m∈d.weights P e):∀ {l:List (DataW H)},d∈l->m∈DataW.weightsAll P e l
 |[],h=>by cases h
 |x::r,h=>by simp only[DataW.weightsAll,cf];rcases cH.1 h with rfl |h;exact .inl a;exact .inr (aj4 a h)
theorem tO{α:Type}{T:dm α}{R:α->Prop}(w:P.underlying t=some (.slice e))(O:P.cellsOf e=T.size)(B:fg 0 T.size=true)(Q:h_ P enc N e T R):h_ P enc N t (b7 T) (λ l=>l.length*P.bytesOf e<=N/\∀d∈l,R d):=by
 have B:0<T.size:=cJ B;intro W n cs x h C E;rcases open_slice w h with⟨rfl,rfl⟩|⟨a,c,cap,m,S,D,y,rfl,_,U,G,V,I,hi⟩;exact⟨[],⟨none,0,rfl,cP _,gY _,λ _=>rfl,λ h=>absurd rfl h⟩,by simp,λ d aJ=>by cases aJ⟩
 ·have X:m=cap:=by simpa using V
  subst X;have f:x.2=MemPlace.row a (m*P.cellsOf e)++(ef m).flatMap y:=congrArg Prod.snd I;have g:x.1= .slice ((ef c).map D) ((ef (m-c)).map λ j=>D (c+j)):=congrArg k1 I;have Y:(c+(m-c))*P.bytesOf e<=N:=by refine E _ ?_;rw[g];simp only[DataW.weights,w,hd,iC];exact hZ
  have q:c*P.bytesOf e<=N:=hl (j8 _ (Nat.le_add_right _ _)) Y;by_cases Z:c=0;subst Z;exact⟨[],⟨some a,m,rfl,by simp,G,λ h=>(by cases h),λ h=>absurd rfl h⟩,by simp,λ d aJ=>by cases aJ⟩
  ·have K:∀i,i<c->∃cs d,(∀j u,cs[j]? =some u->W.cell? (a.add (i*T.size+j))=some u)/\cs.length=T.size/\T.rd (iK [] W) W cs d/\R d:=λ i z=>by
    have r:i<m:=by omega
    obtain⟨L,hc,rA⟩:=hi i r;obtain⟨d,aJ,ek⟩:=Q W S L _ rA (λ p Xh=>C p (by
     rw[f,cf];exact .inr (hN.2 ⟨i,by simpa using r,Xh⟩))) (λ k hk=>E k (by
     rw[g];simp only[DataW.weights,w,cH,cf];exact .inr (.inl (aj4 hk (hQ.2 ⟨i,by simpa using z,rfl⟩)))))
    rw[O]at hc;obtain⟨_,M,u3⟩:=World.cells?_some hc;refine⟨L,d,λ j u aA=>?_,M,aJ,ek⟩;have kS:j<T.size:=by rw[<-M];exact(aR.1 aA).1
    have:=u3 j kS;rw[aA,Go.Deep.add_add]at this;exact this
   have s:a.spot=none:=by obtain⟨cs,d,A,J,_⟩:=K 0 (by omega);have:=A 0 _ (aN (by omega));unfold World.cell? at this;split at this;split at this;cases this;rename_i aj;simpa[Addr.add]using aj;cases this
   obtain⟨ab,v,aOZ⟩:=a;simp only at s;subst s;obtain⟨l,xs,A,J,ar,a7⟩:=amh (T:=T) (F:=iK [] W) (W:=W) (b:=ab) (o:=v) (R:=R) c (λ i z=>by obtain⟨cs,d,c1,_,c3,c4⟩:=K i z;exact⟨cs,d,λ j u aA=>by have:=c1 j u aA;rw[lR]at this;simpa[kb]using this,c3,c4⟩)
   subst A;refine⟨l,⟨_,m,rfl,U,G,λ h=>(by cases h),λ _=>⟨rfl,⟨by simp,?_⟩,xs,J,ar⟩⟩,q,a7⟩;have eC:MemPlace.cell ab v∈x.2:=by rw[f,cf];left;have:0<m*P.cellsOf e:=Nat.mul_pos (by omega) (by omega);simp only[MemPlace.row,hQ,kF];exact⟨0,this,by simp⟩
   exact C _ eC
theorem aj5{m:Nat}:∀ {a:List TypeId}{l:List (DataW H)}{j:Nat}{u:TypeId}{d:DataW H},a[j]? =some u->l[j]? =some d->m∈d.weights P u->m∈DataW.weightsEach P a l
 |[],_,j,_,_,h,_,_=>by simp at h
 |_::_,[],j,_,_,_,h,_=>by simp at h
 |t::a,x::l,0,u,d,b,J,c=>by simp only[ee,aF]at b J;subst b;subst J;simp only[DataW.weightsEach,cf];exact .inl c
 |t::a,x::l,j+1,u,d,b,J,c=>by simp only[DataW.weightsEach,cf];exact .inr (aj5 (j:=j) (by simpa using b) (by simpa using J) c)
theorem pZ{cm:Array Go.Field}{W:World}{n:Nat}{cs:List Value}{x:DataW H×List MemPlace}(b:P.underlying t=some (.struct cm))(h:DataW.trod enc P W 0 (λ _=>true) true n t cs=some x)(g:∀p∈x.2,p.block<W.heap.size)(i:∀m∈x.1.weights P t,m<=N) :
 ∃a,cs.length=P.cellsOf t/\∀(j:Nat)(f:Go.Field),cm[j]? =some f->∃y,DataW.trod enc P W 0 (λ _=>true) true a f.type ((cs.drop f.offset).take (P.cellsOf f.type))=some y/\(∀p∈y.2,p.block<W.heap.size)/\(∀m∈y.1.weights P f.type,m<=N):=by
 obtain⟨ys,a,_,c,k,l,o⟩:=DataW.trod_struct b h
 refine⟨a,k,λ j f aA=>?_⟩
 have s:j<cm.size:=(gz.1 aA).1
 have hy:ys[j]? =some (ys[j]'(by omega)):=aN _
 refine⟨ys[j]'(by omega),by rw[o j f aA,hy],λ p q=>g p ?_,λ m r=>i m ?_⟩
 ·rw[c];exact hN.2 ⟨_,hj _,q⟩
 ·rw[c];simp only[DataW.weights,b];refine aj5 (j:=j) (u:=f.type) (d:=(ys[j]'(by omega)).1) ?_ ?_ r;rw[jv,hR,aA];rfl;rw[jv,hy];rfl
theorem fR{cm:Array Go.Field}{W:World}{b:Nat}{cs:List Value}(ad:∀(j:Nat)(f:Go.Field),cm[j]? =some f->∃y,DataW.trod enc P W 0 (λ _=>true) true b f.type ((cs.drop f.offset).take (P.cellsOf f.type))=some y/\(∀p∈y.2,p.block<W.heap.size)/\(∀m∈y.1.weights P f.type,m<=N))
 (j:Nat){f:Go.Field}(aA:cm[j]? =some f){t off k:Nat}(c:f.type=t)(g:f.offset=off)(h:P.cellsOf t=k){r:List Value}(i:(cs.drop off).take k=r):∃y,DataW.trod enc P W 0 (λ _=>true) true b t r=some y/\(∀p∈y.2,p.block<W.heap.size)/\(∀m∈y.1.weights P t,m<=N):=by
 obtain⟨y,a,J,d⟩:=ad j f aA
 rw[c,g]at a
 rw[c]at d
 rw[h,i]at a
 exact⟨y,a,J,d⟩
theorem ad_{v:Array Value}{l:List Value}(h:(Value.agg v).cells.toList=l):v=l.toArray:=by have h:v.toList=l:=h;rw[<-h]
theorem T3{α:Type}{T:dm α}{R:α->Prop}{W:World}{v:Value}{d:DataW H}{ps:List MemPlace}(a:h_ P enc N t T R)(h:DataW.Trod enc P W 0 (λ _=>true) true t v d ps)(b:∀p∈ps,p.block<W.heap.size)(c:∀m∈d.weights P t,m<=N):∃d',T.rd (iK [] W) W v.cells.toList d'/\R d':=by obtain⟨n,f⟩:=h;exact a W n _ _ f b c
end
inductive oG
 |i (k:IntKind)
 |b
 |s
 |cx
def oG.ok(P:Program)(t:TypeId):oG->Prop
 | .i k=>P.underlying t=some (.int k)
 | .b=>P.underlying t=some .bool
 | .s=>P.underlying t=some .string
 | .cx=>∃e,P.underlying t=some (.slice e)
structure np where
 pw:List (Nat×oG)
 pZ:List (Nat×Nat×Nat)
 L7:List (Nat×Option Nat)
def abD(P:Program):List (Nat×oG)->Prop
 |[]=>True
 |p::r=>p.2.ok P p.1/\abD P r
def Tv(P:Program)(s j off:Nat):Prop:=∃cm f sz,P.underlying s=some (.struct cm)/\cm[j]? =some f/\f.offset=off/\sz≠0/\∀w,(Go.sizeOf f.type).run P w= .ok sz w
def Vf(P:Program):List (Nat×Nat×Nat)->Prop
 |[]=>True
 |p::r=>Tv P p.1 p.2.1 p.2.2/\Vf P r
def ad6(P:Program)(t:Nat):Option Nat->Prop
 |none=>∀w,(isAgg t).run P w= .ok false w
 |some n=>(∀w,(isAgg t).run P w= .ok true w)/\∀w,(Go.sizeOf t).run P w= .ok n w
def abe(P:Program):List (Nat×Option Nat)->Prop
 |[]=>True
 |p::r=>ad6 P p.1 p.2/\abe P r
structure uy (P:Program) (G:np):Prop where
 pw:abD P G.pw
 pZ:Vf P G.pZ
 L7:abe P G.L7
theorem eR{P:Program}{s j off sz:Nat}{cm:Array Go.Field}{f:Go.Field}(h:P.underlying s=some (.struct cm))(ad:cm[j]? =some f)(a:f.offset=off)(aj:∀w,(Go.sizeOf f.type).run P w= .ok sz w)(b:cj sz 0=false):Tv P s j off:=⟨cm,f,sz,h,ad,a,(λ e=>by subst e;simp at b),aj⟩
def qh{β:Type}:List (Nat×β)->Nat->Option β
 |[],_=>none
 |p::r,t=>match cj p.1 t with
  |true=>some p.2
  |false=>qh r t
def Lb:List (Nat×Nat×Nat)->Nat->Nat->Option Nat
 |[],_,_=>none
 |p::r,s,j=>match cj p.1 s&&cj p.2.1 j with
  |true=>some p.2.2
  |false=>Lb r s j
theorem E9{P:Program}{l:List (Nat×oG)}(h:abD P l){t:Nat}{k:oG}(a:qh l t=some k):k.ok P t:=by
 induction l with
 |nil=>simp[qh]at a
 |cons p r b=>
  simp only[qh]at a;cases ag:cj p.1 t with
  |true=>rw[ag]at a;simp only[aF]at a;rw[<-bd ag,<-a];exact h.1
  |false=>rw[ag]at a;exact b h.2 a
theorem amJ{P:Program}{l:List (Nat×Option Nat)}(h:abe P l){t:Nat}{k:Option Nat}(a:qh l t=some k):ad6 P t k:=by
 induction l with
 |nil=>simp[qh]at a
 |cons p r b=>
  simp only[qh]at a;cases ag:cj p.1 t with
  |true=>rw[ag]at a;simp only[aF]at a;rw[<-bd ag,<-a];exact h.1
  |false=>rw[ag]at a;exact b h.2 a
theorem ayn{P:Program}{l:List (Nat×Nat×Nat)}(h:Vf P l){s j off:Nat}(a:Lb l s j=some off):Tv P s j off:=by
 induction l with
 |nil=>simp[Lb]at a
 |cons p r b=>
  simp only[Lb]at a;cases ag:cj p.1 s&&cj p.2.1 j with
  |true=>rw[ag]at a;simp only[aF]at a;simp only[cd]at ag;rw[<-bd ag.1,<-bd ag.2,<-a];exact h.1
  |false=>rw[ag]at a;exact b h.2 a
def kq(w:World):List (Nat×Nat×List Value)->Prop
 |[]=>True
 |m::r=>fy w ⟨m.1,m.2.1,none⟩ m.2.2/\kq w r
theorem gX{w:World}:kq w []:=trivial
theorem hF{w:World}{b p:Nat}{cs:List Value}{M:List (Nat×Nat×List Value)}(h:fy w ⟨b,p,none⟩ cs)(k:kq w M):kq w ((b,p,cs)::M):=⟨h,k⟩
theorem aj2{w:World}{M:List (Nat×Nat×List Value)}(h:kq w M){i b p:Nat}{cs:List Value}(hi:M[i]? =some (b,p,cs)):fy w ⟨b,p,none⟩ cs:=by
 induction M generalizing i with
 |nil=>simp at hi
 |cons m r a=>
  cases i with
  |zero=>simp only[ee,aF]at hi;subst hi;exact h.1
  |succ i=>exact a h.2 (by simpa using hi)
theorem lT{w:World}{g:Nat}{t:TypeId}{cs:List Value}(h:(bc.cp g t cs).ok w):fy w ⟨g,0,none⟩ cs:=λ j u aA=>by have:=zK h aA;simpa using this
structure hn where
 t:Nat
 j:Nat
 want:Bool
 v:Value
def E2:List (Nat×Value)->Nat->List (Nat×Value)
 |[],_=>[]
 |p::r,d=>match cj p.1 d with
  |true=>E2 r d
  |false=>p::E2 r d
def tS:List hn->Nat->List hn
 |[],_=>[]
 |p::r,d=>match cj p.t d||cj p.j d with
  |true=>tS r d
  |false=>p::tS r d
def DJ:List (Nat×Bool)->Nat->Bool->Bool
 |[],_,_=>false
 |p::r,j,b=>(cj p.1 j&&(p.2==b))||DJ r j b
def Lc:List hn->List (Nat×Bool)->Nat->Option Value
 |[],_,_=>none
 |p::r,cur,t=>match cj p.t t&&DJ cur p.j p.want with
  |true=>some p.v
  |false=>Lc r cur t
def nE(a:Act):List hn->Prop
 |[]=>True
 |p::r=>(a.tmps.getD p.j undef= .bool p.want->a.tmps.getD p.t undef=p.v)/\nE a r
def kf(a:Act):List (Nat×Bool)->Prop
 |[]=>True
 |p::r=>a.tmps.getD p.1 undef= .bool p.2/\kf a r
theorem ahM{a:Act}{cur:List (Nat×Bool)}(h:kf a cur){j:Nat}{b:Bool}(bA:DJ cur j b=true):a.tmps.getD j undef= .bool b:=by
 induction cur with
 |nil=>simp[DJ]at bA
 |cons p r c=>simp only[DJ,h3,cd,beq_iff_eq]at bA;rcases bA with⟨d,J⟩|bA;rw[<-bd d,<-J];exact h.1;exact c h.2 bA
theorem aEE{a:Act}{gs:List hn}(h:nE a gs){cur:List (Nat×Bool)}(hc:kf a cur){t:Nat}{v:Value}(b:Lc gs cur t=some v):a.tmps.getD t undef=v:=by
 induction gs with
 |nil=>simp[Lc]at b
 |cons p r c=>
  simp only[Lc]at b;cases ag:cj p.t t&&DJ cur p.j p.want with
  |true=>rw[ag]at b;simp only[aF]at b;simp only[cd]at ag;rw[<-bd ag.1,<-b];exact h.1 (ahM hc ag.2)
  |false=>rw[ag]at b;exact c h.2 b
def iH(fr:List (Nat×Value))(gs:List hn)(cur:List (Nat×Bool)):Operand->Option Value
 | .const v=>some v
 | .global g=>some (.pointer (some ⟨g,0,none⟩))
 | .tmp t=>match ey fr t with
   |some v=>some v
   |none=>Lc gs cur t
 | .func _=>none
theorem Qz{n:cG}{fr:List (Nat×Value)}{gs:List hn}{cur:List (Nat×Bool)}{a:Act}(ad:Fr n fr a)(c:nE a gs)(hc:kf a cur){x:Operand}{v:Value}(h:iH fr gs cur x=some v):a.eval x=v:=by
 cases x with
 |const u=>simp only[iH,aF]at h;rw[<-h];rfl
 |global g=>simp only[iH,aF]at h;rw[<-h];rfl
 |func f=>simp[iH]at h
 |tmp t=>
  simp only[iH]at h;cases b:ey fr t with
  |some u=>rw[b]at h;simp only[aF]at h;rw[<-h];exact ad.g b
  |none=>rw[b]at h;exact aEE c hc h
def HI(fr:List (Nat×Value))(gs:List hn)(cur:List (Nat×Bool)):List Operand->Option (List Value)
 |[]=>some []
 |x::r=>match iH fr gs cur x,HI fr gs cur r with
  |some v,some vs=>some (v::vs)
  |_,_=>none
theorem Zd{n:cG}{fr:List (Nat×Value)}{gs:List hn}{cur:List (Nat×Bool)}{a:Act}(ad:Fr n fr a)(b:nE a gs)(hc:kf a cur):∀ {xs:List Operand}{vs:List Value},HI fr gs cur xs=some vs->xs.map a.eval=vs
 |[],vs,h=>by simp only[HI,aF]at h;subst h;rfl
 |x::r,vs,h=>by simp only[HI]at h;split at h;rename_i v us c J;simp only[aF]at h;subst h;rw[ez,Qz ad b hc c,Zd ad b hc J];cases h
def KY:Operand->Bool
 | .const (.int _ n)=>n !=0
 |_=>false
def nQ:IntKind->IntKind->Bool
 | .i64,.i64 | .u8,.u8 | .i32,.i32 | .u64,.u64 | .u32,.u32 | .u16,.u16 | .i16,.i16 | .i8,.i8=>true
 |_,_=>false
theorem qd{j k:IntKind}(h:nQ j k=true):j=k:=by cases j<;>cases k<;>simp_all [nQ]
def mN(k:IntKind):Bool:=nQ k .i64
theorem mO{k:IntKind}(h:mN k=true):k= .i64:=qd h
def aet(a:Option oG)(gF:Bool)(op:BinOp)(j k:IntKind)(m n:Int):Option Value:=
 match op with
 | .add=>match mN j&&mN k with|true=>some (.int .i64 (aw (m+n)))|false=>none
 | .sub=>match mN j&&mN k with|true=>some (.int .i64 (aw (m-n)))|false=>none
 | .mul=>match mN j&&mN k with|true=>some (.int .i64 (aw (m*n)))|false=>none
 | .quo=>match mN j&&mN k&&gF with|true=>some (.int .i64 (aw (m.tdiv n)))|false=>none
 | .rem=>match mN j&&mN k&&gF with|true=>some (.int .i64 (m.tmod n))|false=>none
 | .or=>match mN j&&mN k with|true=>some (.int .i64 (Zh m n))|false=>none
 | .and=>match mN j&&mN k with|true=>some (.int .i64 (T1 m n))|false=>none
 | .lss=>match nQ j k with|true=>some (.bool (decide (m<n)))|false=>none
 | .leq=>match nQ j k with|true=>some (.bool (decide (m<=n)))|false=>none
 | .gtr=>match nQ j k with|true=>some (.bool (decide (n<m)))|false=>none
 | .geq=>match nQ j k with|true=>some (.bool (decide (n<=m)))|false=>none
 | .eql=>match a with
   |some (.i i)=>match nQ i j&&nQ j k with|true=>some (.bool (decide (m=n)))|false=>none
   |_=>none
 | .neq=>match a with
   |some (.i i)=>match nQ i j&&nQ j k with|true=>some (.bool (!decide (m=n)))|false=>none
   |_=>none
 |_=>none
def aeu(a:Option oG)(op:BinOp)(p q:List UInt8):Option Value:=
 match op,a with
 | .eql,some .s=>some (.bool (decide (p=q)))
 | .neq,some .s=>some (.bool (!decide (p=q)))
 |_,_=>none
def aes(a:Option oG)(op:BinOp)(p q:Bool):Option Value:=
 match op,a with
 | .eql,some .b=>some (.bool (p==q))
 | .neq,some .b=>some (.bool (!(p==q)))
 |_,_=>none
def bin(a:Option oG)(gF:Bool)(op:BinOp):Value->Value->Option Value
 | .int j m,.int k n=>aet a gF op j k m n
 | .string ⟨⟨p⟩⟩,.string ⟨⟨q⟩⟩=>aeu a op p q
 | .bool p,.bool q=>aes a op p q
 |_,_=>none
section
variable{P:Program}{o:Oper}{a:Act}{w:World}{x y:Operand}{t t':TypeId}
theorem aev{l:Option oG}(e:∀k,l=some k->k.ok P t){gF:Bool}(s:gF=true->∀k n,a.eval y= .int k n->n≠0){op:BinOp}{u v r:Value}(h:bin l gF op u v=some r)(c:o.op= .binOp op t x y t')(d:a.eval x=u)(hy:a.eval y=v):bh P o a w r w:=by
 unfold bin at h;split at h
 ·rename_i j m k n;unfold aet at h;split at h
  case h_1=>
   split at h
   ·rename_i ag;simp only[cd]at ag;obtain⟨b,J⟩:=ag;have b:=mO b;have J:=mO J;subst b;subst J;simp only[aF]at h;subst h;exact ado c d hy
   ·cases h
  case h_2=>
   split at h
   ·rename_i ag;simp only[cd]at ag;obtain⟨b,J⟩:=ag;have b:=mO b;have J:=mO J;subst b;subst J;simp only[aF]at h;subst h;exact aqn c d hy
   ·cases h
  case h_3=>
   split at h
   ·rename_i ag;simp only[cd]at ag;obtain⟨b,J⟩:=ag;have b:=mO b;have J:=mO J;subst b;subst J;simp only[aF]at h;subst h;exact aOx c d hy
   ·cases h
  case h_4=>
   split at h
   ·rename_i ag;simp only[cd]at ag;obtain⟨⟨b,J⟩,f⟩:=ag;have b:=mO b;have J:=mO J;subst b;subst J;simp only[aF]at h;subst h;have g:=s f _ _ hy;exact aqk c d hy (by rw[hh,decide_eq_false_iff_not];exact g)
   ·cases h
  case h_5=>
   split at h
   ·rename_i ag;simp only[cd]at ag;obtain⟨⟨b,J⟩,f⟩:=ag;have b:=mO b;have J:=mO J;subst b;subst J;simp only[aF]at h;subst h;have g:=s f _ _ hy;exact aql c d hy (by rw[hh,decide_eq_false_iff_not];exact g)
   ·cases h
  case h_6=>
   split at h
   ·rename_i ag;simp only[cd]at ag;obtain⟨b,J⟩:=ag;have b:=mO b;have J:=mO J;subst b;subst J;simp only[aF]at h;subst h;exact aOC c d hy
   ·cases h
  case h_7=>
   split at h
   ·rename_i ag;simp only[cd]at ag;obtain⟨b,J⟩:=ag;have b:=mO b;have J:=mO J;subst b;subst J;simp only[aF]at h;subst h;exact aOd c d hy
   ·cases h
  case h_8=>
   split at h
   ·rename_i ag;have ag:=qd ag;subst ag;simp only[aF]at h;subst h;exact aOu c d hy
   ·cases h
  case h_9=>
   split at h
   ·rename_i ag;have ag:=qd ag;subst ag;simp only[aF]at h;subst h;exact aOt c d hy
   ·cases h
  case h_10=>
   split at h
   ·rename_i ag;have ag:=qd ag;subst ag;simp only[aF]at h;subst h;exact aqe c d hy
   ·cases h
  case h_11=>
   split at h
   ·rename_i ag;have ag:=qd ag;subst ag;simp only[aF]at h;subst h;exact aOp c d hy
   ·cases h
  case h_12=>
   split at h
   ·rename_i i;have hi:=e _ rfl;split at h;rename_i ag;simp only[cd]at ag;have b:=qd ag.1;have J:=qd ag.2;subst b;subst J;simp only[aF]at h;subst h;exact aOn hi c d hy;cases h
   ·cases h
  case h_13=>
   split at h
   ·rename_i i;have hi:=e _ rfl;split at h;rename_i ag;simp only[cd]at ag;have b:=qd ag.1;have J:=qd ag.2;subst b;subst J;simp only[aF]at h;subst h;exact aOz hi c d hy;cases h
   ·cases h
  case h_14=>cases h
 ·rename_i p q;unfold aeu at h;split at h;simp only[aF]at h;subst h;exact aOo (e _ rfl) c d hy;simp only[aF]at h;subst h;exact aOA (e _ rfl) c d hy;cases h
 ·rename_i p q;unfold aes at h;split at h;simp only[aF]at h;subst h;exact aOm (e _ rfl) c d hy;simp only[aF]at h;subst h;exact aOy (e _ rfl) c d hy;cases h
 ·cases h
end
def nth{α:Type}:List α->Nat->Option α
 |[],_=>none
 |x::_,0=>some x
 |_::r,i+1=>nth r i
theorem dj{α:Type}:∀(l:List α)(i:Nat),nth l i=l[i]?
 |[],i=>by simp[nth]
 |x::r,0=>rfl
 |x::r,i+1=>by simp[nth,dj r i]
def XX:Operand->Bool
 | .const (.bool b)=>b
 |_=>false
def XT:Operand->Bool
 | .const (.bool b)=>!b
 |_=>false
def QF(x y:Operand)(b:Bool):Value->Value->Option Value
 | .bool p,.bool q=>match XX x with
   |true=>some (.bool (b||q))
   |false=>match XT y with
    |true=>some (.bool (b&&p))
    |false=>some (.bool (cond b p q))
 | .int j m,.int k n=>match nQ j k with
   |true=>some (.int j (cond b m n))
   |false=>none
 | .string ⟨⟨p⟩⟩,.string ⟨⟨q⟩⟩=>some (cy (cond b p q))
 |_,_=>none
theorem aCs{a:Act}{x:Operand}(h:XX x=true):a.eval x= .bool true:=by unfold XX at h;split at h;subst h;rfl;cases h
theorem aCn{a:Act}{x:Operand}(h:XT x=true):a.eval x= .bool false:=by
 unfold XT at h;split at h
 ·rename_i b;have:b=false:=by simpa using h
  subst this;rfl
 ·cases h
theorem ak3{a:Act}{x y:Operand}{b:Bool}{u v r:Value}(h:QF x y b u v=some r)(c:b=true->a.eval x=u)(hy:b=false->a.eval y=v):(if b then a.eval x else a.eval y)=r:=by
 unfold QF at h;split at h
 ·rename_i p q;split at h
  ·rename_i d;simp only[aF]at h;subst h;cases b with
   |true=>rw[nf rfl,aCs d];rfl
   |false=>rw[nc (by simp),hy rfl];rfl
  ·split at h
   ·rename_i ad;simp only[aF]at h;subst h;cases b with
    |true=>rw[nf rfl,c rfl];rfl
    |false=>rw[nc (by simp),aCn ad];rfl
   ·simp only[aF]at h;subst h;cases b with
    |true=>rw[nf rfl,c rfl];rfl
    |false=>rw[nc (by simp),hy rfl];rfl
 ·split at h
  ·rename_i e;have:=qd e;subst this;simp only[aF]at h;subst h;cases b with
   |true=>rw[nf rfl,c rfl];rfl
   |false=>rw[nc (by simp),hy rfl];rfl
  ·cases h
 ·simp only[aF]at h;subst h;cases b with
  |true=>rw[nf rfl,c rfl];rfl
  |false=>rw[nc (by simp),hy rfl];rfl
 ·cases h
abbrev Out:=Value×List Nat×List (Nat×Nat)
def ma(aj:List Nat)(v:Value):Option Out:=some (v,aj,[])
def GB(G:np)(M:List (Nat×Nat×List Value))(t m a:Nat)(aj:List Nat)(c dn:Nat):Option Out:=
 match nth M m,qh G.L7 t with
 |some (b,off,cs),some none=>match nth cs a with
  |some v=>some (v,aj,[(c,b),(dn,off+a)])
  |none=>none
 |some (b,off,cs),some (some n)=>match jw (a+n) cs.length with
  |true=>some (.agg ((cs.drop a).take n).toArray,aj,[(c,b),(dn,off+a)])
  |false=>none
 |_,_=>none
def agy(G:np)(s d:Nat)(aj:List Nat):Value->Option Out
 | .int k m=>match mN k,qh G.pw s,qh G.pw d with
   |true,some (.i .i64),some (.i .i64)=>ma aj (.int .i64 (aw m))
   |true,some (.i .i64),some (.i .u8)=>ma aj (.int .u8 ((kN m).toNat:Int))
   |_,_,_=>none
 |_=>none
def agB(G:np)(t:Nat)(aj:List Nat):Value->Option Out
 | .string ⟨⟨p⟩⟩=>match qh G.pw t with
   |some .s=>ma aj (.int .i64 (p.length:Int))
   |_=>none
 | .slice _ n _=>match qh G.pw t with
   |some .cx=>ma aj (.int .i64 (n:Int))
   |_=>none
 |_=>none
def agE(fr:List (Nat×Value))(gs:List hn)(cur:List (Nat×Bool))(c x y:Operand):List Nat->Option Out
 |0::aj=>match c with
  | .tmp a=>match iH fr gs cur (.tmp a),iH fr gs ((a,true)::cur) x,iH fr gs ((a,false)::cur) y with
    |some (.bool b),some u,some v=>match QF x y b u v with
     |some r=>ma aj r
     |none=>none
    |_,_,_=>none
  |_=>none
 |_::aj=>match iH fr gs cur c with
  |some (.bool b)=>match b with
   |true=>match iH fr gs cur x with|some v=>ma aj v |none=>none
   |false=>match iH fr gs cur y with|some v=>ma aj v |none=>none
  |_=>none
 |[]=>none
def sO(G:np)(M:List (Nat×Nat×List Value))(aj:List Nat)(fr:List (Nat×Value))(gs:List hn)(cur:List (Nat×Bool)):Op->Option Out
 | .move x=>match iH fr gs cur x with|some v=>ma aj v |none=>none
 | .assign x=>match iH fr gs cur x with|some v=>ma aj v |none=>none
 | .pick c x y=>agE fr gs cur c x y aj
 | .binOp op t x y _=>match iH fr gs cur x,iH fr gs cur y with
   |some u,some v=>match bin (qh G.pw t) (KY y) op u v with
    |some r=>ma aj r
    |none=>none
   |_,_=>none
 | .unOp .not _ x=>match iH fr gs cur x with
   |some (.bool p)=>ma aj (.bool (!p))
   |_=>none
 | .convert s d x=>match iH fr gs cur x with
   |some v=>agy G s d aj v
   |none=>none
 | .load t x=>match iH fr gs cur x,aj with
   |some (.pointer (some ⟨e,dn,none⟩)),m::a::f=>GB G M t m a f e dn
   |_,_=>none
 | .fieldAddr s x j=>match iH fr gs cur x,Lb G.pZ s j with
   |some (.pointer (some ⟨b,p,none⟩)),some off=>ma aj (.pointer (some ⟨b,p+off,none⟩))
   |_,_=>none
 | .nilCheck x=>match iH fr gs cur x with
   |some (.pointer (some p))=>ma aj (.pointer (some p))
   |_=>none
 | .extract x i=>match iH fr gs cur x with
   |some (.tuple ⟨vs⟩)=>match nth vs i with
    |some v=>ma aj v
    |none=>none
   |_=>none
 | .makeFunc fn ⟨xs⟩ ⟨ys⟩=>match HI fr gs cur xs,HI fr gs cur ys with
   |some us,some vs=>ma aj (.func fn us.toArray vs.toArray)
   |_,_=>none
 | .call ⟨.builtin .len,⟨[x]⟩,⟨[t]⟩⟩=>match iH fr gs cur x with
   |some v=>agB G t aj v
   |none=>none
 |_=>none
theorem nP{aj a:List Nat}{u v:Value}{l:List (Nat×Nat)}(h:ma aj u=some (v,a,l)):u=v:=by simp only[ma,aF,cB]at h;exact h.1
def oS:List (Nat×Nat)->Prop
 |[]=>True
 |p::r=>p.1=p.2/\oS r
section
variable{P:Program}{G:np}{M:List (Nat×Nat×List Value)}{w:World}{a:Act}{o:Oper}
theorem agx{n:cG}{fr:List (Nat×Value)}{gs:List hn}{cur:List (Nat×Bool)}{aj T:List Nat}{v:Value}{l:List (Nat×Nat)}(ec:uy P G)(L:kq w M)(ad:Fr n fr a)(D:nE a gs)(hc:kf a cur)
 {op:Op}(q:o.op=op)(h:sO G M aj fr gs cur op=some (v,T,l))(N:oS l):bh P o a w v w:=by
 have opn:∀ {x:Operand}{u:Value},iH fr gs cur x=some u->a.eval x=u:=λ z=>Qz ad D hc z
 unfold sO at h
 split at h
 ·split at h;rename_i z;rw[<-nP h];exact wu q (opn z);cases h
 ·split at h;rename_i z;rw[<-nP h];exact y2 q (opn z);cases h
 ·rename_i c x y;unfold agE at h;split at h
  ·split at h
   ·rename_i I;split at h
    ·rename_i b u O g J A;split at h
     ·rename_i r K;rw[<-nP h];have F:a.eval (.tmp I)= .bool b:=opn g;have z:b=true->a.eval x=u:=λ ag=>Qz ad D (show kf a ((I,true)::cur) from⟨by subst ag;exact F,hc⟩) J;have hy:b=false->a.eval y=O:=λ ag=>Qz ad D (show kf a ((I,false)::cur) from⟨by subst ag;exact F,hc⟩) A;have Q:=ak3 (a:=a) K z hy;cases b with
      |true=>exact SY q F (by simpa using Q)
      |false=>exact SX q F (by simpa using Q)
     ·cases h
    ·cases h
   ·cases h
  ·split at h;rename_i b g;split at h;split at h;rename_i u J;rw[<-nP h];exact SY q (opn g) (opn J);cases h;split at h;rename_i u J;rw[<-nP h];exact SX q (opn g) (opn J);cases h;cases h
  ·cases h
 ·rename_i op t x y t';split at h;rename_i u O g J;split at h;rename_i r K;rw[<-nP h];refine aev (λ k U=>E9 ec.pw U) (λ H k n R=>?_) K q (opn g) (opn J);unfold KY at H;split at H;rename_i k' S;have:a.eval (.const (.int k' S))= .int k' S:=rfl;rw[this]at R;injection R with _ e;subst e;simpa using H;cases H;cases h;cases h
 ·rename_i x;split at h;rename_i p g;rw[<-nP h];exact aqj q (opn g);cases h
 ·rename_i s d x;split at h;rename_i u g;unfold agy at h;split at h;rename_i k m;split at h;rename_i J A C;have:=mO J;subst this;rw[<-nP h];exact aOh (E9 ec.pw A) (E9 ec.pw C) q (opn g);rename_i J A C;have:=mO J;subst this;rw[<-nP h];exact aOi (E9 ec.pw A) (E9 ec.pw C) q (opn g);cases h;cases h;cases h
 ·rename_i t x;split at h;rename_i Lx dn m E km g;have z:=opn g;unfold GB at h;split at h;rename_i b off cs J A;split at h;rename_i u C;simp only[aF,cB]at h;obtain⟨rfl,_,rfl⟩:=h;obtain⟨B,ao,_⟩:=N;simp only at B ao;subst B;subst ao;rw[dj]at J C;exact y3 (amJ ec.L7 A) q z (aj2 L J E u C);cases h;rename_i b off cs k J A;split at h;rename_i ag;simp only[aF,cB]at h;obtain⟨rfl,_,rfl⟩:=h;obtain⟨B,ao,_⟩:=N;simp only at B ao;subst B;subst ao;rw[dj]at J;have aj:=amJ ec.L7 A;have V:=cJ ag;refine aqh aj.1 aj.2 (by simp;omega) q z (λ j u aA=>?_);have W:=aj2 L J;rw[hx]at aA;split at aA;rw[iF]at aA;have:=W (E+j) u aA;simpa[kb]using this;cases aA;cases h;cases h;cases h
 ·rename_i s x j;split at h;rename_i b p off g J;rw[<-nP h];obtain⟨cm,f,sz,X,Y,Z,g4,g5⟩:=ayn ec.pZ J;rw[<-Z];exact SU X Y g5 (by cases aE:cj sz 0 with|false=>rfl |true=>exact absurd (bd aE) g4) q (opn g);cases h
 ·rename_i x;split at h;rename_i p g;rw[<-nP h];exact MX q (opn g);cases h
 ·rename_i x i;split at h;rename_i vs g;split at h;rename_i u J;rw[<-nP h];rw[dj]at J;exact MW (vs:=vs) q (opn g) J;cases h;cases h
 ·rename_i fn xs ys;split at h;rename_i us vs g J;rw[<-nP h];have B:=Zd ad D hc g;have ao:=Zd ad D hc J;simp only[bh,execOp,q,Instr.makeFunc];rw[show(Array.map a.eval ⟨xs⟩)=us.toArray by rw[<-B];simp,show(Array.map a.eval ⟨ys⟩)=vs.toArray by rw[<-ao];simp];rfl;cases h
 ·rename_i x t;split at h;rename_i u g;unfold agB at h;split at h;split at h;rename_i J;rw[<-nP h];exact aqg (E9 ec.pw J) q (opn g);cases h;split at h;rename_i J;rw[<-nP h];obtain⟨e,he⟩:=E9 ec.pw J;exact aqf he q (opn g);cases h;cases h;cases h
 ·cases h
end
def J0(ops:Array Oper)(j:Nat):Option Nat:=match nth ops.toList j with
 |some o=>o.dst
 |none=>none
theorem aho{ops:Array Oper}{j bC:Nat}(h:J0 ops j=some bC):(ops[j]?).bind (·.dst)=some bC:=by unfold J0 at h;rw[dj,hR]at h;split at h;rename_i o a;rw[a];exact h;cases h
abbrev auN:=List (Nat×Value)×List hn×List (Nat×Nat)
def bZ(G:np)(ops:Array Oper)(n:Nat)(M:List (Nat×Nat×List Value)):List Oper->List Nat->List (Nat×Value)->List hn->List (Nat×Nat)->Option auN
 |[],_,fr,gs,l=>some (fr,gs,l)
 |o::rest,aj,fr,gs,l=>match o.dst with
  |none=>none
  |some d=>match fg d n with
   |false=>none
   |true=>match o.guard with
    |none=>match sO G M aj fr gs [] o.op with
     |some (v,a,l')=>bZ G ops n M rest a ((d,v)::fr) (tS gs d) (l'++l)
     |none=>none
    |some (j,want)=>match J0 ops j with
     |none=>none
     |some bC=>match fg bC n with
      |false=>none
      |true=>match aj with
       |0::a=>match cj bC d with
        |true=>none
        |false=>match sO G M a fr gs [(bC,want)] o.op with
         |some (v,c,l')=>bZ G ops n M rest c (E2 fr d) (⟨d,bC,want,v⟩::tS gs d) (l'++l)
         |none=>none
       |_::a=>match ey fr bC with
        |some (.bool b)=>match b==want with
         |true=>match sO G M a fr gs [] o.op with
          |some (v,c,l')=>bZ G ops n M rest c ((d,v)::fr) (tS gs d) (l'++l)
          |none=>none
         |false=>bZ G ops n M rest a ((d,undef)::fr) (tS gs d) l
        |some (.tuple ⟨[]⟩)=>bZ G ops n M rest a ((d,undef)::fr) (tS gs d) l
        |_=>none
       |[]=>none
def Gu(fr:List (Nat×Value)):List Nat->Option (List (Nat×Value))
 |[]=>some []
 |t::r=>match ey fr t,Gu fr r with
  |some v,some vs=>some ((t,v)::vs)
  |_,_=>none
def dup(l:List Nat):List (Nat×Nat):=l.map λ x=>(x,x)
def nC(G:np)(ops:Array Oper)(n:Nat)(M:List (Nat×Nat×List Value))(os:List Oper)(aj:List Nat)(fr:List (Nat×Value))(fi:List Nat):Option (List (Nat×Value)×List (Nat×Nat)):=
 match bZ G ops n M os aj fr [] []with
 |some (fr',_,l)=>match Gu fr' fi with
  |some k=>some (k,l)
  |none=>none
 |none=>none
theorem N2:∀l:List Nat,oS (dup l)
 |[]=>trivial
 |x::r=>⟨rfl,N2 r⟩
theorem zW:∀ {l l':List (Nat×Nat)},oS (l++l')->oS l/\oS l'
 |[],_,h=>⟨trivial,h⟩
 |_::_,_,h=>⟨⟨h.1,(zW h.2).1⟩,(zW h.2).2⟩
theorem Um{fr:List (Nat×Value)}:∀ {fi:List Nat}{k:List (Nat×Value)},Gu fr fi=some k->Mm fr k
 |[],k,h=>by simp only[Gu,aF]at h;subst h;trivial
 |t::r,k,h=>by simp only[Gu]at h;split at h;rename_i v vs a J;simp only[aF]at h;subst h;exact⟨a,Um J⟩;cases h
theorem aGE{a:Act}{n:cG}{d:Nat}{v:Value}(aj:a.tmps.size=n)(aJ:fg d n=true):(a.put (some d) v).tmps.getD d undef=v:=by have b:d<n:=cJ aJ;simp[Act.put,aj,b]
theorem QO{a:Act}{d t:Nat}{v:Value}(h:t≠d):(a.put (some d) v).tmps.getD t undef=a.tmps.getD t undef:=by simp only[Act.put,eF];rw[gm,nc (λ e=>h e.symm)]
theorem Aa{a:Act}{d:Nat}{v:Value}:∀ {gs:List hn},nE a gs->nE (a.put (some d) v) (tS gs d)
 |[],_=>trivial
 |p::r,h=>by
  simp only[tS];cases ag:cj p.t d||cj p.j d with
  |true=>exact Aa h.2
  |false=>
   simp only[ik]at ag;have b:p.t≠d:=λ e=>by rw[e]at ag;simp at ag
   have J:p.j≠d:=λ e=>by rw[e]at ag;simp at ag
   refine⟨?_,Aa h.2⟩;rw[QO b,QO J];exact h.1
theorem YA{d t:Nat}{v:Value}:∀ {fr:List (Nat×Value)},ey (E2 fr d) t=some v->t≠d/\ey fr t=some v
 |[],h=>by simp[E2,ey]at h
 |p::r,h=>by
  simp only[E2]at h;cases ag:cj p.1 d with
  |true=>
   rw[ag]at h;obtain⟨a,J⟩:=YA h;refine⟨a,?_⟩;have e:=bd ag;simp only[ey];cases hc:cj p.1 t with
   |true=>exact absurd ((bd hc).symm.trans e) a
   |false=>exact J
  |false=>
   rw[ag]at h;simp only[ey]at h⊢;cases hc:cj p.1 t with
   |true=>rw[hc]at h;refine⟨λ e=>?_,h⟩;rw[bd hc,e]at ag;simp at ag
   |false=>rw[hc]at h;exact YA h
theorem Fr.Q'{n:cG}{d:Nat}{fr:List (Nat×Value)}{a:Act}{v:Value}(ad:Fr n fr a):Fr n (E2 fr d) (a.put (some d) v):=⟨by simpa[Act.put]using ad.size,ad.defers,λ t u h=>by obtain⟨b,J⟩:=YA h;rw[QO b];exact ad.get t u J⟩
def Hl:Op->Bool
 | .load _ _=>true
 |_=>false
theorem axN{G:np}{M:List (Nat×Nat×List Value)}{aj:List Nat}{fr:List (Nat×Value)}{gs:List hn}{cur:List (Nat×Bool)}{op:Op}(h:Hl op=false):sO G M aj fr gs cur op=sO G [] aj fr gs cur op:=by
 cases op with
 |load t x=>simp[Hl]at h
 |unOp u t x=>cases u<;>rfl
 |call c=>unfold sO;split<;>first |rfl |(rename_i e;cases e;done)|(rename_i e;cases e;rfl)
 |_=>rfl
theorem UK{P:Program}{G:np}{M:List (Nat×Nat×List Value)}{C:World->Prop}{a:Act}{o:Oper}{n:cG}{fr:List (Nat×Value)}{gs:List hn}{cur:List (Nat×Bool)}{aj d:List Nat}{v:Value}{l:List (Nat×Nat)}(ec:uy P G)(e:∀w,C w->kq w M)(ad:Fr n fr a)(b:nE a gs)(hc:kf a cur)
 (h:sO G M aj fr gs cur o.op=some (v,d,l))(c:oS l):(∀w,C w->bh P o a w v w)/\(Hl o.op=false->∀w,bh P o a w v w):=
 ⟨λ w f=>agx ec (e w f) ad b hc rfl h c,λ g w=>agx ec (M:=[]) trivial ad b hc rfl (by rw[<-axN g];exact h) c⟩
theorem anB{ops:Array Oper}{o:Oper}{a:Act}{n:cG}{l:List (Nat×Value)}{j bC:Nat}{want:Bool}(ad:Fr n l a)(c:o.guard=some (j,want))(aA:(ops[j]?).bind (·.dst)=some bC)(d:fg bC n=true) :
 Region.wanted o (yielded ops a.tmps)=true↔a.tmps.getD bC undef= .bool want:=by
 have e:bC<n:=cJ d
 have aj:=ad.size
 have J:a.tmps[bC]? =some (a.tmps.getD bC undef):=by rw[jz (by omega)];simp[eF,aj,e]
 simp only[Region.wanted,c,yielded,aA,ae,J,beq_iff_eq]
 constructor
 ·intro h;split at h;rename_i b ag;simp only[aF]at h ag;rw[ag,h];cases h
 ·intro h;rw[h]
def auW(P:Program)(ops:Array Oper)(C:World->Prop)(o:Oper)(d:Nat)(a:Act)(u:Value):Prop:=o.dst=some d/\((Region.wanted o (yielded ops a.tmps)=true/\(∀w,C w->bh P o a w u w)/\(Hl o.op=false->∀w,bh P o a w u w))\/(Region.wanted o (yielded ops a.tmps)=false/\u=undef))
section
variable{P:Program}{G:np}{ops:Array Oper}{n:cG}{M:List (Nat×Nat×List Value)}{C:World->Prop}
theorem U6(ec:uy P G)(z:∀w,C w->kq w M){o:Oper}{rest:List Oper}{aj:List Nat}{fr:List (Nat×Value)}{gs:List hn}{l t:List (Nat×Nat)}{gK:List (Nat×Value)}{A:List hn}{a:Act}
 (ad:Fr n fr a)(c:nE a gs)(h:bZ G ops n M (o::rest) aj fr gs l=some (gK,A,t))(K:oS t)
 (B:∀ {os:List Oper}{aj:List Nat}{fr:List (Nat×Value)}{gs:List hn}{l:List (Nat×Nat)},bZ G ops n M os aj fr gs l=some (gK,A,t)->oS l) :
 ∃d u f fr' E l',auW P ops C o d a u/\Fr n fr' (a.put (some d) u)/\nE (a.put (some d) u) E/\bZ G ops n M rest f fr' E l'=some (gK,A,t):=by
 rw[bZ]at h
 split at h
 ·cases h
 ·rename_i d aJ;split at h;cases h
  ·rename_i i;split at h;rename_i g;split at h;rename_i v f l' k;have m:=(zW (B h)).1;exact⟨d,v,f,_,_,_,⟨aJ,.inl ⟨RP g,UK (cur:=[]) ec z ad c trivial k m⟩⟩,ad.put i,Aa c,h⟩;cases h
   ·rename_i j want g;split at h;cases h
    ·rename_i bC H;have p:=aho H;split at h;cases h
     ·rename_i r;split at h
      ·rename_i f;split at h;cases h
       ·rename_i F;split at h
        ·rename_i v x l' k;have m:=(zW (B h)).1;have I:bC≠d:=λ e=>by rw[e]at F;simp at F
         by_cases y:a.tmps.getD bC undef= .bool want;refine⟨d,v,x,_,_,_,⟨aJ,.inl ⟨(anB ad g p r).2 y,UK (cur:=[(bC,want)]) ec z ad c ⟨y,trivial⟩ k m⟩⟩,ad.Q',(show nE (a.put (some d) v) (⟨d,bC,want,v⟩::tS gs d) from⟨λ _=>aGE ad.size i,Aa c⟩),h⟩;refine⟨d,undef,x,_,_,_,⟨aJ,.inr ⟨by rw[gQ];exact λ J=>y ((anB ad g p r).1 J),rfl⟩⟩,ad.Q',(show nE (a.put (some d) undef) (⟨d,bC,want,v⟩::tS gs d) from⟨λ D=>?_,Aa c⟩),h⟩;simp only at D;rw[QO I]at D;exact absurd D y
        ·cases h
      ·rename_i q f L;split at h
       ·rename_i b ag;split at h
        ·rename_i s;have s:b=want:=by simpa using s
         subst s;split at h;rename_i v x l' k;have m:=(zW (B h)).1;exact⟨d,v,x,_,_,_,⟨aJ,.inl ⟨aK_ ad g p ag r,UK (cur:=[]) ec z ad c trivial k m⟩⟩,ad.put i,Aa c,h⟩;cases h
        ·rename_i s;exact⟨d,undef,f,_,_,_,⟨aJ,.inr ⟨aK9 ad g p ag s r,rfl⟩⟩,ad.put i,Aa c,h⟩
       ·rename_i ag;exact⟨d,undef,f,_,_,_,⟨aJ,.inr ⟨aK' ad g p ag r,rfl⟩⟩,ad.put i,Aa c,h⟩
       ·cases h
      ·cases h
theorem zX{gK:List (Nat×Value)}{c:List hn}{b:List (Nat×Nat)}(a:oS b):∀ {os:List Oper}{aj:List Nat}{fr:List (Nat×Value)}{gs:List hn}{l:List (Nat×Nat)},bZ G ops n M os aj fr gs l=some (gK,c,b)->oS l
 |[],aj,fr,gs,l,h=>by simp only[bZ,aF,cB]at h;rw[h.2.2];exact a
 |o::rest,aj,fr,gs,l,h=>by rw[bZ]at h;split at h;cases h;split at h;cases h;split at h;split at h;exact(zW (zX a h)).2;cases h;split at h;cases h;split at h;cases h;split at h;split at h;cases h;split at h;exact(zW (zX a h)).2;cases h;split at h;split at h;split at h;exact(zW (zX a h)).2;cases h;exact zX a h;exact zX a h;cases h;cases h
theorem amN{w:World}{Q:Exit->Act->World->Prop}(ec:uy P G)(g:kq w M){gK:List (Nat×Value)}{p:List hn}{i:List (Nat×Nat)}(c:oS i):∀(k:Nat){rest:List Oper}{aj:List Nat}{fr:List (Nat×Value)}{gs:List hn}{l:List (Nat×Nat)}{a:Act},
 Fr n fr a->nE a gs->bZ G ops n M (rest.take k) aj fr gs l=some (gK,p,i)->(∀j,Fr n gK j->wpList P ops Q (rest.drop k) j w)->wpList P ops Q rest a w
 |0,rest,aj,fr,gs,l,a,ad,_,h,b=>by simp only[mf,bZ,aF,cB]at h;have:=b a (by rw[<-h.1];exact ad);simpa using this
 |k+1,[],aj,fr,gs,l,a,ad,_,h,b=>by simp only[List.take_nil,bZ,aF,cB]at h;have:=b a (by rw[<-h.1];exact ad);simpa using this
 |k+1,o::rest,aj,fr,gs,l,a,ad,q,h,b=>by
  rw[j9]at h;obtain⟨d,u,v,fr',x,l',⟨aJ,r⟩,s,t,h'⟩:=U6 (C:=λ w'=>w'=w) ec (λ w' e=>by subst e;exact g) ad q h c (zX c);have next:=amN ec g c k s t h' (by simpa using b)
  refine wpList_step λ K m=>?_;rcases r with⟨f,hy,_⟩|⟨f,rfl⟩
  ·rw[nf f];unfold Oper.wp;rw[show(execOp a.eval o).run P w=_ from hy w rfl];show K (a.put o.dst u) w
   rw[aJ];exact m _ _ next
  ·rw[nc (by simp[f]),aJ];exact m _ _ next
theorem alz{f:Act->Prop}(ec:uy P G)(g:∀w,C w->kq w M){gK:List (Nat×Value)}{m:List hn}{i:List (Nat×Nat)}(c:oS i):∀(k:Nat){rest:List Oper}{aj:List Nat}{fr:List (Nat×Value)}{gs:List hn}{l:List (Nat×Nat)}{a:Act},
 Fr n fr a->nE a gs->bZ G ops n M (rest.take k) aj fr gs l=some (gK,m,i)->(∀j,Fr n gK j->wpQuiet P ops C f (rest.drop k) j)->wpQuiet P ops C f rest a
 |0,rest,aj,fr,gs,l,a,ad,_,h,b=>by simp only[mf,bZ,aF,cB]at h;have:=b a (by rw[<-h.1];exact ad);simpa using this
 |k+1,[],aj,fr,gs,l,a,ad,_,h,b=>by simp only[List.take_nil,bZ,aF,cB]at h;have:=b a (by rw[<-h.1];exact ad);simpa using this
 |k+1,o::rest,aj,fr,gs,l,a,ad,p,h,b=>by
  rw[j9]at h;obtain⟨d,u,t,fr',v,l',⟨aJ,q⟩,r,s,h'⟩:=U6 (C:=C) ec g ad p h c (zX c);have next:=alz ec g c k r s h' (by simpa using b)
  unfold wpQuiet;rcases q with⟨e,hy,_⟩|⟨e,rfl⟩;rw[nf e];refine⟨u,λ w hc=>?_,?_⟩;unfold Oper.quietAt;rw[show(execOp a.eval o).run P w=_ from hy w hc];exact⟨rfl,rfl⟩;rw[aJ];exact next
  ·rw[nc (by simp[e]),aJ];exact next
theorem U7{os:List Oper}{aj:List Nat}{fr:List (Nat×Value)}{fi:List Nat}{k:List (Nat×Value)}{L:List (Nat×Nat)}(h:nC G ops n M os aj fr fi=some (k,L)):∃gK a,bZ G ops n M os aj fr [] []=some (gK,a,L)/\Mm gK k:=by unfold nC at h;split at h;rename_i fr' b l c;split at h;rename_i k' J;simp only[aF,cB]at h;obtain⟨rfl,rfl⟩:=h;exact⟨fr',b,c,Um J⟩;cases h;cases h
theorem hq(k:Nat)(fi aj:List Nat){w:World}{Q:Exit->Act->World->Prop}{rest:List Oper}{fr fr':List (Nat×Value)}{L:List Nat}{a:Act}(ec:uy P G)(c:kq w M)(ad:Fr n fr a)(d:nC G ops n M (rest.take k) aj fr fi=some (fr',dup L))
 (next:∀b,Fr n fr' b->wpList P ops Q (rest.drop k) b w):wpList P ops Q rest a w:=by
 obtain⟨gK,g,e,J⟩:=U7 d
 exact amN (gs:=[]) ec c (N2 L) k ad trivial e λ b f=>next b (f.sub J)
theorem aG1(k:Nat)(fi aj:List Nat){c:Act->Prop}{rest:List Oper}{fr fr':List (Nat×Value)}{L:List Nat}{a:Act}(ec:uy P G)(d:∀w,C w->kq w M)(ad:Fr n fr a)(e:nC G ops n M (rest.take k) aj fr fi=some (fr',dup L))
 (next:∀b,Fr n fr' b->wpQuiet P ops C c (rest.drop k) b):wpQuiet P ops C c rest a:=by
 obtain⟨gK,h,f,J⟩:=U7 e
 exact alz (gs:=[]) ec d (N2 L) k ad trivial f λ b g=>next b (g.sub J)
end
def fp:List Nat->Nat->Bool
 |[],_=>false
 |i::r,j=>cj i j||fp r j
section
variable{P:Program}{ops:Array Oper}{Q:Exit->Act->World->Prop}{md:Region.Mode}{S:World->Prop}{p:Nat}
def yI(P:Program)(md:Region.Mode)(ops:Array Oper)(Q:Exit->Act->World->Prop)(p:Nat)(S:World->Prop):Nat->Array Bool->Act->World->Prop
 |0,listed,a,w=>Region.ready md ops listed=[]/\Q .normal a w
 |cN+1,listed,a,w=>
  (Region.ready md ops listed=[]->Q .normal a w)/\
  ∀i∈Region.ready md ops listed,wpOp P ops Q i (λ b w'=>((listed.setIfInBounds i true).getD p false=false->S w')/\yI P md ops Q p S cN (listed.setIfInBounds i true) b w') a w
theorem anL:∀(cN:Nat)(listed:Array Bool)(a:Act)(w:World),yI P md ops Q p S cN listed a w->wpAny P md ops Q cN listed a w
 |0,_,_,_,h=>h
 |cN+1,_,_,_,h=>⟨h.1,λ i hi=>wpOp_mono (λ b w' h'=>anL cN _ b w' h'.2) (h.2 i hi)⟩
theorem amD{a:Array Bool}{i p:Nat}(h:a.getD p false=true):(a.setIfInBounds i true).getD p false=true:=by simp only[eF,gm]at h⊢;split;rename_i e;subst e;split;rfl;rename_i b;rw[h6 (by omega)]at h;cases h;exact h
theorem anJ{c:Nat}{Gd:World->Prop}:∀(cN:Nat)(listed:Array Bool)(a:Act)(w:World),listed.getD p false=true->yI P md ops Q c Gd cN listed a w->yI P md ops Q p S cN listed a w
 |0,_,_,_,_,h=>h
 |cN+1,_,_,_,b,h=>⟨h.1,λ i hi=>wpOp_mono (λ d w' h'=>⟨λ ad=>absurd ((amD b).symm.trans ad) (by simp),anJ cN _ d w' (amD b) h'.2⟩) (h.2 i hi)⟩
def oP:List Oper->Nat->Nat->List Nat->List Nat
 |[],_,_,acc=>acc
 |o::r,k,i,acc=>oP r (k+1) i (match o.after.toList.any λ e=>Region.binds .any e&&(cj e.on i||fp acc e.on)with|true=>k::acc |false=>acc)
theorem th{l:List Nat}{j:Nat}(h:fp l j=true):j∈l:=by
 induction l with
 |nil=>simp[fp]at h
 |cons i r a=>simp only[fp,h3]at h;rcases h with h |h;rw[bd h];simp;exact d_ _ (a h)
def FY(ops:Array Oper)(i:Nat)(U:List Nat):Prop:=∀u∈U,∃o,ops[u]? =some o/\∃e∈o.after,Region.binds .any e=true/\(e.on=i\/e.on∈U)
theorem Up{ops:Array Oper}{i:Nat}:∀ {l:List Oper}{k:Nat}{acc:List Nat},(∀m o,l[m]? =some o->ops[k+m]? =some o)->FY ops i acc->FY ops i (oP l k i acc)
 |[],_,_,_,h=>h
 |o::r,k,acc,d,h=>by rw[oP];refine Up (λ m a f=>by have:=d (m+1) a (by simpa using f);rwa [show k+(m+1)=k+1+m by omega]at this) ?_;split;rename_i ag;intro u hu;rcases cH.1 hu with rfl |hu;simp only[il,cd,h3]at ag;obtain⟨e,b,c,J⟩:=ag;refine⟨o,by simpa using d 0 o rfl,e,by simpa using b,c,?_⟩;rcases J with J |J;exact .inl (bd J);exact .inr (d_ _ (th J));obtain⟨a,g,e,b,c,J⟩:=h u hu;exact⟨a,g,e,b,c,J.imp id (d_ _)⟩;exact h
def abM(ops:Array Oper)(p i:Nat)(ds:List Nat):Bool:=(match nth ops.toList p with
 |none=>true
 |some _=>fp (oP ops.toList 0 i []) p)&&(oP ops.toList 0 i []).all λ u=>!(dW ops.size ds).getD u false
theorem abN{ops:Array Oper}{p i:Nat}{ds:List Nat}(h:abM ops p i ds=true):FY ops i (oP ops.toList 0 i [])/\(ops[p]? =none\/p∈oP ops.toList 0 i [])/\∀u∈oP ops.toList 0 i [],(dW ops.size ds).getD u false=false:=by unfold abM at h;rw[cd]at h;refine⟨Up (λ m o c=>by simpa using c) (λ u a=>by simp at a),?_,λ u a=>?_⟩;have b:=h.1;rw[dj,hR]at b;split at b;rename_i d;exact .inl d;exact .inr (th b);have:=kp.1 h.2 u a;simpa using this
theorem aLg{i:Nat}{oi:Oper}{v:Value}(hi:ops[i]? =some oi)(C:∀(j:Nat)(o:Oper) cs b,ops[j]? =some o->o.op≠ .select cs b)(N:p≠i)
 (O:∀c a w,Q (.panic c) (a.put oi.dst v) w->Q (.panic c) a w){U:List Nat}(R:FY ops i U)(A:ops[p]? =none\/p∈U) :
 ∀(n:Nat)(listed:Array Bool)(a:Act)(w:World),
  (∀j f,ops[j]? =some f->j≠i->listed.getD j true=false->(∀e∈f.after,Region.binds .any e=true->e.on≠i)->oi.apart ops f=true) ->
  listed.getD p false=false->(∀u∈U,listed.getD u false=false)->i∈Region.ready .any ops listed->YieldsIf P ops S oi v a->S w ->
  yI P .any ops Q p S n (listed.setIfInBounds i true) (a.put oi.dst v) w->yI P .any ops Q p S (n+1) listed a w:=by
 intro n
 induction n with
 |zero=>intro listed a w _ _ _ g hy q H;refine⟨λ h=>(by rw[h]at g;cases g),λ j aA=>?_⟩;by_cases d:j=i;subst d;exact hy.wpOp hi q ⟨λ _=>q,H⟩;have:=ready_mono aA d;rw[H.1]at this;cases this
 |succ n T=>
  intro listed a w D y r g hy q H;refine⟨λ h=>(by rw[h]at g;cases g),λ j aA=>?_⟩;by_cases d:j=i;subst d;exact hy.wpOp hi q ⟨λ _=>q,H⟩
  ·have l:=H.2 j (ready_mono aA d);obtain⟨E,f,s,F⟩:=mem_ready.1 aA;have G:∀e∈f.after,Region.binds .any e=true->e.on≠i:=λ e z ag heq=>by have l:=F e z ag;have I:=(mem_ready.1 g).1;rw[heq]at l;rcases gI i listed.size with h' |h';simp[h']at I l;rw[I]at l;cases l;simp[h6 h']at l
   have K:j∉U:=λ V=>by obtain⟨dd,B,e,z,ag,J⟩:=R j V;rw[s]at B;simp only[aF]at B;subst B;rcases J with J |J;exact G e z ag J;have m:=F e z ag;rw[r _ J]at m;cases m
   have t:j≠p:=λ e=>by subst e;rcases A with h |h;rw[s]at h;cases h;exact K h
   have W:∀u∈U,(listed.setIfInBounds j true).getD u false=false:=λ u L=>by have:=r u L;have X:j≠u:=λ e=>K (e▸L);simp only[eF,gm,nc X]at this⊢;exact this
   have Y:(listed.setIfInBounds j true).getD p false=false:=by simp only[eF,gm,nc t]at y⊢;exact y
   have x:((listed.setIfInBounds i true).setIfInBounds j true).getD p false=false:=by simp only[eF,gm,nc t,nc (Ne.symm N)]at y⊢;exact y
   have J:=wpOp_putIf s (D j f s d E G) (λ cs b=>C i oi cs b hi) (λ cs b=>C j f cs b s) O hy l
   have Z:∀k ok,ops[k]? =some ok->k≠i->(listed.setIfInBounds j true).getD k true=false ->
    (∀e∈ok.after,Region.binds .any e=true->e.on≠i)->oi.apart ops ok=true:=λ k ok hk Kw r jk=>by
    refine D k ok hk Kw ?_ jk
    by_cases M:j=k
    ·subst M;exact E
    ·rw[getD_set_ne true M]at r;exact r
   refine wpOp_mono (λ aX w' m=>⟨λ _=>m.2.1 x,T (listed.setIfInBounds j true) aX w' Z Y W (ready_mono g (Ne.symm d)) m.1 (m.2.1 x) ?_⟩) J;rw[jA _ _ d];exact m.2.2
theorem anI{i:Nat}{oi:Oper}{v:Value}(hi:ops[i]? =some oi)(u:∀(j:Nat)(o:Oper) cs b,ops[j]? =some o->o.op≠ .select cs b)(D:p≠i)
 (E:∀c a w,Q (.panic c) (a.put oi.dst v) w->Q (.panic c) a w) :
 ∀(m:Nat)(listed:Array Bool)(a:Act)(w:World),
  (∀j f,ops[j]? =some f->j≠i->listed.getD j true=false->(∀e∈f.after,Region.binds .any e=true->e.on≠i)->oi.apart ops f=true) ->
  (listed.getD p false=false->S w)->i∈Region.ready .any ops listed->YieldsIf P ops (λ _=>True) oi v a ->
  yI P .any ops Q p S m (listed.setIfInBounds i true) (a.put oi.dst v) w->yI P .any ops Q p S (m+1) listed a w:=by
 have q:∀(r:Array Bool)(b:Bool),(r.setIfInBounds i true).getD p b=r.getD p b:=λ r b=>by simp only[eF,gm,nc (Ne.symm D)]
 intro m
 induction m with
 |zero=>intro listed a w _ s g hy H;refine⟨λ h=>(by rw[h]at g;cases g),λ j aA=>?_⟩;by_cases d:j=i;subst d;exact hy.wpOp hi trivial ⟨λ h=>s (by rwa [q]at h),H⟩;have:=ready_mono aA d;rw[H.1]at this;cases this
 |succ m F=>
  intro listed a w x s g hy H;refine⟨λ h=>(by rw[h]at g;cases g),λ j aA=>?_⟩;by_cases d:j=i;subst d;exact hy.wpOp hi trivial ⟨λ h=>s (by rwa [q]at h),H⟩
  ·have l:=H.2 j (ready_mono aA d);obtain⟨y,f,t,G⟩:=mem_ready.1 aA;have I:∀e∈f.after,Region.binds .any e=true->e.on≠i:=λ e K ag heq=>by have l:=G e K ag;have z:=(mem_ready.1 g).1;rw[heq]at l;rcases gI i listed.size with h' |h';simp[h']at z l;rw[z]at l;cases l;simp[h6 h']at l
   have J:=wpOp_putIf t (x j f t d y I) (λ cs b=>u i oi cs b hi) (λ cs b=>u j f cs b t) E hy l
   have L:∀k ok,ops[k]? =some ok->k≠i->(listed.setIfInBounds j true).getD k true=false ->
    (∀e∈ok.after,Region.binds .any e=true->e.on≠i)->oi.apart ops ok=true:=λ k ok M N A O=>by
    refine x k ok M N ?_ O
    by_cases B:j=k
    ·subst B;exact y
    ·rw[getD_set_ne true B]at A;exact A
   have C:∀w',(((listed.setIfInBounds i true).setIfInBounds j true).getD p false=false->S w')->(listed.setIfInBounds j true).getD p false=false->S w':=λ w' R T=>R (by rw[jA _ _ (Ne.symm d),q];exact T);refine wpOp_mono (λ U w' n=>⟨C w' n.2.1,F (listed.setIfInBounds j true) U w' L (C w' n.2.1) (ready_mono g (Ne.symm d)) n.1 ?_⟩) J;rw[jA _ _ d];exact n.2.2
end
def fC(P:Program)(ops:Array Oper)(Q:Exit->Act->World->Prop)(p:Nat)(S:World->Prop)(f:Nat)(ds:List Nat)(a:Act)(w:World):Prop:=((dW ops.size ds).getD p false=false->S w)/\yI P .any ops (NoPanic Q) p S f (dW ops.size ds) a w
def EU(ops:List Oper):List Nat->Option (List Oper)
 |[]=>some []
 |i::r=>match nth ops i,EU ops r with
  |some o,some os=>some (o::os)
  |_,_=>none
def akx(ops:Array Oper)(i:Nat):Bool:=match nth ops.toList i with
 |some o=>!Hl o.op
 |none=>false
def If(ops:Array Oper)(p:Nat):List Nat->List Nat->Bool
 |_,[]=>true
 |ds,i::r=>Rw ops ds i&&(abM ops p i ds||akx ops i)&& !cj p i&&If ops p (i::ds) r
def LX:List Nat->List Nat->List Nat
 |[],ds=>ds
 |i::r,ds=>LX r (i::ds)
section
variable{P:Program}{G:np}{ops:Array Oper}{n:cG}{M:List (Nat×Nat×List Value)}{S:World->Prop}{Q:Exit->Act->World->Prop}{a:Act}{w:World}{f p:Nat}{ds:List Nat}
theorem aE5(i:Nat):dW ops.size (i::ds)=(dW ops.size ds).setIfInBounds i true:=rfl
theorem fC.wpAny(h:fC P ops Q p S f ds a w):Go.wpAny P .any ops (NoPanic Q) f (dW ops.size ds) a w:=anL f _ a w h.2
theorem Nt(hc:(Region.ready .any ops (dW ops.size ds)).isEmpty=true)(h:Q .normal a w)(c:(dW ops.size ds).getD p false=false->S w):fC P ops Q p S f ds a w:=by
 refine⟨c,?_⟩;have b:=List.isEmpty_iff.1 hc;cases f with
 |zero=>exact⟨b,NoPanic.normal h⟩
 |succ f=>exact⟨λ _=>NoPanic.normal h,by rw[b];simp⟩
theorem fC.next(c:Nat)(Gd:World->Prop)(b:(dW ops.size ds).getD p false=true)(h:fC P ops Q c Gd f ds a w):fC P ops Q p S f ds a w:=⟨λ ad=>absurd (b.symm.trans ad) (by simp),anJ f _ a w b h.2⟩
theorem aee(ec:uy P G)(B:∀w,S w->kq w M)(m:S w){gK:List (Nat×Value)}{K:List hn}{D:List (Nat×Nat)}(q:oS D):∀(is:List Nat){os:List Oper}{aj ds:List Nat}{fr:List (Nat×Value)}{gs:List hn}{l:List (Nat×Nat)}{a:Act},
 (dW ops.size ds).getD p false=false->EU ops.toList is=some os->If ops p ds is=true->Fr n fr a->nE a gs->bZ G ops n M os aj fr gs l=some (gK,K,D)->(∀E,Fr n gK E->fC P ops Q p S f (LX is ds) E w)->fC P ops Q p S (f+is.length) ds a w
 |[],os,aj,ds,fr,gs,l,a,_,b,_,ad,_,h,r=>by simp only[EU,aF]at b;subst b;simp only[bZ,aF,cB]at h;exact r a (by rw[<-h.1];exact ad)
 |i::is,os,aj,ds,fr,gs,l,a,s,b,F,ad,L,h,r=>by
  simp only[EU]at b;split at b
  ·rename_i o N j J;simp only[aF]at b;subst b;rw[dj,hR]at j;simp only[If,cd,hh]at F;obtain⟨⟨⟨g,k⟩,H⟩,t⟩:=F;have z:p≠i:=λ e=>by rw[e]at H;simp at H
   obtain⟨d,u,U,fr',V,l',⟨aJ,I⟩,O,R,h'⟩:=U6 (C:=S) ec B ad L h q (zX q);have T:(dW ops.size (i::ds)).getD p false=false:=by rw[aE5];simp only[eF,gm,nc (Ne.symm z)]at s⊢;exact s
   have next:=aee ec B m q is T J t O R h' r
   simp only[Rw,cd]at g;refine⟨λ _=>m,?_⟩;have:=next.2
   rw[show f+(i::is).length=f+is.length+1 by simp[kb]];rw[h3]at k;rcases k with k |KF;refine aLg (v:=u) j (Region.noSelect_spec g.1.1) z (λ c a w h=>h) (abN k).1 (abN k).2.1 (f+is.length) _ a w (Region.free_spec j g.1.2) s (abN k).2.2 (by simpa using g.2) (I.imp (λ⟨x,y,_⟩=>⟨x,y⟩) id) m ?_;rw[aJ];exact this
   ·have A:Hl o.op=false:=by
     unfold akx at KF;rw[dj,hR,j]at KF;simpa using KF
    refine anI (v:=u) j (Region.noSelect_spec g.1.1) z (λ c a w h=>h) (f+is.length) _ a w (Region.free_spec j g.1.2) (λ _=>m) (by simpa using g.2) (I.imp (λ⟨x,_,y⟩=>⟨x,λ w _=>y A w⟩) id) ?_;rw[aJ];exact this
  ·cases b
theorem au2(is:List Nat)(k:Nat)(fi aj:List Nat){os:List Oper}{fr fr':List (Nat×Value)}{L:List Nat}(ec:uy P G)(d:∀w,S w->kq w M)(ad:Fr n fr a)(c:cj is.length k=true)(e:(dW ops.size ds).getD p false=false)(hi:EU ops.toList is=some os)(g:If ops p ds is=true)
 (h:nC G ops n M os aj fr fi=some (fr',dup L))(i:S w)(next:∀b,Fr n fr' b->fC P ops Q p S f (LX is ds) b w):fC P ops Q p S (f+k) ds a w:=by
 have c:=bd c
 subst c
 obtain⟨gK,m,j,J⟩:=U7 h
 exact aee (gs:=[]) ec d i (N2 L) is e hi g ad trivial j λ b l=>next b (l.sub J)
theorem nz(i:Nat){o:Oper}(hi:ops[i]? =some o)(hc:(Region.ready .any ops (dW ops.size ds)==[i])=true)(d:(dW ops.size ds).getD p false=false->S w)(h:wpList P ops (F4 (fC P ops Q p S f (i::ds)) (NoPanic Q)) [o] a w):fC P ops Q p S (f+1) ds a w:=by
 have b:=eq_of_beq hc;refine⟨d,⟨λ c=>(by rw[b]at c;cases c),λ j aA=>?_⟩⟩;rw[b]at aA;have:j=i:=by simpa using aA
 subst this;exact abR hi h
theorem ad'(i j:Nat){o b:Oper}(hi:ops[i]? =some o)(aA:ops[j]? =some b)(hc:(Region.ready .any ops (dW ops.size ds)==[i,j])=true)(g:(dW ops.size ds).getD p false=false->S w)(h:wpList P ops (F4 (fC P ops Q p S f (i::ds)) (NoPanic Q)) [o] a w)
 (h':wpList P ops (F4 (fC P ops Q p S f (j::ds)) (NoPanic Q)) [b] a w):fC P ops Q p S (f+1) ds a w:=by
 have c:=eq_of_beq hc
 refine⟨g,⟨λ d=>(by rw[c]at d;cases d),λ q e=>?_⟩⟩
 rw[c]at e
 have:q=i\/q=j:=by simpa using e
 rcases this with rfl |rfl
 ·exact abR hi h
 ·exact abR aA h'
theorem kL(h:fC P ops Q p S f ds a w):wpList P ops (F4 (fC P ops Q p S f ds) (NoPanic Q)) [] a w:=h
end
theorem T5(p q:List UInt8):((⟨⟨p⟩⟩:ByteArray)==⟨⟨q⟩⟩)=decide (p=q):=by
 show((⟨p⟩:Array UInt8)==⟨q⟩)=_
 rw[iy];simp
structure mA (cS:Type) [DecidableEq cS] where
 enc:cS->Value
 desc:TypeDesc
 same:∀a b,Instr.sameNow desc (enc a) (enc b)=some (decide (b=a))
 bits:∀a,Instr.sameBits 10000 (enc a) (enc a)=true
 check:∀(P:Program)(w:World)(e:Bool)(t:TypeId)(a:cS),P.underlying t=some desc->(Instr.checkKey e 10000 t (enc a)).run P w= .ok () w
def aC4:mA Int where
 enc n:=.int .i64 n
 desc:=.int .i64
 same a b:=by simp only[Instr.sameNow,if_true,aF];rw[iy];simp only[beq_iff_eq,decide_eq_true_iff];exact eq_comm
 bits a:=by
  have h:∀n,Instr.sameBits n (.int .i64 a) (.int .i64 a)=true:=λ n=>by cases n<;>simp[Instr.sameBits]
  exact h 10000
 check P w e t a h:=by
  have h':∀n:Nat,(Instr.checkKey e (n+1) t (.int .i64 a)).run P w= .ok () w:=λ n=>by simp[Instr.checkKey,run_underlying h]
  exact h' 9999
def nS:mA (List UInt8) where
 enc s:=cy s
 desc:=.string
 same a b:=by
  simp only[Instr.sameNow,aF];have e:decide (a=b)=decide (b=a):=by rw[decide_eq_decide];exact eq_comm
  exact(T5 a b).trans e
 bits a:=by
  have h:∀n,Instr.sameBits n (cy a) (cy a)=true:=λ n=>by have e:((⟨⟨a⟩⟩:ByteArray)==⟨⟨a⟩⟩)=true:=(T5 a a).trans (by simp);cases n<;>(simp only[Instr.sameBits];exact e)
  exact h 10000
 check P w e t a h:=by
  have h':∀n:Nat,(Instr.checkKey e (n+1) t (cy a)).run P w= .ok () w:=λ n=>by simp[Instr.checkKey,run_underlying h]
  exact h' 9999
section
variable{cS β:Type} [DecidableEq cS](K:mA cS)(bZ:β->Value)
def Tt(es:List MapEntry)(d:List (cS×β)):Prop:=es.map (λ e=>(e.key,e.val))=d.map (λ p=>(K.enc p.1,bZ p.2))
def adZ(w:World)(r:Nat)(d:List (cS×β)):Prop:=∃es clock,w.heap[r]? =some (.map es clock)/\Tt K bZ es.toList d/\(es.toList.map (·.born)).Pairwise (·< ·)/\∀e∈es.toList,e.born<clock
def bc.map(r:Nat)(d:List (cS×β)):bc where
 bF:=[r]
 ok w:=adZ K bZ w r d
 law w w' h a:=by obtain⟨es,c,b,J⟩:=a;exact⟨es,c,(h r (by simp)).trans b,J⟩
def bG.map(r:Nat)(d:List (cS×β)):bG where
 ok M w:=r∉M/\r<w.heap.size/\adZ K bZ w r d
 law M kc w w' a f h:=by obtain⟨b,J,es,c,g,i⟩:=h;exact⟨λ j=>by rcases f r j with e |e;exact b e;omega,eN J a.size,es,c,(a.block r J b).trans g,i⟩
end
section
variable{cS β:Type} [DecidableEq cS]{K:mA cS}{bZ:β->Value}
variable{P:Program}{o:Oper}{a:Act}{w:World}{x y z:Operand}{t kt lj:TypeId}{r:Nat}{d:List (cS×β)}{k:cS}{v:β}
theorem aOv(b:o.op= .makeMap t none):bh P o a w (.map (some w.heap.size)) (w.alloc (.map #[] 0)):=by simp only[bh,execOp,b,Sem.run_bind];rfl
end
def adP(E:List bc):Prop:=∀(i:Nat)(x:bc),E[i]? =some x->x.bF.Nodup/\∀(j:Nat)(y:bc),E[j]? =some y->i≠j->∀k∈x.bF,k∉y.bF
theorem U9:∀ {E:List bc},(b1 E).Nodup->adP E
 |[],_=>λ i x h=>by simp at h
 |e::E,h=>by
  have h':(e.bF++b1 E).Nodup:=by simpa[b1]using h
  rw[fx]at h';obtain⟨l,J,d⟩:=h';have f:=U9 J;intro i x a;cases i with
  |zero=>
   simp only[ee,aF]at a;subst a;refine⟨l,λ j y hy g k b c=>?_⟩;cases j with
   |zero=>exact g rfl
   |succ j=>exact d k b k (hN.2 ⟨y,bH (by simpa using hy),c⟩) rfl
  |succ i=>
   have a:E[i]? =some x:=by simpa using a
   refine⟨(f i x a).1,λ j y hy g k b c=>?_⟩;cases j with
   |zero=>simp only[ee,aF]at hy;subst hy;exact d k c k (hN.2 ⟨x,bH a,b⟩) rfl
   |succ j=>exact(f i x a).2 j y (by simpa using hy) (by omega) k b c
theorem akD:∀ {E:List bc},adP E->(b1 E).Nodup
 |[],_=>by simp[b1]
 |e::E,h=>by
  have f:b1 (e::E)=e.bF++b1 E:=by simp[b1]
  rw[f,fx];refine⟨(h 0 e rfl).1,akD λ i x c=>⟨(h (i+1) x (by simpa using c)).1,λ j y hy l k d=>(h (i+1) x (by simpa using c)).2 (j+1) y (by simpa using hy) (by omega) k d⟩,λ a ap b ag g=>?_⟩;subst g;obtain⟨x,c,d⟩:=hN.1 ag;obtain⟨i,hi,rfl⟩:=iZ.1 c;exact(h 0 e rfl).2 (i+1) E[i] (by simp[hi]) (by omega) a ap d
def H8(E:List bc):List Nat->Option (List bc)
 |[]=>some []
 |i::r=>match nth E i,H8 E r with
  |some x,some xs=>some (x::xs)
  |_,_=>none
def Po:List Nat->Nat->Bool
 |[],_=>false
 |i::r,j=>cj i j||Po r j
def Ln:List Nat->Bool
 |[]=>true
 |i::r=>!Po r i&&Ln r
theorem aCf{l:List Nat}{j:Nat}(h:Po l j=false):j∉l:=by
 induction l with
 |nil=>simp
 |cons i r a=>simp only[Po,ik]at h;intro b;rcases cH.1 b with rfl |e;simp at h;exact a h.2 e
theorem akh:∀ {l:List Nat},Ln l=true->l.Nodup
 |[],_=>by simp
 |i::r,h=>by simp only[Ln,cd,hh]at h;exact h4.2 ⟨aCf h.1,akh h.2⟩
theorem Ri{E:List bc}:∀ {is:List Nat}{b:List bc},H8 E is=some b->∀(m:Nat)(x:bc),b[m]? =some x->∃i:Nat,is[m]? =some i/\E[i]? =some x
 |[],b,h,m,x,a=>by simp only[H8,aF]at h;subst h;simp at a
 |i::r,b,h,m,x,a=>by
  simp only[H8]at h;split at h
  ·rename_i y ys c J;simp only[aF]at h;subst h;cases m with
   |zero=>simp only[ee,aF]at a;subst a;exact⟨i,rfl,by rw[<-dj];exact c⟩
   |succ m=>obtain⟨q,d,e⟩:=Ri J m x (by simpa using a);exact⟨q,by simpa using d,e⟩
  ·cases h
section
variable{W w w':World}{M0 X:List Nat}{E:List bc}{D:List bG}
theorem bz.sel(h:bz W M0 X w E D)(is:List Nat){c:List bc}(p:Ln is=true)(aj:H8 E is=some c):bz W M0 X w c D:=by
 have f:∀x∈c,x∈E:=λ x a=>by obtain⟨m,q,rfl⟩:=iZ.1 a;obtain⟨i,_,hi⟩:=Ri aj m _ (aN q);exact bH hi
 have ad:∀k∈b1 c,k∈b1 E:=λ k b=>by obtain⟨x,a,r⟩:=hN.1 b;exact hN.2 ⟨x,f x a,r⟩
 have aJ:=U9 h.bC;have g:=akh p;refine⟨h.bZ,h.ij,λ k b=>h.lt k (ad k b),λ x a=>h.ok x (f x a),akD λ m x a=>?_,λ y hy=>y.law _ _ w w (br.refl _ _) (λ k b=>.inl ?_) (h.rd y hy)⟩;obtain⟨i,hi,l⟩:=Ri aj m x a;refine⟨(aJ i x l).1,λ d y hy s k b=>?_⟩;obtain⟨j,aA,t⟩:=Ri aj d y hy;refine(aJ i x l).2 j y t (λ e=>?_) k b;subst e;obtain⟨l1,n⟩:=aR.1 hi;obtain⟨o,ao⟩:=aR.1 aA;rcases Nat.lt_or_gt_of_ne s with bD |bD;exact(i_.1 g m d l1 o bD) (n.trans ao.symm);exact(i_.1 g d m o l1 bD) (ao.trans n.symm);rcases cf.1 b with e |e;exact cf.2 (.inl e);exact cf.2 (.inr (ad k e))
theorem GH(A B:List bc):b1 (A++B)=b1 A++b1 B:=by simp[b1]
theorem bz.into(h:bz W M0 X w E D)(m:Nat):bz w (b1 (E.take m)) (X++b1 (E.drop m)) w (E.take m) D:=by
 have a8:b1 E=b1 (E.take m)++b1 (E.drop m):=by rw[<-GH,ju]
 have aJ:=h.bC;rw[a8,fx]at aJ;refine⟨br.refl _ _,λ k a=>?_,λ k a=>⟨(h.lt k (by rw[a8];simp[a])).1,.inl a⟩,λ x c=>h.ok x (List.mem_of_mem_take c),aJ.1,λ y hy=>y.law _ _ w w (br.refl _ _) (λ k a=>.inl ?_) (h.rd y hy)⟩;rcases cf.1 a with e |e;refine⟨eN (h.ij k e).1 h.bZ.size,λ b=>?_⟩;have:=(h.lt k (by rw[a8];simp[b])).2;rcases this with ao |ao;exact(h.ij k e).2 ao;have:=(h.ij k e).1;omega;exact⟨(h.lt k (by rw[a8];simp[e])).1,λ b=>aJ.2.2 k b k e rfl⟩;rw[a8];simp only[cf]at a⊢;rcases a with(e |e)|e<;>simp[e]
def Tw:List bG->Prop
 |[]=>True
 |y::r=>(∀M kc w w',y.ok M w->y.ok kc w')/\Tw r
theorem adQ:∀ {D:List bG},Tw D->∀y∈D,∀M kc w w',y.ok M w->y.ok kc w'
 |[],_,y,hy=>by simp at hy
 |z::r,h,y,hy=>by rcases cH.1 hy with rfl |e;exact h.1;exact adQ h.2 y e
theorem bz.ael(h:bz W M0 X w E D)(m:Nat){l:List Nat}{d:List bc}{i:List bG}(k:bz w (b1 (E.take m)) l w' d i)(n:∀y∈i,y.ok (X++b1 (d++E.drop m)) w'):bz W M0 X w' (d++E.drop m) (i++D):=by
 have a8:b1 E=b1 (E.take m)++b1 (E.drop m):=by rw[<-GH,ju]
 have aJ:=h.bC;rw[a8,fx]at aJ;have j:∀b∈b1 (E.take m),b<w.heap.size/\(b∈M0\/W.heap.size<=b):=λ b ag=>h.lt b (by rw[a8];simp[ag]);have f:∀b∈b1 (E.drop m),b<w.heap.size/\(b∈M0\/W.heap.size<=b):=λ b ag=>h.lt b (by rw[a8];simp[ag]);have g:=k.bZ;have o:∀b∈b1 d,b∉b1 (E.drop m):=λ b ag c=>by rcases(k.lt b ag).2 with e |e;exact aJ.2.2 b e b c rfl;have:=(f b c).1;omega
 refine⟨h.bZ.trans g (λ b ag=>(j b ag).2),h.ij,λ b ag=>?_,λ x p=>?_,?_,λ y hy=>?_⟩;rw[GH]at ag;rcases cf.1 ag with e |e;refine⟨(k.lt b e).1,?_⟩;rcases(k.lt b e).2 with ao |ao;exact(j b ao).2;exact .inr (hl h.bZ.size ao);exact⟨eN (f b e).1 g.size,(f b e).2⟩;rcases cf.1 p with e |e;exact k.ok x e;refine x.law w w' (λ b ag=>?_) (h.ok x (lW e));have c:b∈b1 (E.drop m):=hN.2 ⟨x,e,ag⟩;exact g.block b (f b c).1 (λ q=>aJ.2.2 b q b c rfl);rw[GH,fx];exact⟨k.bC,aJ.2.1,λ a ap b ag e=>by subst e;exact o a ap ag⟩;rcases cf.1 hy with e |e;exact n y e;refine y.law _ _ w w' (g.mono λ b ag=>?_) (λ b ag=>?_) (h.rd y e);rw[a8];simp[ag];rw[GH]at ag;rw[a8];simp only[cf]at ag⊢;rcases ag with ai |ai |ai;simp[ai];rcases(k.lt b ai).2 with ao |ao;simp[ao];exact .inr ao;simp[ai]
theorem bz.back(h:bz W M0 X w E D)(m:Nat){a:List bc}{c:List bG}(k:bz w (b1 (E.take m)) (X++b1 (E.drop m)) w' a c):bz W M0 X w' (a++E.drop m) (c++D):=h.ael m k λ y hy=>y.law _ _ w' w' (br.refl _ _) (λ b ag=>.inl (by rw[GH]at ag;simp only[cf]at ag⊢;rcases ag with e |e |e<;>simp[e])) (k.rd y hy)
theorem bz.gJ(h:bz W M0 X w E D)(m:Nat){c:List Nat}{b:List bc}{a:List bG}(d:Tw a)(k:bz w (b1 (E.take m)) c w' b a):bz W M0 X w' (b++E.drop m) (a++D):=h.ael m k λ y hy=>adQ d y hy _ _ _ _ (k.rd y hy)
end
section
variable{P:Program}{ops:Array Oper}{Q:Exit->Act->World->Prop}{a:Act}{w:World}{rest:List Oper}{o:Oper}{n:cG}{d:Nat}{l:List (Nat×Value)}
 {W:World}{M0 X:List Nat}{E:List bc}{D:List bG}
theorem bz.amf(h:bz W M0 X w E D){α:Type}{T:dm α}{xs:List Value}{li:List α}(b:dN T (iK (X++b1 E) w) w xs li):bz W M0 X w E (bG.rows T xs li::D):=h.more b
theorem Rh{α:Type}{T:dm α}{t e:TypeId}{x y:Operand}{z:Value}{bytes m c:Nat}{v:Value}{li ml l':List α}{xs cs:List Value}{eo:Addr}(i:Nat)(s:bz W M0 X w E D)(hi:E[i]? =some (bc.row e T.size v li xs))
 (G:P.underlying t=some (.slice e))(H:(P.info? e).map (λ i=>(i.zero,i.size,i.bytes))=some (some z,T.size,bytes))(I:z.cells.size=T.size)(K:0<T.size)
 (L:bI bytes li ml=some l')(M:ml.length=m)(N:0<bytes)
 (O:dN T (iK (X++b1 E) w) w xs li)(hcs:dN T (iK (X++b1 E) w) w cs ml)(R:∀j u,cs[j]? =some u->w.cell? (eo.add j)=some u)
 (S:Region.wanted o (yielded ops a.tmps)=true)
 (U:o.op= .call { callee:=.builtin .append,args:=#[x,y],argTypes:=#[t,t] })(V:a.eval x=v)(hy:a.eval y= .slice (some eo) m c)(ad:Fr n l a)(aJ:o.dst=some d)(Y:fg d n=true)
 (k:∀g A b w',br v.ownBlock.toList w w'->Fr n ((d,.slice A l'.length b)::l) g->bz W M0 X w' (E.set i (bc.row e T.size (.slice A l'.length b) l' (xs++cs))) (bG.rows T (xs++cs) l'::D)->wpList P ops Q rest g w'):wpList P ops Q (o::rest) a w:=by
 obtain⟨Z,Kp,h,D1,rq⟩:=aiO H
 obtain⟨xi,rfl⟩:=Nv L
 have l6:w.ownsRow 0 e T.size v li.length xs:=s.e i hi
 subst M
 have p:li.length+ml.length<=maxLen:=by have J:=mm (li.length+ml.length) N;simp only[maxLen];omega
 obtain⟨B,w',gM,J,C,_,cQ⟩:=run_append_own_at (P:=P) w 0 t o.type e Z z T.size bytes G Kp h D1 rq I K v li.length xs l6 eo ml.length c cs (yu T hcs)
  R (HZ T hcs) p xi (gY _)
 have F:(bc.row e T.size B (li++ml) (xs++cs)).ok w':=by
  show w'.ownsRow 0 e T.size B (li++ml).length (xs++cs)
  rw[dM];exact J
 obtain⟨A,b,rfl,_⟩:=LY F
 have p':bh P o a w (.slice A (li++ml).length b) w':=by simp only[bh,execOp,U,resolve,invoke,builtin,Sem.run_bind,Sem.run_pure,Result.andThen_ok,hz,ez,ig,V,hy,gM]
 have vh:=s.amf (LO T hcs O)
 refine gi S p' ad aJ Y λ g ed=>k g A b w' (br.grown C) ed (vh.RE i hi (br.grown C) F (aGd _) λ q aQ=>?_)
 have f:(Value.slice A (li++ml).length b).ownBlock=some q:=by simpa[bc.row]using aQ
 rcases cQ with dx |dx
 ·left;simpa[bc.row,<-dx]using f
 ·right;rw[dx]at f;injection f with f;subst f;refine⟨cP _,?_⟩;rcases J.2 with⟨r,_⟩|⟨g',cap,cur,r,_,fT,_⟩;rw[r]at dx;simp[Value.ownBlock]at dx
  ·rw[r]at dx;have:g'=w.heap.size:=by simpa[Value.ownBlock]using dx
   subst this;exact(gz.1 fT).1
theorem L3{α:Type}{T:dm α}{t e:TypeId}{x y:Operand}{z:Value}{bytes g m c:Nat}{v:Value}{li ml l':List α}{xs cs:List Value}(i j q:Nat)(h:bz W M0 X w E D)(hi:E[i]? =some (bc.row e T.size v li xs))(aA:E[j]? =some (bc.cp g e cs))(r:D[q]? =some (bG.rows T xs li))
 (s:P.underlying t=some (.slice e))(B:(P.info? e).map (λ i=>(i.zero,i.size,i.bytes))=some (some z,T.size,bytes))(C:z.cells.size=T.size)(F:fg 0 T.size=true)
 (G:bI bytes li ml=some l')(H:ml.length=m)(I:fg 0 bytes=true)(hcs:dN T (iK (X++b1 E) w) w cs ml)
 (J:Region.wanted o (yielded ops a.tmps)=true)
 (K:o.op= .call { callee:=.builtin .append,args:=#[x,y],argTypes:=#[t,t] })(L:a.eval x=v)(hy:a.eval y= .slice (some ⟨g,0,none⟩) m c)(ad:Fr n l a)(aJ:o.dst=some d)(M:fg d n=true)
 (k:∀b A f p w',Fr n ((d,.slice A l'.length f)::l) b->bz W M0 X w' ((E.set i (bc.row e T.size (.slice A l'.length f) l' p)).eraseIdx j) (bG.rows T p l'::D)->wpList P ops Q rest b w'):wpList P ops Q (o::rest) a w:=by
 have ag:=h.e j aA
 exact Rh i h hi s B C (cJ F) G H (cJ I) (h.d q r) hcs (λ j u N=>by rw[lR];simpa using zK ag N) J K L hy ad aJ M
  λ b A f w' _ O R=>k b A f _ w' O (R.N3 j)
theorem aa7{α:Type}{T:dm α}{t e:TypeId}{x y:Operand}{z:Value}{bytes g m c:Nat}{v:Value}{li ml l':List α}{xs cs:List Value}(i j q:Nat)(h:bz W M0 X w E D)(hi:E[i]? =some (bc.row e T.size v li xs))(aA:E[j]? =some (bc.cp g e cs))(r:D[q]? =some (bG.rows T xs li))
 (s:P.underlying t=some (.slice e))(B:(P.info? e).map (λ i=>(i.zero,i.size,i.bytes))=some (some z,T.size,bytes))(C:z.cells.size=T.size)(F:fg 0 T.size=true)
 (G:bI bytes li ml=some l')(H:ml.length=m)(I:fg 0 bytes=true)(hcs:dN T (iK (X++b1 E) w) w cs ml)
 (J:Region.wanted o (yielded ops a.tmps)=true)
 (K:o.op= .call { callee:=.builtin .append,args:=#[x,y],argTypes:=#[t,t] })(L:a.eval x=v)(hy:a.eval y= .slice (some ⟨g,0,none⟩) m c)(ad:Fr n l a)(aJ:o.dst=some d)(M:fg d n=true)
 (k:∀b A f p w',br v.ownBlock.toList w w'->Fr n ((d,.slice A l'.length f)::l) b->bz W M0 X w' ((E.set i (bc.row e T.size (.slice A l'.length f) l' p)).eraseIdx j) (bG.rows T p l'::D)->wpList P ops Q rest b w'):wpList P ops Q (o::rest) a w:=by
 have ag:=h.e j aA
 exact Rh i h hi s B C (cJ F) G H (cJ I) (h.d q r) hcs (λ j u N=>by rw[lR];simpa using zK ag N) J K L hy ad aJ M
  λ b A f w' O R S=>k b A f _ w' O R (S.N3 j)
theorem aOe{t e:TypeId}{x y:Operand}{v:Value}{sz k:Nat}{xs:List Value}{z:Value}{bytes:Nat}(b:P.underlying t=some (.slice e))(c:(P.info? e).map (λ i=>(i.zero,i.size,i.bytes))=some (some z,sz,bytes))(f:w.ownsRow 0 e sz v k xs)
 (g:o.op= .call { callee:=.builtin .append,args:=#[x,y],argTypes:=#[t,t] })(h:a.eval x=v)(hy:a.eval y= .slice none 0 0):bh P o a w v w:=by
 obtain⟨j,m,p,r,s⟩:=aiO c
 have q:=run_append_owned_none (P:=P) (w:=w) 0 t o.type e j sz b m v k xs f
 simp only[bh,execOp,g,resolve,invoke,builtin,Sem.run_bind,Sem.run_pure,Result.andThen_ok,hz,ez,ig,h,hy,q]
theorem aJP{α:Type}{T:dm α}{t e:TypeId}{x y:Operand}{z:Value}{bytes c:Nat}{v:Value}{li ml l':List α}{xs:List Value}{m:Option Addr}(i q p:Nat)(g:bz W M0 X w E D)(hi:E[i]? =some (bc.row e T.size v li xs))(Z:D[q]? =some (bG.rows T xs li))(aD:D[p]? =some (bG.of (b7 T) [.slice m ml.length c] ml))
 (r:P.underlying t=some (.slice e))(s:(P.info? e).map (λ i=>(i.zero,i.size,i.bytes))=some (some z,T.size,bytes))(N:z.cells.size=T.size)(O:fg 0 T.size=true)
 (B:bI bytes li ml=some l')(R:fg 0 bytes=true)
 (C:Region.wanted o (yielded ops a.tmps)=true)
 (F:o.op= .call { callee:=.builtin .append,args:=#[x,y],argTypes:=#[t,t] })(G:a.eval x=v)(hy:a.eval y= .slice m ml.length c)(ad:Fr n l a)(aJ:o.dst=some d)(H:fg d n=true)
 (k:∀f A b S w',br v.ownBlock.toList w w'->Fr n ((d,.slice A l'.length b)::l) f->bz W M0 X w' (E.set i (bc.row e T.size (.slice A l'.length b) l' S)) (bG.rows T S l'::D)->wpList P ops Q rest f w'):wpList P ops Q (o::rest) a w:=by
 have I:=g.d q Z
 have J:(b7 T).rd (iK (X++b1 E) w) w [.slice m ml.length c] ml:=g.d p aD
 obtain⟨et,c1,U,ao,aW,bR,dx⟩:=J
 simp only[hU,Value.slice.injEq,and_true,true_and]at U
 obtain⟨rfl,rfl⟩:=U
 by_cases V:ml=[]
 ·subst V;cases m with
  |none=>
   have mK:=bR rfl;subst mK;have l6:w.ownsRow 0 e T.size v li.length xs:=g.e i hi;have o7:(bc.row e T.size v li xs).ok w:=g.e i hi;obtain⟨A,b,rfl,_⟩:=LY o7;obtain⟨_,rfl⟩:=Nv B;refine gi C (aOe r s l6 F G hy) ad aJ H λ f h=>?_;have Y:li++[]=li:=hv li;refine k f A b xs w (br.refl _ w) (by rw[Y];exact h) ?_;rw[Y];have a8:E.set i (bc.row e T.size (.slice A li.length b) li xs)=E:=by obtain⟨bD,he⟩:=aR.1 hi;rw[<-he,mv]
   rw[a8];exact g.more I
  |some eo=>exact Rh (cs:=[]) i g hi r s N (cJ O) B rfl (cJ R) I rfl (λ j u K=>by simp at K) C F G hy ad aJ H λ f A b w' L h M=>k f A b _ w' L h M
 ·obtain⟨g1,g2,cs,g3,g4⟩:=dx V;rw[g1]at hy;exact Rh (cs:=cs) i g hi r s N (cJ O) B rfl (cJ R) I g3 (λ j u K=>by rw[lR];exact g4 j u K) C F G hy ad aJ H λ f A b w' L h M=>k f A b _ w' L h M
theorem aJO{α:Type}{T:dm α}{t e:TypeId}{x y:Operand}{z:Value}{bytes c:Nat}{v:Value}{li ml l':List α}{xs:List Value}{h:Option Addr}(i q p:Nat)(j:bz W M0 X w E D)(hi:E[i]? =some (bc.row e T.size v li xs))(m:D[q]? =some (bG.rows T xs li))(r:D[p]? =some (bG.of (b7 T) [.slice h ml.length c] ml))
 (s:P.underlying t=some (.slice e))(u:(P.info? e).map (λ i=>(i.zero,i.size,i.bytes))=some (some z,T.size,bytes))(B:z.cells.size=T.size)(C:fg 0 T.size=true)
 (F:bI bytes li ml=some l')(G:fg 0 bytes=true)
 (H:Region.wanted o (yielded ops a.tmps)=true)
 (I:o.op= .call { callee:=.builtin .append,args:=#[x,y],argTypes:=#[t,t] })(J:a.eval x=v)(hy:a.eval y= .slice h ml.length c)(ad:Fr n l a)(aJ:o.dst=some d)(K:fg d n=true)
 (k:∀b A f g w',Fr n ((d,.slice A l'.length f)::l) b->bz W M0 X w' (E.set i (bc.row e T.size (.slice A l'.length f) l' g)) (bG.rows T g l'::D)->wpList P ops Q rest b w'):wpList P ops Q (o::rest) a w:=
 aJP i q p j hi m r s u B C F G H I J hy ad aJ K λ b A f g w' _=>k b A f g w'
theorem Bv{x:Value}{y:Nat}{code:BoundsCode}{k:IntKind}{i:Int}(b:x= .int k i)(h:0<=i/\i<=y):(Instr.sliceBound x y code).run P w= .ok i.toNat w:=by subst b;simp[Instr.sliceBound,asIntOf,h]
end
section
variable{α:Type}{T:dm α}
theorem aaJ{F:Nat->Prop}{w:World}{d':α}{b:List Value}(h':T.rd F w b d'):∀ {li:List α}{xs:List Value}{i:Nat},dN T F w xs li->i<li.length->dN T F w (xs.take (i*T.size)++b++xs.drop (i*T.size+T.size)) (li.set i d')
 |[],_,i,_,hi=>by simp at hi
 |d::r,xs,0,h,_=>by obtain⟨cs,ys,rfl,a,J⟩:=h;have c:=T.len a;refine⟨b,ys,?_,h',J⟩;simp[<-c]
 |d::r,xs,i+1,h,hi=>by
  obtain⟨cs,ys,rfl,a,J⟩:=h;have c:=T.len a;have e:=aaJ h' J (i:=i) (by simpa using hi);refine⟨cs,_,?_,a,e⟩;have f:(i+1)*T.size=cs.length+i*T.size:=by rw[jP];omega
  rw[f,k3,hS (by omega),show cs.length+i*T.size-cs.length=i*T.size by omega,List.drop_append,jd (l:=cs) (by omega),
   show cs.length+i*T.size+T.size-cs.length=i*T.size+T.size by omega]
  simp
end
theorem abl{β:Type}{L vs:List β}{p N:Nat}(b:p+vs.length<=N)(J:N<=L.length):(L.take p++vs++L.drop (p+vs.length)).take N=(L.take N).take p++vs++(L.take N).drop (p+vs.length):=by
 have a:(L.take p++vs).length=p+vs.length:=by rw[dM,gl];omega
 rw[k3,hS (by omega),a,List.take_take,l2 (by omega),List.drop_take]
section
variable{P:Program}{ops:Array Oper}{Q:Exit->Act->World->Prop}{a:Act}{w:World}{rest:List Oper}{o:Oper}{n:cG}{d:Nat}{l:List (Nat×Value)}
 {W:World}{M0 X:List Nat}{E:List bc}{D:List bG}
theorem agJ{xs cs:List Value}{p:Nat}(h:∀j u,cs[j]? =some u->xs[p+j]? =some u):(xs.drop p).take cs.length=cs:=by apply kX;intro j;rw[hx];by_cases aA:j<cs.length;rw[nf aA,iF,aN aA];exact h j _ (aN aA);rw[nc aA,gH (by omega)]
theorem aJ9{α:Type}{T:dm α}{t e:TypeId}{x y:Operand}{A:Option Addr}{c kk sz:Nat}{li:List α}{xs cs0 vs:List Value}{z:Int}{S d':α}{v:Value}(i q:Nat)(C:bz W M0 X w E D)(hi:E[i]? =some (bc.row e T.size (.slice A li.length c) li xs))(aQ:D[q]? =some (bG.rows T xs li))
 (ah:idx li z=some S)(hcs:T.rd (iK (X++b1 E) w) w cs0 S)(U:fy w ⟨dC A,gd A+z.toNat*T.size,none⟩ cs0)(hw:Region.wanted o (yielded ops a.tmps)=true)
 (af:v.cells=vs.toArray)(aj:∀w,(Go.sizeOf t).run P w= .ok sz w)(al:cj vs.length sz=true)(h1:vs.all (·.oneCell')=true)(F:jw (kk+vs.length) cs0.length=true)
 (KD:T.rd (iK (X++b1 E) w) w (lay cs0 kk vs) d')
 (au:o.op= .store t x y)(G:a.eval x= .pointer (some ⟨dC A,gd A+z.toNat*T.size+kk,none⟩))(hy:a.eval y=v)(aJ:o.dst=none)
 (k:∀f w',br (Value.slice A li.length c).ownBlock.toList w w'->bz W M0 X w' (E.set i (bc.row e T.size (.slice A li.length c) (li.set z.toNat d') f)) (bG.rows T f (li.set z.toNat d')::D)->wpList P ops Q rest a w'):wpList P ops Q (o::rest) a w:=by
 obtain⟨z0,V,z2⟩:=l9 ah
 have h:vs.length=sz:=bd al
 have G3:kk+vs.length<=cs0.length:=cJ F
 have mK:=T.len hcs
 have H:w.ownsRow 0 e T.size (.slice A li.length c) li.length xs:=C.e i hi
 have I:dN T (iK (X++b1 E) w) w xs li:=C.d q aQ
 rcases H.2 with⟨_,cq⟩|⟨g,cap,cur,Y,_,Z,m,u7,Ak,J⟩
 ·omega
 simp only[Value.slice.injEq,true_and]at Y
 obtain⟨rfl,rfl⟩:=Y
 have K:dC (some ⟨g,0,none⟩)=g:=rfl
 have L:gd (some ⟨g,0,none⟩)=0:=rfl
 simp only[K,L,jO]at G U
 have hmul:(z.toNat+1)*T.size<=li.length*T.size:=j8 _ V
 have aPy:li.length*T.size<=c*T.size:=j8 _ m
 have aiB:(z.toNat+1)*T.size=z.toNat*T.size+T.size:=by rw[jP,Nat.one_mul]
 have rD:xs.length=li.length*T.size:=H.1
 have r:(xs.drop (z.toNat*T.size)).take cs0.length=cs0:=agJ λ j u aA=>by have:=U j u aA;have kS:j<cs0.length:=(aR.1 aA).1;rw[World.ownsRow.cellAt H (z.toNat*T.size+j) (by omega)]at this;exact this
 have s:=run_storeCells_at P g (z.toNat*T.size+kk) e vs 0 cur w Z (by omega) (λ u hu=>kp.1 h1 u hu)
 simp only[j_]at s
 obtain⟨p,aD⟩:∃p,p=z.toNat*T.size+kk:=⟨_,rfl⟩
 rw[<-aD]at s G
 have aPq:cur.toList.length=c*T.size:=by simpa using Ak
 obtain⟨f,M⟩:∃f,f=xs.take p++vs++xs.drop (p+vs.length):=⟨_,rfl⟩
 have N:f=xs.take (z.toNat*T.size)++lay cs0 kk vs++xs.drop (z.toNat*T.size+T.size):=by
  rw[M,Yr _ _ _ G3];have O:xs=xs.take (z.toNat*T.size)++(cs0++xs.drop (z.toNat*T.size+T.size)):=by
   conv=>lhs;rw[<-ju (z.toNat*T.size) xs]
   congr 1;rw[<-ju cs0.length (xs.drop (z.toNat*T.size)),r,List.drop_drop,mK]
  have B:(xs.take (z.toNat*T.size)).length=z.toNat*T.size:=by rw[gl];omega
  conv=>lhs;rw[O]
  rw[k3,hS (by rw[B];omega),B,List.drop_append,jd (l:=xs.take (z.toNat*T.size)) (by rw[B];omega),B,
   show p-z.toNat*T.size=kk by omega,show p+vs.length-z.toNat*T.size=kk+vs.length by omega,j5 (by omega),List.drop_append_of_le_length (by omega)]
  simp
 have R:f.length=li.length*T.size:=by rw[M];simp only[dM,gl,j6];omega
 have o7:(bc.row e T.size (.slice (some ⟨g,0,none⟩) li.length c) (li.set z.toNat d') f).ok (w.setRow g (cur.toList.take p++vs++cur.toList.drop (p+vs.length)).toArray):=by
  show World.ownsRow _ 0 e T.size _ (li.set z.toNat d').length f
  rw[hg];refine⟨R,.inr ⟨g,c,(cur.toList.take p++vs++cur.toList.drop (p+vs.length)).toArray,rfl,gY _,?_,m,u7,?_,?_⟩⟩;simp only[World.setRow,j2,if_true,Z];rfl;simp only[List.size_toArray,dM,gl,j6];omega;rw[List.toList_toArray,M,<-J];exact abl (by omega) (by omega)
 have XF:sF P o a w (w.setRow g (cur.toList.take p++vs++cur.toList.drop (p+vs.length)).toArray):=by simp only[sF,execOp,au,G,hy];simp only[fA,h]at s⊢;have ev:=af;unfold Value.cells at ev;simp[go_sem,Instr.storeAt,storeVar,aj,ev,h,s]
 have vh:=C.amf (T:=T) (xs:=f) (li:=li.set z.toNat d') (by rw[N];exact aaJ KD I V)
 have jL:br (Value.slice (some ⟨g,0,none⟩) li.length c).ownBlock.toList w (w.setRow g (cur.toList.take p++vs++cur.toList.drop (p+vs.length)).toArray):=⟨rfl,rfl,rfl,by simp[World.setRow],λ b _ aB=>by simp only[World.setRow,j2];rw[nc (by simpa[Value.ownBlock,eq_comm]using aB)]⟩
 exact jW hw XF aJ (k f _ jL (vh.RE i hi jL o7 (by simp[bc.row,Value.ownBlock]) (λ b ag=>.inl (by simpa[bc.row]using ag))))
theorem aJ_{α:Type}{T:dm α}{t e:TypeId}{x y:Operand}{A:Option Addr}{c kk sz:Nat}{li b:List α}{xs cs0 vs:List Value}{z:Int}{h d':α}{v:Value}(i q:Nat)(j:some (li.set z.toNat d')=some b)(m:bz W M0 X w E D)(hi:E[i]? =some (bc.row e T.size (.slice A li.length c) li xs))(p:D[q]? =some (bG.rows T xs li))
 (r:idx li z=some h)(hcs:T.rd (iK (X++b1 E) w) w cs0 h)(s:fy w ⟨dC A,gd A+z.toNat*T.size,none⟩ cs0)(u:Region.wanted o (yielded ops a.tmps)=true)
 (B:v.cells=vs.toArray)(aj:∀w,(Go.sizeOf t).run P w= .ok sz w)(C:cj vs.length sz=true)(F:vs.all (·.oneCell')=true)(g:jw (kk+vs.length) cs0.length=true)
 (G:T.rd (iK (X++b1 E) w) w (lay cs0 kk vs) d')
 (H:o.op= .store t x y)(I:a.eval x= .pointer (some ⟨dC A,gd A+z.toNat*T.size+kk,none⟩))(hy:a.eval y=v)(aJ:o.dst=none)
 (k:∀f w',li.length=b.length->br (Value.slice A li.length c).ownBlock.toList w w'->bz W M0 X w' (E.set i (bc.row e T.size (.slice A li.length c) b f)) (bG.rows T f b::D)->wpList P ops Q rest a w'):wpList P ops Q (o::rest) a w:=by
 obtain rfl:=eD j
 exact aJ9 i q m hi p r hcs s u B aj C F g G H I hy aJ λ f w'=>k f w' (by rw[hg])
theorem aJz{A:Option Addr}{m c sz:Nat}{t e:TypeId}{lo hi:Option Value}{i j:Int}(b:P.underlying t=some (.slice e))(aj:∀w,(Go.sizeOf e).run P w= .ok sz w)
 (f:(lo=none/\i=0)\/lo=some (.int .i64 i))(g:(hi=none/\j=m)\/hi=some (.int .i64 j))(h:0<=i/\i<=j/\j<=m)(k:m<=c) :
 (Instr.slice t (.slice A m c) lo hi none).run P w= .ok (.slice (if c=i.toNat then A else A.map (·.add (i.toNat*sz))) (j.toNat-i.toNat) (c-i.toNat)) w:=by
 have ag:(Instr.sliceBounds true m c lo hi none).run P w= .ok (i.toNat,j.toNat,c) w:=by have bO:∀code,(Instr.sliceBound (.int .i64 j) c code).run P w= .ok j.toNat w:=λ code=>Bv rfl (by omega);have p:∀code,(Instr.sliceBound (.int .i64 i) j.toNat code).run P w= .ok i.toNat w:=λ code=>Bv rfl (by omega);have e5:j=m->∀code,(Instr.sliceBound (.int .i64 i) m code).run P w= .ok i.toNat w:=λ e code=>Bv rfl (by omega);rcases f with⟨rfl,rfl⟩|rfl<;>rcases g with⟨rfl,aA⟩|rfl;simp[Instr.sliceBounds,aA];simp[Instr.sliceBounds,bO];simp[Instr.sliceBounds,e5 aA,aA];simp[Instr.sliceBounds,bO,p]
 simp[Instr.slice,run_underlying b,ag,aj]
theorem SR{A:Option Addr}{m c sz:Nat}{t e:TypeId}{x:Operand}{lo hi:Option Operand}{i j:Int}(g:P.underlying t=some (.slice e))(aj:∀w,(Go.sizeOf e).run P w= .ok sz w)(k:o.op= .slice t x lo hi none)(p:a.eval x= .slice A m c)
 (q:(lo=none/\i=0)\/∃z,lo=some z/\a.eval z= .int .i64 i)(r:(hi=none/\j=m)\/∃z,hi=some z/\a.eval z= .int .i64 j)(h:0<=i/\i<=j/\j<=m)(b:m<=c) :
 bh P o a w (.slice (if c=i.toNat then A else A.map (·.add (i.toNat*sz))) (j.toNat-i.toNat) (c-i.toNat)) w:=by
 have s:=aJz (P:=P) (w:=w) (A:=A) (m:=m) (c:=c) (lo:=lo.map a.eval) (hi:=hi.map a.eval) g aj (i:=i) (j:=j)
  (q.imp (λ h=>⟨by rw[h.1];rfl,h.2⟩) (λ⟨z,f,J⟩=>by rw[f,fY,J])) (r.imp (λ h=>⟨by rw[h.1];rfl,h.2⟩) (λ⟨z,f,J⟩=>by rw[f,fY,J])) h b
 simp only[bh,execOp,k,p,Instr.sliceAt,Sem.run_bind,run_underlying g,Result.andThen_ok,je,s]
 rfl
theorem Un{α:Type}{l r:List α}{i j:Int}(h:cut l i j=some r):(0<=i/\i<=j/\j<=l.length)/\r=(l.take j.toNat).drop i.toNat:=by unfold cut at h;split at h;rename_i b;exact⟨b,by simpa using h.symm⟩;cases h
theorem vN{α:Type}{T:dm α}{F:Nat->Prop}{w:World}:∀ {l:List α}{xs:List Value}(i j:Nat),dN T F w xs l->dN T F w ((xs.take (j*T.size)).drop (i*T.size)) ((l.take j).drop i)
 |[],xs,i,j,h=>by
  have h:xs=[]:=h;subst h;have e:(([]:List α).take j).drop i=[]:=by simp
  rw[e];show List.drop _ (mB _ _)=[]
  simp
 |d::r,xs,i,0,h=>by
  have e:((d::r).take 0).drop i=[]:=by simp
  rw[e];show List.drop _ (mB _ _)=[]
  simp
 |d::r,xs,0,j+1,h=>by obtain⟨cs,ys,rfl,b,J⟩:=h;have f:=T.len b;have c:=vN 0 j J;simp only[Nat.zero_mul,hf]at c⊢;rw[j9,show(j+1)*T.size=cs.length+j*T.size by rw[jP];omega,k3,hS (by omega),show cs.length+j*T.size-cs.length=j*T.size by omega];exact⟨cs,_,rfl,b,c⟩
 |d::r,xs,i+1,j+1,h=>by
  obtain⟨cs,ys,rfl,b,J⟩:=h;have f:=T.len b;have c:=vN i j J
  rw[j9,List.drop_succ_cons,show(j+1)*T.size=cs.length+j*T.size by rw[jP];omega,k3,hS (by omega),show cs.length+j*T.size-cs.length=j*T.size by omega,
   show(i+1)*T.size=cs.length+i*T.size by rw[jP];omega,List.drop_append,jd (l:=cs) (by omega),show cs.length+i*T.size-cs.length=i*T.size by omega,jI]
  exact c
end
section
variable{P:Program}{ops:Array Oper}{Q:Exit->Act->World->Prop}{a:Act}{w:World}{rest:List Oper}{o:Oper}{n:cG}{d:Nat}{l:List (Nat×Value)}
 {W:World}{M0 X:List Nat}{E:List bc}{D:List bG}
theorem Fr.mD(ad:Fr n l a)(t:Nat){b c:Bool}(f:ey l t=some (.bool b))(ag:b=c):Fr n ((t,.bool c)::l) a:=
 ⟨ad.size,ad.defers,λ u v h=>by
  simp only[ey]at h;cases e:cj t u with
  |true=>rw[e]at h;simp only[aF]at h;rw[<-bd e,<-h,<-ag];exact ad.get t _ f
  |false=>rw[e]at h;exact ad.get u v h⟩
theorem Bf{t:TypeId}{cs:List Value}(c:Region.wanted o (yielded ops a.tmps)=true)(hy:bh P o a w (.pointer (some ⟨w.heap.size,0,none⟩)) (w.alloc (.cells cs.toArray t)))(ad:Fr n l a)(e:bz W M0 X w E D)
 (aJ:o.dst=some d)(f:fg d n=true)(k:∀b g w',br [] w w'->Fr n ((d,.pointer (some ⟨g,0,none⟩))::l) b->bz W M0 X w' (bc.cp g t cs::E) D->wpList P ops Q rest b w'):wpList P ops Q (o::rest) a w:=
 gi c hy ad aJ f λ b h=>k b _ _ (br.alloc _ _ _) h (e.new t cs)
theorem akp{t:TypeId}{cs:List Value}{m:Nat}(c:Region.wanted o (yielded ops a.tmps)=true)(hy:bh P o a w (.slice (some ⟨w.heap.size,0,none⟩) m m) (w.alloc (.cells cs.toArray t)))(ad:Fr n l a)(e:bz W M0 X w E D)
 (aJ:o.dst=some d)(f:fg d n=true)(k:∀b g w',br [] w w'->Fr n ((d,.slice (some ⟨g,0,none⟩) m m)::l) b->bz W M0 X w' (bc.cp g t cs::E) D->wpList P ops Q rest b w'):wpList P ops Q (o::rest) a w:=
 gi c hy ad aJ f λ b h=>k b _ _ (br.alloc _ _ _) h (e.new t cs)
theorem aOg{t e:TypeId}{sz:Nat}(b:P.underlying t=some (.slice e))(aj:∀w,(Go.sizeOf e).run P w= .ok sz w)(c:o.op= .buildSlice t 0 (List.toArray [])) :
 bh P o a w (.slice (some ⟨w.heap.size,0,none⟩) 0 0) (w.alloc (.cells (List.toArray []) e)):=by
 simp only[bh,execOp,c,Instr.buildSlice,Sem.run_bind,Sem.run_pure,aj,Result.andThen_ok,run_underlying b]
 simp[Instr.fill,newRow,go_sem]
theorem au1{S:World->Prop}{f p:Nat}{ds:List Nat}{v:Value}(i:Nat)(hi:ops[i]? =some o)(g:(Rw ops ds i&& !cj p i)=true)(r:Region.wanted o (yielded ops a.tmps)=true)(hy:∀w',bh P o a w' v w')(j:S w)
 (ad:Fr n l a)(aJ:o.dst=some d)(s:fg d n=true)(k:∀m,Fr n ((d,v)::l) m->fC P ops Q p S f (i::ds) m w):fC P ops Q p S (f+1) ds a w:=by
 simp only[cd,hh]at g
 obtain⟨b,q⟩:=g
 have t:p≠i:=λ e=>by rw[e]at q;simp at q
 simp only[Rw,cd]at b
 refine⟨λ _=>j,?_⟩
 refine anI (v:=v) hi (Region.noSelect_spec b.1.1) t (λ c a w h=>h) f _ a w (Region.free_spec hi b.1.2) (λ _=>j) (by simpa using b.2) (.inl ⟨r,λ w _=>hy w⟩) ?_
 rw[aJ]
 exact(k _ (ad.put s)).2
theorem bz.swap{x y:bc}(h:bz W M0 X w (x::y::E) D):bz W M0 X w (y::x::E) D:=by
 have ad:∀k,k∈b1 (y::x::E)↔k∈b1 (x::y::E):=λ k=>by simp only[b1,h7,cf];exact⟨λ h=>by rcases h with h |h |h<;>simp[h],λ h=>by rcases h with h |h |h<;>simp[h]⟩
 refine⟨h.bZ,h.ij,λ k g=>h.lt k ((ad k).1 g),λ z f=>h.ok z (by simp only[cH]at f⊢;rcases f with h |h |h<;>simp[h]),?_,λ z f=>z.law _ _ w w (br.refl _ _) (λ k g=>.inl (by
  rcases cf.1 g with e |e;exact cf.2 (.inl e)
  ·exact cf.2 (.inr ((ad k).1 e)))) (h.rd z f)⟩
 have aJ:=h.bC;have q:b1 (x::y::E)=x.bF++(y.bF++b1 E):=by simp[b1]
 have ao:b1 (y::x::E)=y.bF++(x.bF++b1 E):=by simp[b1]
 rw[q,fx,fx]at aJ;rw[ao,fx,fx];obtain⟨i,⟨j,m,p⟩,c⟩:=aJ;exact⟨j,⟨i,m,λ a ap b ag=>c a ap b (by simp[ag])⟩,λ a ap b ag=>by
  rcases cf.1 ag with e |e;exact λ aW=>c b e a (by simp[ap]) aW.symm
  ·exact p a ap b e⟩
end
section
variable{P:Program}{o:Oper}{a:Act}{w:World}{xs ys:Array Value}
theorem af4{d sz:Nat}{f:Go.Field}{l:List Go.Field}{us vs:List Value}{e q:Prop} [Decidable e] [Decidable q](c:(f.name != "_")=true)(g:∀w,(isAgg f.type).run P w= .ok true w)(aj:∀w,(Go.sizeOf f.type).run P w= .ok sz w)
 (i:xs.extract f.offset (f.offset+sz)=us.toArray)(hy:ys.extract f.offset (f.offset+sz)=vs.toArray)(j:(Op.equalIn (d+1) f.type (.agg us.toArray) (.agg vs.toArray)).run P w= .ok (decide q) w)
 (h:(Op.eqFields (d+1) xs ys l).run P w= .ok (decide e) w):(Op.eqFields (d+1) xs ys (f::l)).run P w= .ok (decide (q/\e)) w:=by
 have k:f.name≠ "_" :=by simpa using c
 simp only[Op.eqFields,k,if_true,ne_eq,not_false_iff,part,Sem.run_bind,g,aj,Result.andThen_ok,i,hy,Sem.run_pure,j]
 by_cases b:q
 ·simp[b,h]
 ·simp[b]
theorem af5{d:Nat}{t:TypeId}{cm:Array Go.Field}{q:Prop} [Decidable q](b:P.underlying t=some (.struct cm))(c:P.stoodInHeld t=false)(h:(Op.eqFields d xs ys cm.toList).run P w= .ok (decide q) w):(Op.equalIn (d+1) t (.agg xs) (.agg ys)).run P w= .ok (decide q) w:=by
 have ad:P.fieldsOf t=cm:=by simp[Program.fieldsOf,b]
 have h':=run_equalIn_struct (P:=P) w d t xs ys (by rw[ad];exact b) c;rw[ad,h]at h';exact h'
theorem zV{d:Nat}{f:Go.Field}{l:List Go.Field}{m n:List UInt8}{e:Prop} [Decidable e](c:(f.name != "_")=true)(g:P.underlying f.type=some .string)(i:∀w,(isAgg f.type).run P w= .ok false w)
 (j:xs[f.offset]? =some (cy m))(hy:ys[f.offset]? =some (cy n))(h:(Op.eqFields (d+1) xs ys l).run P w= .ok (decide e) w):(Op.eqFields (d+1) xs ys (f::l)).run P w= .ok (decide (m=n/\e)) w:=by
 have k:f.name≠ "_" :=by simpa using c
 have heq:(Op.equalIn (d+1) f.type (cy m) (cy n)).run P w= .ok (decide (m=n)) w:=by simp only[Op.equalIn,Sem.run_bind,run_underlying g,Result.andThen_ok];rw[<-T5 m n];rfl
 simp only[Op.eqFields,k,if_true,ne_eq,not_false_iff,part,Sem.run_bind,i,Result.andThen_ok,j,hy,hM,if_false,Sem.run_pure,heq]
 by_cases b:m=n
 ·subst b;simp[h]
 ·simp[b]
end
section
variable{P:Program}{ops:Array Oper}{Q:Exit->Act->World->Prop}{a:Act}{w:World}{rest:List Oper}{o:Oper}{n:cG}{d:Nat}{l:List (Nat×Value)}
 {W:World}{M0 X:List Nat}{E:List bc}{D:List bG}
theorem alX{F:Nat->Prop}{w:World}:∀s:List UInt8,dN RF F w (s.map λ b=>Value.int .u8 (b.toNat:Int)) s
 |[]=>rfl
 |b::r=>⟨[.int .u8 (b.toNat:Int)],_,rfl,rfl,alX r⟩
end
section
variable{P:Program}{Q:Exit->Act->World->Prop}{a:Act}{w:World}
theorem NJ{c:Operand}{x y:Code}{t:Bool}{ρ:Type}{p q:Option ρ}{r:ρ}(hc:a.eval c= .bool t)(h:cond t p q=some r)(b:t=true->p=some r->x.wp P Q a w)(ad:t=false->q=some r->y.wp P Q a w):(Code.cond c x y).wp P Q a w:=wp_cond_split hc (λ e=>b e (Uj e h)) (λ e=>ad e (Ui e h))
end
section
variable{P:Program}{ops:Array Oper}{Q:Exit->Act->World->Prop}{a:Act}{w w0 w':World}{rest:List Oper}{o:Oper}{n:cG}{d:Nat}{l:List (Nat×Value)}
 {W:World}{M0 X:List Nat}{E:List bc}{D:List bG}
theorem aOB{t:TypeId}{x:Operand}{m:Int}(b:o.op= .unOp .neg t x)(c:a.eval x= .int .i64 m):bh P o a w (.int .i64 (aw (0-m))) w:=by rw[<-yH];simp only[bh,execOp,b,c];simp[go_sem]
theorem bz.Qu(h:bz W M0 X w E D){g:Nat}{t:TypeId}{cs:List Value}{x:bc}(i j:Nat)(hi:E[i]? =some (bc.cp g t cs))(aA:E[j]? =some x)(b:i≠j):g∉x.bF:=λ c=>(U9 h.bC i _ hi).2 j x aA b g (by simp[bc.cp]) c
theorem Ob{M:List Nat}{p:Addr}{cs:List Value}(h:br M w w')(b:p.block∉M)(c:p.block<w.heap.size)(hc:fy w p cs):fy w' p cs:=hc.law (h.block p.block c b)
theorem Lr{t:TypeId}{cs:List Value}{m:Nat}(c:Region.wanted o (yielded ops a.tmps)=true)(hy:bh P o a w (.slice (some ⟨w.heap.size,0,none⟩) m m) (w.alloc (.cells cs.toArray t)))(ad:Fr n l a)(e:bz W M0 X w E D)
 (aJ:o.dst=some d)(f:fg d n=true)(k:∀b g w',br [] w w'->w.heap.size<=g->Fr n ((d,.slice (some ⟨g,0,none⟩) m m)::l) b->bz W M0 X w' (bc.cp g t cs::E) D->wpList P ops Q rest b w'):wpList P ops Q (o::rest) a w:=
 gi c hy ad aJ f λ b h=>k b _ _ (br.alloc _ _ _) (cP _) h (e.new t cs)
end
def rT:List Oper->Bool
 |[]=>true
 |o::r=>(match o.op with
  | .defer _=>false
  |_=>true)&&rT r
theorem Qq:∀ {l:List Oper},rT l=true->∀o∈l,∀c,o.op≠ .defer c
 |[],_,o,a,_=>by simp at a
 |p::r,h,o,a,c=>by simp only[rT,cd]at h;rcases cH.1 a with rfl |e;intro ao;rw[ao]at h;exact absurd h.1 (by simp);exact Qq h.2 o e c
def Rd(ro:Option Nat):Fence:={ Fence.wide with round:=ro }
theorem aaK{ro:Option Nat}{q:Prop}:(Rd ro).depth.isSome=true->q:=λ h=>by simp[Rd,Fence.wide]at h
section
variable{P:Program}{ops:Array Oper}{Q:Exit->Act->World->Prop}{K:Act->World->Prop}{a:Act}{w:World}{o:Oper}{ro:Option Nat}{n:Nat}
theorem Zc(aJ:∀c,o.op≠ .defer c)(h:o.wp P a w K Q):o.wpIn (Rd ro) n P a w K Q:=by
 unfold Oper.wpIn;refine⟨λ _ _=>trivial,?_⟩;rw[Oper.semAt_eq _ _ _ aJ];unfold Oper.wp at h;generalize(execOp a.eval o).run P w=r at *
 cases r with
 |ok x w'=>
  cases x<;>simp only[Oper.upon,Oper.uponIn]at h⊢ <;>first
   |exact h
   |exact⟨aaK,(callsIn_wide (n:=n-1)).2 h⟩
   |exact⟨aaK,λ c cs _=>let⟨v,w',r,s⟩:=h c cs;⟨v,w',r,stepsIn_wide.2 s⟩⟩
 |halt x w'=>cases x<;>simp only[Oper.upon,Oper.uponIn]at h⊢ <;>exact h
theorem PS(b:∀a w,¬Q .outgrown a w):∀ {os:List Oper}{a:Act}{w:World},rT os=true->wpList P ops Q os a w->wpListIn (Rd ro) n P ops Q os a w
 |[],_,_,_,h=>h
 |o::r,a,w,aJ,h=>by have c:=aJ;simp only[rT,cd]at c;simp only[wpList]at h;simp only[wpListIn];split;rename_i d;rw[nf d]at h;rcases h with h |⟨_,e,w',h⟩;exact Zc (Qq aJ o (by simp)) (Oper.wp_mono (λ a w h=>PS b c.2 h) h);exact absurd h (b _ _);rename_i d;rw[nc d]at h;exact⟨λ _ _=>trivial,PS b c.2 h⟩
theorem aEx(k:Nat){lo:List Oper}(aJ:rT (lo.take k)=true)(h:wpList P ops (Exit.then (wpListIn (Rd ro) n P ops Q (lo.drop k)) (λ _ _ _=>False)) (lo.take k) a w):wpListIn (Rd ro) n P ops Q lo a w:=by
 have key:∀(os rest:List Oper)(a:Act)(w:World),rT os=true->wpList P ops (Exit.then (wpListIn (Rd ro) n P ops Q rest) (λ _ _ _=>False)) os a w->wpListIn (Rd ro) n P ops Q (os++rest) a w:=by
  intro os;induction os with
  |nil=>intro rest a w _ h;exact h
  |cons o r f=>
   intro rest a w aJ h;have c:=aJ;simp only[rT,cd]at c;simp only[wpList]at h;simp only[ih,wpListIn];split
   ·rename_i d;rw[nf d]at h;rcases h with h |⟨_,j,w',h⟩
    ·have g:=Zc (ro:=ro) (n:=n) (Qq aJ o (by simp)) (Oper.wp_mono (λ a w h=>f rest a w c.2 h) h);refine⟨g.1,?_⟩;have J:=g.2;revert J;generalize(o.semAt (Rd ro).round a.eval).run P w=i;intro J;cases i with
     |ok x w'=>
      cases x<;>simp only[Oper.uponIn]at J⊢ <;>first
       |exact J
       |exact⟨J.1,CallsIn.mono J.2 (λ e w'' b=>by cases e<;>first |exact b |exact absurd b (by simp[Exit.then,LetsOut]))⟩
       |exact⟨J.1,RoundIn.mono J.2 (λ e w'' b=>by cases e<;>first |exact b |exact absurd b (by simp[Exit.then,LetsOut]))⟩
     |halt x w'=>cases x<;>simp only[Oper.uponIn]at J⊢ <;>first |exact J |exact absurd J (by simp[Exit.then])
    ·exact absurd h (by simp[Exit.then])
   ·rename_i d;rw[nc d]at h;exact⟨λ _ _=>trivial,f rest _ _ c.2 h⟩
 have:=key (lo.take k) (lo.drop k) a w aJ h;rwa [ju]at this
theorem aGb(d:∀a w,¬Q .outgrown a w)(aJ:rT ops.toList=true){i:Nat}(h:wpOp P ops Q i K a w):wpOpIn (Rd ro) n P ops Q i K a w:=by
 unfold wpOp at h;unfold wpOpIn;split;rename_i e;rw[e]at h;exact h
 ·rename_i o c;rw[c]at h;have f:o∈ops.toList:=by have:=bH (l:=ops.toList) (i:=i) (a:=o) (by rw[hR];exact c);exact this
  simp only at h;split;rename_i b;rw[nf b]at h;rcases h with h |⟨_,g,w',h⟩;exact Zc (Qq aJ o f) h;exact absurd h (d _ _);rename_i b;rw[nc b]at h;exact⟨λ _ _=>trivial,h⟩
theorem aec(b:∀a w,¬Q .outgrown a w)(aJ:rT ops.toList=true):∀ {f:Nat}{ls:Array Bool}{a:Act}{w:World},wpAny P .any ops Q f ls a w->wpAnyIn (Rd ro) n P .any ops Q f ls a w
 |0,_,_,_,h=>h
 |f+1,ls,a,w,h=>⟨h.1,λ i hi=>aGb b aJ (wpOp_mono (λ a w h=>aec b aJ h) (h.2 i hi))⟩
end
def gV(ro:Option Nat)(n:Nat)(P:Program)(c:Code)(Q:Exit->Act->World->Prop)(a:Act)(w:World):Prop:=(∀a w,¬Q .outgrown a w)->c.wpIn (Rd ro) n P Q a w
section
variable{P:Program}{Q:Exit->Act->World->Prop}{a:Act}{w:World}{ro:Option Nat}{n:Nat}
theorem RU(h:Q .normal a w):gV ro n P .skip Q a w:=λ _=>wpIn_skip h
theorem abW{id:Nat}(h:Q (.exit id) a w):gV ro n P (.exit id) Q a w:=λ _=>wpIn_exit h
theorem n9{x y:Code}(h:∀K:Act->World->Prop,(∀a w,gV ro n P y Q a w->K a w)->gV ro n P x (Exit.then K Q) a w):gV ro n P (.seq x y) Q a w:=λ b=>wpIn_seq (h _ (λ _ _ h=>h b) b)
theorem abV{c:Operand}{x y:Code}{t:Bool}(hc:a.eval c= .bool t)(d:t=true->gV ro n P x Q a w)(ad:t=false->gV ro n P y Q a w):gV ro n P (.cond c x y) Q a w:=λ b=>wpIn_cond_split hc (λ e=>d e b) (λ e=>ad e b)
theorem aLl{c:Operand}{x y:Code}{b:Bool}(hc:a.eval c= .bool b)(ag:b=false)(h:gV ro n P y Q a w):gV ro n P (.cond c x y) Q a w:=λ d=>wpIn_cond_false (by rw[hc,ag]) (h d)
theorem abT{id:Nat}{c:Code}(h:gV ro n P c (Exit.inBlock id Q) a w):gV ro n P (.block id c) Q a w:=λ b=>wpIn_block (h b)
theorem abU{id:Nat}{c:Code}(b:Act->World->Prop)(d:∀K:Act->World->Prop,(∀a w,b a w->K a w)->gV ro n P c (Exit.inBlock id (Exit.then K Q)) a w)(hy:∀a w,b a w->Q .normal a w):gV ro n P (.block id c) Q a w:=by
 intro f;refine wpIn_block (wpIn_mono (d _ hy f) ?_);intro e a w h;cases e with
 |exit i=>by_cases hi:i=id;simpa[Exit.inBlock,Exit.then,hi]using h;simpa[Exit.inBlock,Exit.then,hi]using h
 |_=>exact h
theorem anO{c:Code}(b:Nat->Act->World->Prop)(k:Nat)(h:b k a w)(f:∀a w,¬b 0 a w)
 (round:∀k a w,b (k+1) a w->∀K:Act->World->Prop,(∀a w,b k a w->K a w)->gV ro n P c (Exit.then K Q) a w):gV ro n P (.loop c) Q a w:=by
 intro g
 refine wpIn_loop (λ a w=>∃n,b n a w) (λ a w=>leastOf (λ n=>b n a w)) ⟨k,h⟩ ?_
 intro a w i
 have d:=(leastOf_spec i).1
 cases e:leastOf (λ n=>b n a w)with
 |zero=>rw[e]at d;exact absurd d (f a w)
 |succ m=>rw[e]at d;exact round m a w d _ (λ j w' h'=>⟨⟨m,h'⟩,Nat.lt_succ_of_le ((leastOf_spec ⟨m,h'⟩).2 m h')⟩) g
theorem qD{id:Nat}{l:List Oper}(aJ:rT l=true)(h:wpList P l.toArray Q l a w):gV ro n P (.region id l.toArray false) Q a w:=λ b=>wpIn_region_lit (PS b aJ h)
theorem anN{id m:Nat}{lo:List Oper}(p:Nat)(S:World->World->Prop)(c:P.follows .mixedOrders=true)(b:cj lo.length m=true)(aJ:rT lo=true)(h:∀w',br [] w w'->fC P lo.toArray Q p (S w') m [] a w'):gV ro n P (.region id lo.toArray true) Q a w:=by have b:=bd b;subst b;intro d;exact wpIn_mono (Q:=NoPanic Q) (wpIn_region_any c (aec (Q:=NoPanic Q) (λ a w=>d a w) aJ (h _ (br.drew [] w)).wpAny)) NoPanic.imp
theorem aLm{id:Nat}{l:List Oper}(h:(∀a w,¬Q .outgrown a w)->wpListIn (Rd ro) n P l.toArray Q l a w):gV ro n P (.region id l.toArray false) Q a w:=λ b=>wpIn_region_lit (h b)
end
def bc.obj(g:Nat)(o:Obj):bc where
 bF:=[g]
 ok w:=w.heap[g]? =some o
 law w w' h a:=(h g (by simp)).trans a
section
variable{W w:World}{M0 X:List Nat}{E:List bc}{D:List bG}
theorem ayc(w:World)(g:Nat)(o:Obj):br [g] w (w.putObj g o):=⟨rfl,rfl,rfl,by simp,λ k _ a=>World.putObj_heap_other (by simpa using a)⟩
theorem bz.putObj{g:Nat}{o:Obj}(b:bz W M0 X w E D)(i:Nat)(hi:E[i]? =some (bc.obj g o))(a:Obj):bz W M0 X (w.putObj g a) (E.set i (bc.obj g a)) D:=b.RE i hi (ayc w g a) (by have h:w.heap[g]? =some o:=b.e i hi;exact World.putObj_heap_same (gz.1 h).1) (by simp[bc.obj]) (λ k c=>.inl c)
theorem bz.newObj(b:bz W M0 X w E D)(o:Obj):bz W M0 X (w.alloc o) (bc.obj w.heap.size o::E) D:=b.push _ (br.alloc _ _ _) (World.alloc_heap_new w o) (λ k a=>by simp[bc.obj]at a;subst a;exact⟨cP _,by simp⟩) (by simp[bc.obj])
end
def mark(r:Nat):Deferred:={ target:=.collected r,args:=#[] }
theorem af0{P:Program}{f:FuncId}{fn:Func}{c:Code}{vs:List Value}{w:World}{R:Ending->World->Prop}{n:Nat}
 (ad:P.funcs[f]? =some fn)(ag:fn.body=some c)(b:fn.ntmps=n)(d:jw vs.length n=true)
 (h:∀a,Fr ⟨n,[]⟩ (uS 0 vs) a->c.wp P (bodyPostM Fence.wide 0 P fn R) a w):Calls P f vs.toArray w R:=by
 refine(callsIn_wide (n:=0)).1 (callsIn_of_wp_marks ad ag trivial (wpIn_wide.2 ?_))
 rw[b]
 exact h _ (Fr.init vs n d)
section
variable{P:Program}{a:Act}{w:World}{W:World}{M0 X:List Nat}{E:List bc}{D:List bG}{fn:Func}{R:Ending->World->Prop}{l:List (Nat×Value)}{n g t u:Nat}{v fw:Value}
theorem ajX(i:Nat)(ad:Fr ⟨n,[mark g]⟩ l a)(b:bz W M0 X w E D)(hi:E[i]? =some (bc.obj g (.deferred (some []))))(h:∀w',bz W M0 X w' (E.set i (bc.obj g (.deferred none))) D->∃v,(results fn a.tmps).run P w'= .ok v w'/\R (.returned v) w') :
 bodyPostM Fence.wide 0 P fn R .ret a w:=by
 show LeavesInM Fence.wide 0 P fn a.tmps R a.defers .returning w
 rw[ad.defers]
 exact⟨by simp,.inl ⟨g,_,rfl,run_takeDeferred (b.e i hi),h _ (b.putObj i hi _)⟩⟩
theorem aEO(i:Nat)(b:fn.results= #[.tmp t])(ad:Fr ⟨n,[mark g]⟩ l a)(c:bz W M0 X w E D)(hi:E[i]? =some (bc.obj g (.deferred (some []))))(d:ey l t=some v)
 (h:∀w',bz W M0 X w' (E.set i (bc.obj g (.deferred none))) D->R (.returned v) w'):bodyPostM Fence.wide 0 P fn R .ret a w:=
 ajX i ad c hi λ w' e=>⟨_,results_tmp b _ _ _,by rw[ad.get _ _ d];exact h w' e⟩
theorem aEP(i:Nat)(b:fn.results= #[.tmp t,.tmp u])(ad:Fr ⟨n,[mark g]⟩ l a)(c:bz W M0 X w E D)(hi:E[i]? =some (bc.obj g (.deferred (some []))))(d:ey l t=some v)(e:ey l u=some fw)
 (h:∀w',bz W M0 X w' (E.set i (bc.obj g (.deferred none))) D->R (.returned (.tuple #[v,fw])) w'):bodyPostM Fence.wide 0 P fn R .ret a w:=
 ajX i ad c hi λ w' f=>⟨_,results_tmp2 b _ _ _,by rw[ad.get _ _ d,ad.get _ _ e];exact h w' f⟩
end
theorem axu{P:Program}{f:FuncId}{fn:Func}{c:Code}{vs:List Value}{w:World}{R:Ending->World->Prop}{n:Nat}
 (ad:P.funcs[f]? =some fn)(ag:fn.body=some c)(b:fn.ntmps=n)(d:jw vs.length n=true)(e:∀w,¬R .outgrown w)
 (h:∀a,Fr ⟨n,[]⟩ (uS 0 vs) a->gV none 1 P c (bodyPost P fn R) a w):CallsIn (Rd none) 1 P f vs.toArray w R:=by
 refine callsIn_of_wp ad ag trivial ?_
 rw[b]
 exact h _ (Fr.init vs n d) (λ a w h=>e w h)
theorem au6{P:Program}{fn:Func}{R:Ending->World->Prop}{a:Act}{w:World}(h:bodyPost P fn R .ret a w):bodyPost P fn R .normal a w:=h
theorem anv{n:Nat}(h:n<=maxLen):I.aw ((n:Int)-1)=(n:Int)-1:=by unfold I.aw;simp only[maxLen]at h;omega
theorem aB8{a pre rem:List Int}{x:Int}(h:a=(x::rem).reverse++pre):I.idx a (rem.length:Int)=some x:=by subst h;unfold I.idx;rw[nf (by omega)];simp
def adS(P:Program)(f:FuncId):Prop:=∀(a:List Int->World->Prop)(b:List Int)(A:Option Addr)(c fH L:Nat)(w0:World),
 (∀rem w,a rem w->∃W M0 X E,bz W M0 X w E [bG.jJ fH [.slice A b.length c],bG.of (b7 (fv .i64)) [.slice A b.length c] b]) ->
 (∀x rem w,a (x::rem) w->YieldAt (Rd none) 0 P L #[.int .i64 (rem.length:Int),.int .i64 x] w (λ e w'=>e= .returned (.bool true)/\a rem w')) ->
 a b.reverse w0->CallsIn (Rd none) 1 P f #[.func (.yield L) #[] #[],.pointer (some ⟨fH,0,none⟩)] w0 (λ e w'=>(∃v,e= .returned v)/\a [] w')
section
variable{P:Program}{ops:Array Oper}{Q:Exit->Act->World->Prop}{a:Act}{w:World}{rest:List Oper}{o:Oper}{n:cG}{d L:Nat}{l:List (Nat×Value)}
theorem aJE{b:Operand}{xs:List Operand}{c:Array TypeId}{vs:List Value}(e:o.op= .call { callee:=.value b,args:=xs.toArray,argTypes:=c })(f:a.eval b= .func (.yield L) #[] #[])(g:zY a xs vs) :
 (execOp a.eval o).run P w=(Instr.yield L vs.toArray).run P w:=by
 have h:=Of g
 simp only[execOp,e,resolve,hz,h,f]
 simp[Deferred.ofValue,invoke]
theorem aOI{b:Operand}{xs:List Operand}{g:Array TypeId}{vs:List Value}{R:Ending->World->Prop}(h:Region.wanted o (yielded ops a.tmps)=true)(c:o.op= .call { callee:=.value b,args:=xs.toArray,argTypes:=g })
 (i:a.eval b= .func (.yield L) #[] #[])(j:zY a xs vs)(hy:YieldAt (Rd none) 0 P L vs.toArray w R)(ad:Fr n l a)(aJ:o.dst=some d)(m:fg d n=true)
 (k:∀e w',R e w'->∃v,e= .returned v/\∀f,Fr n ((d,v)::l) f->wpListIn (Rd none) 1 P ops Q rest f w'):wpListIn (Rd none) 1 P ops Q (o::rest) a w:=by
 refine wpListIn_step λ K p=>?_
 rw[nf h]
 refine⟨λ _ _=>trivial,?_⟩
 obtain⟨fn,tmps,assign,body,q,J⟩:=hy
 rw[Oper.semAt_eq _ _ _ (by rw[c];simp),aJE c i j,q]
 refine⟨aaK,RoundIn.mono J ?_⟩
 intro e w' r
 obtain⟨v,rfl,s⟩:=k e w' r
 rw[aJ]
 exact p _ _ (s _ (ad.put m))
end
section
variable{P:Program}{Q:Exit->Act->World->Prop}{a:Act}{w:World}{W:World}{M0 X:List Nat}{E:List bc}{D:List bG}
theorem aeK{β:Type}{q t f j n fH c:Nat}{A:Option Addr}{l:List (Nat×Value)}{l1:Int->Int->List (Nat×Value)}{assign body:Code}(r:β->List bc)(k:β->List bG)(d:List Int->β->Prop)(u:List Int)(b0:β)(Z bx:Nat)
 (vd:adS P q)(NY:∀args w,(callFunc q args).run P w= .ok (.enter q args) w)
 (ad:Fr ⟨n,[]⟩ l a)(az:ey l t=some (.func (.func q) #[] #[.pointer (some ⟨fH,0,none⟩)]))(Au:fg f n=true)(DZ:fg j n=true)
 (hm:bz W M0 X w (r b0) (k b0))(aE:d u.reverse b0)
 (kU:∀b,(k b)[Z]? =some (bG.jJ fH [.slice A u.length c]))(tc:∀b,(k b)[bx]? =some (bG.of (b7 (fv .i64)) [.slice A u.length c] u))
 (ap:∀L i x w m (K:Act->World->Prop),Fr ⟨n,[]⟩ ((j,.int .i64 x)::(f,.int .i64 i)::l) m->(∀s,Fr ⟨n,[]⟩ (l1 i x) s->K s w)->gV (some L) 0 P assign (Exit.then K (λ _ _ _=>False)) m w)
 (ag:∀L g R S T b i x rem w m (K:Exit->Act->World->Prop),d (x::rem) b->Fr ⟨n,[]⟩ (l1 i x) m->bz W M0 X w (bc.obj g R::bc.obj S T::r b) (k b) ->
  (∀z s w',d rem z->bz W M0 X w' (bc.obj g R::bc.obj S T::r z) (k z)->K .normal s w')->gV (some L) 0 P body K m w)
 (H:∀g b m w',d [] b->Fr ⟨n,[mark g]⟩ l m->bz W M0 X w' (bc.obj g (.deferred (some []))::r b) (k b)->Q .normal m w') :
 (Code.rangeFunc (.tmp t) #[f,j] assign body).wp P Q a w:=by
 refine(wpIn_wide (n:=2)).1 (wpIn_rangeFunc λ fn _=>?_)
 obtain⟨rec,o⟩:∃rec:LoopState->Loop,rec=λ hb=>{ state:=hb,pending:=none,fn,tmps:=a.tmps,params:=#[f,j],assign,body,defers:=w.heap.size }:=⟨_,rfl⟩
 obtain⟨p,B⟩:∃p,(w.alloc (.deferred (some []))).alloc (.loop (rec .ready))=p:=⟨_,rfl⟩
 have W5:bz W M0 X p (bc.obj (w.heap.size+1) (.loop (rec .ready))::bc.obj w.heap.size (.deferred (some []))::r b0) (k b0):=by have:=(hm.newObj (.deferred (some []))).newObj (.loop (rec .ready));rw[B]at this;simpa using this
 refine⟨w.heap.size+1,[mark w.heap.size],p,{ target:=.fn (.func q) #[.pointer (some ⟨fH,0,none⟩)],args:=#[.func (.yield (w.heap.size+1)) #[] #[]] },p,q,
  #[.func (.yield (w.heap.size+1)) #[] #[],.pointer (some ⟨fH,0,none⟩)],p,?_,?_,λ _ _=>trivial,?_,λ _=>by decide,?_⟩
 ·rw[<-B,o];exact run_enterLoop_outer _ _ _ _ _
 ·have Km:=ad.g az;simp only[resolve,Km];simp[go_sem]
 ·simp[invoke,go_sem,NY]
 ·refine CallsIn.mono (vd (λ rem w'=>∃b,d rem b/\bz W M0 X w' (bc.obj (w.heap.size+1) (.loop (rec .ready))::bc.obj w.heap.size (.deferred (some []))::r b) (k b)) u A c fH (w.heap.size+1) p ?_ ?_ ⟨b0,aE,W5⟩) ?_
  ·rintro rem w' ⟨b,_,G⟩
   exact⟨_,_,_,_,G.less λ y hy=>by
    simp only[cH,io,or_false]at hy;rcases hy with rfl |rfl;exact bH (kU b)
    ·exact bH (tc b)⟩
  ·rintro x rem w' ⟨b,I,G⟩;have U:w'.heap[w.heap.size+1]? =some (.loop (rec .ready)):=G.e 0 rfl;have hy:=run_yield (P:=P) (args:=#[.int .i64 (rem.length:Int),.int .i64 x]) U (by rw[o];rfl);rw[o]at hy;refine⟨fn,_,assign,body,hy,roundIn_of_wpIn trivial ?_⟩
   have J:Fr ⟨n,[]⟩ ((j,.int .i64 x)::(f,.int .i64 (rem.length:Int))::l) ⟨((#[f,j]:Array Tmp).zip #[Value.int .i64 (rem.length:Int),.int .i64 x]).foldl (λ tmps (x:Tmp×Value)=>tmps.setIfInBounds x.1 x.2) a.tmps,[]⟩:=by
    have V:=(ad.put (v:=.int .i64 (rem.length:Int)) Au).put (v:=.int .i64 x) DZ;have e:((#[f,j]:Array Tmp).zip #[Value.int .i64 (rem.length:Int),.int .i64 x]).foldl (λ tmps (x:Tmp×Value)=>tmps.setIfInBounds x.1 x.2) a.tmps=((a.put (some f) (.int .i64 (rem.length:Int))).put (some j) (.int .i64 x)).tmps:=by simp[Act.put]
    refine⟨?_,rfl,?_⟩;simp only[e];exact V.size;simp only[e];exact V.get
   refine ap (w.heap.size+1) _ _ w' _ _ J ?_ (λ a w h=>h);intro s M;have vh:=G.putObj 0 rfl (.loop { rec .ready with state:=.busy });refine⟨_,run_beginRound U (by rw[o]),?_⟩;refine ag (w.heap.size+1) _ _ _ _ b _ x rem _ s _ I M vh ?_ (λ a w h=>h);intro z a3 N mL C;have O:N.heap[w.heap.size+1]? =some (.loop { rec .ready with state:=.busy }):=C.e 0 rfl;refine⟨_,_,run_endRound none O,rfl,z,mL,?_⟩;have F:=C.putObj 0 rfl (.loop (rec .ready));rw[o]at F⊢;exact F
  ·rintro e N ⟨⟨v,rfl⟩,b,I,C⟩;have O:N.heap[w.heap.size+1]? =some (.loop (rec .ready)):=C.e 0 rfl;have Y:=run_endLoop (P:=P) O (by rw[o];simp);rw[o]at Y;refine⟨none,_,Y,?_⟩;have F:=C.putObj 0 rfl (.loop { rec .ready with state:=.exhausted });rw[o]at F;refine H w.heap.size b _ _ I ⟨ad.size,?_,ad.get⟩ (F.drop (List.sublist_cons_self _ _));show[mark w.heap.size]++a.defers=[mark w.heap.size]
   rw[ad.defers];rfl
end
def bG.aKw:bG:=⟨λ _ _=>True,λ _ _ _ _ _ _ _=>trivial⟩
def bG.akM{α:Type}(o:Option α)(f:α->bG):bG:=match o with
 |none=>bG.aKw
 |some x=>f x
section
variable{P:Program}{ops:Array Oper}{Q:Exit->Act->World->Prop}{a:Act}{w:World}{rest:List Oper}{o:Oper}{n:cG}{d:Nat}{l:List (Nat×Value)}
 {W:World}{M0 X:List Nat}{E:List bc}{D:List bG}
theorem bz.none(h:bz W M0 X w E D){α:Type}(f:α->bG):bz W M0 X w E (bG.akM (Option.none:Option α) f::D):=h.more (y:=bG.akM (Option.none:Option α) f) trivial
theorem aOk{t e:TypeId}{sz:Nat}{x:Operand}{lo hi:Option Operand}(b:P.underlying t=some (.slice e))(aj:∀w,(Go.sizeOf e).run P w= .ok sz w)(c:o.op= .slice t x lo hi none)(f:a.eval x= .slice none 0 0)
 (g:(lo=none/\(0 :Int)=0)\/∃z,lo=some z/\a.eval z= .int .i64 0)(k:(hi=none/\(0 :Int)=(0 :Nat))\/∃z,hi=some z/\a.eval z= .int .i64 0):bh P o a w (.slice none 0 0) w:=by
 have h:=SR (P:=P) (w:=w) b aj c f g k (i:=0) (j:=0) ⟨k7 _,k7 _,by omega⟩ (cP 0)
 simpa using h
theorem aOj{t e:TypeId}{A:Option Addr}{m c:Nat}{x:Operand}(b:P.underlying t=some (.slice e))(f:o.op= .call { callee:=.builtin .cap,args:=#[x],argTypes:=#[t] })(g:a.eval x= .slice A m c):bh P o a w (.int .i64 c) w:=by simp[bh,execOp,f,resolve,invoke,builtin,Builtin.cap_,g,run_underlying b,goInt]
theorem aOG{t t':TypeId}{x y:Operand}{k:IntKind}{m:Int}{n:Nat}(c:jw n 64=true)(e:o.op= .binOp .shr t x y t')(f:a.eval x= .int .u64 m)(hy:a.eval y= .int k (n:Int)):bh P o a w (.int .u64 (yw m n)) w:=by have b:=cJ c;unfold yw;simp only[bh,execOp,e,f,hy];simp[go_sem,b]
end
section
variable{P:Program}{W w w':World}{M0 X:List Nat}{E:List bc}{D:List bG}{n:cG}{l:List (Nat×Value)}{a:Act}{o:Oper}{ops:Array Oper}{rest:List Oper}{Q:Exit->Act->World->Prop}{d:Nat}
theorem aJA{A:Option Addr}{m c sz:Nat}{t e:TypeId}{j:Int}(b:P.underlying t=some (.slice e))(aj:∀w,(Go.sizeOf e).run P w= .ok sz w)(h:0<=j/\j<=c) :
 (Instr.slice t (.slice A m c) none (some (.int .i64 j)) (some (.int .i64 j))).run P w= .ok (.slice (if j.toNat=0 then A else A.map (·.add (0*sz))) j.toNat j.toNat) w:=by
 have bO:∀code,(Instr.sliceBound (.int .i64 j) c code).run P w= .ok j.toNat w:=λ code=>Bv rfl (by omega)
 have f:∀code,(Instr.sliceBound (.int .i64 j) j.toNat code).run P w= .ok j.toNat w:=λ code=>Bv rfl (by omega)
 have ag:(Instr.sliceBounds true m c none (some (.int .i64 j)) (some (.int .i64 j))).run P w= .ok (0,j.toNat,j.toNat) w:=by simp[Instr.sliceBounds,bO,f]
 simp[Instr.slice,run_underlying b,ag,aj]
end
end ay
namespace Go.Value
abbrev q{α:Type}(A:Option Addr)(c:Nat)(l:List α):Value:=.slice A l.length c
end Go.Value
namespace ay
open Go Go.RowKit I
abbrev jc:=Option Addr
abbrev pM:=List Value
abbrev F2:=List Int
theorem wn{ops:Array Oper}{a:Act}{o:Oper}(b:o.guard=none:=by rfl):Region.wanted o (yielded ops a.tmps)=true:=RP b
section
variable{W w:World}{M0 X:List Nat}{E my:List bc}{D gT:List bG}{n:cG}{l l' new fr gK:List (Nat×Value)}{a:Act}
theorem Fr.cut(ad:Fr n l a)(h:Gu l (l'.map (·.1))=some l':=by kernel_rfl):Fr n l' a:=ad.sub (Um h)
def H7(D:List bG):List Nat->Option (List bG)
 |[]=>some []
 |i::r=>match nth D i,H7 D r with
  |some y,some ys=>some (y::ys)
  |_,_=>none
theorem amy:∀ {is:List Nat}{gT:List bG},H7 D is=some gT->QG D gT
 |[],gT,h=>by simp only[H7,aF]at h;subst h;trivial
 |i::r,gT,h=>by simp only[H7]at h;split at h;rename_i y ys b J;simp only[aF]at h;subst h;exact⟨⟨i,by rw[<-dj];exact b⟩,amy J⟩;cases h
theorem bz.im(h:bz W M0 X w E D)(is:List Nat)(e:H7 D is=some gT:=by kernel_rfl):bz W M0 X w E gT:=h.pick (amy e)
theorem bz.vR(h:bz W M0 X w E D)(eg is:List Nat)(b:Ln eg=true:=by kernel_rfl)(ao:H8 E eg=some my:=by kernel_rfl)(e:H7 D is=some gT:=by kernel_rfl):bz W M0 X w my gT:=(h.sel eg b ao).im is e
theorem oi{α:Type}{a b:α}(h:some a=some b):a=b:=eD h
theorem os{α:Type}{a b:α}(h:some a=some b):b=a:=(eD h).symm
def q7:List (Nat×Value)->List (Nat×Value)->List (Nat×Value)
 |[],r=>r
 |x::l,r=>x::q7 l r
def xj:List (Nat×Value)->Nat->Bool
 |[],_=>false
 |p::r,j=>cj p.1 j||xj r j
def Lw:List (Nat×Value)->List (Nat×Value)->List (Nat×Value)
 |_,[]=>[]
 |new,p::r=>match xj new p.1 with
  |true=>Lw new r
  |false=>p::Lw (p::new) r
def oQ(new fr:List (Nat×Value)):List (Nat×Value):=q7 new (Lw new fr)
theorem ajT{t:Nat}{r:List (Nat×Value)}:∀ {l:List (Nat×Value)},ey (q7 l r) t=cond (xj l t) (ey l t) (ey r t)
 |[]=>by simp[q7,xj]
 |p::l=>by
  simp only[q7,ey,xj];cases cj p.1 t with
  |true=>simp
  |false=>simp only[iu];exact ajT
theorem Yz{t:Nat}:∀ {r new:List (Nat×Value)},xj new t=false->ey (Lw new r) t=ey r t
 |[],_,_=>rfl
 |p::r,new,h=>by
  simp only[Lw,ey];cases ag:cj p.1 t with
  |true=>have:p.1=t:=bd ag;rw[this,h];simp only[ey,this,Nat.beq_refl]
  |false=>
   cases xj new p.1 with
   |true=>simp only;exact Yz h
   |false=>simp only[ey,ag];exact Yz (by simp only[xj,ag,iu];exact h)
theorem Fr.NV(ad:Fr n (oQ new fr) a):Fr n (q7 new fr) a:=⟨ad.size,ad.defers,λ t v b=>ad.get t v (by
 unfold oQ;rw[ajT]at b⊢;cases c:xj new t with
 |true=>rw[c]at b;exact b
 |false=>rw[c]at b;rw[Yz c];exact b)⟩
def Od(G:np)(ops:Array Oper)(n:Nat)(M:List (Nat×Nat×List Value))(is aj:List Nat)(fr:List (Nat×Value))(fi:List Nat):Option (List (Nat×Value)×List (Nat×Nat)):=
 match EU ops.toList is with
 |some os=>nC G ops n M os aj fr fi
 |none=>none
theorem ayd{G:np}{ops:Array Oper}{n:Nat}{M:List (Nat×Nat×List Value)}{is aj:List Nat}{fr:List (Nat×Value)}{fi:List Nat}{r:List (Nat×Value)×List (Nat×Nat)}(h:Od G ops n M is aj fr fi=some r):∃os,EU ops.toList is=some os/\nC G ops n M os aj fr fi=some r:=by unfold Od at h;split at h;rename_i os b;exact⟨os,b,h⟩;cases h
end
end ay
namespace I
structure Kind where
 Kind:Int
 aq:List UInt8
 deriving DecidableEq
structure Handler where
 From:Int
 To:Int
 At:Int
 aq:List UInt8
 deriving DecidableEq
structure Method where
 Name:List UInt8
 Static:Bool
 cF:List Kind
 Returns:Kind
 ia:Int
 h9:Int
 Code:List UInt8
 cL:List Handler
structure Field where
 Name:List UInt8
 Kind:Kind
 deriving DecidableEq
structure aq where
 Name:List UInt8
 dc:List UInt8
 Fields:List Field
 bp:List Method
structure Target where
 aq:Int
 Method:Int
 deriving DecidableEq
structure aP where
 a1:List aq
 aY:List Int
 Fields:List (List Field)
 Names:List (List (List UInt8))
 aZ:List (List Target)
structure bt where
 l:List aq
 b4:List ((List UInt8)×Int)
 dB:List Int
structure aV where
 Words:List Int
 ak:Int
 aK:Int
 aO:Int
 aM:Int
 aU:List Int
 Next:Int
structure b9 where
 K:aP
structure bk where
 H:aV
 S:b9
 ak:List Int
 aK:List Int
 dQ:List (Int×Bool)
open Go
def E8:ay.dm Kind where
 size:=2
 rd _ _ cs d:=cs=[.int .i64 d.Kind,ay.cy d.aq]
 len h:=by subst h;rfl
 one h v a:=by subst h;simp only[cH,io,or_false]at a;rcases a with rfl |rfl<;>rfl
 law _ h:=h
def E7:ay.dm Handler where
 size:=4
 rd _ _ cs d:=cs=[.int .i64 d.From,.int .i64 d.To,.int .i64 d.At,ay.cy d.aq]
 len h:=by subst h;rfl
 one h v a:=by subst h;simp only[cH,io,or_false]at a;rcases a with rfl |rfl |rfl |rfl<;>rfl
 law _ h:=h
def r6:ay.dm Method where
 size:=9
 rd F w cs d:=∃a c1 b c2,cs=[ay.cy d.Name,.bool d.Static,.slice a d.cF.length c1,.int .i64 d.Returns.Kind,ay.cy d.Returns.aq,.int .i64 d.ia,.int .i64 d.h9,ay.cy d.Code,.slice b d.cL.length c2]/\(ay.b7 I.E8).rd F w [.slice a d.cF.length c1] d.cF/\(ay.b7 I.E7).rd F w [.slice b d.cL.length c2] d.cL
 len h:=by obtain⟨a,c1,b,c2,c,_⟩:=h;subst c;rfl
 one h v e:=by obtain⟨a,c1,b,c2,c,_⟩:=h;subst c;simp only[cH,io,or_false]at e;rcases e with rfl |rfl |rfl |rfl |rfl |rfl |rfl |rfl |rfl<;>rfl
 law f h:=by obtain⟨a,c1,b,c2,c,g,J⟩:=h;exact⟨a,c1,b,c2,c,(ay.b7 I.E8).law f g,(ay.b7 I.E7).law f J⟩
def jY:ay.dm Field where
 size:=3
 rd _ _ cs d:=cs=[ay.cy d.Name,.int .i64 d.Kind.Kind,ay.cy d.Kind.aq]
 len h:=by subst h;rfl
 one h v a:=by subst h;simp only[cH,io,or_false]at a;rcases a with rfl |rfl |rfl<;>rfl
 law _ h:=h
def k5:ay.dm aq where
 size:=4
 rd F w cs d:=∃a c1 b c2,cs=[ay.cy d.Name,ay.cy d.dc,.slice a d.Fields.length c1,.slice b d.bp.length c2]/\(ay.b7 I.jY).rd F w [.slice a d.Fields.length c1] d.Fields/\(ay.b7 I.r6).rd F w [.slice b d.bp.length c2] d.bp
 len h:=by obtain⟨a,c1,b,c2,c,_⟩:=h;subst c;rfl
 one h v e:=by obtain⟨a,c1,b,c2,c,_⟩:=h;subst c;simp only[cH,io,or_false]at e;rcases e with rfl |rfl |rfl |rfl<;>rfl
 law f h:=by obtain⟨a,c1,b,c2,c,g,J⟩:=h;exact⟨a,c1,b,c2,c,(ay.b7 I.jY).law f g,(ay.b7 I.r6).law f J⟩
def k6:ay.dm Target where
 size:=2
 rd _ _ cs d:=cs=[.int .i64 d.aq,.int .i64 d.Method]
 len h:=by subst h;rfl
 one h v a:=by subst h;simp only[cH,io,or_false]at a;rcases a with rfl |rfl<;>rfl
 law _ h:=h
def aKE:ay.dm aP where
 size:=5
 rd F w cs d:=∃a c1 b c2 c c3 e c4 f c5,cs=[.slice a d.a1.length c1,.slice b d.aY.length c2,.slice c d.Fields.length c3,.slice e d.Names.length c4,.slice f d.aZ.length c5]/\(ay.b7 I.k5).rd F w [.slice a d.a1.length c1] d.a1/\(ay.b7 (ay.fv .i64)).rd F w [.slice b d.aY.length c2] d.aY/\(ay.b7 (ay.b7 I.jY)).rd F w [.slice c d.Fields.length c3] d.Fields/\(ay.b7 (ay.b7 ay.jX)).rd F w [.slice e d.Names.length c4] d.Names/\(ay.b7 (ay.b7 I.k6)).rd F w [.slice f d.aZ.length c5] d.aZ
 len h:=by obtain⟨a,c1,b,c2,c,c3,e,c4,f,c5,g,_⟩:=h;subst g;rfl
 one h v j:=by obtain⟨a,c1,b,c2,c,c3,e,c4,f,c5,g,_⟩:=h;subst g;simp only[cH,io,or_false]at j;rcases j with rfl |rfl |rfl |rfl |rfl<;>rfl
 law i h:=by obtain⟨a,c1,b,c2,c,c3,e,c4,f,c5,g,k,J,l,m,n⟩:=h;exact⟨a,c1,b,c2,c,c3,e,c4,f,c5,g,(ay.b7 I.k5).law i k,(ay.b7 (ay.fv .i64)).law i J,(ay.b7 (ay.b7 I.jY)).law i l,(ay.b7 (ay.b7 ay.jX)).law i m,(ay.b7 (ay.b7 I.k6)).law i n⟩
def aKD:ay.dm aV where
 size:=7
 rd F w cs d:=∃a c1 b c2,cs=[.slice a d.Words.length c1,.int .i64 d.ak,.int .i64 d.aK,.int .i64 d.aO,.int .i64 d.aM,.slice b d.aU.length c2,.int .i64 d.Next]/\(ay.b7 (ay.fv .i64)).rd F w [.slice a d.Words.length c1] d.Words/\(ay.b7 (ay.fv .i64)).rd F w [.slice b d.aU.length c2] d.aU
 len h:=by obtain⟨a,c1,b,c2,c,_⟩:=h;subst c;rfl
 one h v e:=by obtain⟨a,c1,b,c2,c,_⟩:=h;subst c;simp only[cH,io,or_false]at e;rcases e with rfl |rfl |rfl |rfl |rfl |rfl |rfl<;>rfl
 law f h:=by obtain⟨a,c1,b,c2,c,g,J⟩:=h;exact⟨a,c1,b,c2,c,(ay.b7 (ay.fv .i64)).law f g,(ay.b7 (ay.fv .i64)).law f J⟩
end I
namespace Go.Value
abbrev dn(g:Nat):Value:=.pointer (some ⟨g,0,none⟩)
abbrev i(n:Int):Value:=.int .i64 n
end Go.Value
namespace Go.Proofs.YteeliipnilghaaaGreat
open Go Go.RowKit
abbrev cx{α:Type}(T:ay.dm α)(A:Option Addr)(c:Nat)(l:List α):ay.bG:=ay.bG.of (ay.b7 T) [.slice A l.length c] l
def sS:ay.np:=⟨[(3,.i .i64),(4,.b),(5,.i .u8),(9,.s),(22,.cx),(25,.cx),(26,.cx),(27,.cx),(28,.cx),(31,.i .i64),(73,.cx),(119,.cx),(120,.cx),(121,.cx),(124,.cx),(126,.cx),(129,.cx),(132,.cx),(202,.cx),(204,.cx)],[(24,0,0),(24,1,1),(24,2,2),(24,3,3),(24,4,4),(24,5,5),(24,6,6),(30,0,0),(30,1,1),(30,2,2),(30,3,3),(30,4,4),(69,0,0),(72,0,0),(72,1,7),(72,2,12),(72,3,13),(72,4,14),(117,0,0),(117,1,1),(117,2,2),(128,0,0),(128,1,1),(131,0,0),(131,1,1),(131,2,2),(131,3,3),(131,4,5),(131,5,6),(131,6,7),(131,7,8),(134,0,0),(134,1,1),(134,2,2),(134,3,3),(136,0,0),(136,1,1),(157,0,0),(157,1,1),(157,2,2),(157,3,3)],[(3,none),(4,none),(5,none),(9,none),(22,none),(24,some 7),(25,none),(26,none),(27,none),(28,none),(30,some 5),(60,none),(69,some 5),(70,none),(113,none),(115,none),(118,none),(120,none),(121,none),(124,none),(126,none),(128,some 2),(129,none),(131,some 9),(132,none),(134,some 4),(136,some 3),(157,some 4),(166,some 2)]⟩
theorem sT:ay.uy Tryz.prog sS:=⟨⟨Tryz.underlying3,Tryz.underlying4,Tryz.underlying5,Tryz.underlying9,⟨_,Tryz.underlying22⟩,⟨_,Tryz.underlying25⟩,⟨_,Tryz.underlying26⟩,⟨_,Tryz.underlying27⟩,⟨_,Tryz.underlying28⟩,Tryz.underlying31,⟨_,Tryz.underlying73⟩,⟨_,Tryz.underlying119⟩,⟨_,Tryz.underlying120⟩,⟨_,Tryz.underlying121⟩,⟨_,Tryz.underlying124⟩,⟨_,Tryz.underlying126⟩,⟨_,Tryz.underlying129⟩,⟨_,Tryz.underlying132⟩,⟨_,Tryz.underlying202⟩,⟨_,Tryz.underlying204⟩,trivial⟩,⟨ay.eR Tryz.underlying24 rfl rfl Tryz.sizeOf22 rfl,ay.eR Tryz.underlying24 rfl rfl Tryz.sizeOf3 rfl,ay.eR Tryz.underlying24 rfl rfl Tryz.sizeOf3 rfl,ay.eR Tryz.underlying24 rfl rfl Tryz.sizeOf3 rfl,ay.eR Tryz.underlying24 rfl rfl Tryz.sizeOf3 rfl,ay.eR Tryz.underlying24 rfl rfl Tryz.sizeOf22 rfl,ay.eR Tryz.underlying24 rfl rfl Tryz.sizeOf3 rfl,ay.eR Tryz.underlying30 rfl rfl Tryz.sizeOf25 rfl,ay.eR Tryz.underlying30 rfl rfl Tryz.sizeOf22 rfl,ay.eR Tryz.underlying30 rfl rfl Tryz.sizeOf26 rfl,ay.eR Tryz.underlying30 rfl rfl Tryz.sizeOf27 rfl,ay.eR Tryz.underlying30 rfl rfl Tryz.sizeOf28 rfl,ay.eR Tryz.underlying69 rfl rfl Tryz.sizeOf30 rfl,ay.eR Tryz.underlying72 rfl rfl Tryz.sizeOf24 rfl,ay.eR Tryz.underlying72 rfl rfl Tryz.sizeOf69 rfl,ay.eR Tryz.underlying72 rfl rfl Tryz.sizeOf22 rfl,ay.eR Tryz.underlying72 rfl rfl Tryz.sizeOf22 rfl,ay.eR Tryz.underlying72 rfl rfl Tryz.sizeOf70 rfl,ay.eR Tryz.underlying117 rfl rfl Tryz.sizeOf25 rfl,ay.eR Tryz.underlying117 rfl rfl Tryz.sizeOf115 rfl,ay.eR Tryz.underlying117 rfl rfl Tryz.sizeOf22 rfl,ay.eR Tryz.underlying128 rfl rfl Tryz.sizeOf3 rfl,ay.eR Tryz.underlying128 rfl rfl Tryz.sizeOf9 rfl,ay.eR Tryz.underlying131 rfl rfl Tryz.sizeOf9 rfl,ay.eR Tryz.underlying131 rfl rfl Tryz.sizeOf4 rfl,ay.eR Tryz.underlying131 rfl rfl Tryz.sizeOf126 rfl,ay.eR Tryz.underlying131 rfl rfl Tryz.sizeOf128 rfl,ay.eR Tryz.underlying131 rfl rfl Tryz.sizeOf3 rfl,ay.eR Tryz.underlying131 rfl rfl Tryz.sizeOf3 rfl,ay.eR Tryz.underlying131 rfl rfl Tryz.sizeOf9 rfl,ay.eR Tryz.underlying131 rfl rfl Tryz.sizeOf129 rfl,ay.eR Tryz.underlying134 rfl rfl Tryz.sizeOf9 rfl,ay.eR Tryz.underlying134 rfl rfl Tryz.sizeOf9 rfl,ay.eR Tryz.underlying134 rfl rfl Tryz.sizeOf124 rfl,ay.eR Tryz.underlying134 rfl rfl Tryz.sizeOf132 rfl,ay.eR Tryz.underlying136 rfl rfl Tryz.sizeOf9 rfl,ay.eR Tryz.underlying136 rfl rfl Tryz.sizeOf128 rfl,ay.eR Tryz.underlying157 rfl rfl Tryz.sizeOf3 rfl,ay.eR Tryz.underlying157 rfl rfl Tryz.sizeOf3 rfl,ay.eR Tryz.underlying157 rfl rfl Tryz.sizeOf3 rfl,ay.eR Tryz.underlying157 rfl rfl Tryz.sizeOf9 rfl,trivial⟩,⟨Tryz.isAgg3,Tryz.isAgg4,Tryz.isAgg5,Tryz.isAgg9,Tryz.isAgg22,⟨Tryz.isAgg24,Tryz.sizeOf24⟩,Tryz.isAgg25,Tryz.isAgg26,Tryz.isAgg27,Tryz.isAgg28,⟨Tryz.isAgg30,Tryz.sizeOf30⟩,Tryz.isAgg60,⟨Tryz.isAgg69,Tryz.sizeOf69⟩,Tryz.isAgg70,Tryz.isAgg113,Tryz.isAgg115,Tryz.isAgg118,Tryz.isAgg120,Tryz.isAgg121,Tryz.isAgg124,Tryz.isAgg126,⟨Tryz.isAgg128,Tryz.sizeOf128⟩,Tryz.isAgg129,⟨Tryz.isAgg131,Tryz.sizeOf131⟩,Tryz.isAgg132,⟨Tryz.isAgg134,Tryz.sizeOf134⟩,⟨Tryz.isAgg136,Tryz.sizeOf136⟩,⟨Tryz.isAgg157,Tryz.sizeOf157⟩,⟨Tryz.isAgg166,Tryz.sizeOf166⟩,trivial⟩⟩
theorem aCj:(Tryz.prog.info? 3).map (λ i=>(i.zero,i.size,i.bytes))=some (some (.int .i64 0),1,8):=by kernel_rfl
theorem XP:(Tryz.prog.info? 9).map (λ i=>(i.zero,i.size,i.bytes))=some (some (ay.cy []),1,16):=by kernel_rfl
theorem aCi:(Tryz.prog.info? 136).map (λ i=>(i.zero,i.size,i.bytes))=some (some (.agg #[ay.cy [],.int .i64 0,ay.cy []]),3,40):=by kernel_rfl
theorem XO:(Tryz.prog.info? 166).map (λ i=>(i.zero,i.size,i.bytes))=some (some (.agg #[.int .i64 0,.int .i64 0]),2,16):=by kernel_rfl
theorem aGq:∀w,(ay.placesOf Tryz.prog 166).run Tryz.prog w= .ok #[(0,1),(1,1)] w:=λ w=>by kernel_rfl
theorem axF{o:Oper}{a:Act}{w:World}{t':TypeId}{x y:Operand}{X Y:I.Kind}(b:o.op= .binOp .eql 128 x y t')(c:a.eval x= .agg #[.int .i64 X.Kind,ay.cy X.aq])(hy:a.eval y= .agg #[.int .i64 Y.Kind,ay.cy Y.aq]):ay.bh Tryz.prog o a w (.bool (decide (X=Y))) w:=by
 have aJ:decide (X=Y)=decide (X.Kind=Y.Kind/\X.aq=Y.aq/\True):=by rcases X with⟨_,_⟩;rcases Y with⟨_,_⟩;simp
 rw[aJ];exact ay.SS Tryz.underlying128 (by kernel_rfl) (by kernel_rfl) (ay.oR rfl Tryz.underlying3 Tryz.isAgg3 rfl rfl (ay.zV rfl Tryz.underlying9 Tryz.isAgg9 rfl rfl (by simp[ay.uT]))) b c hy
theorem axJ{o:Oper}{a:Act}{w:World}{t':TypeId}{x y:Operand}{X Y:I.Kind}(b:o.op= .binOp .neq 128 x y t')(c:a.eval x= .agg #[.int .i64 X.Kind,ay.cy X.aq])(hy:a.eval y= .agg #[.int .i64 Y.Kind,ay.cy Y.aq]):ay.bh Tryz.prog o a w (.bool (!decide (X=Y))) w:=by
 have aJ:decide (X=Y)=decide (X.Kind=Y.Kind/\X.aq=Y.aq/\True):=by rcases X with⟨_,_⟩;rcases Y with⟨_,_⟩;simp
 rw[aJ];exact ay.SV Tryz.underlying128 (by kernel_rfl) (by kernel_rfl) (ay.oR rfl Tryz.underlying3 Tryz.isAgg3 rfl rfl (ay.zV rfl Tryz.underlying9 Tryz.isAgg9 rfl rfl (by simp[ay.uT]))) b c hy
theorem axD{o:Oper}{a:Act}{w:World}{t':TypeId}{x y:Operand}{X Y:I.Field}(b:o.op= .binOp .eql 136 x y t')(c:a.eval x= .agg #[ay.cy X.Name,.int .i64 X.Kind.Kind,ay.cy X.Kind.aq])(hy:a.eval y= .agg #[ay.cy Y.Name,.int .i64 Y.Kind.Kind,ay.cy Y.Kind.aq]):ay.bh Tryz.prog o a w (.bool (decide (X=Y))) w:=by
 have aJ:decide (X=Y)=decide (X.Name=Y.Name/\(X.Kind.Kind=Y.Kind.Kind/\X.Kind.aq=Y.Kind.aq/\True)/\True):=by rcases X with⟨_,⟨_,_⟩⟩;rcases Y with⟨_,⟨_,_⟩⟩;simp
 rw[aJ];exact ay.SS Tryz.underlying136 (by kernel_rfl) (by kernel_rfl) (ay.zV rfl Tryz.underlying9 Tryz.isAgg9 rfl rfl (ay.af4 (us:=[.int .i64 X.Kind.Kind,ay.cy X.Kind.aq]) (vs:=[.int .i64 Y.Kind.Kind,ay.cy Y.Kind.aq]) (q:=X.Kind.Kind=Y.Kind.Kind/\X.Kind.aq=Y.Kind.aq/\True) rfl Tryz.isAgg128 Tryz.sizeOf128 rfl rfl (ay.af5 Tryz.underlying128 (by kernel_rfl) (ay.oR rfl Tryz.underlying3 Tryz.isAgg3 rfl rfl (ay.zV rfl Tryz.underlying9 Tryz.isAgg9 rfl rfl (by simp[ay.uT])))) (by simp[ay.uT]))) b c hy
theorem axH{o:Oper}{a:Act}{w:World}{t':TypeId}{x y:Operand}{X Y:I.Field}(b:o.op= .binOp .neq 136 x y t')(c:a.eval x= .agg #[ay.cy X.Name,.int .i64 X.Kind.Kind,ay.cy X.Kind.aq])(hy:a.eval y= .agg #[ay.cy Y.Name,.int .i64 Y.Kind.Kind,ay.cy Y.Kind.aq]):ay.bh Tryz.prog o a w (.bool (!decide (X=Y))) w:=by
 have aJ:decide (X=Y)=decide (X.Name=Y.Name/\(X.Kind.Kind=Y.Kind.Kind/\X.Kind.aq=Y.Kind.aq/\True)/\True):=by rcases X with⟨_,⟨_,_⟩⟩;rcases Y with⟨_,⟨_,_⟩⟩;simp
 rw[aJ];exact ay.SV Tryz.underlying136 (by kernel_rfl) (by kernel_rfl) (ay.zV rfl Tryz.underlying9 Tryz.isAgg9 rfl rfl (ay.af4 (us:=[.int .i64 X.Kind.Kind,ay.cy X.Kind.aq]) (vs:=[.int .i64 Y.Kind.Kind,ay.cy Y.Kind.aq]) (q:=X.Kind.Kind=Y.Kind.Kind/\X.Kind.aq=Y.Kind.aq/\True) rfl Tryz.isAgg128 Tryz.sizeOf128 rfl rfl (ay.af5 Tryz.underlying128 (by kernel_rfl) (ay.oR rfl Tryz.underlying3 Tryz.isAgg3 rfl rfl (ay.zV rfl Tryz.underlying9 Tryz.isAgg9 rfl rfl (by simp[ay.uT])))) (by simp[ay.uT]))) b c hy
theorem axE{o:Oper}{a:Act}{w:World}{t':TypeId}{x y:Operand}{X Y:I.Handler}(b:o.op= .binOp .eql 157 x y t')(c:a.eval x= .agg #[.int .i64 X.From,.int .i64 X.To,.int .i64 X.At,ay.cy X.aq])(hy:a.eval y= .agg #[.int .i64 Y.From,.int .i64 Y.To,.int .i64 Y.At,ay.cy Y.aq]):ay.bh Tryz.prog o a w (.bool (decide (X=Y))) w:=by
 have aJ:decide (X=Y)=decide (X.From=Y.From/\X.To=Y.To/\X.At=Y.At/\X.aq=Y.aq/\True):=by rcases X with⟨_,_,_,_⟩;rcases Y with⟨_,_,_,_⟩;simp
 rw[aJ];exact ay.SS Tryz.underlying157 (by kernel_rfl) (by kernel_rfl) (ay.oR rfl Tryz.underlying3 Tryz.isAgg3 rfl rfl (ay.oR rfl Tryz.underlying3 Tryz.isAgg3 rfl rfl (ay.oR rfl Tryz.underlying3 Tryz.isAgg3 rfl rfl (ay.zV rfl Tryz.underlying9 Tryz.isAgg9 rfl rfl (by simp[ay.uT]))))) b c hy
theorem axI{o:Oper}{a:Act}{w:World}{t':TypeId}{x y:Operand}{X Y:I.Handler}(b:o.op= .binOp .neq 157 x y t')(c:a.eval x= .agg #[.int .i64 X.From,.int .i64 X.To,.int .i64 X.At,ay.cy X.aq])(hy:a.eval y= .agg #[.int .i64 Y.From,.int .i64 Y.To,.int .i64 Y.At,ay.cy Y.aq]):ay.bh Tryz.prog o a w (.bool (!decide (X=Y))) w:=by
 have aJ:decide (X=Y)=decide (X.From=Y.From/\X.To=Y.To/\X.At=Y.At/\X.aq=Y.aq/\True):=by rcases X with⟨_,_,_,_⟩;rcases Y with⟨_,_,_,_⟩;simp
 rw[aJ];exact ay.SV Tryz.underlying157 (by kernel_rfl) (by kernel_rfl) (ay.oR rfl Tryz.underlying3 Tryz.isAgg3 rfl rfl (ay.oR rfl Tryz.underlying3 Tryz.isAgg3 rfl rfl (ay.oR rfl Tryz.underlying3 Tryz.isAgg3 rfl rfl (ay.zV rfl Tryz.underlying9 Tryz.isAgg9 rfl rfl (by simp[ay.uT]))))) b c hy
theorem axG{o:Oper}{a:Act}{w:World}{t':TypeId}{x y:Operand}{X Y:I.Target}(b:o.op= .binOp .eql 166 x y t')(c:a.eval x= .agg #[.int .i64 X.aq,.int .i64 X.Method])(hy:a.eval y= .agg #[.int .i64 Y.aq,.int .i64 Y.Method]):ay.bh Tryz.prog o a w (.bool (decide (X=Y))) w:=by
 have aJ:decide (X=Y)=decide (X.aq=Y.aq/\X.Method=Y.Method/\True):=by rcases X with⟨_,_⟩;rcases Y with⟨_,_⟩;simp
 rw[aJ];exact ay.SS Tryz.underlying166 (by kernel_rfl) (by kernel_rfl) (ay.oR rfl Tryz.underlying3 Tryz.isAgg3 rfl rfl (ay.oR rfl Tryz.underlying3 Tryz.isAgg3 rfl rfl (by simp[ay.uT]))) b c hy
theorem axK{o:Oper}{a:Act}{w:World}{t':TypeId}{x y:Operand}{X Y:I.Target}(b:o.op= .binOp .neq 166 x y t')(c:a.eval x= .agg #[.int .i64 X.aq,.int .i64 X.Method])(hy:a.eval y= .agg #[.int .i64 Y.aq,.int .i64 Y.Method]):ay.bh Tryz.prog o a w (.bool (!decide (X=Y))) w:=by
 have aJ:decide (X=Y)=decide (X.aq=Y.aq/\X.Method=Y.Method/\True):=by rcases X with⟨_,_⟩;rcases Y with⟨_,_⟩;simp
 rw[aJ];exact ay.SV Tryz.underlying166 (by kernel_rfl) (by kernel_rfl) (ay.oR rfl Tryz.underlying3 Tryz.isAgg3 rfl rfl (ay.oR rfl Tryz.underlying3 Tryz.isAgg3 rfl rfl (by simp[ay.uT]))) b c hy
section
open ay
variable{n:cG}{fr:List (Nat×Value)}{w:World}{a:Act}
theorem aG2(k:Nat)(aj:List Nat){ops:Array Oper}{C:World->Prop}{b:Act->Prop}{rest:List Oper}{M:List (Nat×Nat×List Value)}(fr':List (Nat×Value))(L:List Nat)(d:∀w,C w->kq w M)(ad:Fr n fr a)
 (next:∀c,Fr n fr' c->wpQuiet Tryz.prog ops C b (rest.drop k) c)(e:nC sS ops n M (rest.take k) aj fr (fr'.map (·.1))=some (fr',dup L):=by kernel_rfl):wpQuiet Tryz.prog ops C b rest a:=aG1 k _ aj sT d ad e next
theorem rg(aj:List Nat){id:Nat}{lo:List Oper}{Q:Exit->Act->World->Prop}{M:List (Nat×Nat×List Value)}(fr':List (Nat×Value))(L:List Nat)(c:kq w M)(ad:Fr n fr a)
 (next:∀b,Fr n fr' b->Q .normal b w)(d:nC sS lo.toArray n M lo aj fr (fr'.map (·.1))=some (fr',dup L):=by kernel_rfl):(Code.region id lo.toArray false).wp Tryz.prog Q a w:=by
 refine pU (hq lo.length _ aj sT c ad (by rw[jy];exact d) λ b e=>?_)
 rw[hW]
 exact next b e
theorem Mk(aj:List Nat){id:Nat}{lo:List Oper}{c:Code}{Q:Exit->Act->World->Prop}(fr':List (Nat×Value))(ad:Fr n fr a)
 (next:∀b,Fr n fr' b->c.wp Tryz.prog Q b w)(d:nC sS lo.toArray n [] lo aj fr (fr'.map (·.1))=some (fr',dup []):=by kernel_rfl):(Code.seq (.region id lo.toArray false) c).wp Tryz.prog Q a w:=wp_seq_k λ _ e=>rg aj fr' [] gX ad (λ b f=>e _ _ (next b f)) d
theorem lU(k:Nat)(aj:List Nat){ops:Array Oper}{Q:Exit->Act->World->Prop}{rest:List Oper}(c:List (Nat×Value))(ad:Fr n fr a)
 (next:∀b,Fr n (q7 c fr) b->wpList Tryz.prog ops Q (rest.drop k) b w)(d:nC sS ops n [] (rest.take k) aj fr ((oQ c fr).map (·.1))=some (oQ c fr,dup []):=by kernel_rfl):wpList Tryz.prog ops Q rest a w:=hq k _ aj sT gX ad d λ b h=>next b h.NV
theorem uQ(k:Nat)(aj:List Nat){ops:Array Oper}{Q:Exit->Act->World->Prop}{rest:List Oper}{M:List (Nat×Nat×List Value)}(c:List (Nat×Value))(L:List Nat)(d:kq w M)(ad:Fr n fr a)
 (next:∀b,Fr n (q7 c fr) b->wpList Tryz.prog ops Q (rest.drop k) b w)(e:nC sS ops n M (rest.take k) aj fr ((oQ c fr).map (·.1))=some (oQ c fr,dup L):=by kernel_rfl):wpList Tryz.prog ops Q rest a w:=hq k _ aj sT d ad e λ b h=>next b h.NV
theorem afm(aj:List Nat){id:Nat}{lo:List Oper}{Q:Exit->Act->World->Prop}{M:List (Nat×Nat×List Value)}(c:List (Nat×Value))(L:List Nat)(d:kq w M)(ad:Fr n fr a)
 (next:∀b,Fr n (q7 c fr) b->Q .normal b w)(e:nC sS lo.toArray n M lo aj fr ((oQ c fr).map (·.1))=some (oQ c fr,dup L):=by kernel_rfl):(Code.region id lo.toArray false).wp Tryz.prog Q a w:=rg aj _ L d ad (λ b h=>next b h.NV) e
theorem afn(aj:List Nat){id:Nat}{lo:List Oper}{Q:Exit->Act->World->Prop}(b:List (Nat×Value))(ad:Fr n fr a)
 (next:∀c,Fr n (q7 b fr) c->Q .normal c w)(d:nC sS lo.toArray n [] lo aj fr ((oQ b fr).map (·.1))=some (oQ b fr,dup []):=by kernel_rfl):(Code.region id lo.toArray false).wp Tryz.prog Q a w:=afm aj b [] gX ad next d
theorem rj(aj:List Nat){id:Nat}{lo:List Oper}{c:Code}{Q:Exit->Act->World->Prop}(b:List (Nat×Value))(ad:Fr n fr a)
 (next:∀d,Fr n (q7 b fr) d->c.wp Tryz.prog Q d w)(e:nC sS lo.toArray n [] lo aj fr ((oQ b fr).map (·.1))=some (oQ b fr,dup []):=by kernel_rfl):(Code.seq (.region id lo.toArray false) c).wp Tryz.prog Q a w:=wp_seq_k λ _ f=>afm aj b [] gX ad (λ d g=>f _ _ (next d g)) e
variable{ops:Array Oper}{Q:Exit->Act->World->Prop}{S:World->Prop}{f p:Nat}{ds:List Nat}{M:List (Nat×Nat×List Value)}
theorem a0(is:List Nat)(k:Nat)(aj:List Nat)(fr':List (Nat×Value))(L:List Nat)(c:∀w,S w->kq w M)(ad:Fr n fr a)(d:S w)(next:∀b,Fr n fr' b->fC Tryz.prog ops Q p S f (LX is ds) b w)
 (e:cj is.length k=true:=by kernel_rfl)(g:(dW ops.size ds).getD p false=false:=by kernel_rfl)(h:If ops p ds is=true:=by kernel_rfl)(i:Od sS ops n M is aj fr (fr'.map (·.1))=some (fr',dup L):=by kernel_rfl):fC Tryz.prog ops Q p S (f+k) ds a w:=by
 obtain⟨os,j,J⟩:=ayd i
 exact au2 is k _ aj sT c ad e g j h J d next
theorem eo(is:List Nat)(k:Nat)(aj:List Nat)(c:List (Nat×Value))(L:List Nat)(d:∀w,S w->kq w M)(ad:Fr n fr a)(e:S w)(next:∀b,Fr n (q7 c fr) b->fC Tryz.prog ops Q p S f (LX is ds) b w)
 (g:cj is.length k=true:=by kernel_rfl)(i:(dW ops.size ds).getD p false=false:=by kernel_rfl)(j:If ops p ds is=true:=by kernel_rfl)(l:Od sS ops n M is aj fr ((oQ c fr).map (·.1))=some (oQ c fr,dup L):=by kernel_rfl):fC Tryz.prog ops Q p S (f+k) ds a w:=
 a0 is k aj _ L d ad e (λ b h=>next b h.NV) g i j l
end
theorem oL:Tryz.prog.cellsOf 3=1:=by kernel_rfl
theorem av_:Tryz.prog.cellsOf 4=1:=by kernel_rfl
theorem zP:Tryz.prog.cellsOf 9=1:=by kernel_rfl
theorem Uk:Tryz.prog.cellsOf 22=1:=by kernel_rfl
theorem av4:Tryz.prog.cellsOf 24=7:=by kernel_rfl
theorem av5:Tryz.prog.cellsOf 25=1:=by kernel_rfl
theorem av6:Tryz.prog.cellsOf 26=1:=by kernel_rfl
theorem av7:Tryz.prog.cellsOf 27=1:=by kernel_rfl
theorem av8:Tryz.prog.cellsOf 28=1:=by kernel_rfl
theorem av9:Tryz.prog.cellsOf 30=5:=by kernel_rfl
theorem avZ:Tryz.prog.cellsOf 120=1:=by kernel_rfl
theorem av0:Tryz.prog.cellsOf 121=1:=by kernel_rfl
theorem aeZ:Tryz.prog.cellsOf 124=1:=by kernel_rfl
theorem av1:Tryz.prog.cellsOf 126=1:=by kernel_rfl
theorem NQ:Tryz.prog.cellsOf 128=2:=by kernel_rfl
theorem av2:Tryz.prog.cellsOf 129=1:=by kernel_rfl
theorem ae_:Tryz.prog.cellsOf 131=9:=by kernel_rfl
theorem av3:Tryz.prog.cellsOf 132=1:=by kernel_rfl
theorem ae':Tryz.prog.cellsOf 134=4:=by kernel_rfl
theorem afa:Tryz.prog.cellsOf 136=3:=by kernel_rfl
theorem afb:Tryz.prog.cellsOf 157=4:=by kernel_rfl
theorem afc:Tryz.prog.cellsOf 166=2:=by kernel_rfl
theorem avo:Tryz.prog.bytesOf 3=8:=by kernel_rfl
theorem avp:Tryz.prog.bytesOf 9=16:=by kernel_rfl
theorem avf:Tryz.prog.bytesOf 120=24:=by kernel_rfl
theorem avg:Tryz.prog.bytesOf 121=24:=by kernel_rfl
theorem avh:Tryz.prog.bytesOf 124=24:=by kernel_rfl
theorem avi:Tryz.prog.bytesOf 128=24:=by kernel_rfl
theorem avj:Tryz.prog.bytesOf 131=128:=by kernel_rfl
theorem avk:Tryz.prog.bytesOf 134=80:=by kernel_rfl
theorem avl:Tryz.prog.bytesOf 136=40:=by kernel_rfl
theorem avm:Tryz.prog.bytesOf 157=40:=by kernel_rfl
theorem avn:Tryz.prog.bytesOf 166=16:=by kernel_rfl
theorem ajJ{l:List Value}(h:l.length=2):∃a0 a,l=[a0,a]:=match l,h with|[a0,a],_=>⟨a0,a,rfl⟩
theorem aEp{l:List Value}(h:l.length=3):∃a0 a b,l=[a0,a,b]:=match l,h with|[a0,a,b],_=>⟨a0,a,b,rfl⟩
theorem ajK{l:List Value}(h:l.length=4):∃a0 a b a3,l=[a0,a,b,a3]:=match l,h with|[a0,a,b,a3],_=>⟨a0,a,b,a3,rfl⟩
theorem aEq{l:List Value}(h:l.length=5):∃a0 a b a3 a4,l=[a0,a,b,a3,a4]:=match l,h with|[a0,a,b,a3,a4],_=>⟨a0,a,b,a3,a4,rfl⟩
theorem aEr{l:List Value}(h:l.length=7):∃a0 a b a3 a4 a5 c,l=[a0,a,b,a3,a4,a5,c]:=match l,h with|[a0,a,b,a3,a4,a5,c],_=>⟨a0,a,b,a3,a4,a5,c,rfl⟩
theorem aEs{l:List Value}(h:l.length=9):∃a0 a b a3 a4 a5 c Dj d,l=[a0,a,b,a3,a4,a5,c,Dj,d]:=match l,h with|[a0,a,b,a3,a4,a5,c,Dj,d],_=>⟨a0,a,b,a3,a4,a5,c,Dj,d,rfl⟩
section
variable{H:Type}{enc:TypeId×Value->H}{N:Nat}
theorem Q0:ay.h_ Tryz.prog enc N 22 (ay.b7 (ay.fv .i64)) (λ l=>l.length*8<=N/\∀a∈l,ay.ja a):=by have h:=ay.tO (enc:=enc) (N:=N) Tryz.underlying22 oL (by decide) (ay.pq Tryz.underlying3);rw[avo]at h;exact h
def ad0(N:Nat)(d:I.aV):Prop:=(d.Words.length*8<=N/\∀a∈d.Words,ay.ja a)/\ay.ja d.ak/\ay.ja d.aK/\ay.ja d.aO/\ay.ja d.aM/\(d.aU.length*8<=N/\∀a∈d.aU,ay.ja a)/\ay.ja d.Next
theorem aIO:ay.h_ Tryz.prog enc N 24 I.aKD (ad0 N):=by intro W n cs x h j k;obtain⟨gE,a,ad⟩:=ay.pZ Tryz.underlying24 h j k;replace a:=a.trans av4;obtain⟨a0,b,c,a3,a4,a5,d,rfl⟩:=aEr a;obtain⟨FM,l,m,w0⟩:=ay.fR ad 0 rfl rfl rfl Uk (r:=[a0]) rfl;obtain⟨o,g,p⟩:=(Q0) W _ _ _ l m w0;obtain⟨q,eP,s⟩:=ay.n2 g;obtain rfl:a0=_:=(fN s).1;obtain⟨cO,t,u,v⟩:=ay.fR ad 1 rfl rfl rfl oL (r:=[b]) rfl;obtain⟨w,y,z⟩:=(ay.pq Tryz.underlying3) W _ _ _ t u v;have A:[b]=_:=y;obtain rfl:b=_:=(fN A).1;obtain⟨k_,J,B,C⟩:=ay.fR ad 2 rfl rfl rfl oL (r:=[c]) rfl;obtain⟨D,E,F⟩:=(ay.pq Tryz.underlying3) W _ _ _ J B C;have ao:[c]=_:=E;obtain rfl:c=_:=(fN ao).1;obtain⟨qU,G,K,L⟩:=ay.fR ad 3 rfl rfl rfl oL (r:=[a3]) rfl;obtain⟨M,gg,O⟩:=(ay.pq Tryz.underlying3) W _ _ _ G K L;have aW:[a3]=_:=gg;obtain rfl:a3=_:=(fN aW).1;obtain⟨IR,P,Q,R⟩:=ay.fR ad 4 rfl rfl rfl oL (r:=[a4]) rfl;obtain⟨S,lC,T⟩:=(ay.pq Tryz.underlying3) W _ _ _ P Q R;have bR:[a4]=_:=lC;obtain rfl:a4=_:=(fN bR).1;obtain⟨U,V,X,Y⟩:=ay.fR ad 5 rfl rfl rfl Uk (r:=[a5]) rfl;obtain⟨Z,i,qc⟩:=(Q0) W _ _ _ V X Y;obtain⟨y8,c5,dx⟩:=ay.n2 i;obtain rfl:a5=_:=(fN dx).1;obtain⟨aOb,eW,yo,e⟩:=ay.fR ad 6 rfl rfl rfl oL (r:=[d]) rfl;obtain⟨d6,f,AC⟩:=(ay.pq Tryz.underlying3) W _ _ _ eW yo e;have eV:[d]=_:=f;obtain rfl:d=_:=(fN eV).1;exact⟨⟨o,w,D,M,S,Z,d6⟩,⟨q,eP,y8,c5,rfl,g,i⟩,⟨p,z,F,O,T,qc,AC⟩⟩
def I8(N:Nat)(d:I.Kind):Prop:=ay.ja d.Kind/\d.aq.length<=N
theorem aaO:ay.h_ Tryz.prog enc N 128 I.E8 (I8 N):=by intro W n cs x h c d;obtain⟨u,a,ad⟩:=ay.pZ Tryz.underlying128 h c d;replace a:=a.trans NQ;obtain⟨a0,b,rfl⟩:=ajJ a;obtain⟨v,e,f,w0⟩:=ay.fR ad 0 rfl rfl rfl oL (r:=[a0]) rfl;obtain⟨g,i,j⟩:=(ay.pq Tryz.underlying3) W _ _ _ e f w0;have k:[a0]=_:=i;obtain rfl:a0=_:=(fN k).1;obtain⟨w,l,m,o⟩:=ay.fR ad 1 rfl rfl rfl zP (r:=[b]) rfl;obtain⟨p,q,s⟩:=(ay.Bs Tryz.underlying9) W _ _ _ l m o;have t:[b]=_:=q;obtain rfl:b=_:=(fN t).1;exact⟨⟨g,p⟩,rfl,⟨j,s⟩⟩
def I7(N:Nat)(d:I.Field):Prop:=d.Name.length<=N/\I8 N d.Kind
theorem aIM:ay.h_ Tryz.prog enc N 136 I.jY (I7 N):=by intro W n cs x h e f;obtain⟨v,a,ad⟩:=ay.pZ Tryz.underlying136 h e f;replace a:=a.trans afa;obtain⟨a0,b,c,rfl⟩:=aEp a;obtain⟨w,g,i,w0⟩:=ay.fR ad 0 rfl rfl rfl zP (r:=[a0]) rfl;obtain⟨j,k,l⟩:=(ay.Bs Tryz.underlying9) W _ _ _ g i w0;have m:[a0]=_:=k;obtain rfl:a0=_:=(fN m).1;obtain⟨y,o,p,q⟩:=ay.fR ad 1 rfl rfl rfl NQ (r:=[b,c]) rfl;obtain⟨s,t,u⟩:=aaO W _ _ _ o p q;have d:[b,c]=_:=t;simp only[hU,and_true]at d;obtain⟨rfl,rfl⟩:=d;exact⟨⟨j,s⟩,rfl,⟨l,u⟩⟩
theorem al0:ay.h_ Tryz.prog enc N 124 (ay.b7 I.jY) (λ l=>l.length*40<=N/\∀a∈l,I7 N a):=by have h:=ay.tO (enc:=enc) (N:=N) Tryz.underlying124 afa (by decide) aIM;rw[avl]at h;exact h
theorem aIV:ay.h_ Tryz.prog enc N 126 (ay.b7 I.E8) (λ l=>l.length*24<=N/\∀a∈l,I8 N a):=by have h:=ay.tO (enc:=enc) (N:=N) Tryz.underlying126 NQ (by decide) aaO;rw[avi]at h;exact h
def TA(N:Nat)(d:I.Handler):Prop:=ay.ja d.From/\ay.ja d.To/\ay.ja d.At/\d.aq.length<=N
theorem aIN:ay.h_ Tryz.prog enc N 157 I.E7 (TA N):=by intro W n cs x h d e;obtain⟨G,a,ad⟩:=ay.pZ Tryz.underlying157 h d e;replace a:=a.trans afb;obtain⟨a0,b,c,a3,rfl⟩:=ajK a;obtain⟨K,f,g,w0⟩:=ay.fR ad 0 rfl rfl rfl oL (r:=[a0]) rfl;obtain⟨i,j,k⟩:=(ay.pq Tryz.underlying3) W _ _ _ f g w0;have l:[a0]=_:=j;obtain rfl:a0=_:=(fN l).1;obtain⟨L,m,o,p⟩:=ay.fR ad 1 rfl rfl rfl oL (r:=[b]) rfl;obtain⟨q,s,t⟩:=(ay.pq Tryz.underlying3) W _ _ _ m o p;have u:[b]=_:=s;obtain rfl:b=_:=(fN u).1;obtain⟨M,J,v,w⟩:=ay.fR ad 2 rfl rfl rfl oL (r:=[c]) rfl;obtain⟨y,z,A⟩:=(ay.pq Tryz.underlying3) W _ _ _ J v w;have ao:[c]=_:=z;obtain rfl:c=_:=(fN ao).1;obtain⟨O,B,C,D⟩:=ay.fR ad 3 rfl rfl rfl zP (r:=[a3]) rfl;obtain⟨E,gg,F⟩:=(ay.Bs Tryz.underlying9) W _ _ _ B C D;have aW:[a3]=_:=gg;obtain rfl:a3=_:=(fN aW).1;exact⟨⟨i,q,y,E⟩,rfl,⟨k,t,A,F⟩⟩
theorem aIW:ay.h_ Tryz.prog enc N 129 (ay.b7 I.E7) (λ l=>l.length*40<=N/\∀a∈l,TA N a):=by have h:=ay.tO (enc:=enc) (N:=N) Tryz.underlying129 afb (by decide) aIN;rw[avm]at h;exact h
def Nl(N:Nat)(d:I.Method):Prop:=d.Name.length<=N/\True/\(d.cF.length*24<=N/\∀a∈d.cF,I8 N a)/\I8 N d.Returns/\ay.ja d.ia/\ay.ja d.h9/\d.Code.length<=N/\(d.cL.length*40<=N/\∀a∈d.cL,TA N a)
theorem aIQ:ay.h_ Tryz.prog enc N 131 I.r6 (Nl N):=by intro W n cs x h p q;obtain⟨gE,b,ad⟩:=ay.pZ Tryz.underlying131 h p q;replace b:=b.trans ae_;obtain⟨a0,c,l,a3,a4,a5,d,Dj,m,rfl⟩:=aEs b;obtain⟨FM,s,t,w0⟩:=ay.fR ad 0 rfl rfl rfl zP (r:=[a0]) rfl;obtain⟨u,v,w⟩:=(ay.Bs Tryz.underlying9) W _ _ _ s t w0;have y:[a0]=_:=v;obtain rfl:a0=_:=(fN y).1;obtain⟨cO,z,A,B⟩:=ay.fR ad 1 rfl rfl rfl av_ (r:=[c]) rfl;obtain⟨C,D,E⟩:=(ay.aIS Tryz.underlying4) W _ _ _ z A B;have F:[c]=_:=D;obtain rfl:c=_:=(fN F).1;obtain⟨k_,J,G,K⟩:=ay.fR ad 2 rfl rfl rfl av1 (r:=[l]) rfl;obtain⟨L,o,M⟩:=(aIV) W _ _ _ J G K;obtain⟨O,c2,ao⟩:=ay.n2 o;obtain rfl:l=_:=(fN ao).1;obtain⟨qU,P,Q,R⟩:=ay.fR ad 3 rfl rfl rfl NQ (r:=[a3,a4]) rfl;obtain⟨S,gg,T⟩:=aaO W _ _ _ P Q R;have aW:[a3,a4]=_:=gg;simp only[hU,and_true]at aW;obtain⟨rfl,rfl⟩:=aW;obtain⟨IR,U,V,X⟩:=ay.fR ad 4 rfl rfl rfl oL (r:=[a5]) rfl;obtain⟨Y,lC,Z⟩:=(ay.pq Tryz.underlying3) W _ _ _ U V X;have bR:[a5]=_:=lC;obtain rfl:a5=_:=(fN bR).1;obtain⟨aOa,cQ,tK,yG⟩:=ay.fR ad 5 rfl rfl rfl oL (r:=[d]) rfl;obtain⟨d5,rZ,qc⟩:=(ay.pq Tryz.underlying3) W _ _ _ cQ tK yG;have dx:[d]=_:=rZ;obtain rfl:d=_:=(fN dx).1;obtain⟨aOb,eW,yo,e⟩:=ay.fR ad 6 rfl rfl rfl zP (r:=[Dj]) rfl;obtain⟨d6,f,AC⟩:=(ay.Bs Tryz.underlying9) W _ _ _ eW yo e;have eV:[Dj]=_:=f;obtain rfl:Dj=_:=(fN eV).1;obtain⟨aQm,hV,HK,g⟩:=ay.fR ad 7 rfl rfl rfl av2 (r:=[m]) rfl;obtain⟨d7,a,i⟩:=(aIW) W _ _ _ hV HK g;obtain⟨j,k,kP⟩:=ay.n2 a;obtain rfl:m=_:=(fN kP).1;exact⟨⟨u,C,L,S,Y,d5,d6,d7⟩,⟨O,c2,j,k,rfl,o,a⟩,⟨w,E,M,T,Z,qc,AC,i⟩⟩
theorem aIX:ay.h_ Tryz.prog enc N 132 (ay.b7 I.r6) (λ l=>l.length*128<=N/\∀a∈l,Nl N a):=by have h:=ay.tO (enc:=enc) (N:=N) Tryz.underlying132 ae_ (by decide) aIQ;rw[avj]at h;exact h
def I6(N:Nat)(d:I.aq):Prop:=d.Name.length<=N/\d.dc.length<=N/\(d.Fields.length*40<=N/\∀a∈d.Fields,I7 N a)/\(d.bp.length*128<=N/\∀a∈d.bp,Nl N a)
theorem aIL:ay.h_ Tryz.prog enc N 134 I.k5 (I6 N):=by intro W n cs x h e f;obtain⟨L,a,ad⟩:=ay.pZ Tryz.underlying134 h e f;replace a:=a.trans ae';obtain⟨a0,b,c,a3,rfl⟩:=ajK a;obtain⟨M,g,i,w0⟩:=ay.fR ad 0 rfl rfl rfl zP (r:=[a0]) rfl;obtain⟨j,k,l⟩:=(ay.Bs Tryz.underlying9) W _ _ _ g i w0;have m:[a0]=_:=k;obtain rfl:a0=_:=(fN m).1;obtain⟨O,o,p,q⟩:=ay.fR ad 1 rfl rfl rfl zP (r:=[b]) rfl;obtain⟨s,t,u⟩:=(ay.Bs Tryz.underlying9) W _ _ _ o p q;have v:[b]=_:=t;obtain rfl:b=_:=(fN v).1;obtain⟨P,J,w,y⟩:=ay.fR ad 2 rfl rfl rfl aeZ (r:=[c]) rfl;obtain⟨z,d,A⟩:=(al0) W _ _ _ J w y;obtain⟨B,c2,ao⟩:=ay.n2 d;obtain rfl:c=_:=(fN ao).1;obtain⟨Q,C,D,E⟩:=ay.fR ad 3 rfl rfl rfl av3 (r:=[a3]) rfl;obtain⟨F,gg,G⟩:=(aIX) W _ _ _ C D E;obtain⟨K,c3,aW⟩:=ay.n2 gg;obtain rfl:a3=_:=(fN aW).1;exact⟨⟨j,s,z,F⟩,⟨B,c2,K,c3,rfl,d,gg⟩,⟨l,u,A,G⟩⟩
theorem aIY:ay.h_ Tryz.prog enc N 25 (ay.b7 I.k5) (λ l=>l.length*80<=N/\∀a∈l,I6 N a):=by have h:=ay.tO (enc:=enc) (N:=N) Tryz.underlying25 ae' (by decide) aIL;rw[avk]at h;exact h
theorem aIZ:ay.h_ Tryz.prog enc N 26 (ay.b7 (ay.b7 I.jY)) (λ l=>l.length*24<=N/\∀a∈l,(a.length*40<=N/\∀b∈a,I7 N b)):=by have h:=ay.tO (enc:=enc) (N:=N) Tryz.underlying26 aeZ (by decide) (al0);rw[avh]at h;exact h
theorem aIT:ay.h_ Tryz.prog enc N 120 (ay.b7 ay.jX) (λ l=>l.length*16<=N/\∀a∈l,a.length<=N):=by have h:=ay.tO (enc:=enc) (N:=N) Tryz.underlying120 zP (by decide) (ay.Bs Tryz.underlying9);rw[avp]at h;exact h
theorem aI0:ay.h_ Tryz.prog enc N 27 (ay.b7 (ay.b7 ay.jX)) (λ l=>l.length*24<=N/\∀a∈l,(a.length*16<=N/\∀b∈a,b.length<=N)):=by have h:=ay.tO (enc:=enc) (N:=N) Tryz.underlying27 avZ (by decide) (aIT);rw[avf]at h;exact h
def Nn(N:Nat)(d:I.Target):Prop:=ay.ja d.aq/\ay.ja d.Method
theorem aIR:ay.h_ Tryz.prog enc N 166 I.k6 (Nn N):=by intro W n cs x h c d;obtain⟨u,a,ad⟩:=ay.pZ Tryz.underlying166 h c d;replace a:=a.trans afc;obtain⟨a0,b,rfl⟩:=ajJ a;obtain⟨v,e,f,w0⟩:=ay.fR ad 0 rfl rfl rfl oL (r:=[a0]) rfl;obtain⟨g,i,j⟩:=(ay.pq Tryz.underlying3) W _ _ _ e f w0;have k:[a0]=_:=i;obtain rfl:a0=_:=(fN k).1;obtain⟨w,l,m,o⟩:=ay.fR ad 1 rfl rfl rfl oL (r:=[b]) rfl;obtain⟨p,q,s⟩:=(ay.pq Tryz.underlying3) W _ _ _ l m o;have t:[b]=_:=q;obtain rfl:b=_:=(fN t).1;exact⟨⟨g,p⟩,rfl,⟨j,s⟩⟩
theorem aIU:ay.h_ Tryz.prog enc N 121 (ay.b7 I.k6) (λ l=>l.length*16<=N/\∀a∈l,Nn N a):=by have h:=ay.tO (enc:=enc) (N:=N) Tryz.underlying121 afc (by decide) aIR;rw[avn]at h;exact h
theorem aI1:ay.h_ Tryz.prog enc N 28 (ay.b7 (ay.b7 I.k6)) (λ l=>l.length*24<=N/\∀a∈l,(a.length*16<=N/\∀b∈a,Nn N b)):=by have h:=ay.tO (enc:=enc) (N:=N) Tryz.underlying28 av0 (by decide) (aIU);rw[avg]at h;exact h
def Nk(N:Nat)(d:I.aP):Prop:=(d.a1.length*80<=N/\∀a∈d.a1,I6 N a)/\(d.aY.length*8<=N/\∀a∈d.aY,ay.ja a)/\(d.Fields.length*24<=N/\∀a∈d.Fields,(a.length*40<=N/\∀b∈a,I7 N b))/\(d.Names.length*24<=N/\∀a∈d.Names,(a.length*16<=N/\∀b∈a,b.length<=N))/\(d.aZ.length*24<=N/\∀a∈d.aZ,(a.length*16<=N/\∀b∈a,Nn N b))
theorem aIP:ay.h_ Tryz.prog enc N 30 I.aKE (Nk N):=by intro W n cs x h g i;obtain⟨U,a,ad⟩:=ay.pZ Tryz.underlying30 h g i;replace a:=a.trans av9;obtain⟨a0,b,c,a3,a4,rfl⟩:=aEq a;obtain⟨V,j,k,w0⟩:=ay.fR ad 0 rfl rfl rfl av5 (r:=[a0]) rfl;obtain⟨l,d,m⟩:=(aIY) W _ _ _ j k w0;obtain⟨o,eP,p⟩:=ay.n2 d;obtain rfl:a0=_:=(fN p).1;obtain⟨X,q,s,t⟩:=ay.fR ad 1 rfl rfl rfl Uk (r:=[b]) rfl;obtain⟨u,e,v⟩:=(Q0) W _ _ _ q s t;obtain⟨w,c1,y⟩:=ay.n2 e;obtain rfl:b=_:=(fN y).1;obtain⟨Y,J,z,A⟩:=ay.fR ad 2 rfl rfl rfl av6 (r:=[c]) rfl;obtain⟨B,f,C⟩:=(aIZ) W _ _ _ J z A;obtain⟨D,c2,ao⟩:=ay.n2 f;obtain rfl:c=_:=(fN ao).1;obtain⟨Z,E,F,G⟩:=ay.fR ad 3 rfl rfl rfl av7 (r:=[a3]) rfl;obtain⟨K,gg,L⟩:=(aI0) W _ _ _ E F G;obtain⟨M,c3,aW⟩:=ay.n2 gg;obtain rfl:a3=_:=(fN aW).1;obtain⟨IR,O,P,Q⟩:=ay.fR ad 4 rfl rfl rfl av8 (r:=[a4]) rfl;obtain⟨R,lC,S⟩:=(aI1) W _ _ _ O P Q;obtain⟨T,c4,bR⟩:=ay.n2 lC;obtain rfl:a4=_:=(fN bR).1;exact⟨⟨l,u,B,K,R⟩,⟨o,eP,w,c1,D,c2,M,c3,T,c4,rfl,d,e,f,gg,lC⟩,⟨m,v,C,L,S⟩⟩
end
end Go.Proofs.YteeliipnilghaaaGreat
namespace ba
open Go Go.RowKit ay I
inductive aL (El:Nat->Type):Type
 |p (v:Value)
 |b (i o:Nat)
 |x (t:Nat) (d:El t) (o:Nat)
 |s (t:Nat) (l:List (El t))
 |q (t:Nat) (l:List (El t))
 |r (i g:Nat)
 |v (i g:Nat) (lo hi:Int)
 |e (i g k t:Nat) (j:Int) (d:El t) (o:Nat)
 |w (i g o:Nat)
 |m (i:Nat)
 |n (kt vt:Nat) (d:List (El kt×El vt))
 |f (fn:Fn) (cs:List (aL El))
 |h (fn:Fn) (us:List (aL El))
 |a (l:List (aL El))
 |u (l:List (aL El))
 |i (t:Nat) (y:aL El)
 |pp (i g sz:Nat) (eg:List Int)
 |Bp (i g sz:Nat) (q:Int)
inductive aH (El:Nat->Type):Type
 |c (ty:Nat) (cs:List (aL El))
 |r (t g k:Nat) (l:List (El t))
 |k (t sz g:Nat) (cs:List (aL El))
 |z (t g k:Nat) (l:List (El t))
 |m (kt vt:Nat) (d:List (El kt×El vt))
 |o (Y_:Obj)
 |no (g:Nat)
structure iA (cS:Type) where
 dec:DecidableEq cS
 tl: @mA cS dec
structure b8 (El:Nat->Type) (t:Nat) where
 ty:dm (El t)
 agg:Bool
 cs:El t->List (aL El)
 hX:List (aL El)->Option (El t)
 eq:Option (El t->El t->Bool)
 key:Option (iA (El t))
structure bU where
 El:Nat->Type
 es:List (Σ t,b8 El t)
def aKC{α:Type}:dm α where
 size:=0
 rd _ _ _ _:=False
 len h:=h.elim
 one h:=h.elim
 law _ h:=h
def b8.no{El:Nat->Type}{t:Nat}:b8 El t:=⟨aKC,true,λ _=>[],λ _=>none,none,none⟩
def fZ{El:Nat->Type}:List (Σ t,b8 El t)->(t:Nat)->b8 El t
 |[],_=>b8.no
 |e::r,t=>match lL e.1 t with
  |isTrue h=>h▸e.2
  |isFalse _=>fZ r t
def bU.e(T:bU)(t:Nat):b8 T.El t:=fZ T.es t
def bU.ty(T:bU)(t:Nat):dm (T.El t):=(T.e t).ty
def b5{El:Nat->Type}:Option (aH El)->Nat
 |some (.r _ g _ _)=>g
 |some (.k _ _ g _)=>g
 |some (.z _ g _ _)=>g
 |some (.no g)=>g
 |_=>0
def hs{El:Nat->Type}:Option (aH El)->Nat
 |some (.r _ _ k _)=>k
 |some (.z _ _ k _)=>k
 |_=>0
def jT{El:Nat->Type}:Option (aH El)->Option (Σ t,List (El t))
 |some (.r t _ _ l)=>some ⟨t,l⟩
 |some (.z t _ _ l)=>some ⟨t,l⟩
 |_=>none
def jU(T:bU):Option (aH T.El)->Nat
 |some (.r t _ _ _)=>(T.ty t).size
 |some (.k _ sz _ _)=>sz
 |some (.z t _ _ _)=>(T.ty t).size
 |_=>0
def lv:Value->Prop
 | .slice _ _ _=>True
 |_=>False
def xJ:Value->Prop
 | .pointer (some _)=>True
 |_=>False
def Bh(agg:Bool)(xs:List Value):Value:=match agg with
 |true=>.agg ⟨xs⟩
 |false=>xs.headD undef
section
variable(T:bU)(F:Nat->Prop)(w:World)
def Dg(t:Nat)(d:T.El t)(v:Value):Prop:=∃xs,(T.ty t).rd F w xs d/\v=Bh (T.e t).agg xs
def ka{kt vt:Nat}(K:iA (T.El kt)):List MapEntry->List (T.El kt×T.El vt)->Prop
 |[],[]=>True
 |e::es,p::d=>e.key= @mA.enc _ K.dec K.tl p.1/\Dg T F w vt p.2 e.val/\ka K es d
 |_,_=>False
def zk(kt vt r:Nat)(d:List (T.El kt×T.El vt)):Prop:=∃K,(T.e kt).key=some K/\∃es clock,w.heap[r]? =some (.map es clock)/\ka T F w K es.toList d/\(es.toList.map (·.born)).Pairwise (·< ·)/\∀e∈es.toList,e.born<clock
end
section
variable{T:bU}{F F':Nat->Prop}{w w':World}
theorem ka.law(a:∀k,F k->F' k/\w'.heap[k]? =w.heap[k]?){kt vt:Nat}{K:iA (T.El kt)}:∀ {es:List MapEntry}{d:List (T.El kt×T.El vt)},ka T F w K es d->ka T F' w' K es d
 |[],[],_=>trivial
 |[],_::_,h=>h.elim
 |_::_,[],h=>h.elim
 |e::es,p::d,h=>by obtain⟨b,⟨xs,J,c⟩,f⟩:=h;exact⟨b,⟨xs,(T.ty vt).law a J,c⟩,ka.law a f⟩
theorem zk.law(a:∀k,F k->F' k/\w'.heap[k]? =w.heap[k]?){kt vt r:Nat}{d:List (T.El kt×T.El vt)}(aj:w'.heap[r]? =w.heap[r]?)(h:zk T F w kt vt r d):zk T F' w' kt vt r d:=by obtain⟨K,b,es,cl,J,c,e⟩:=h;exact⟨K,b,es,cl,aj.trans J,c.law a,e⟩
end
def wF{El:Nat->Type}(ρ:List Value)(bl:List (aH El))(i g sz:Nat)(q:Int)(v:Value):Prop:=xJ v/\∃h,ρ[i]? =some h/\g<=b5 bl[i]? /\(g=b5 bl[i]? ->∃A n c,h= .slice A n c/\0<=q/\q<n/\v= .pointer (some ⟨dC A,q.toNat*sz,none⟩))
def uD{El:Nat->Type}(ρ:List Value)(bl:List (aH El))(i g sz:Nat):List Int->List Value->Prop
 |[],vs=>vs=[]
 |q::r,vs=>∃u us,vs=u::us/\wF ρ bl i g sz q u/\uD ρ bl i g sz r us
section
variable(T:bU)(F:Nat->Prop)(w:World)(ρ:List Value)(bl:List (aH T.El))
mutual
def ax:aL T.El->Value->Prop
 | .p u,v=>v=u
 | .b i o,v=>∃g,ρ[i]? =some (.pointer (some ⟨g,0,none⟩))/\v= .pointer (some ⟨g,o,none⟩)
 | .x t d o,v=>∃a q cs,v= .pointer (some ⟨a,q+o,none⟩)/\F a/\(T.ty t).rd F w cs d/\fy w ⟨a,q,none⟩ cs
 | .s t l,v=>(b7 (T.ty t)).rd F w [v] l
 | .q t l,v=>(b7 (T.ty t)).rd F w [v] l/\∃A,v= .slice A l.length l.length
 | .r i g,v=>lv v/\∃h,ρ[i]? =some h/\g<=b5 bl[i]? /\(g=b5 bl[i]? ->v=h)
 | .v i g lo hi,v=>lv v/\∃h,ρ[i]? =some h/\g<=b5 bl[i]? /\(g=b5 bl[i]? ->∃A n c B,h= .slice A n c/\0<=lo/\lo<=hi/\hi<=n/\v= .slice B (hi.toNat-lo.toNat) (c-lo.toNat)/\(lo=0 ->B=A)/\(lo<hi->B=A.map (·.add (lo.toNat*jU T bl[i]?))))
 | .e i g k t j d o,v=>xJ v/\∃h,ρ[i]? =some h/\g<=b5 bl[i]? /\(g=b5 bl[i]? ->(∃A n c,h= .slice A n c/\0<=j/\j<n/\v= .pointer (some ⟨dC A,j.toNat*jU T bl[i]? +o,none⟩))/\k<=hs bl[i]? /\(k=hs bl[i]? ->∃l,jT bl[i]? =some ⟨t,l⟩/\idx l j=some d))
 | .w i g o,v=>xJ v/\∃h,ρ[i]? =some h/\g<=b5 bl[i]? /\(g=b5 bl[i]? ->∃A n c,h= .slice A n c/\0<n/\v= .pointer (some ⟨dC A,o,none⟩))
 | .m i,v=>∃r,ρ[i]? =some (.map (some r))/\v= .map (some r)
 | .n kt vt d,v=>∃r,v= .map (some r)/\F r/\zk T F w kt vt r d
 | .f fn cs,v=>∃vs,v= .func fn #[] ⟨vs⟩/\a_ cs vs
 | .h fn us,v=>∃vs,v= .func fn ⟨vs⟩ #[]/\a_ us vs
 | .a l,v=>∃vs,v= .agg ⟨vs⟩/\a_ l vs
 | .u l,v=>∃vs,v= .tuple ⟨vs⟩/\a_ l vs
 | .i t y,v=>∃u,v= .iface t u/\ax y u
 | .pp i g sz eg,v=>∃A c,v= .slice A eg.length c/\eg.length<=c/\(A=none->c=0)/\(eg≠[]->A=some ⟨dC A,gd A,none⟩/\F (dC A)/\∃xs,uD ρ bl i g sz eg xs/\fy w ⟨dC A,gd A,none⟩ xs)
 | .Bp i g sz q,v=>∃a o u,v= .pointer (some ⟨a,o,none⟩)/\F a/\wF ρ bl i g sz q u/\fy w ⟨a,o,none⟩ [u]
def a_:List (aL T.El)->List Value->Prop
 |[],vs=>vs=[]
 |y::r,vs=>∃u us,vs=u::us/\ax y u/\a_ r us
end
end
structure nu (T:bU) (ρ ρ':List Value) (bl bl':List (aH T.El)):Prop where
 at_:∀(i:Nat)(h:Value),ρ[i]? =some h->∃h',ρ'[i]? =some h'/\(¬lv h->h'=h)/\b5 bl[i]? <=b5 bl'[i]? /\(b5 bl'[i]? =b5 bl[i]? ->h'=h/\jU T bl'[i]? =jU T bl[i]? /\hs bl[i]? <=hs bl'[i]? /\(hs bl'[i]? =hs bl[i]? ->jT bl'[i]? =jT bl[i]?))
theorem nu.refl{T:bU}{ρ:List Value}{bl:List (aH T.El)}:nu T ρ ρ bl bl:=⟨λ i h hi=>⟨h,hi,λ _=>rfl,cP _,λ _=>⟨rfl,rfl,cP _,λ _=>rfl⟩⟩⟩
theorem nu.trans{T:bU}{ρ ρ' f:List Value}{bl bl' wS:List (aH T.El)}(h:nu T ρ ρ' bl bl')(k:nu T ρ' f bl' wS):nu T ρ f bl wS:=⟨λ i v hi=>by
 obtain⟨g,j,J,l,b⟩:=h.at_ i v hi;obtain⟨d,m,n,o,c⟩:=k.at_ i g j;refine⟨d,m,λ aj=>?_,hl l o,λ e=>?_⟩;have a:=J aj;rw[n (by rw[a];exact aj),a]
 ·have a:b5 bl'[i]? =b5 bl[i]? :=by omega
  have ao:b5 wS[i]? =b5 bl'[i]? :=by omega
  refine⟨(c ao).1.trans (b a).1,(c ao).2.1.trans (b a).2.1,hl (b a).2.2.1 (c ao).2.2.1,λ aW=>?_⟩;have p:=(b a).2.2.1;have q:=(c ao).2.2.1;exact((c ao).2.2.2 (by omega)).trans ((b a).2.2.2 (by omega))⟩
section
variable{T:bU}{F F':Nat->Prop}{w w':World}{ρ ρ':List Value}{bl bl':List (aH T.El)}
theorem wF.later{i g sz:Nat}{q:Int}{v:Value}(a:nu T ρ ρ' bl bl')(h:wF ρ bl i g sz q v):wF ρ' bl' i g sz q v:=by
 obtain⟨b,u,c,J,d⟩:=h;obtain⟨f,j,_,k,l⟩:=a.at_ i _ c;refine⟨b,f,j,hl J k,λ e=>?_⟩;have m:b5 bl'[i]? =b5 bl[i]? :=by omega
 rw[(l m).1];exact d (by omega)
theorem uD.imp{El a:Nat->Type}{bl:List (aH El)}{bl':List (aH a)}{i g i' g' sz:Nat}(hi:∀q v,wF ρ bl i g sz q v->wF ρ' bl' i' g' sz q v):∀ {eg:List Int}{xs:List Value},uD ρ bl i g sz eg xs->uD ρ' bl' i' g' sz eg xs
 |[],_,h=>h
 |q::r,xs,h=>by obtain⟨u,us,rfl,b,J⟩:=h;exact⟨u,us,rfl,hi _ _ b,uD.imp hi J⟩
theorem uD.at_{i g sz:Nat}:∀ {eg:List Int}{xs:List Value}{m:Nat}{q:Int},uD ρ bl i g sz eg xs->eg[m]? =some q->∃u,xs[m]? =some u/\wF ρ bl i g sz q u
 |[],_,m,q,_,a=>by simp at a
 |p::r,xs,0,q,h,a=>by obtain⟨u,us,rfl,b,J⟩:=h;simp only[ee,aF]at a;subst a;exact⟨u,rfl,b⟩
 |p::r,xs,m+1,q,h,a=>by obtain⟨u,us,rfl,b,J⟩:=h;simpa using uD.at_ J (by simpa using a)
mutual
theorem ax.later(f:∀k,F k->F' k/\w'.heap[k]? =w.heap[k]?)(m:nu T ρ ρ' bl bl'):∀(y:aL T.El){v:Value},ax T F w ρ bl y v->ax T F' w' ρ' bl' y v
 | .p _,_,h=>by simpa only[ax]using h
 | .b i o,v,h=>by simp only[ax]at h⊢;obtain⟨g,b,J⟩:=h;obtain⟨h',n,D,_⟩:=m.at_ i _ b;exact⟨g,by rw[n,D (by simp[lv])],J⟩
 | .x t d o,v,h=>by simp only[ax]at h⊢;obtain⟨a,q,cs,b,J,s,E⟩:=h;exact⟨a,q,cs,b,(f a J).1,(T.ty t).law f s,E.law (f a J).2⟩
 | .s t l,v,h=>by simp only[ax]at h⊢;exact(b7 (T.ty t)).law f h
 | .q t l,v,h=>by simp only[ax]at h⊢;exact⟨(b7 (T.ty t)).law f h.1,h.2⟩
 | .r i g,v,h=>by
   simp only[ax]at h⊢;obtain⟨B,u,b,J,s⟩:=h;obtain⟨C,n,_,z,x⟩:=m.at_ i _ b;refine⟨B,C,n,hl J z,λ e=>?_⟩;have p:b5 bl'[i]? =b5 bl[i]? :=by omega
   rw[(x p).1];exact s (by omega)
 | .v i g lo hi,v,h=>by
   simp only[ax]at h⊢;obtain⟨B,u,b,J,s⟩:=h;obtain⟨C,n,_,z,x⟩:=m.at_ i _ b;refine⟨B,C,n,hl J z,λ e=>?_⟩;have p:b5 bl'[i]? =b5 bl[i]? :=by omega
   rw[(x p).1,(x p).2.1];exact s (by omega)
 | .e i g k t j d o,v,h=>by
   simp only[ax]at h⊢;obtain⟨B,u,b,J,s⟩:=h;obtain⟨C,n,_,z,x⟩:=m.at_ i _ b;refine⟨B,C,n,hl J z,λ e=>?_⟩;have p:b5 bl'[i]? =b5 bl[i]? :=by omega
   obtain⟨G,H,I,K⟩:=x p;obtain⟨L,M,gg⟩:=s (by omega);rw[G,H];refine⟨L,hl M I,λ e=>?_⟩;rw[K (by omega)];exact gg (by omega)
 | .w i g o,v,h=>by
   simp only[ax]at h⊢;obtain⟨B,u,b,J,s⟩:=h;obtain⟨C,n,_,z,x⟩:=m.at_ i _ b;refine⟨B,C,n,hl J z,λ e=>?_⟩;have p:b5 bl'[i]? =b5 bl[i]? :=by omega
   rw[(x p).1];exact s (by omega)
 | .m i,v,h=>by simp only[ax]at h⊢;obtain⟨g,b,J⟩:=h;obtain⟨h',n,D,_⟩:=m.at_ i _ b;exact⟨g,by rw[n,D (by simp[lv])],J⟩
 | .n kt vt d,v,h=>by simp only[ax]at h⊢;obtain⟨r,b,J,s⟩:=h;exact⟨r,b,(f r J).1,s.law f (f r J).2⟩
 | .f fn cs,v,h=>by simp only[ax]at h⊢;obtain⟨vs,b,J⟩:=h;exact⟨vs,b,a_.later f m cs J⟩
 | .h fn us,v,h=>by simp only[ax]at h⊢;obtain⟨vs,b,J⟩:=h;exact⟨vs,b,a_.later f m us J⟩
 | .a l,v,h=>by simp only[ax]at h⊢;obtain⟨vs,b,J⟩:=h;exact⟨vs,b,a_.later f m l J⟩
 | .u l,v,h=>by simp only[ax]at h⊢;obtain⟨vs,b,J⟩:=h;exact⟨vs,b,a_.later f m l J⟩
 | .i t y,v,h=>by simp only[ax]at h⊢;obtain⟨u,b,J⟩:=h;exact⟨u,b,ax.later f m y J⟩
 | .pp i g sz eg,v,h=>by simp only[ax]at h⊢;obtain⟨A,c,p,ao,aW,bR⟩:=h;refine⟨A,c,p,ao,aW,λ N=>?_⟩;obtain⟨n,D,xs,z,x⟩:=bR N;exact⟨n,(f _ D).1,xs,z.imp λ q v=>wF.later m,x.law (f _ D).2⟩
 | .Bp i g sz q,v,h=>by simp only[ax]at h⊢;obtain⟨a,o,u,p,ao,aW,bR⟩:=h;exact⟨a,o,u,p,(f _ ao).1,aW.later m,bR.law (f _ ao).2⟩
theorem a_.later(a:∀k,F k->F' k/\w'.heap[k]? =w.heap[k]?)(b:nu T ρ ρ' bl bl'):∀(l:List (aL T.El)){vs:List Value},a_ T F w ρ bl l vs->a_ T F' w' ρ' bl' l vs
 |[],_,h=>by simpa only[a_]using h
 |y::r,vs,h=>by simp only[a_]at h⊢;obtain⟨u,us,c,J,d⟩:=h;exact⟨u,us,c,ax.later a b y J,a_.later a b r d⟩
end
theorem a_.len:∀ {l:List (aL T.El)}{vs:List Value},a_ T F w ρ bl l vs->vs.length=l.length
 |[],_,h=>by simp only[a_]at h;subst h;rfl
 |y::r,vs,h=>by simp only[a_]at h;obtain⟨u,us,rfl,_,a⟩:=h;simp[a_.len a]
theorem a_.at_:∀ {l:List (aL T.El)}{vs:List Value}{i:Nat}{y:aL T.El},a_ T F w ρ bl l vs->l[i]? =some y->∃v,vs[i]? =some v/\ax T F w ρ bl y v
 |[],_,i,y,_,hi=>by simp at hi
 |z::r,vs,0,y,h,hi=>by simp only[a_]at h;obtain⟨u,us,rfl,J,_⟩:=h;simp only[ee,aF]at hi;subst hi;exact⟨u,rfl,J⟩
 |z::r,vs,i+1,y,h,hi=>by simp only[a_]at h;obtain⟨u,us,rfl,_,a⟩:=h;simpa using a_.at_ a (by simpa using hi)
theorem a_.bI:∀ {l l':List (aL T.El)}{vs a:List Value},a_ T F w ρ bl l vs->a_ T F w ρ bl l' a->a_ T F w ρ bl (l++l') (vs++a)
 |[],_,_,_,h,h'=>by simp only[a_]at h;subst h;exact h'
 |y::r,l',vs,a,h,h'=>by simp only[a_]at h;obtain⟨u,us,rfl,J,b⟩:=h;simp only[ih,a_];exact⟨u,us++a,rfl,J,a_.bI b h'⟩
theorem a_.drop:∀ {l:List (aL T.El)}{vs:List Value}(n:Nat),a_ T F w ρ bl l vs->a_ T F w ρ bl (l.drop n) (vs.drop n)
 |l,vs,0,h=>by simpa using h
 |[],vs,n+1,h=>by simp only[a_]at h;subst h;simp[a_]
 |y::r,vs,n+1,h=>by simp only[a_]at h;obtain⟨u,us,rfl,J,a⟩:=h;simpa using a_.drop n a
theorem a_.take:∀ {l:List (aL T.El)}{vs:List Value}(n:Nat),a_ T F w ρ bl l vs->a_ T F w ρ bl (l.take n) (vs.take n)
 |l,vs,0,h=>by simp[a_]
 |[],vs,n+1,h=>by simp only[a_]at h;subst h;simp[a_]
 |y::r,vs,n+1,h=>by simp only[a_]at h;obtain⟨u,us,rfl,J,a⟩:=h;simp only[j9,a_];exact⟨u,us.take n,rfl,J,a_.take n a⟩
end
end ba
