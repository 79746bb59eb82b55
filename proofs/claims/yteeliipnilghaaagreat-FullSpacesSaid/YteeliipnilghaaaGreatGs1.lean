/- Part 1 of the proof that is ended in the last text: small logic, what the functions compute, walks, plain laws. -/
import Derived.WalkKit
import Derived.Deep.LoopGhost
import Derived.Deep.Quiet
import Derived.Maps.AppendAt
import Derived.KernelRfl
import Derived.Deep.RegionHeld3
import Derived.Laws.StructEq
import Derived.Carry
import Derived.ChangeSame
import Derived.OpenShut
import Derived.Deep.Slices
import Derived.Deep.Fields
import Derived.ChangeMaps5
import Derived.Lib.LaidTab
import Derived.OrdersHeld
import Derived.MapKept
import Derived.Laws.OwnMore
import Derived.Laws.IdiomStrings
import Derived.RangeFuncRecord
import Derived.RangeFuncSeq
import Derived.RangeFuncIn
import Derived.RangeFuncLeaves
import Derived.OrdersIn
import Derived.TacticsIn
import Derived.Deep.OwnRows
import Derived.Lib.AppendZeros
import Derived.ArgAppend
import Derived.Test.YteeliipnilghaaaGreatChecked
open Array renaming getD_eq_getD_getElem?->eh,getElem?_eq_getElem->iU,getElem?_eq_none->hG,getElem?_eq_some_iff->fH,getElem?_modify->jr,getElem?_setIfInBounds->ff,getElem?_toList->ha,setIfInBounds_comm->i_
open Bool renaming and_eq_true->ca,eq_false_iff->fX,eq_iff_iff->h5,false_eq_true->gT,false_or->hK,not_eq_true'->gG,or_eq_false_iff->hY,or_eq_true->hA
open Int renaming eq_ofNat_of_zero_le->kl,le_refl->j6
open List renaming all_eq_true->jM,any_eq_true->h6,append_assoc->eY,append_nil->gH,cons.inj->eO,cons.injEq->hq,cons_append->hX,drop_length->gF,drop_of_length_le->iA,drop_zero->ei,eq_nil_of_length_eq_zero->gR,ext_getElem?->jZ,flatMap_cons->hz,getElem?_append->ll,getElem?_append_right->eA,getElem?_cons_zero->de,getElem?_drop->ia,getElem?_eq_getElem->aR,getElem?_eq_none->fk,getElem?_eq_some_iff->ba,getElem?_map->iY,getElem?_take->gK,getElem_mem->fa,length_append->dj,length_cons->cT,length_drop->jB,length_map->gJ,length_range->iW,length_set->gu,length_take->fe,map_cons->ea,map_nil->hP,map_toArray->gN,mem_append->cg,mem_append_left->eS,mem_append_right->fw,mem_cons->cG,mem_cons_of_mem->eD,mem_cons_self->iz,mem_flatMap->g_,mem_iff_getElem->il,mem_map->ho,mem_of_getElem?->b_,mem_of_mem_drop->lm,mem_range->j3,nil_append->ie,nodup_append->eT,nodup_cons->hJ,not_mem_nil->hI,pairwise_iff_getElem->iq,range->dR,replicate->eF,set_getElem_self->kW,take->k1,take_append->j4,take_append_drop->iJ,take_append_of_le_length->jt,take_length->iH,take_of_length_le->hp,take_succ_cons->jH,take_zero->kJ
open Nat renaming add_assoc->jE,add_mul->jj,add_zero->jI,beq->cx,ble->iI,blt->eN,eq_of_beq_eq_true->bF,le_mul_of_pos_right->kL,le_of_ble_eq_true->cJ,le_refl->cP,le_trans->fR,lt_of_lt_of_le->ez,lt_or_ge->fO,lt_succ_self->ks,min_eq_left->kF,mul_le_mul_right->jG,zero_add->ji,zero_le->fY
open Option renaming bind_some->ae,map_none->iE,map_some->fs,some.inj->ee,some.injEq->aM
open Prod renaming fst->j2,mk.injEq->cI
noncomputable section
theorem lu{p : Prop} [Decidable p](h : p) : decide p=true:=_root_.decide_eq_true h
theorem lx{p : Prop} [Decidable p](h : ¬p) : decide p=false:=_root_.decide_eq_false h
theorem ly{c : Prop}{_ : Decidable c}(h : ¬c){α : Sort _}{t e : α} : ite c t e=e:=_root_.if_neg h
theorem lz{c : Prop}{_ : Decidable c}(h : c){α : Sort _}{t e : α} : ite c t e=t:=_root_.if_pos h
theorem lA{α : Sort _}(a b : α) : cond true a b=a:=rfl
theorem lK{α : Sort _}(a b : α) : cond false a b=b:=rfl
namespace I
def ap(n:Int):Int:=(n+9223372036854775808)%18446744073709551616-9223372036854775808
def JQ(n:Int):Int:=n%18446744073709551616
def aaj(a b:Int):Int:=ap ((BitVec.ofInt 64 a|||BitVec.ofInt 64 b).toNat:Int)
def U1(a b:Int):Int:=ap ((BitVec.ofInt 64 a&&&BitVec.ofInt 64 b).toNat:Int)
def zO(a:Int)(n:Nat):Int:=a / 2^n
def jh(n:Int):UInt8:=UInt8.ofNat (n%256).toNat
def idx{α:Type}(l:List α)(i:Int):Option α:=if 0<=i then l[i.toNat]? else none
def zC(b:Bool):Option Unit:=if b then some ()else none
def bE{α:Type}(bytes:Nat)(l m:List α):Option (List α):=if(l.length+m.length)*bytes<=140737488355328 then some (l++m)else none
def bytesOf(s:List UInt8):Option (List UInt8):=if s.length<=140737488355328 then some s else none
def ri{α:Type}(z:α)(bytes:Nat)(n:Int):Option (List α):=if 0<=n/\bytes*n.toNat<=140737488355328 then some (eF n.toNat z)else none
def KJ{α:Type}(z:α)(bytes:Nat)(n:Int):Option (List α):=if 0<n/\bytes*n.toNat<=140737488355328 then some (eF n.toNat z)else none
def cut{α:Type}(l:List α)(i j:Int):Option (List α):=if 0<=i/\i<=j/\j<=l.length then some ((l.take j.toNat).drop i.toNat)else none
theorem Vj{α:Type}{b:Bool}{x y:Option α}{r:α}(ag:b=true)(h:cond b x y=some r):x=some r:=by subst ag;exact h
theorem Vi{α:Type}{b:Bool}{x y:Option α}{r:α}(ag:b=false)(h:cond b x y=some r):y=some r:=by subst ag;exact h
theorem fz{α β:Type}{o:Option α}{f:α->Option β}{r:β}(h:o.bind f=some r):∃x,o=some x/\f x=some r:=by
 cases o with
 |none=>cases h
 |some x=>exact⟨x,rfl,h⟩
theorem np{α:Type}{l:List α}{i:Int}{d:α}(h:idx l i=some d):0<=i/\i.toNat<l.length/\l[i.toNat]? =some d:=by unfold idx at h;split at h;rename_i a;exact⟨a,(ba.1 h).1,h⟩;cases h
theorem O4{α:Type}{bytes:Nat}{l m r:List α}(h:bE bytes l m=some r):(l.length+m.length)*bytes<=140737488355328/\r=l++m:=by unfold bE at h;split at h;rename_i a;exact⟨a,by simpa using h.symm⟩;cases h
theorem aF7{α:Type}{z:α}{bytes:Nat}{n:Int}{r:List α}(h:ri z bytes n=some r):0<=n/\bytes*n.toNat<=140737488355328/\r=eF n.toNat z:=by unfold ri at h;split at h;rename_i a;exact⟨a.1,a.2,by simpa using h.symm⟩;cases h
theorem av3{α:Type}{z:α}{bytes:Nat}{n:Int}{r:List α}(h:KJ z bytes n=some r):0<n/\bytes*n.toNat<=140737488355328/\r=eF n.toNat z:=by unfold KJ at h;split at h;rename_i a;exact⟨a.1,a.2,by simpa using h.symm⟩;cases h
theorem Z5{b:Bool}{u:Unit}(h:zC b=some u):b=true:=by unfold zC at h;split at h;assumption;cases h
theorem av5(n:Int):((jh n).toNat:Int)=n%256:=by unfold jh;have a:0<=n%256:=Int.emod_nonneg _ (by omega);have b:n%256<256:=Int.emod_lt_of_pos _ (by omega);simp only[UInt8.toNat_ofNat'];omega
def join{cU α:Type}(k:cU)(b:cU->Option α):Option α:=b k
section
variable{cU β:Type} [DecidableEq cU]
def cB:List (cU×β)->cU->Option β
 |[],_=>none
 |p::r,k=>if p.1=k then some p.2 else cB r k
def gP:List (cU×β)->cU->β->List (cU×β)
 |[],k,v=>[(k,v)]
 |p::r,k,v=>if p.1=k then(k,v)::r else p::gP r k v
def rj:List (cU×β)->cU->Option Nat
 |[],_=>none
 |p::r,k=>if p.1=k then some 0 else(rj r k).map (·+1)
end
inductive Way (ρ α:Type)
 |go (a:α)
 |out (r:ρ)
def cn{ρ α:Type}(x:Option (Way ρ α))(k:α->Option ρ):Option ρ:=match x with
 |none=>none
 |some (.go a)=>k a
 |some (.out r)=>some r
def di{ρ α β:Type}(x:Option (Way ρ α))(k:α->Option (Way ρ β)):Option (Way ρ β):=match x with
 |none=>none
 |some (.go a)=>k a
 |some (.out r)=>some (.out r)
def af_{ρ α:Type}(k:α->Option ρ):Way ρ α->Option ρ
 | .go a=>k a
 | .out r=>some r
theorem aKY{ρ α:Type}{x:Option (Way ρ α)}{k:α->Option ρ}{r:ρ}(h:cn x k=some r):∃y,x=some y/\af_ k y=some r:=by
 cases x with
 |none=>cases h
 |some y=>cases y<;>exact⟨_,rfl,h⟩
@[simp] theorem sW {ρ α:Type} (a:α) (k:α->Option ρ):cn (some (.go a)) k=k a:=rfl
@[simp] theorem anE {ρ α:Type} (r:ρ) (k:α->Option ρ):cn (some (.out r)) k=some r:=rfl
@[simp] theorem qn {ρ α β:Type} (a:α) (k:α->Option (Way ρ β)):di (some (.go a)) k=k a:=rfl
@[simp] theorem aQZ {ρ α β:Type} (r:ρ) (k:α->Option (Way ρ β)):di (some (.out r)) k=some (.out r):=rfl
end I
namespace aw
open Go Go.RowKit
def ey:List (Nat×Value)->Nat->Option Value
 |[],_=>none
 |p::r,t=>match cx p.1 t with
  |true=>some p.2
  |false=>ey r t
structure cE where
 n:Nat
 ds:List Deferred
instance:Coe cE Nat:=⟨cE.n⟩
structure Fr (n:cE) (l:List (Nat×Value)) (a:Act):Prop where
 size:a.tmps.size=n.n
 defers:a.defers=n.ds
 get:∀t v,ey l t=some v->a.tmps.getD t undef=v
theorem Fr.g{n:cE}{l:List (Nat×Value)}{a:Act}{t:Nat}{v:Value}(b:Fr n l a)(h:ey l t=some v):a.eval (.tmp t)=v:=b.get t v h
theorem Fr.put{n:cE}{d:Nat}{l:List (Nat×Value)}{a:Act}{v:Value}(b:Fr n l a)(aK:eN d n=true):Fr n ((d,v)::l) (a.put (some d) v):=by
 have c:d<n:=cJ aK;refine⟨by simpa[Act.put]using b.size,b.defers,λ t u h=>?_⟩;have aj:=b.size;simp only[ey]at h;cases ag:cx d t with
 |true=>rw[ag]at h;simp only[aM]at h;have e:d=t:=bF ag;subst e;subst h;simp[Act.put,aj,c]
 |false=>
  rw[ag]at h;have e:d≠t:=by intro e;subst e;simp at ag
  have:=b.get t u h;simp only[Act.put,eh]at this⊢;rw[ff,ly e];exact this
def NK(l:List (Nat×Value)):List (Nat×Value)->Prop
 |[]=>True
 |p::r=>ey l p.1=some p.2/\NK l r
theorem aFH{l l':List (Nat×Value)}(h:NK l l'):∀t v,ey l' t=some v->ey l t=some v:=by
 induction l' with
 |nil=>intro t v a;simp[ey]at a
 |cons p r b=>
  intro t v a;simp only[ey]at a;cases ag:cx p.1 t with
  |true=>rw[ag]at a;have e:p.1=t:=bF ag;simp only[aM]at a;rw[<-e,<-a];exact h.1
  |false=>rw[ag]at a;exact b h.2 t v a
theorem Fr.sub{n:cE}{l l':List (Nat×Value)}{a:Act}(b:Fr n l a)(h:NK l l'):Fr n l' a:=⟨b.size,b.defers,λ t v c=>b.get t v (aFH h t v c)⟩
def vS:Nat->List Value->List (Nat×Value)
 |_,[]=>[]
 |k,v::r=>(k,v)::vS (k+1) r
theorem aFG(vs:List Value):∀k t v,ey (vS k vs) t=some v->k<=t/\vs[t-k]? =some v:=by
 induction vs with
 |nil=>intro k t v h;simp[vS,ey]at h
 |cons u r a=>
  intro k t v h;simp only[vS,ey]at h;cases ag:cx k t with
  |true=>rw[ag]at h;have e:k=t:=bF ag;subst e;simpa using h
  |false=>
   rw[ag]at h;have e:k≠t:=by intro e;subst e;simp at ag
   obtain⟨b,J⟩:=a (k+1) t v h;refine⟨by omega,?_⟩;have:t-k=(t- (k+1))+1:=by omega
   rw[this];simpa using J
theorem Fr.init(vs:List Value)(n:Nat)(h:iI vs.length n=true):Fr ⟨n,[]⟩ (vS 0 vs) { tmps:=vs.toArray++Array.replicate (n-vs.toArray.size) undef,defers:=[] }:=by
 have c:vs.length<=n:=by simpa using h
 refine⟨by simp;omega,rfl,λ t v d=>?_⟩;obtain⟨_,J⟩:=aFG vs 0 t v d;have a:t<vs.length:=by rcases fO t vs.length with h |h;exact h;rw[fk (by simpa using h)]at J;cases J
 have b:vs[t]? =some v:=by simpa using J
 rw[eh];rw[aR a,aM]at b;simp[Array.getElem?_append,a,b]
theorem enter{P:Program}{f:FuncId}{fn:Func}{c:Code}{vs:List Value}{w:World}{R:Ending->World->Prop}{n:Nat}
 (b:P.funcs[f]? =some fn)(ag:fn.body=some c)(d:fn.ntmps=n)(e:iI vs.length n=true)
 (h:∀a,Fr ⟨n,[]⟩ (vS 0 vs) a->c.wp P (bodyPost P fn R) a w):Calls P f vs.toArray w R:=by
 refine calls_of_wp b ag ?_
 rw[d]
 exact h _ (Fr.init vs n e)
structure a_ (M:List Nat) (w w':World):Prop where
 os:w'.os=w.os
 tape:w'.tape=w.tape
 output:w'.output=w.output
 size:w.heap.size<=w'.heap.size
 block:∀k,k<w.heap.size->k∉M->w'.heap[k]? =w.heap[k]?
theorem a_.refl(M:List Nat)(w:World):a_ M w w:=⟨rfl,rfl,rfl,cP _,λ _ _ _=>rfl⟩
theorem a_.trans{M kT:List Nat}{a b c:World}(h:a_ M a b)(k:a_ kT b c)(f:∀x∈kT,x∈M\/a.heap.size<=x):a_ M a c:=⟨k.os.trans h.os,k.tape.trans h.tape,k.output.trans h.output,fR h.size k.size,λ i hi d=>(k.block i (ez hi h.size) (λ ad=>by rcases f i ad with e |e;exact d e;omega)).trans (h.block i hi d)⟩
theorem a_.drew(M:List Nat)(w:World):a_ M w w.drew:=⟨rfl,rfl,rfl,cP _,λ _ _ _=>rfl⟩
theorem a_.alloc(M:List Nat)(w:World)(o:Obj):a_ M w (w.alloc o):=⟨rfl,rfl,rfl,by simp,λ k a _=>Below.heap_alloc _ _ _ a⟩
theorem a_.set(w:World)(a:Addr)(u:Value):a_ [a.block] w (w.setCell a u):=⟨rfl,rfl,rfl,by simp[World.setCell],λ k _ b=>Below.heap_setCell _ _ _ _ (by simpa using b)⟩
theorem a_.mono{M kT:List Nat}{a b:World}(h:a_ M a b)(c:∀x∈M,x∈kT):a_ kT a b:=⟨h.os,h.tape,h.output,h.size,λ k d e=>h.block k d (λ ad=>e (c k ad))⟩
theorem a_.grown{w w':World}{row:Option Nat}(h:w.grownBy w' row):a_ row.toList w w':=⟨h.os,h.tape,h.output,h.size,λ k a b=>h.block k a (λ e=>b (by rw[<-e];simp))⟩
theorem a_.below{w w':World}(h:a_ [] w w'):Below w.heap.size w w':=⟨h.os,h.tape,h.output,h.size,λ k a=>h.block k a (by simp)⟩
structure a8 where
 bD:List Nat
 ok:World->Prop
 law:∀w w',(∀k∈bD,w'.heap[k]? =w.heap[k]?)->ok w->ok w'
structure bA where
 ok:List Nat->World->Prop
 law:∀M kT w w',a_ M w w'->(∀k∈kT,k∈M\/w.heap.size<=k)->ok M w->ok kT w'
def bT(E:List a8):List Nat:=E.flatMap a8.bD
structure bu (W:World) (M0 X:List Nat) (w:World) (E:List a8) (D:List bA):Prop where
 bU:a_ M0 W w
 iT:∀k∈X,k<W.heap.size/\k∉M0
 lt:∀k∈bT E,k<w.heap.size/\(k∈M0\/W.heap.size<=k)
 ok:∀x∈E,x.ok w
 bC:(bT E).Nodup
 rd:∀y∈D,y.ok (X++bT E) w
section
variable{W w w':World}{M0 X:List Nat}{E:List a8}{D:List bA}
theorem bu.start(M0 X:List Nat)(w:World)(E:List a8)(D:List bA)(c:∀k∈X,k<w.heap.size/\k∉M0)(a:∀k∈bT E,k<w.heap.size/\k∈M0)(d:∀x∈E,x.ok w)(e:(bT E).Nodup)(f:∀y∈D,y.ok (X++bT E) w) :
 bu w M0 X w E D:=⟨a_.refl _ _,c,λ k b=>⟨(a k b).1,.inl (a k b).2⟩,d,e,f⟩
theorem bu.fo(h:bu W M0 X w E D)(b:a_ [] w w'):bu W M0 X w' E D:=
 ⟨h.bU.trans b (by simp),h.iT,λ k a=>⟨ez (h.lt k a).1 b.size,(h.lt k a).2⟩,
  λ x ad=>x.law w w' (λ k a=>b.block k (h.lt k (g_.2 ⟨x,ad,a⟩)).1 (by simp)) (h.ok x ad),h.bC,
  λ y hy=>y.law (X++bT E) _ w w' (b.mono (by simp)) (λ k a=>.inl a) (h.rd y hy)⟩
theorem bu.drew(h:bu W M0 X w E D):bu W M0 X w.drew E D:=h.fo (a_.drew _ _)
theorem bu.push(h:bu W M0 X w E D)(x:a8)(g:a_ [] w w')(ad:x.ok w')(c:∀k∈x.bD,w.heap.size<=k/\k<w'.heap.size)(j:x.bD.Nodup):bu W M0 X w' (x::E) D:=by
 have d:=h.fo g;refine⟨d.bU,h.iT,λ k f=>?_,λ y hy=>?_,?_,λ y hy=>?_⟩;rcases cg.1 (by simpa[bT]using f:k∈x.bD++bT E)with e |e;exact⟨(c k e).2,.inr (fR h.bU.size (c k e).1)⟩;exact d.lt k e;rcases cG.1 hy with rfl |e;exact ad;exact d.ok y e
 ·have:bT (x::E)=x.bD++bT E:=by simp[bT]
  rw[this,eT];refine⟨j,h.bC,λ a l b ag e=>?_⟩;subst e;have:=(c a l).1;have:=(h.lt a ag).1;omega
 ·refine y.law (X++bT E) _ w w' (g.mono (by simp)) (λ k f=>?_) (h.rd y hy);have i:k∈X++(x.bD++bT E):=by simpa[bT]using f
  simp only[cg]at i;rcases i with e |e |e;exact .inl (by simp[e]);exact .inr (c k e).1;exact .inl (by simp[e])
theorem bu.drop(h:bu W M0 X w E D){b:List a8}(aj:List.Sublist b E):bu W M0 X w b D:=by
 have c:List.Sublist (bT b) (bT E):=by
  unfold bT;clear h;induction aj with
  |slnil=>simp
  |cons a _ d=>simpa using d.trans (List.sublist_append_right _ _)
  |cons_cons a _ d=>simpa using List.Sublist.append_left d a.bD
 exact⟨h.bU,h.iT,λ k f=>h.lt k (c.subset f),λ x ad=>h.ok x (aj.subset ad),h.bC.sublist c,
  λ y hy=>y.law (X++bT E) _ w w (a_.refl _ _) (λ k f=>.inl (by rcases cg.1 f with e |e;exact cg.2 (.inl e);exact cg.2 (.inr (c.subset e)))) (h.rd y hy)⟩
theorem bu.df(h:bu W M0 X w E D){A B:List a8}{x fu:a8}(a1:E=A++x::B)(c:a_ x.bD w w')(ad:fu.ok w')(s:fu.bD.Nodup)
 (i:∀k∈fu.bD,k∈x.bD\/(w.heap.size<=k/\k<w'.heap.size)):bu W M0 X w' (A++fu::B) D:=by
 subst a1
 have e1:bT (A++x::B)=bT A++(x.bD++bT B):=by simp[bT]
 have e2:bT (A++fu::B)=bT A++(fu.bD++bT B):=by simp[bT]
 have n:=h.bC
 rw[e1,eT,eT]at n
 obtain⟨j,⟨t,l,d⟩,m⟩:=n
 have sv:∀k∈x.bD,k<w.heap.size/\(k∈M0\/W.heap.size<=k):=λ k hk=>h.lt k (by rw[e1];simp[hk])
 refine⟨h.bU.trans c (λ k hk=>(sv k hk).2),h.iT,λ k hk=>?_,λ y hy=>?_,?_,λ y hy=>?_⟩
 ·rw[e2]at hk;simp only[cg]at hk;rcases hk with hk |hk |hk;have:=h.lt k (by rw[e1];simp[hk]);exact⟨ez this.1 c.size,this.2⟩;rcases i k hk with e |e;exact⟨ez (sv k e).1 c.size,(sv k e).2⟩;exact⟨e.2,.inr (fR h.bU.size e.1)⟩;have:=h.lt k (by rw[e1];simp[hk]);exact⟨ez this.1 c.size,this.2⟩
 ·have f:∀z,z∈A\/z∈B->z.ok w':=λ z o=>by
   have p:z∈A++x::B:=by rcases o with e |e<;>simp[e]
   refine z.law w w' (λ k hk=>c.block k (h.lt k (g_.2 ⟨z,p,hk⟩)).1 (λ q=>?_)) (h.ok z p);rcases o with e |e
   ·exact m k (g_.2 ⟨z,e,hk⟩) k (by simp[q]) rfl
   ·exact d k q k (g_.2 ⟨z,e,hk⟩) rfl
  simp only[cg,cG]at hy;rcases hy with hy |rfl |hy
  ·exact f y (.inl hy)
  ·exact ad
  ·exact f y (.inr hy)
 ·rw[e2,eT,eT];have r:∀k∈fu.bD,∀b,(b∈bT A\/b∈bT B)->k≠b:=λ k hk b ag e=>by subst e;rcases i k hk with e |e;rcases ag with ag |ag;exact m k ag k (by simp[e]) rfl;exact d k e k ag rfl;have:=(h.lt k (by rw[e1];rcases ag with ag |ag<;>simp[ag])).1;omega
  exact⟨j,⟨s,l,λ a g b ag=>r a g b (.inr ag)⟩,λ a g b ag=>by
   rcases cg.1 ag with ag |ag;exact λ e=>r b ag a (.inl g) e.symm
   ·exact m a g b (by simp[ag])⟩
 ·refine y.law (X++bT (A++x::B)) _ w w' (c.mono (λ k hk=>by rw[e1];simp[hk])) (λ k hk=>?_) (h.rd y hy);rw[e2]at hk;simp only[cg]at hk;rcases hk with hk |hk |hk |hk;exact .inl (by simp[hk]);exact .inl (by rw[e1];simp[hk]);rcases i k hk with e |e;exact .inl (by rw[e1];simp[e]);exact .inr e.1;exact .inl (by rw[e1];simp[hk])
theorem bu.more(h:bu W M0 X w E D){y:bA}(hy:y.ok (X++bT E) w):bu W M0 X w E (y::D):=⟨h.bU,h.iT,h.lt,h.ok,h.bC,λ z a=>by rcases cG.1 a with rfl |e;exact hy;exact h.rd z e⟩
theorem bu.less(h:bu W M0 X w E D){hs:List bA}(aj:∀y∈hs,y∈D):bu W M0 X w E hs:=⟨h.bU,h.iT,h.lt,h.ok,h.bC,λ y hy=>h.rd y (aj y hy)⟩
theorem bu.e(h:bu W M0 X w E D)(i:Nat){x:a8}(hi:E[i]? =some x):x.ok w:=h.ok x (b_ hi)
theorem bu.d(h:bu W M0 X w E D)(i:Nat){y:bA}(hi:D[i]? =some y):y.ok (X++bT E) w:=h.rd y (b_ hi)
theorem bA.less{y:bA}{M kT:List Nat}(h:y.ok M w)(a:∀k∈kT,k∈M):y.ok kT w:=y.law M kT w w (a_.refl _ _) (λ k b=>.inl (a k b)) h
theorem bu.NQ(h:bu W M0 X w E D)(i:Nat){x fu:a8}(hi:E[i]? =some x)(a:a_ x.bD w w')(ad:fu.ok w')(b:fu.bD.Nodup)
 (c:∀k∈fu.bD,k∈x.bD\/(w.heap.size<=k/\k<w'.heap.size)):bu W M0 X w' (E.set i fu) D:=by
 obtain⟨d,rfl⟩:=ba.1 hi
 have a1:E=E.take i++E[i]::E.drop (i+1):=by simp
 have:=h.df a1 a ad b c
 rwa [List.set_eq_take_append_cons_drop,lz d]
end
open Go Go.RowKit I
abbrev cu(l:List UInt8):Value:=.string ⟨⟨l⟩⟩
structure dt (α:Type) where
 size:Nat
 rd:(Nat->Prop)->World->List Value->α->Prop
 len:∀ {F w cs d},rd F w cs d->cs.length=size
 one:∀ {F w cs d},rd F w cs d->∀v∈cs,v.oneCell'=true
 law:∀ {F F' w w' cs d},(∀k,F k->F' k/\w'.heap[k]? =w.heap[k]?)->rd F w cs d->rd F' w' cs d
def jb(M:List Nat)(w:World):Nat->Prop:=λ k=>k∉M/\k<w.heap.size
def bA.of{α:Type}(T:dt α)(cs:List Value)(d:α):bA where
 ok M w:=T.rd (jb M w) w cs d
 law M kT w w' b c h:=T.law (λ k a=>⟨⟨λ ad=>by rcases c k ad with e |e;exact a.1 e;exact absurd a.2 (by omega),ez a.2 b.size⟩,b.block k a.2 a.1⟩) h
def dE(k:IntKind):dt Int where
 size:=1
 rd _ _ cs d:=cs=[.int k d]
 len h:=by subst h;rfl
 one h v a:=by subst h;simp at a;subst a;rfl
 law _ h:=h
def S4:dt UInt8 where
 size:=1
 rd _ _ cs d:=cs=[.int .u8 (d.toNat:Int)]
 len h:=by subst h;rfl
 one h v a:=by subst h;simp at a;subst a;rfl
 law _ h:=h
def aLB:dt Bool where
 size:=1
 rd _ _ cs d:=cs=[.bool d]
 len h:=by subst h;rfl
 one h v a:=by subst h;simp at a;subst a;rfl
 law _ h:=h
def ky:dt (List UInt8) where
 size:=1
 rd _ _ cs d:=cs=[cu d]
 len h:=by subst h;rfl
 one h v a:=by subst h;simp at a;subst a;rfl
 law _ h:=h
section
variable{α:Type}(T:dt α)
def dN(F:Nat->Prop)(w:World):List Value->List α->Prop
 |xs,[]=>xs=[]
 |xs,d::r=>∃cs ys,xs=cs++ys/\T.rd F w cs d/\dN F w ys r
theorem zL{F:Nat->Prop}{w:World}:∀ {l:List α}{xs:List Value},dN T F w xs l->xs.length=l.length*T.size
 |[],xs,h=>by simp only[dN]at h;subst h;simp
 |d::r,xs,h=>by obtain⟨cs,ys,rfl,a,J⟩:=h;rw[dj,T.len a,zL J,cT,jj];omega
theorem Js{F:Nat->Prop}{w:World}:∀ {l:List α}{xs:List Value},dN T F w xs l->∀v∈xs,v.oneCell'=true
 |[],xs,h=>by simp only[dN]at h;subst h;simp
 |d::r,xs,h=>by obtain⟨cs,ys,rfl,a,J⟩:=h;intro v b;rcases cg.1 b with e |e;exact T.one a v e;exact Js J v e
theorem qk{F F':Nat->Prop}{w w':World}(a:∀k,F k->F' k/\w'.heap[k]? =w.heap[k]?):∀ {l:List α}{xs:List Value},dN T F w xs l->dN T F' w' xs l
 |[],xs,h=>h
 |d::r,xs,h=>by obtain⟨cs,ys,rfl,b,J⟩:=h;exact⟨cs,ys,rfl,T.law a b,qk a J⟩
theorem amU{F:Nat->Prop}{w:World}{d:α}{cs:List Value}(aK:T.rd F w cs d):∀ {l:List α}{xs:List Value},dN T F w xs l->dN T F w (xs++cs) (l++[d])
 |[],xs,h=>by simp only[dN]at h;subst h;exact⟨cs,[],by simp,aK,rfl⟩
 |e::r,xs,h=>by obtain⟨c,ys,rfl,a,J⟩:=h;exact⟨c,ys++cs,by simp,a,amU aK J⟩
theorem Nb{F:Nat->Prop}{w:World}{l':List α}{a:List Value}(h':dN T F w a l'):∀ {l:List α}{xs:List Value},dN T F w xs l->dN T F w (xs++a) (l++l')
 |[],xs,h=>by simp only[dN]at h;subst h;simpa using h'
 |e::r,xs,h=>by obtain⟨c,ys,rfl,b,J⟩:=h;exact⟨c,ys++a,by simp,b,Nb h' J⟩
theorem Nc{F:Nat->Prop}{w:World}:∀ {l:List α}{xs:List Value}{i:Nat}{d:α},dN T F w xs l->l[i]? =some d ->
 ∃cs,T.rd F w cs d/\∀j u,cs[j]? =some u->xs[i*T.size+j]? =some u
 |[],_,i,d,_,hi=>by simp at hi
 |e::r,xs,0,d,h,hi=>by
  obtain⟨cs,ys,rfl,a,_⟩:=h;simp only[de,aM]at hi;subst hi;refine⟨cs,a,λ j u ax=>?_⟩;have f:j<cs.length:=by rcases fO j cs.length with h |h;exact h;rw[fk h]at ax;cases ax
  simpa[ll,f]using ax
 |e::r,xs,i+1,d,h,hi=>by
  obtain⟨cs,ys,rfl,a,J⟩:=h;obtain⟨c,hc,ax⟩:=Nc (i:=i) J (by simpa using hi);refine⟨c,hc,λ j u g=>?_⟩;have b:=T.len a;have e1:(i+1)*T.size+j=cs.length+(i*T.size+j):=by rw[jj];omega
  rw[e1,eA (by omega)];simpa using ax j u g
def fF(w:World)(a:Addr)(xs:List Value):Prop:=∀j u,xs[j]? =some u->w.cell? ⟨a.block,a.off+j,none⟩=some u
theorem fF.law{w w':World}{a:Addr}{xs:List Value}(h:fF w a xs)(ag:w'.heap[a.block]? =w.heap[a.block]?):fF w' a xs:=λ j u ax=>(World.cell?_of_block (a:=⟨a.block,a.off+j,none⟩) ag).trans (h j u ax)
def dD(A:Option Addr):Nat:=(A.getD ⟨0,0,none⟩).block
def gB(A:Option Addr):Nat:=(A.getD ⟨0,0,none⟩).off
def b2:dt (List α) where
 size:=1
 rd F w cs l:=∃A c,cs=[.slice A l.length c]/\l.length<=c/\c<=maxLen/\(A=none->c=0)/\
  (l≠[]->A=some ⟨dD A,gB A,none⟩/\F (dD A)/\∃xs,dN T F w xs l/\fF w ⟨dD A,gB A,none⟩ xs)
 len h:=by obtain⟨A,c,rfl,_⟩:=h;rfl
 one h v b:=by obtain⟨A,c,rfl,_⟩:=h;simp at b;subst b;rfl
 law a h:=by obtain⟨A,c,d,e,f,g,i⟩:=h;refine⟨A,c,d,e,f,g,λ j=>?_⟩;obtain⟨e1,e2,xs,e3,e4⟩:=i j;exact⟨e1,(a _ e2).1,xs,qk T a e3,e4.law (a _ e2).2⟩
theorem mB{F:Nat->Prop}{w:World}{v:Value}{l:List α}(h:(b2 T).rd F w [v] l):∃A c,v= .slice A l.length c:=by obtain⟨A,c,a,_⟩:=h;exact⟨A,c,by simpa using a⟩
theorem Gu{F:Nat->Prop}{w:World}{A:Option Addr}{n c:Nat}{l:List α}{i:Int}{d:α}(h:(b2 T).rd F w [.slice A n c] l)(hi:idx l i=some d) :
 A=some ⟨dD A,gB A,none⟩/\(0<=i/\i<n)/\∃cs,T.rd F w cs d/\fF w ⟨dD A,gB A+i.toNat*T.size,none⟩ cs:=by
 obtain⟨b,a,J⟩:=np hi
 obtain⟨ck,o,e1,e3,e4,e5,e6⟩:=h
 simp only[hq,Value.slice.injEq,and_true]at e1
 obtain⟨rfl,rfl,rfl⟩:=e1
 obtain⟨e,p,xs,f,g⟩:=e6 (λ k=>by rw[k]at a;simp at a)
 obtain⟨cs,hc,m⟩:=Nc T f J
 refine⟨e,⟨b,by omega⟩,cs,hc,λ j u ax=>?_⟩
 have:=g (i.toNat*T.size+j) u (m j u ax)
 simpa[jE]using this
end
def a8.cd(g:Nat)(t:TypeId)(cs:List Value):a8 where
 bD:=[g]
 ok w:=w.heap[g]? =some (.cells cs.toArray t (0,0))
 law w w' h a:=(h g (by simp)).trans a
def a8.row{α:Type}(e:TypeId)(size:Nat)(v:Value)(l:List α)(xs:List Value):a8 where
 bD:=v.ownBlock.toList
 ok w:=w.ownsRow 0 e size v l.length xs
 law w w' h a:=by refine⟨a.1,?_⟩;rcases a.2 with b |⟨g,cap,cur,rfl,ag,c,rest⟩;exact .inl b;exact .inr ⟨g,cap,cur,rfl,ag,(h g (by simp[Value.ownBlock])).trans c,rest⟩
def bA.rows{α:Type}(T:dt α)(xs:List Value)(l:List α):bA where
 ok M w:=dN T (jb M w) w xs l
 law M kT w w' b c h:=qk T (λ k a=>⟨⟨λ ad=>by rcases c k ad with e |e;exact a.1 e;exact absurd a.2 (by omega),ez a.2 b.size⟩,b.block k a.2 a.1⟩) h
theorem Nl{α:Type}{w:World}{e:TypeId}{size:Nat}{v:Value}{l:List α}{xs:List Value}(h:(a8.row e size v l xs).ok w):∃A c,v= .slice A l.length c/\l.length<=c/\c<=maxLen/\(A=none->c=0)/\(A≠none->A=some ⟨dD A,0,none⟩):=by have h':w.ownsRow 0 e size v l.length xs:=h;rcases h'.2 with⟨rfl,a⟩|⟨g,cap,cur,rfl,_,_,b,J,_⟩;exact⟨none,0,by rw[a],by omega,fY _,λ _=>rfl,λ h=>absurd rfl h⟩;exact⟨some ⟨g,0,none⟩,cap,rfl,b,J,(λ h=>by cases h),λ _=>rfl⟩
theorem aKo{α:Type}{T:dt α}{M:List Nat}{w:World}{e:TypeId}{A:Option Addr}{n c:Nat}{l:List α}{xs:List Value}(h:(a8.row e T.size (.slice A n c) l xs).ok w)(f:(bA.rows T xs l).ok M w)
 (i:∀k∈(Value.slice A n c).ownBlock.toList,k∉M):(bA.of (b2 T) [.slice A n c] l).ok M w:=by
 have h':w.ownsRow 0 e T.size (.slice A n c) l.length xs:=h
 have m:dN T (jb M w) w xs l:=f
 show(b2 T).rd (jb M w) w _ l
 rcases h'.2 with⟨a,o⟩|⟨g,cap,cur,a,_,p,b,q,aj,ad⟩
 ·have r:l=[]:=gR o;simp only[Value.slice.injEq]at a;obtain⟨rfl,rfl,rfl⟩:=a;subst r;exact⟨none,0,rfl,by simp,fY _,λ _=>rfl,λ h=>absurd rfl h⟩
 ·simp only[Value.slice.injEq]at a;obtain⟨rfl,rfl,rfl⟩:=a;refine⟨_,_,rfl,b,q,(λ h=>by cases h),λ _=>⟨rfl,⟨i g (by simp[Value.ownBlock]),(fH.1 p).1⟩,xs,m,λ j u ax=>?_⟩⟩;have d:=h'.cells (g:=g) rfl j u ax
  simpa[Addr.add,dD,gB]using(by
   have e:(⟨g,0,none⟩:Addr).add j=⟨g,0+j,none⟩:=by unfold Addr.add;split<;>simp_all
   rw[e]at d;exact d:w.cell? ⟨g,0+j,none⟩=some u)
theorem x6{w:World}{g:Nat}{t:TypeId}{cs:List Value}(h:(a8.cd g t cs).ok w){j:Nat}{v:Value}(ax:cs[j]? =some v):w.cell? ⟨g,j,none⟩=some v:=by have h':w.heap[g]? =some (.cells cs.toArray t (0,0)):=h;simp[World.cell?,h',ax]
theorem KO{w:World}{g:Nat}{t:TypeId}{cs:List Value}(h:(a8.cd g t cs).ok w):g<w.heap.size:=by have h':w.heap[g]? =some (.cells cs.toArray t (0,0)):=h;exact(fH.1 h').1
theorem av9(w:World)(t:TypeId)(cs:List Value):(a8.cd w.heap.size t cs).ok (w.alloc (.cells cs.toArray t)):=heap_alloc_new w _
def bA.kf(g:Nat)(cs:List Value):bA where
 ok M w:=g∉M/\g<w.heap.size/\fF w ⟨g,0,none⟩ cs
 law M kT w w' a b h:=⟨λ ad=>by rcases b g ad with e |e;exact h.1 e;exact absurd h.2.1 (by omega),ez h.2.1 a.size,h.2.2.law (a.block g h.2.1 h.1)⟩
def acw(cs:List Value):Nat->List Value->Prop
 |_,[]=>True
 |k,v::r=>cs[k]? =some v/\acw cs (k+1) r
theorem anS{cs:List Value}:∀ {k:Nat}{l:List Value},acw cs k l->∀j u,l[j]? =some u->cs[k+j]? =some u
 |_,[],_,j,u,ax=>by simp at ax
 |k,v::r,h,0,u,ax=>by simp only[de,aM]at ax;subst ax;exact h.1
 |k,v::r,h,j+1,u,ax=>by have:=anS h.2 j u (by simpa using ax);rwa [jE,Nat.add_comm 1 j]at this
theorem U5{w:World}{g:Nat}{t:TypeId}{cs l:List Value}(h:(a8.cd g t cs).ok w)(k:Nat)(aj:acw cs k l):fF w ⟨g,k,none⟩ l:=λ j u ax=>x6 h (anS aj j u ax)
theorem pb{α:Type}{T:dt α}{F:Nat->Prop}{w:World}{cs:List Value}{l:List α}(h:(b2 T).rd F w cs l):∃A c,cs=[.slice A l.length c]:=by obtain⟨A,c,a,_⟩:=h;exact⟨A,c,a⟩
theorem aKn{α:Type}{T:dt α}{M:List Nat}{w:World}{e:TypeId}{A:Option Addr}{n c:Nat}{l:List α}{xs:List Value}{i:Int}{d:α}(h:(a8.row e T.size (.slice A n c) l xs).ok w)(b:(bA.rows T xs l).ok M w)(hi:idx l i=some d) :
 A=some ⟨dD A,gB A,none⟩/\(0<=i/\i<n)/\∃cs,T.rd (jb M w) w cs d/\fF w ⟨dD A,gB A+i.toNat*T.size,none⟩ cs:=by
 obtain⟨f,o,J⟩:=np hi
 have h':w.ownsRow 0 e T.size (.slice A n c) l.length xs:=h
 have k:dN T (jb M w) w xs l:=b
 rcases h'.2 with⟨e1,b8⟩|⟨g,cap,cur,e1,_,p,_⟩
 ·omega
 ·simp only[Value.slice.injEq]at e1;obtain⟨rfl,rfl,rfl⟩:=e1;obtain⟨cs,hc,m⟩:=Nc T k J;refine⟨rfl,⟨f,by omega⟩,cs,hc,λ j u ax=>?_⟩;have a:=h'.cells (g:=g) rfl _ u (m j u ax);have e2:(⟨g,0,none⟩:Addr).add (i.toNat*T.size+j)=⟨g,0+(i.toNat*T.size+j),none⟩:=by unfold Addr.add;split<;>simp_all
  rw[e2]at a;show w.cell? ⟨g,0+i.toNat*T.size+j,none⟩=some u
  rw[jE];exact a
theorem akL(p q:List UInt8):(p==q)=decide (p=q):=by rw[h5];simp
section
variable{P:Program}{o:Oper}{a:Act}{w:World}
abbrev bc(P:Program)(o:Oper)(a:Act)(w:World)(v:Value)(w':World):Prop:=(execOp a.eval o).run P w= .ok (.value v) w'
abbrev tH(P:Program)(o:Oper)(a:Act)(w:World)(w':World):Prop:=(execOp a.eval o).run P w= .ok .skip w'
theorem xF{x:Operand}{v:Value}(b:o.op= .move x)(ad:a.eval x=v):bc P o a w v w:=by simp only[bc,execOp,b,ad];rfl
theorem Al{x:Operand}{v:Value}(b:o.op= .assign x)(ad:a.eval x=v):bc P o a w v w:=by simp only[bc,execOp,b,ad];rfl
theorem Ua{c x y:Operand}{v:Value}(b:o.op= .pick c x y)(hc:a.eval c= .bool true)(ad:a.eval x=v):bc P o a w v w:=by simp only[bc,execOp,b,hc,ad];rfl
theorem T'{c x y:Operand}{v:Value}(b:o.op= .pick c x y)(hc:a.eval c= .bool false)(hy:a.eval y=v):bc P o a w v w:=by simp only[bc,execOp,b,hc,hy];rfl
section
variable{x y:Operand}{t t':TypeId}{k:IntKind}{m n:Int}
theorem aO_(b:o.op= .binOp .add t x y t')(ad:a.eval x= .int k m)(hy:a.eval y= .int k n):bc P o a w (.int k (k.wrap (m+n))) w:=by simp only[bc,execOp,b,ad,hy];simp[go_sem]
theorem aPC(b:o.op= .binOp .sub t x y t')(ad:a.eval x= .int k m)(hy:a.eval y= .int k n):bc P o a w (.int k (k.wrap (m-n))) w:=by simp only[bc,execOp,b,ad,hy];simp[go_sem]
theorem aPr(b:o.op= .binOp .mul t x y t')(ad:a.eval x= .int k m)(hy:a.eval y= .int k n):bc P o a w (.int k (k.wrap (m*n))) w:=by simp only[bc,execOp,b,ad,hy];simp[go_sem]
theorem aPA(b:o.op= .binOp .quo t x y t')(ad:a.eval x= .int k m)(hy:a.eval y= .int k n)(c:n≠0):bc P o a w (.int k (k.wrap (m.tdiv n))) w:=by simp only[bc,execOp,b,ad,hy];simp[go_sem,c]
theorem aPp(b:o.op= .binOp .lss t x y t')(ad:a.eval x= .int k m)(hy:a.eval y= .int k n):bc P o a w (.bool (decide (m<n))) w:=by simp only[bc,execOp,b,ad,hy];simp[go_sem]
theorem aPo(b:o.op= .binOp .leq t x y t')(ad:a.eval x= .int k m)(hy:a.eval y= .int k n):bc P o a w (.bool (decide (m<=n))) w:=by simp only[bc,execOp,b,ad,hy];simp[go_sem]
theorem aq5(b:o.op= .binOp .gtr t x y t')(ad:a.eval x= .int k m)(hy:a.eval y= .int k n):bc P o a w (.bool (decide (n<m))) w:=by simp only[bc,execOp,b,ad,hy];simp[go_sem]
theorem aPk(b:o.op= .binOp .geq t x y t')(ad:a.eval x= .int k m)(hy:a.eval y= .int k n):bc P o a w (.bool (decide (n<=m))) w:=by simp only[bc,execOp,b,ad,hy];simp[go_sem]
theorem aPi(b:P.underlying t=some (.int k))(c:o.op= .binOp .eql t x y t')(ad:a.eval x= .int k m)(hy:a.eval y= .int k n):bc P o a w (.bool (decide (m=n))) w:=by have:=run_underlying (P:=P) b;simp only[bc,execOp,c,ad,hy];simp[go_sem,this];rfl
theorem aPu(b:P.underlying t=some (.int k))(c:o.op= .binOp .neq t x y t')(ad:a.eval x= .int k m)(hy:a.eval y= .int k n):bc P o a w (.bool (!decide (m=n))) w:=by have:=run_underlying (P:=P) b;simp only[bc,execOp,c,ad,hy];simp[go_sem,this];rfl
end
section
variable{x y:Operand}{t t':TypeId}{p q:Bool}
theorem aKJ(b:P.underlying t=some .bool)(p q:Bool)(w:World):(binOp .eql t (.bool p) (.bool q)).run P w= .ok (.bool (p==q)) w:=by
 have h:∀d:Nat,(Op.equalIn (d+1) t (.bool p) (.bool q)).run P w= .ok (p==q) w:=λ d=>by simp[Op.equalIn,run_underlying b]
 simp only[binOp];simp[Op.equal,Op.maxDepth,h 9999]
theorem aKK(b:P.underlying t=some .bool)(p q:Bool)(w:World):(binOp .neq t (.bool p) (.bool q)).run P w= .ok (.bool (!(p==q))) w:=by
 have h:∀d:Nat,(Op.equalIn (d+1) t (.bool p) (.bool q)).run P w= .ok (p==q) w:=λ d=>by simp[Op.equalIn,run_underlying b]
 simp only[binOp];simp[Op.equal,Op.maxDepth,h 9999]
theorem aPh(b:P.underlying t=some .bool)(c:o.op= .binOp .eql t x y t')(ad:a.eval x= .bool p)(hy:a.eval y= .bool q):bc P o a w (.bool (p==q)) w:=by simp only[bc,execOp,c,ad,hy];simp[go_sem,aKJ b]
theorem aPt(b:P.underlying t=some .bool)(c:o.op= .binOp .neq t x y t')(ad:a.eval x= .bool p)(hy:a.eval y= .bool q):bc P o a w (.bool (!(p==q))) w:=by simp only[bc,execOp,c,ad,hy];simp[go_sem,aKK b]
theorem aq_(b:o.op= .unOp .not t x)(ad:a.eval x= .bool p):bc P o a w (.bool (!p)) w:=by simp only[bc,execOp,b,ad];simp[go_sem]
end
section
variable{x y:Operand}{t t':TypeId}{p q:List UInt8}
theorem aPj(b:P.underlying t=some .string)(c:o.op= .binOp .eql t x y t')(ad:a.eval x=cu p)(hy:a.eval y=cu q):bc P o a w (.bool (decide (p=q))) w:=by have:=run_underlying (P:=P) b;simp only[bc,execOp,c,ad,hy];simp[go_sem,this];exact akL p q
theorem aPv(b:P.underlying t=some .string)(c:o.op= .binOp .neq t x y t')(ad:a.eval x=cu p)(hy:a.eval y=cu q):bc P o a w (.bool (!decide (p=q))) w:=by have:=run_underlying (P:=P) b;simp only[bc,execOp,c,ad,hy];simp[go_sem,this];exact akL p q
theorem aq7{mc:TypeId}(b:P.underlying mc=some .string)(c:o.op= .call { callee:=.builtin .len,args:=#[x],argTypes:=#[mc] })(ad:a.eval x=cu p):bc P o a w (.int .i64 p.length) w:=by simp only[bc,execOp,c,resolve,invoke,gN,ea,hP,ad];simp[go_sem,Builtin.len_,run_underlying b,goInt]
theorem aq6{mc:TypeId}{A:Option Addr}{n c:Nat}{e:TypeId}(b:P.underlying mc=some (.slice e))(d:o.op= .call { callee:=.builtin .len,args:=#[x],argTypes:=#[mc] })(ad:a.eval x= .slice A n c):bc P o a w (.int .i64 n) w:=by simp only[bc,execOp,d,resolve,invoke,gN,ea,hP,ad];simp[go_sem,Builtin.len_,run_underlying b,goInt]
theorem aPm{i:Nat}{b:UInt8}(c:P.underlying t=some .string)(d:o.op= .index t x y)(ad:a.eval x=cu p)(hy:a.eval y= .int .i64 i)(ag:p[i]? =some b):bc P o a w (.int .u8 b.toNat) w:=by
 simp only[bc,execOp,d,ad,hy];obtain⟨f,J⟩:=ba.1 ag;have e:(⟨⟨p⟩⟩:ByteArray)[i]? =some b:=by
  show(if h:i<_ then some _ else none)=_
  rw[dif_pos (show i<(⟨⟨p⟩⟩:ByteArray).size from f)];exact congrArg some J
 simp[go_sem,Instr.index,run_underlying c,e]
theorem aer{k k':IntKind}{n:Int}(b:P.underlying t=some (.int k))(c:P.underlying t'=some (.int k'))(d:o.op= .convert t t' x)(ad:a.eval x= .int k n):bc P o a w (.int k' (k'.wrap n)) w:=by simp only[bc,execOp,d,ad];simp[go_sem,convert,run_underlying b,run_underlying c]
end
end
theorem zX(n:Int):IntKind.i64.wrap n=ap n:=by rw[IntKind.wrap_i64];rfl
theorem aoe(n:Int):IntKind.u8.wrap n=((jh n).toNat:Int):=by rw[av5,IntKind.wrap_u8]
section
variable{P:Program}{o:Oper}{a:Act}{w:World}{x y:Operand}{t t':TypeId}{m n:Int}
theorem aeq(b:o.op= .binOp .add t x y t')(ad:a.eval x= .int .i64 m)(hy:a.eval y= .int .i64 n):bc P o a w (.int .i64 (ap (m+n))) w:=by rw[<-zX];exact aO_ b ad hy
theorem arc(b:o.op= .binOp .sub t x y t')(ad:a.eval x= .int .i64 m)(hy:a.eval y= .int .i64 n):bc P o a w (.int .i64 (ap (m-n))) w:=by rw[<-zX];exact aPC b ad hy
theorem aPs(b:o.op= .binOp .mul t x y t')(ad:a.eval x= .int .i64 m)(hy:a.eval y= .int .i64 n):bc P o a w (.int .i64 (ap (m*n))) w:=by rw[<-zX];exact aPr b ad hy
theorem ara(c:o.op= .binOp .rem t x y t')(ad:a.eval x= .int .i64 m)(hy:a.eval y= .int .i64 n)(b:(!decide (n=0))=true):bc P o a w (.int .i64 (m.tmod n)) w:=by
 have b:n≠0:=by simpa using b
 simp only[bc,execOp,c,ad,hy];simp[go_sem,b]
theorem aq'(b:o.op= .binOp .quo t x y t')(ad:a.eval x= .int .i64 m)(hy:a.eval y= .int .i64 n)(c:(!decide (n=0))=true):bc P o a w (.int .i64 (ap (m.tdiv n))) w:=by rw[<-zX];exact aPA b ad hy (by simpa using c)
theorem aPc(b:P.underlying t=some (.int .i64))(c:P.underlying t'=some (.int .i64))(d:o.op= .convert t t' x)(ad:a.eval x= .int .i64 m):bc P o a w (.int .i64 (ap m)) w:=by have h:=aer (P:=P) (w:=w) b c d ad;rwa [zX]at h
theorem aPd(b:P.underlying t=some (.int .i64))(c:P.underlying t'=some (.int .u8))(d:o.op= .convert t t' x)(ad:a.eval x= .int .i64 m):bc P o a w (.int .u8 ((jh m).toNat:Int)) w:=by have h:=aer (P:=P) (w:=w) b c d ad;rwa [aoe]at h
theorem ag2(a:Act)(v:Value):a.eval (.const v)=v:=rfl
theorem Pv(a:Act)(g:Nat):a.eval (.global g)= .pointer (some ⟨g,0,none⟩):=rfl
theorem Ou{vs:List Value}{i:Nat}{v:Value}(b:o.op= .extract x i)(ad:a.eval x= .tuple vs.toArray)(c:vs[i]? =some v):bc P o a w v w:=by simp only[bc,execOp,b,ad];simp[go_sem,Instr.extract,c]
theorem Ov{p:Addr}(b:o.op= .nilCheck x)(ad:a.eval x= .pointer (some p)):bc P o a w (.pointer (some p)) w:=by simp only[bc,execOp,b,ad];rfl
end
theorem mU(b o n:Nat):(⟨b,o,none⟩:Addr).add n=⟨b,o+n,none⟩:=by unfold Addr.add;split<;>simp_all
section
variable{P:Program}{o:Oper}{a:Act}{w:World}{x y:Operand}{t e s:TypeId}
theorem aPn{i:Int}{b:UInt8}{p:List UInt8}(c:P.underlying t=some .string)(d:o.op= .index t x y)(ad:a.eval x=cu p)(hy:a.eval y= .int .i64 i)(ag:idx p i=some b):bc P o a w (.int .u8 b.toNat) w:=by obtain⟨f,g,J⟩:=np ag;obtain⟨n,rfl⟩:=kl f;exact aPm c d ad hy (by simpa using J)
theorem rT{A:Option Addr}{n c sz:Nat}{i:Int}(b:P.underlying t=some (.slice e))(aj:∀w,(Go.sizeOf e).run P w= .ok sz w)
 (d:o.op= .indexAddr t x y)(ad:a.eval x= .slice A n c)(hy:a.eval y= .int .i64 i)(f:A=some ⟨dD A,gB A,none⟩)(hi:0<=i/\i<n) :
 bc P o a w (.pointer (some ⟨dD A,gB A+i.toNat*sz,none⟩)) w:=by
 obtain⟨g,j⟩:=hi
 obtain⟨k,rfl⟩:=kl g
 have h:k<n:=by omega
 rw[f]at ad
 simp only[bc,execOp,d,ad,hy]
 simp[go_sem,Instr.indexAt,run_underlying b,h,aj,mU]
theorem T9{cm:Array Field}{f:Field}{j b p sz:Nat}(d:P.underlying s=some (.struct cm))(g:cm[j]? =some f)(aj:∀w,(Go.sizeOf f.type).run P w= .ok sz w)(h:cx sz 0=false)
 (i:o.op= .fieldAddr s x j)(ad:a.eval x= .pointer (some ⟨b,p,none⟩)):bc P o a w (.pointer (some ⟨b,p+f.offset,none⟩)) w:=by
 have c:sz≠0:=by intro e;subst e;simp at h
 simp only[bc,execOp,i,ad]
 simp[go_sem,Instr.fieldAt,run_underlying d,g,fieldPlace,aj,c,mU]
theorem Am{b p:Nat}{v:Value}(c:∀w,(isAgg t).run P w= .ok false w)(d:o.op= .load t x)(ad:a.eval x= .pointer (some ⟨b,p,none⟩))(hc:w.cell? ⟨b,p,none⟩=some v):bc P o a w v w:=by simp only[bc,execOp,d,ad];simp[go_sem,Instr.loadAt,loadVar,c,hc]
theorem aq8{b p sz:Nat}{cs:List Value}(c:∀w,(isAgg t).run P w= .ok true w)(aj:∀w,(Go.sizeOf t).run P w= .ok sz w)(d:cs.length=sz)(f:o.op= .load t x)
 (ad:a.eval x= .pointer (some ⟨b,p,none⟩))(hc:fF w ⟨b,p,none⟩ cs):bc P o a w (.agg cs.toArray) w:=by
 have h:=run_loadCells_list (P:=P) w ⟨b,p,none⟩ cs (λ j u ax=>by rw[mU];exact hc j u ax)
 rw[d]at h
 unfold loadCells at h
 simp only[bc,execOp,f,ad]
 simp[go_sem,Instr.loadAt,loadVar,c,aj,h]
theorem Ot{v:Value}{cs:List Value}(b:v.cells=cs.toArray)(c:o.op= .box t x)(ad:a.eval x=v):bc P o a w (.pointer (some ⟨w.heap.size,0,none⟩)) (w.alloc (.cells cs.toArray t)):=by have ev:=b;unfold Value.cells at ev;simp only[bc,execOp,c,ad];simp[go_sem,Instr.box,newVar,newRow,ev]
theorem Ak{z:Value}{cs:List Value}(b:∀w,(zeroValue t).run P w= .ok z w)(c:z.cells=cs.toArray)(d:o.op= .alloc t):bc P o a w (.pointer (some ⟨w.heap.size,0,none⟩)) (w.alloc (.cells cs.toArray t)):=by have ev:=c;unfold Value.cells at ev;simp only[bc,execOp,d];simp[go_sem,Instr.alloc,newVar,newRow,b,ev]
end
def lay:List Value->Nat->List Value->List Value
 |l,0,cs=>cs++l.drop cs.length
 |[],_+1,_=>[]
 |u::l,n+1,cs=>u::lay l n cs
theorem Zs:∀(l:List Value)(n:Nat)(cs:List Value),n+cs.length<=l.length->lay l n cs=l.take n++cs++l.drop (n+cs.length)
 |l,0,cs,_=>by simp[lay]
 |[],n+1,cs,h=>by simp at h
 |u::l,n+1,cs,h=>by
  have:=Zs l n cs (by simp at h;omega);simp only[lay,this,jH,hX];have e:n+1+cs.length=(n+cs.length)+1:=by omega
  rw[e,List.drop_succ_cons]
section
variable{P:Program}{o:Oper}{a:Act}{w:World}{x y:Operand}{t e s:TypeId}
theorem aes{g p sz:Nat}{tb:TypeId}{cs vs:List Value}{v:Value}(i:v.cells=vs.toArray)(aj:∀w,(Go.sizeOf t).run P w= .ok sz w)(j:cx vs.length sz=true)(l:vs.all (·.oneCell')=true)
 (c:iI (p+vs.length) cs.length=true)(ag:(a8.cd g tb cs).ok w)(m:o.op= .store t x y)(ad:a.eval x= .pointer (some ⟨g,p,none⟩))(hy:a.eval y=v) :
 ∃w',tH P o a w w'/\a_ [g] w w'/\(a8.cd g tb (lay cs p vs)).ok w':=by
 have d:w.heap[g]? =some (.cells cs.toArray tb (0,0)):=ag
 have b:vs.length=sz:=bF j
 have f:p+vs.length<=cs.length:=cJ c
 have h:=run_storeCells_at P g p tb vs 0 cs.toArray w d (by simpa using f) (λ u n=>jM.1 l u n)
 simp only[jI]at h
 refine⟨w.setRow g (lay cs p vs).toArray,?_,?_,?_⟩
 ·simp only[tH,execOp,m,ad,hy];rw[Zs _ _ _ f];simp only[eY,b]at h;have ev:=i;unfold Value.cells at ev;simp[go_sem,Instr.storeAt,storeVar,aj,ev,b,h]
 ·refine⟨rfl,rfl,rfl,by simp[World.setRow],λ k _ q=>?_⟩;simp only[World.setRow,jr];rw[ly (by simpa[eq_comm]using q)]
 ·show(w.setRow g _).heap[g]? =_
  simp[World.setRow,jr,d]
end
section
variable{P:Program}{o:Oper}{a:Act}{w:World}{x y:Operand}{t e:TypeId}
def PJ(a:Act):List (Nat×Operand)->List (Nat×Value)->Prop
 |[],[]=>True
 |(i,x)::xs,(j,v)::vs=>(a.eval x=v/\i=j)/\PJ a xs vs
 |_,_=>False
theorem V8:∀ {xs:List (Nat×Operand)}{vs:List (Nat×Value)},PJ a xs vs->xs.map (λ p=>(p.1,a.eval p.2))=vs
 |[],[],_=>rfl
 |(i,x)::xs,(j,v)::vs,h=>by obtain⟨⟨b,rfl⟩,J⟩:=h;rw[ea,V8 J,b]
def placesOf(P:Program)(t:TypeId):Sem (Array (Nat×Nat)):=(match P.underlying t with|some (.struct cm)=>cm |_=>#[]).mapM λ(f:Field)=>do pure (f.offset,<-Go.sizeOf f.type)
theorem aPb{z:Value}{cm:Array Field}{pl:Array (Nat×Nat)}{xs:List (Nat×Operand)}{vs:List (Nat×Value)}{cs:List Value}(d:∀w,(zeroValue t).run P w= .ok z w)(b:P.underlying t=some (.struct cm))
 (f:∀w,(placesOf P t).run P w= .ok pl w)(g:o.op= .build t xs.toArray)(ad:PJ a xs vs)(h:Instr.fill (λ i=>pl[i]?) z.cells vs=some cs.toArray):bc P o a w (.agg cs.toArray) w:=by
 have c:=f w
 simp only[placesOf,b]at c
 have j:=V8 ad
 simp only[bc,execOp,g,Instr.build,Sem.run_bind,d,Result.andThen_ok,run_underlying b,c,gN]
 have e:(xs.map λ(i,x)=>(i,a.eval x))=vs:=j
 simp only[e,h]
 rfl
theorem Ha{z:Value}{sz n:Nat}{xs:List (Nat×Operand)}{vs:List (Nat×Value)}{cs:List Value}(d:P.underlying t=some (.slice e))(aj:∀w,(Go.sizeOf e).run P w= .ok sz w)(f:∀w,(zeroValue e).run P w= .ok z w)
 (b:iI (n*sz) 16777216=true)(c:cx (n*sz) 0=false)(g:o.op= .buildSlice t n xs.toArray)(ad:PJ a xs vs)
 (h:Instr.fill (λ i=>some (i*sz,sz)) ((Array.range (n*sz)).map (z.cells[·%z.cells.size]!)) vs=some cs.toArray) :
 bc P o a w (.slice (some ⟨w.heap.size,0,none⟩) n n) (w.alloc (.cells cs.toArray e)):=by
 have j:=V8 ad
 have e1:(xs.map λ(i,x)=>(i,a.eval x))=vs:=j
 have J: ¬(n*sz>2^24):=by have:=cJ b;omega
 have k:n*sz≠0:=by intro l;rw[l]at c;simp at c
 simp only[bc,execOp,g,Instr.buildSlice,Sem.run_bind,Sem.run_pure,aj,f,Result.andThen_ok,run_underlying d,gN,e1,ly J,ly k,h]
 rfl
theorem aPx{t':TypeId}{m n:Int}(b:o.op= .binOp .or t x y t')(ad:a.eval x= .int .i64 m)(hy:a.eval y= .int .i64 n):bc P o a w (.int .i64 (aaj m n)) w:=by unfold aaj;rw[<-zX];simp only[bc,execOp,b,ad,hy];rfl
theorem aO'{t':TypeId}{m n:Int}(b:o.op= .binOp .and t x y t')(ad:a.eval x= .int .i64 m)(hy:a.eval y= .int .i64 n):bc P o a w (.int .i64 (U1 m n)) w:=by unfold U1;rw[<-zX];simp only[bc,execOp,b,ad,hy];rfl
theorem aq9{fn:Fn}{xs:List Operand}{vs:List Value}(b:o.op= .makeFunc fn #[] xs.toArray)(ad:xs.map a.eval=vs):bc P o a w (.func fn #[] vs.toArray) w:=by simp only[bc,execOp,b,Instr.makeFunc,gN,ad];rfl
end
section
variable{P:Program}{ops:Array Oper}{Q:Exit->Act->World->Prop}{a:Act}{w w':World}{rest:List Oper}{o:Oper}{n:cE}{d:Nat}{l:List (Nat×Value)}{v:Value}
theorem Ta(b:o.guard=none):Region.wanted o (yielded ops a.tmps)=true:=by simp[Region.wanted,b]
theorem gE(c:Region.wanted o (yielded ops a.tmps)=true)(hy:bc P o a w v w')(e:Fr n l a)(aK:o.dst=some d)(f:eN d n=true)(k:∀b,Fr n ((d,v)::l) b->wpList P ops Q rest b w'):wpList P ops Q (o::rest) a w:=by
 refine wpList_step λ K g=>?_;rw[lz c];unfold Oper.wp;rw[show(execOp a.eval o).run P w=_ from hy];show K (a.put o.dst v) w'
 rw[aK];exact g _ _ (k _ (e.put f))
theorem kx(b:Region.wanted o (yielded ops a.tmps)=true)(hy:tH P o a w w')(aK:o.dst=none)(k:wpList P ops Q rest a w'):wpList P ops Q (o::rest) a w:=by
 refine wpList_step λ K c=>?_;rw[lz b];unfold Oper.wp;rw[show(execOp a.eval o).run P w=_ from hy];show K (a.put o.dst undef) w'
 rw[aK];exact c _ _ k
theorem aL9{j bC:Nat}{b:Bool}(c:Fr n l a)(e:o.guard=some (j,b))(ax:(ops[j]?).bind (·.dst)=some bC)(f:ey l bC=some (.bool b))(g:eN bC n=true):Region.wanted o (yielded ops a.tmps)=true:=by
 have i:bC<n:=cJ g;have h:=c.get bC _ f;have aj:=c.size;have J:a.tmps[bC]? =some (.bool b):=by rw[iU (by omega)];simpa[eh,aj,i]using h
 simp[Region.wanted,e,yielded,ax,J]
theorem aL8{j bC:Nat}{b c:Bool}(e:Fr n l a)(f:o.guard=some (j,b))(ax:(ops[j]?).bind (·.dst)=some bC)(g:ey l bC=some (.bool c))(i:(c==b)=false)(k:eN bC n=true):Region.wanted o (yielded ops a.tmps)=false:=by
 have m:bC<n:=cJ k;have h:=e.get bC _ g;have aj:=e.size;have J:a.tmps[bC]? =some (.bool c):=by rw[iU (by omega)];simpa[eh,aj,m]using h
 simpa[Region.wanted,f,yielded,ax,J]using i
theorem aL_{j bC:Nat}{b:Bool}(c:Fr n l a)(e:o.guard=some (j,b))(ax:(ops[j]?).bind (·.dst)=some bC)(f:ey l bC=some undef)(g:eN bC n=true):Region.wanted o (yielded ops a.tmps)=false:=by
 have i:bC<n:=cJ g;have h:=c.get bC _ f;have aj:=c.size;have J:a.tmps[bC]? =some undef:=by rw[iU (by omega)];simpa[eh,aj,i]using h
 simp[Region.wanted,e,yielded,ax,J,undef]
theorem ss(c:Region.wanted o (yielded ops a.tmps)=false)(e:Fr n l a)(aK:o.dst=some d)(f:eN d n=true)(k:∀b,Fr n ((d,undef)::l) b->wpList P ops Q rest b w):wpList P ops Q (o::rest) a w:=by refine wpList_step λ K g=>?_;rw[ly (by simp[c]),aK];exact g _ _ (k _ (e.put f))
def Bk(a:Act):List Operand->List Value->Prop
 |[],[]=>True
 |x::xs,v::vs=>a.eval x=v/\Bk a xs vs
 |_,_=>False
theorem PL:∀ {xs:List Operand}{vs:List Value},Bk a xs vs->xs.map a.eval=vs
 |[],[],_=>rfl
 |x::xs,v::vs,h=>by rw[ea,h.1,PL h.2]
theorem aMg{f:FuncId}{xs:List Operand}{mc:Array TypeId}{vs:List Value}{R:Ending->World->Prop}{K:Act->World->Prop}
 (b:o.op= .call { callee:=.value (.func f),args:=xs.toArray,argTypes:=mc })(c:∀args w,(callFunc f args).run P w= .ok (.enter f args) w)
 (g:Bk a xs vs)(hc:Calls P f vs.toArray w R)(k:∀e w',R e w'->∃v,e= .returned v/\K (a.put o.dst v) w'):o.wp P a w K Q:=by
 unfold Oper.wp
 have e:(execOp a.eval o).run P w= .ok (.enter f vs.toArray) w:=by have h:=PL g;simp only[execOp,b,resolve,gN,h];simp[go_sem,Act.eval,Deferred.ofValue,invoke,c]
 rw[e]
 exact hc.mono λ e w' i=>by obtain⟨v,rfl,j⟩:=k e w' i;exact j
theorem Nt{f:FuncId}{xs:List Operand}{mc:Array TypeId}{vs:List Value}{R:Ending->World->Prop}(c:Region.wanted o (yielded ops a.tmps)=true)
 (g:o.op= .call { callee:=.value (.func f),args:=xs.toArray,argTypes:=mc })(h:∀args w,(callFunc f args).run P w= .ok (.enter f args) w)
 (i:Bk a xs vs)(hc:Calls P f vs.toArray w R)(j:Fr n l a)(aK:o.dst=some d)(m:eN d n=true)
 (k:∀e w',R e w'->∃v,e= .returned v/\∀b,Fr n ((d,v)::l) b->wpList P ops Q rest b w'):wpList P ops Q (o::rest) a w:=by
 refine wpList_step λ K p=>?_
 rw[lz c]
 refine aMg g h i hc λ e w' q=>?_
 obtain⟨v,r,s⟩:=k e w' q
 rw[aK]
 exact⟨v,r,p _ _ (s _ (j.put m))⟩
end
section
variable{P:Program}{ops:Array Oper}{Q:Exit->Act->World->Prop}{a:Act}{w w':World}{rest:List Oper}{o:Oper}{n:cE}{d:Nat}{l:List (Nat×Value)}{v:Value}
theorem aKG{f:FuncId}{b:Operand}{xs:List Operand}{mc:Array TypeId}{vs cs:List Value}
 (c:o.op= .call { callee:=.value b,args:=xs.toArray,argTypes:=mc })(e:∀args w,(callFunc f args).run P w= .ok (.enter f args) w)(g:a.eval b= .func (.func f) #[] cs.toArray)
 (h:Bk a xs vs):(execOp a.eval o).run P w= .ok (.enter f (vs++cs).toArray) w:=by
 have i:=PL h
 simp only[execOp,c,resolve,gN,i,g]
 simp[Deferred.ofValue,invoke,e]
theorem ace{f:FuncId}{b:Operand}{xs:List Operand}{mc:Array TypeId}{vs cs:List Value}{R:Ending->World->Prop}(g:Region.wanted o (yielded ops a.tmps)=true)
 (h:o.op= .call { callee:=.value b,args:=xs.toArray,argTypes:=mc })(i:∀args w,(callFunc f args).run P w= .ok (.enter f args) w)(j:a.eval b= .func (.func f) #[] cs.toArray)
 (m:Bk a xs vs)(hc:Calls P f (vs++cs).toArray w R)(p:Fr n l a)(aK:o.dst=some d)(q:eN d n=true)
 (k:∀e w',R e w'->∃v,e= .returned v/\∀c,Fr n ((d,v)::l) c->wpList P ops Q rest c w'):wpList P ops Q (o::rest) a w:=by
 refine wpList_step λ K r=>?_
 rw[lz g]
 unfold Oper.wp
 rw[aKG h i j m]
 refine hc.mono λ e w' s=>?_
 obtain⟨v,rfl,t⟩:=k e w' s
 rw[aK]
 exact r _ _ (t _ (p.put q))
end
section
variable{P:Program}{Q:Exit->Act->World->Prop}{a:Act}{w:World}
theorem Va{c:Code}(b:Nat->Act->World->Prop)(k:Nat)(h:b k a w)(e:∀a w,¬b 0 a w)
 (round:∀k a w,b (k+1) a w->∀K:Act->World->Prop,(∀a w,b k a w->K a w)->c.wp P (Exit.then K Q) a w):(Code.loop c).wp P Q a w:=
 wp_loop_ghost b k h λ m a w d=>by
  cases m with
  |zero=>exact absurd d (e a w)
  |succ m=>exact round m a w d _ λ f w' h'=>⟨m,ks m,h'⟩
theorem aJs{fn:Func}{R:Ending->World->Prop}{n:Nat}{l:List (Nat×Value)}(b:fn.results= #[])(c:Fr ⟨n,[]⟩ l a)(h:R (.returned (.tuple #[])) w):bodyPost P fn R .ret a w:=⟨c.defers,_,results_none b _ _ _,h⟩
theorem CJ{fn:Func}{R:Ending->World->Prop}{n:Nat}{t:Nat}{l:List (Nat×Value)}{v:Value}(c:fn.results= #[.tmp t])(b:Fr ⟨n,[]⟩ l a)(d:ey l t=some v)(h:R (.returned v) w):bodyPost P fn R .ret a w:=⟨b.defers,_,results_tmp c _ _ _,by rw[b.get _ _ d];exact h⟩
def abZ(P:Program)(a:Act)(w:World):ResultVar->Value->Prop
 | .tmp t,v=>a.tmps.getD t undef=v
 | .cell dM ty,v=>∃b p,a.tmps.getD dM undef= .pointer (some ⟨b,p,none⟩)/\
  ((∃cs:List Value,(∀w,(isAgg ty).run P w= .ok true w)/\(∀w,(Go.sizeOf ty).run P w= .ok cs.length w)/\fF w ⟨b,p,none⟩ cs/\v= .agg cs.toArray)\/
   ((∀w,(isAgg ty).run P w= .ok false w)/\w.cell? ⟨b,p,none⟩=some v))
def Su(P:Program)(a:Act)(w:World):List ResultVar->List Value->Prop
 |[],[]=>True
 |r::rs,v::vs=>abZ P a w r v/\Su P a w rs vs
 |_,_=>False
def pack:List Value->Value
 |[v]=>v
 |vs=>.tuple vs.toArray
def St(a:Act):ResultVar->Sem Value
 | .tmp t=>pure (a.tmps.getD t undef)
 | .cell dM t=>do loadVar t (<-asAddr (a.tmps.getD dM undef))
theorem aKL{r:ResultVar}{v:Value}(h:abZ P a w r v):(St a r).run P w= .ok v w:=by
 cases r with
 |tmp t=>exact congrArg (λ x=>Result.ok x w) h
 |cell dM ty=>obtain⟨b,p,e,J⟩:=h;simp only[St,e];rcases J with⟨cs,c,aj,hc,rfl⟩|⟨c,hc⟩;have d:=run_loadCells_list (P:=P) w ⟨b,p,none⟩ cs (λ j u ax=>by rw[mU];exact hc j u ax);unfold loadCells at d;simp[go_sem,loadVar,asAddr,c,aj,d];simp[go_sem,loadVar,asAddr,c,hc]
theorem ann:∀ {rs:List ResultVar}{vs:List Value},Su P a w rs vs->(rs.mapM (St a)).run P w= .ok vs w
 |[],[],_=>rfl
 |r::rs,v::vs,h=>by have b:=aKL h.1;have J:=ann h.2;rw[List.mapM_cons];simp only[Sem.run_bind,b,J,Result.andThen_ok];rfl
theorem Sf{fn:Func}{R:Ending->World->Prop}{n:Nat}{l:List (Nat×Value)}{rs:List ResultVar}{vs:List Value}(b:fn.results=rs.toArray)(c:Fr ⟨n,[]⟩ l a)(d:Su P a w rs vs)
 (h:R (.returned (pack vs)) w):bodyPost P fn R .ret a w:=by
 refine⟨c.defers,pack vs,?_,h⟩
 have f:=ann d
 unfold results
 have e:(λ x=>match x with| .tmp t=>pure (a.tmps.getD t undef)| .cell dM t=>do loadVar t (<-asAddr (a.tmps.getD dM undef)):ResultVar->Sem Value)=St a:=by funext x;cases x<;>rfl
 rw[b,List.mapM_toArray]
 simp only[Sem.run_bind]
 show Result.andThen (((List.toArray <$> rs.mapM (λ x=>match x with| .tmp t=>pure (a.tmps.getD t undef)| .cell dM t=>do loadVar t (<-asAddr (a.tmps.getD dM undef)):ResultVar->Sem Value))).run P w) _=_
 rw[e,map_eq_pure_bind,Sem.run_bind,f]
 match vs with
 |[]=>rfl
 |[v]=>rfl
 |v::u::r=>rfl
end
section
variable{P:Program}{ops:Array Oper}{Q:Exit->Act->World->Prop}{a:Act}{w:World}{rest:List Oper}{o:Oper}{n:cE}{d:Nat}{l:List (Nat×Value)}
 {W:World}{M0 X:List Nat}{E:List a8}{D:List bA}
theorem bu.new(c:bu W M0 X w E D)(t:TypeId)(cs:List Value):bu W M0 X (w.alloc (.cells cs.toArray t)) (a8.cd w.heap.size t cs::E) D:=c.push _ (a_.alloc _ _ _) (av9 w t cs) (λ k b=>by simp[a8.cd]at b;subst b;exact⟨cP _,by simp⟩) (by simp[a8.cd])
theorem mD{g p sz:Nat}{t tb:TypeId}{x y:Operand}{cs vs:List Value}{v:Value}(i:Nat)(e:bu W M0 X w E D)(hi:E[i]? =some (a8.cd g tb cs))(f:Region.wanted o (yielded ops a.tmps)=true)
 (h:v.cells=vs.toArray)(aj:∀w,(Go.sizeOf t).run P w= .ok sz w)(j:cx vs.length sz=true)(b:vs.all (·.oneCell')=true)(c:iI (p+vs.length) cs.length=true)
 (m:o.op= .store t x y)(ad:a.eval x= .pointer (some ⟨g,p,none⟩))(hy:a.eval y=v)(aK:o.dst=none)
 (k:∀w',bu W M0 X w' (E.set i (a8.cd g tb (lay cs p vs))) D->wpList P ops Q rest a w'):wpList P ops Q (o::rest) a w:=by
 obtain⟨w',b,J,q⟩:=aes h aj j b c (e.e i hi) m ad hy
 exact kx f b aK (k w' (e.NQ i hi J q (by simp[a8.cd]) (λ k r=>.inl r)))
theorem bu.MO{α:Type}(b:bu W M0 X w E D)(e:TypeId)(size:Nat):bu W M0 X w (a8.row e size (.slice none 0 0) ([]:List α) []::E) D:=b.push _ (a_.refl _ _) (World.ownsRow_nil w 0 e size) (λ k c=>by simp[a8.row,Value.ownBlock]at c) (by simp[a8.row,Value.ownBlock])
theorem aHl(o:Option Nat):o.toList.Nodup:=by cases o<;>simp
theorem ajQ{e:TypeId}{z:Value}{sz bytes:Nat}(h:(P.info? e).map (λ i=>(i.zero,i.size,i.bytes))=some (some z,sz,bytes)):∃i,P.info? e=some i/\i.zero=some z/\i.size=sz/\i.bytes=bytes:=by
 cases hi:P.info? e with
 |none=>rw[hi]at h;cases h
 |some i=>rw[hi]at h;simp only[fs,aM,cI]at h;exact⟨i,rfl,h.1,h.2.1,h.2.2⟩
end
section
variable{P:Program}{ops:Array Oper}{C:World->Prop}{qG:Act->Prop}{a:Act}{w:World}{rest:List Oper}{o:Oper}{n:cE}{d:Nat}{l:List (Nat×Value)}{v:Value}
theorem sO(c:Region.wanted o (yielded ops a.tmps)=true)(hy:∀w,C w->bc P o a w v w)(e:Fr n l a)(aK:o.dst=some d)(f:eN d n=true)(k:∀b,Fr n ((d,v)::l) b->wpQuiet P ops C qG rest b):wpQuiet P ops C qG (o::rest) a:=by unfold wpQuiet;rw[lz c];refine⟨v,λ w hc=>?_,?_⟩;unfold Oper.quietAt;rw[show(execOp a.eval o).run P w=_ from hy w hc];exact⟨rfl,rfl⟩;rw[aK];exact k _ (e.put f)
theorem qs(c:Region.wanted o (yielded ops a.tmps)=false)(e:Fr n l a)(aK:o.dst=some d)(f:eN d n=true)(k:∀b,Fr n ((d,undef)::l) b->wpQuiet P ops C qG rest b):wpQuiet P ops C qG (o::rest) a:=by unfold wpQuiet;rw[ly (by simp[c]),aK];exact k _ (e.put f)
theorem awI{id:Nat}{Q:Exit->Act->World->Prop}{l:List Oper}(b:P.follows .mixedOrders=true)(bO:Region.lexB .any l.toArray=true)
 (h:wpQuiet P l.toArray (λ w'=>a_ [] w w') (λ a=>∀w',a_ [] w w'->Q .normal a w') l a):(Code.region id l.toArray true).wp P Q a w:=
 wp_region_quiet (C:=λ w'=>a_ [] w w') b bO (a_.drew [] w) (by refine Eq.mp ?_ h;rw[List.toList_toArray])|>λ h=>wp_mono h (λ e a w q=>q)
end
theorem azq{w w':World}{p:Addr}{v:Value}(h:a_ [] w w')(hc:w.cell? p=some v):w'.cell? p=some v:=(World.cell?_of_block (h.block p.block (World.block_lt_of_cell? w p hc) (by simp))).trans hc
theorem ER{w w':World}{p:Addr}{cs:List Value}(h:a_ [] w w')(hc:fF w p cs):fF w' p cs:=λ j u ax=>azq h (hc j u ax)
section
variable{P:Program}{Q:Exit->Act->World->Prop}{K:Act->World->Prop}{a:Act}{w:World}
theorem vv{i:Nat}(h:Q (.exit i) a w):Exit.then K Q (.exit i) a w:=h
theorem J9{i:Nat}(h:Q .normal a w):Exit.inBlock i Q (.exit i) a w:=by simpa[Exit.inBlock]using h
theorem TX(h:Q .ret a w):Exit.then K Q .ret a w:=h
theorem aqU{i:Nat}(h:Q .ret a w):Exit.inBlock i Q .ret a w:=h
theorem Pg{id:Nat}{c:Code}(b:Act->World->Prop)(ad:∀K:Act->World->Prop,(∀a w,b a w->K a w)->c.wp P (Exit.inBlock id (Exit.then K Q)) a w)(hy:∀a w,b a w->Q .normal a w):(Code.block id c).wp P Q a w:=by
 refine wp_block (wp_mono (ad _ hy) ?_);intro e a w h;cases e with
 |exit i=>by_cases hi:i=id;simpa[Exit.inBlock,Exit.then,hi]using h;simpa[Exit.inBlock,Exit.then,hi]using h
 |_=>exact h
theorem mY{id:Nat}{l:List Oper}(h:wpList P l.toArray Q l a w):(Code.region id l.toArray false).wp P Q a w:=wp_region_lit h
end
section
variable{W w:World}{M0 X:List Nat}{E:List a8}{D:List bA}
def RY(D:List bA):List bA->Prop
 |[]=>True
 |y::r=>(∃i:Nat,D[i]? =some y)/\RY D r
theorem al_{D:List bA}:∀ {hs:List bA},RY D hs->∀y∈hs,y∈D
 |[],_,y,hy=>by simp at hy
 |z::r,h,y,hy=>by rcases cG.1 hy with rfl |e;obtain⟨i,hi⟩:=h.1;exact b_ hi;exact al_ h.2 y e
theorem bu.pick(h:bu W M0 X w E D){hs:List bA}(aj:RY D hs):bu W M0 X w E hs:=h.less (al_ aj)
theorem bu.ahI(h:bu W [] X w E D):a_ [] W w:=h.bU
theorem bu.Pz(h:bu W M0 X w E D)(i:Nat):bu W M0 X w (E.eraseIdx i) D:=h.drop (List.eraseIdx_sublist E i)
theorem bu.freeze{α:Type}{T:dt α}{e:TypeId}{A:Option Addr}{n c:Nat}{l:List α}{xs:List Value}(h:bu W M0 X w E D)(i j:Nat)(hi:E[i]? =some (a8.row e T.size (.slice A n c) l xs))(ax:D[j]? =some (bA.rows T xs l)) :
 bu W M0 X w (E.eraseIdx i) (bA.of (b2 T) [.slice A n c] l::D):=by
 have b:=h.Pz i
 refine b.more (aKo (h.e i hi) (b.d j ax) ?_)
 intro k a d
 rcases cg.1 d with e1 |e1
 ·have f:=h.iT k e1;rcases(h.lt k (g_.2 ⟨_,b_ hi,a⟩)).2 with e2 |e2;exact f.2 e2;omega
 ·obtain⟨g,ad⟩:=ba.1 hi;have a1:E=E.take i++E[i]::E.drop (i+1):=by simp
  have aK:=h.bC;rw[a1,ad]at aK;have e2:bT (E.take i++a8.row e T.size (.slice A n c) l xs::E.drop (i+1))=bT (E.take i)++((a8.row e T.size (.slice A n c) l xs).bD++bT (E.drop (i+1))):=by simp[bT]
  rw[e2,eT,eT]at aK;rw[List.eraseIdx_eq_take_drop_succ]at e1;rcases cg.1 (by simpa[bT]using e1:k∈bT (E.take i)++bT (E.drop (i+1)))with e3 |e3;exact aK.2.2 k e3 k (cg.2 (.inl a)) rfl;exact aK.2.1.2.2 k a k e3 rfl
theorem bu.ah7{g:Nat}{t:TypeId}{cs:List Value}(h:bu W M0 X w E D)(i:Nat)(hi:E[i]? =some (a8.cd g t cs)):bu W M0 X w (E.eraseIdx i) (bA.kf g cs::D):=by
 have b:=h.Pz i;refine b.more ⟨?_,KO (h.e i hi),λ j u ax=>?_⟩
 ·intro c;have a:g∈(a8.cd g t cs).bD:=by simp[a8.cd]
  rcases cg.1 c with e1 |e1;have d:=h.iT g e1;rcases(h.lt g (g_.2 ⟨_,b_ hi,a⟩)).2 with e2 |e2;exact d.2 e2;omega
  ·obtain⟨e,ad⟩:=ba.1 hi;have a1:E=E.take i++E[i]::E.drop (i+1):=by simp
   have aK:=h.bC;rw[a1,ad]at aK;have e2:bT (E.take i++a8.cd g t cs::E.drop (i+1))=bT (E.take i)++((a8.cd g t cs).bD++bT (E.drop (i+1))):=by simp[bT]
   rw[e2,eT,eT]at aK;rw[List.eraseIdx_eq_take_drop_succ]at e1;rcases cg.1 (by simpa[bT]using e1:g∈bT (E.take i)++bT (E.drop (i+1)))with e3 |e3;exact aK.2.2 g e3 g (cg.2 (.inl a)) rfl;exact aK.2.1.2.2 g a g e3 rfl
 ·have:=x6 (h.e i hi) ax;simpa using this
end
def dT(n:Nat):List Nat->Array Bool
 |[]=>Array.replicate n false
 |i::d=>(dT n d).setIfInBounds i true
def Hw(K:Act->World->Prop)(Q:Exit->Act->World->Prop):Exit->Act->World->Prop
 | .normal,a,w=>K a w
 |e,a,w=>Q e a w
section
variable{P:Program}{ops:Array Oper}{Q:Exit->Act->World->Prop}{a:Act}{w:World}{o:Oper}{n:cE}{f d i:Nat}{ds:List Nat}{l:List (Nat×Value)}{v:Value}
def SX(ops:Array Oper)(ds:List Nat)(i:Nat):Bool:=Region.noSelect ops&&Region.free .any ops (dT ops.size ds) i&&(Region.ready .any ops (dT ops.size ds)).contains i
theorem aMf{K:Act->World->Prop}{Q:Exit->Act->World->Prop}(h:o.wp P a w K (Hw K Q)):o.wp P a w K Q:=by
 unfold Oper.wp at *
 generalize(execOp a.eval o).run P w=r at *
 cases r with
 |ok n w'=>
  cases n<;>simp only[Oper.upon]at h⊢ <;>
   first
    |exact h
    |exact Calls.mono h (λ e w'' b=>by cases e<;>first |exact b |exact b)
 |halt x w'=>cases x<;>simp only[Oper.upon]at h⊢ <;>exact h
theorem acZ{K:Act->World->Prop}(hi:ops[i]? =some o)(h:wpList P ops (Hw K (NoPanic Q)) [o] a w):wpOp P ops (NoPanic Q) i K a w:=by unfold wpOp;simp only[hi];unfold wpList at h;split at h;rename_i b;rw[lz b];rcases h with h |⟨c,J⟩;exact .inl (aMf h);exact .inr ⟨c,J.elim λ a h=>h.elim λ w h=>⟨a,w,h⟩⟩;rename_i b;rw[ly b];exact h
end
section
variable{P:Program}{o:Oper}{a:Act}{w:World}{t t':TypeId}{x y:Operand}{cm:Array Go.Field}{xs ys:Array Value}{b:Bool}
theorem T8(c:P.underlying t=some (.struct cm))(e:P.stoodInHeld t=false)(f:P.eqGuardType P.depth t=false)
 (g:(Op.eqFields 9999 xs ys cm.toList).run P w= .ok b w)(i:o.op= .binOp .eql t x y t')(ad:a.eval x= .agg xs)(hy:a.eval y= .agg ys):bc P o a w (.bool b) w:=by
 have d:P.fieldsOf t=cm:=by simp[Program.fieldsOf,c]
 have h:=run_equalIn_struct (P:=P) w 9999 t xs ys (by rw[d];exact c) e
 rw[d,g]at h
 have h:(Op.equalIn 10000 t (Value.agg xs) (Value.agg ys)).run P w= .ok b w:=h
 simp only[bc,execOp,i,ad,hy]
 simp[go_sem,Op.equal,Op.maxDepth,h,run_eqGuard_agg w _ _ _ _ _ _ f]
theorem T_(c:P.underlying t=some (.struct cm))(e:P.stoodInHeld t=false)(f:P.eqGuardType P.depth t=false)
 (g:(Op.eqFields 9999 xs ys cm.toList).run P w= .ok b w)(i:o.op= .binOp .neq t x y t')(ad:a.eval x= .agg xs)(hy:a.eval y= .agg ys):bc P o a w (.bool (!b)) w:=by
 have d:P.fieldsOf t=cm:=by simp[Program.fieldsOf,c]
 have h:=run_equalIn_struct (P:=P) w 9999 t xs ys (by rw[d];exact c) e
 rw[d,g]at h
 have h:(Op.equalIn 10000 t (Value.agg xs) (Value.agg ys)).run P w= .ok b w:=h
 simp only[bc,execOp,i,ad,hy]
 simp[go_sem,Op.equal,Op.maxDepth,h,run_eqGuard_agg w _ _ _ _ _ _ f]
theorem vT{d:Nat}:(Op.eqFields d xs ys []).run P w= .ok true w:=rfl
theorem pR{d:Nat}{f:Go.Field}{l:List Go.Field}{k:IntKind}{m n:Int}{e:Prop} [Decidable e](g:(f.name != "_")=true)(i:P.underlying f.type=some (.int k))(j:∀w,(isAgg f.type).run P w= .ok false w)
 (ad:xs[f.offset]? =some (.int k m))(hy:ys[f.offset]? =some (.int k n))(h:(Op.eqFields (d+1) xs ys l).run P w= .ok (decide e) w):(Op.eqFields (d+1) xs ys (f::l)).run P w= .ok (decide (m=n/\e)) w:=by
 have p:f.name≠ "_" :=by simpa using g
 simp only[Op.eqFields,p,if_true,ne_eq,not_false_iff,part,Sem.run_bind,j,Result.andThen_ok,ad,hy,gT,if_false,Sem.run_pure,run_equalIn_int w d f.type k k m n i]
 by_cases c:m=n
 ·subst c;simp[h]
 ·simp[c,show(m==n)=false from by simpa using c]
end
open Go Go.RowKit Go.ChangeShapes Go.WideShapes Go.Deep I
section
variable{H:Type}{enc:TypeId×Value->H}{P:Program}
theorem af3(c:laidOutB P=true){W cN:World}{hS:Nat->Bool}:∀ {a:List TypeId}{vs:List Value}{ds:List (DataW H)}{ps:List MemPlace},DataW.TrodAll enc P W 0 (λ _=>true) true a vs ds ps ->
 (a.all λ t=>P.readableRec t&&eN t P.types.size)=true->(∀p∈ps,W.sameAt cN p)->(∀p∈ps,hS p.block=true)->DataW.TrodAll enc P cN 0 hS true a vs ds ps
 |[],vs,ds,ps,h,_,_,_=>by obtain⟨rfl,rfl,rfl⟩:=trodAll_nil h;exact trodAll_mk0
 |t::a,vs,ds,ps,h,b,aj,e=>by
  obtain⟨v,j,d,f,p,q,rfl,rfl,rfl,g,i⟩:=trodAll_cons h;simp only[List.all_cons,ca]at b
  exact trodAll_cons_mk (WideElems.Trod_stays c b.1.1 (cJ b.1.2) g (λ x ad=>aj x (eS _ ad)) (λ x ad=>e x (eS _ ad)))
   (af3 c i b.2 (λ x ad=>aj x (fw _ ad)) (λ x ad=>e x (fw _ ad)))
theorem aHH{f:Func}{s:ChangeSpec}{W cN:World}{args:Array Value}{ds gs:List (DataW H)}{before:List MemPlace}{tb:TypeId}
 (d:DataW.Whole enc P f.params.toList s.vars false W args.toList ds gs before)(u:laidOutB P=true)(v:(f.params.toList.all λ t=>P.readableRec t&&eN t P.types.size)=true)
 (k:s.vars=[])(e:s.fn H ds= { results:=[.lit (.bool true)],args:=ds })(ag:P.underlying tb=some .bool)(a:f.resultTypes= #[tb])(w:a_ [] W cN) :
 s.post enc P f false true false false W args (.bool true) cN:=by
 have g:=w.below
 have h:∀p∈before,p.block<W.heap.size:=λ p i=>d.lt p i
 have j:=d
 obtain⟨p,q,y,sl,l,z,A⟩:=d
 rw[k]at sl
 obtain⟨rfl,rfl⟩:=trodVars_none sl
 simp only[gH]at l
 subst l
 have c:∀x∈before,(λ b=>decide (b<W.heap.size)) x.block=true:=λ x ad=>by simpa using h x ad
 have m:∀hS:Nat->Bool,(∀x∈before,hS x.block=true)->DataW.TrodAll enc P cN 0 hS true f.params.toList args.toList ds before:=λ hS B=>af3 u y v (λ x ad=>g.same (h x ad)) B
 have n:∀(b:Nat)(hS:Nat->Bool)(aK:Bool),DataW.TrodAll enc P cN b hS aK f.resultTypes.toList ((Value.bool true).resultList f.resultTypes.size) [.lit (.bool true)] []:=λ b hS aK=>by rw[a];exact trodAll_cons_mk (p:=[]) (shut_bool ag true) trodAll_mk0
 have o:∀hS:Nat->Bool,DataW.TrodVars enc P cN hS s.vars [] []:=λ hS=>by rw[k];rfl
 refine⟨ds,[],before,[],before,[],j,?_,?_,?_,World.keptBut_mono (λ x ad=>⟨ad,Or.inr (by simpa using ad)⟩) (g.frame (·∈before)),λ _=>?_⟩
 ·simp only[gH,e];exact n _ _ _
 ·simp only[gH,e];exact m _ c
 ·simp only[gH,e];exact o _
 ·refine⟨ok_one a rfl (okWide_bool_mk ag true),_,_,([]++before)++[],⟨[]++before,[],trodAll_append (m (λ _=>true) (λ _ _=>rfl)) (n _ _ _),o _,rfl,?_,?_⟩,?_⟩
  ·intro b off i;have r:MemPlace.cell b off∈before:=by simpa using i
   rw[g.frozen (h _ r)];exact z b off r
  ·intro C;simpa using A C
  ·intro x ad _;simpa using ad
theorem aft{W:World}{r:Reach}{b0:Nat}{hS:Nat->Bool}{aK:Bool}{t:TypeId}{v:Value}{d:DataW H}{ps:List MemPlace}(a:P.underlying t=some (.int .i64))(b:Value.okWide P W r b0 t v)(h:DataW.Trod enc P W 0 hS aK t v d ps) :
 ∃n:Int,v= .int .i64 n/\ -9223372036854775808<=n/\n<=9223372036854775807:=by
 obtain⟨n,rfl,_,_,c⟩:=open_int a b h
 exact⟨n,rfl,by simpa[Lit.wf,IntKind.min,IntKind.max,IntKind.signed,IntKind.bits]using c⟩
theorem ank{α:Type}{T:dt α}{F:Nat->Prop}{W:World}{b o:Nat}{R:α->Prop}:∀m:Nat,(∀i,i<m->∃cs d,fF W ⟨b,o+i*T.size,none⟩ cs/\T.rd F W cs d/\R d) ->
 ∃(l:List α)(xs:List Value),l.length=m/\dN T F W xs l/\fF W ⟨b,o,none⟩ xs/\∀d∈l,R d
 |0,_=>⟨[],[],rfl,rfl,λ j u ax=>by simp at ax,λ d aK=>by cases aK⟩
 |m+1,h=>by obtain⟨l,xs,a,J,f,g⟩:=ank m (λ i hi=>h i (by omega));obtain⟨cs,d,c1,c2,c3⟩:=h m (by omega);refine⟨l++[d],xs++cs,by simp[a],amU (T:=T) c2 J,λ j u ax=>?_,λ e k=>?_⟩;have c:=zL (T:=T) J;rcases fO j xs.length with n |Qn;exact f j u (by simpa[ll,n]using ax);rw[eA Qn]at ax;have:=c1 (j-xs.length) u ax;rw[c,a]at this;rw[show o+j=o+m*T.size+(j-m*T.size) by rw[c,a]at Qn;omega];simpa using this;rcases cg.1 k with e1 |e1;exact g e e1;simp at e1;subst e1;exact c3
end
def iM{H:Type}(P:Program)(enc:TypeId×Value->H)(N:Nat)(t:TypeId){α:Type}(T:dt α)(R:α->Prop):Prop:=∀(W:World)(n:Nat)(cs:List Value)(x:DataW H×List MemPlace),DataW.trod enc P W 0 (λ _=>true) true n t cs=some x->(∀p∈x.2,p.block<W.heap.size)->(∀m∈x.1.weights P t,m<=N)->∃d,T.rd (jb [] W) W cs d/\R d
def jK(n:Int):Prop:=-9223372036854775808<=n/\n<=9223372036854775807
section
variable{H:Type}{enc:TypeId×Value->H}{P:Program}{N:Nat}{t e:TypeId}
theorem CK(a:P.underlying t=some .string):iM P enc N t ky (λ s=>s.length<=N):=by intro W n cs x h _ b;obtain⟨s,rfl,rfl,_⟩:=DataW.trod_string a h;exact⟨s.data.toList,rfl,b _ (by simp[DataW.weights])⟩
theorem ql(a:P.underlying t=some (.int .i64)):iM P enc N t (dE .i64) jK:=by intro W n cs x h _ _;obtain⟨z,rfl,_,b⟩:=DataW.trod_int a h;exact⟨z,rfl,by simpa[jK,Lit.wf,IntKind.min,IntKind.max,IntKind.signed,IntKind.bits]using b⟩
theorem aJZ(a:P.underlying t=some .bool):iM P enc N t aLB (λ _=>True):=by intro W n cs x h _ _;obtain⟨b,rfl,_⟩:=DataW.trod_bool a h;exact⟨b,rfl,trivial⟩
theorem ak6{d:DataW H}{m:Nat}(a:m∈d.weights P e):∀ {l:List (DataW H)},d∈l->m∈DataW.weightsAll P e l
 |[],h=>by cases h
 |x::r,h=>by simp only[DataW.weightsAll,cg];rcases cG.1 h with rfl |h;exact .inl a;exact .inr (ak6 a h)
theorem uU{α:Type}{T:dt α}{R:α->Prop}(w:P.underlying t=some (.slice e))(M:P.cellsOf e=T.size)(B:eN 0 T.size=true)(O:iM P enc N e T R):iM P enc N t (b2 T) (λ l=>l.length*P.bytesOf e<=N/\∀d∈l,R d):=by
 have B:0<T.size:=cJ B;intro W n cs x h C E;rcases open_slice w h with⟨rfl,rfl⟩|⟨a,c,cap,m,Q,D,y,rfl,_,S,G,U,ad,hi⟩;exact⟨[],⟨none,0,rfl,cP _,fY _,λ _=>rfl,λ h=>absurd rfl h⟩,by simp,λ d aK=>by cases aK⟩
 ·have V:m=cap:=by simpa using U
  subst V;have f:x.2=MemPlace.row a (m*P.cellsOf e)++(dR m).flatMap y:=congrArg Prod.snd ad;have g:x.1= .slice ((dR c).map D) ((dR (m-c)).map λ j=>D (c+j)):=congrArg j2 ad;have X:(c+(m-c))*P.bytesOf e<=N:=by refine E _ ?_;rw[g];simp only[DataW.weights,w,gJ,iW];exact iz
  have q:c*P.bytesOf e<=N:=fR (jG _ (Nat.le_add_right _ _)) X;by_cases Y:c=0;subst Y;exact⟨[],⟨some a,m,rfl,by simp,G,λ h=>(by cases h),λ h=>absurd rfl h⟩,by simp,λ d aK=>by cases aK⟩
  ·have I:∀i,i<c->∃cs d,(∀j u,cs[j]? =some u->W.cell? (a.add (i*T.size+j))=some u)/\cs.length=T.size/\T.rd (jb [] W) W cs d/\R d:=λ i z=>by
    have r:i<m:=by omega
    obtain⟨K,hc,Z⟩:=hi i r;obtain⟨d,aK,eC⟩:=O W Q K _ Z (λ p Yj=>C p (by
     rw[f,cg];exact .inr (g_.2 ⟨i,by simpa using r,Yj⟩))) (λ k hk=>E k (by
     rw[g];simp only[DataW.weights,w,cG,cg];exact .inr (.inl (ak6 hk (ho.2 ⟨i,by simpa using z,rfl⟩)))))
    rw[M]at hc;obtain⟨_,L,sm⟩:=World.cells?_some hc;refine⟨K,d,λ j u ax=>?_,L,aK,eC⟩;have lI:j<T.size:=by rw[<-L];exact(ba.1 ax).1
    have:=sm j lI;rw[ax,Go.Deep.add_add]at this;exact this
   have s:a.spot=none:=by obtain⟨cs,d,A,J,_⟩:=I 0 (by omega);have:=A 0 _ (aR (by omega));unfold World.cell? at this;split at this;split at this;cases this;rename_i aj;simpa[Addr.add]using aj;cases this
   obtain⟨ab,v,aPU⟩:=a;simp only at s;subst s;obtain⟨l,xs,A,J,aq,a6⟩:=ank (T:=T) (F:=jb [] W) (W:=W) (b:=ab) (o:=v) (R:=R) c (λ i z=>by obtain⟨cs,d,c1,_,c3,c4⟩:=I i z;exact⟨cs,d,λ j u ax=>by have:=c1 j u ax;rw[mU]at this;simpa[jE]using this,c3,c4⟩)
   subst A;refine⟨l,⟨_,m,rfl,S,G,λ h=>(by cases h),λ _=>⟨rfl,⟨by simp,?_⟩,xs,J,aq⟩⟩,q,a6⟩;have ek:MemPlace.cell ab v∈x.2:=by rw[f,cg];left;have:0<m*P.cellsOf e:=Nat.mul_pos (by omega) (by omega);simp only[MemPlace.row,ho,j3];exact⟨0,this,by simp⟩
   exact C _ ek
theorem ak7{m:Nat}:∀ {a:List TypeId}{l:List (DataW H)}{j:Nat}{u:TypeId}{d:DataW H},a[j]? =some u->l[j]? =some d->m∈d.weights P u->m∈DataW.weightsEach P a l
 |[],_,j,_,_,h,_,_=>by simp at h
 |_::_,[],j,_,_,_,h,_=>by simp at h
 |t::a,x::l,0,u,d,b,J,c=>by simp only[de,aM]at b J;subst b;subst J;simp only[DataW.weightsEach,cg];exact .inl c
 |t::a,x::l,j+1,u,d,b,J,c=>by simp only[DataW.weightsEach,cg];exact .inr (ak7 (j:=j) (by simpa using b) (by simpa using J) c)
theorem qR{cm:Array Go.Field}{W:World}{n:Nat}{cs:List Value}{x:DataW H×List MemPlace}(b:P.underlying t=some (.struct cm))(h:DataW.trod enc P W 0 (λ _=>true) true n t cs=some x)(c:∀p∈x.2,p.block<W.heap.size)(g:∀m∈x.1.weights P t,m<=N) :
 ∃a,cs.length=P.cellsOf t/\∀(j:Nat)(f:Go.Field),cm[j]? =some f->∃y,DataW.trod enc P W 0 (λ _=>true) true a f.type ((cs.drop f.offset).take (P.cellsOf f.type))=some y/\(∀p∈y.2,p.block<W.heap.size)/\(∀m∈y.1.weights P f.type,m<=N):=by
 obtain⟨ys,a,_,ad,i,k,l⟩:=DataW.trod_struct b h
 refine⟨a,i,λ j f ax=>?_⟩
 have r:j<cm.size:=(fH.1 ax).1
 have hy:ys[j]? =some (ys[j]'(by omega)):=aR _
 refine⟨ys[j]'(by omega),by rw[l j f ax,hy],λ p o=>c p ?_,λ m q=>g m ?_⟩
 ·rw[ad];exact g_.2 ⟨_,fa _,o⟩
 ·rw[ad];simp only[DataW.weights,b];refine ak7 (j:=j) (u:=f.type) (d:=(ys[j]'(by omega)).1) ?_ ?_ q;rw[iY,ha,ax];rfl;rw[iY,hy];rfl
theorem gg{cm:Array Go.Field}{W:World}{b:Nat}{cs:List Value}(g:∀(j:Nat)(f:Go.Field),cm[j]? =some f->∃y,DataW.trod enc P W 0 (λ _=>true) true b f.type ((cs.drop f.offset).take (P.cellsOf f.type))=some y/\(∀p∈y.2,p.block<W.heap.size)/\(∀m∈y.1.weights P f.type,m<=N))
 (j:Nat){f:Go.Field}(ax:cm[j]? =some f){t off k:Nat}(c:f.type=t)(h:f.offset=off)(i:P.cellsOf t=k){r:List Value}(l:(cs.drop off).take k=r):∃y,DataW.trod enc P W 0 (λ _=>true) true b t r=some y/\(∀p∈y.2,p.block<W.heap.size)/\(∀m∈y.1.weights P t,m<=N):=by
 obtain⟨y,a,J,d⟩:=g j f ax
 rw[c,h]at a
 rw[c]at d
 rw[i,l]at a
 exact⟨y,a,J,d⟩
theorem afm{v:Array Value}{l:List Value}(h:(Value.agg v).cells.toList=l):v=l.toArray:=by have h:v.toList=l:=h;rw[<-h]
theorem U2{α:Type}{T:dt α}{R:α->Prop}{W:World}{v:Value}{d:DataW H}{ps:List MemPlace}(a:iM P enc N t T R)(h:DataW.Trod enc P W 0 (λ _=>true) true t v d ps)(b:∀p∈ps,p.block<W.heap.size)(c:∀m∈d.weights P t,m<=N):∃d',T.rd (jb [] W) W v.cells.toList d'/\R d':=by obtain⟨n,f⟩:=h;exact a W n _ _ f b c
end
inductive pH
 |i (k:IntKind)
 |b
 |s
 |cj
def pH.ok(P:Program)(t:TypeId):pH->Prop
 | .i k=>P.underlying t=some (.int k)
 | .b=>P.underlying t=some .bool
 | .s=>P.underlying t=some .string
 | .cj=>∃e,P.underlying t=some (.slice e)
structure oH where
 qq:List (Nat×pH)
 qR:List (Nat×Nat×Nat)
 Nv:List (Nat×Option Nat)
def acL(P:Program):List (Nat×pH)->Prop
 |[]=>True
 |p::r=>p.2.ok P p.1/\acL P r
def UH(P:Program)(s j off:Nat):Prop:=∃cm f sz,P.underlying s=some (.struct cm)/\cm[j]? =some f/\f.offset=off/\sz≠0/\∀w,(Go.sizeOf f.type).run P w= .ok sz w
def Wf(P:Program):List (Nat×Nat×Nat)->Prop
 |[]=>True
 |p::r=>UH P p.1 p.2.1 p.2.2/\Wf P r
def afi(P:Program)(t:Nat):Option Nat->Prop
 |none=>∀w,(isAgg t).run P w= .ok false w
 |some n=>(∀w,(isAgg t).run P w= .ok true w)/\∀w,(Go.sizeOf t).run P w= .ok n w
def ack(P:Program):List (Nat×Option Nat)->Prop
 |[]=>True
 |p::r=>afi P p.1 p.2/\ack P r
structure vz (P:Program) (G:oH):Prop where
 qq:acL P G.qq
 qR:Wf P G.qR
 Nv:ack P G.Nv
theorem e9{P:Program}{s j off sz:Nat}{cm:Array Go.Field}{f:Go.Field}(h:P.underlying s=some (.struct cm))(a:cm[j]? =some f)(b:f.offset=off)(aj:∀w,(Go.sizeOf f.type).run P w= .ok sz w)(c:cx sz 0=false):UH P s j off:=⟨cm,f,sz,h,a,b,(λ e=>by subst e;simp at c),aj⟩
def rf{β:Type}:List (Nat×β)->Nat->Option β
 |[],_=>none
 |p::r,t=>match cx p.1 t with
  |true=>some p.2
  |false=>rf r t
def MB:List (Nat×Nat×Nat)->Nat->Nat->Option Nat
 |[],_,_=>none
 |p::r,s,j=>match cx p.1 s&&cx p.2.1 j with
  |true=>some p.2.2
  |false=>MB r s j
theorem GA{P:Program}{l:List (Nat×pH)}(h:acL P l){t:Nat}{k:pH}(a:rf l t=some k):k.ok P t:=by
 induction l with
 |nil=>simp[rf]at a
 |cons p r b=>
  simp only[rf]at a;cases ag:cx p.1 t with
  |true=>rw[ag]at a;simp only[aM]at a;rw[<-bF ag,<-a];exact h.1
  |false=>rw[ag]at a;exact b h.2 a
theorem anI{P:Program}{l:List (Nat×Option Nat)}(h:ack P l){t:Nat}{k:Option Nat}(a:rf l t=some k):afi P t k:=by
 induction l with
 |nil=>simp[rf]at a
 |cons p r b=>
  simp only[rf]at a;cases ag:cx p.1 t with
  |true=>rw[ag]at a;simp only[aM]at a;rw[<-bF ag,<-a];exact h.1
  |false=>rw[ag]at a;exact b h.2 a
theorem azB{P:Program}{l:List (Nat×Nat×Nat)}(h:Wf P l){s j off:Nat}(a:MB l s j=some off):UH P s j off:=by
 induction l with
 |nil=>simp[MB]at a
 |cons p r b=>
  simp only[MB]at a;cases ag:cx p.1 s&&cx p.2.1 j with
  |true=>rw[ag]at a;simp only[aM]at a;simp only[ca]at ag;rw[<-bF ag.1,<-bF ag.2,<-a];exact h.1
  |false=>rw[ag]at a;exact b h.2 a
def k9(w:World):List (Nat×Nat×List Value)->Prop
 |[]=>True
 |m::r=>fF w ⟨m.1,m.2.1,none⟩ m.2.2/\k9 w r
theorem fp{w:World}:k9 w []:=trivial
theorem gW{w:World}{b p:Nat}{cs:List Value}{M:List (Nat×Nat×List Value)}(h:fF w ⟨b,p,none⟩ cs)(k:k9 w M):k9 w ((b,p,cs)::M):=⟨h,k⟩
theorem ak4{w:World}{M:List (Nat×Nat×List Value)}(h:k9 w M){i b p:Nat}{cs:List Value}(hi:M[i]? =some (b,p,cs)):fF w ⟨b,p,none⟩ cs:=by
 induction M generalizing i with
 |nil=>simp at hi
 |cons m r a=>
  cases i with
  |zero=>simp only[de,aM]at hi;subst hi;exact h.1
  |succ i=>exact a h.2 (by simpa using hi)
theorem kc{w:World}{g:Nat}{t:TypeId}{cs:List Value}(h:(a8.cd g t cs).ok w):fF w ⟨g,0,none⟩ cs:=λ j u ax=>by have:=x6 h ax;simpa using this
structure hL where
 t:Nat
 j:Nat
 want:Bool
 v:Value
def Gt:List (Nat×Value)->Nat->List (Nat×Value)
 |[],_=>[]
 |p::r,d=>match cx p.1 d with
  |true=>Gt r d
  |false=>p::Gt r d
def uX:List hL->Nat->List hL
 |[],_=>[]
 |p::r,d=>match cx p.t d||cx p.j d with
  |true=>uX r d
  |false=>p::uX r d
def E6:List (Nat×Bool)->Nat->Bool->Bool
 |[],_,_=>false
 |p::r,j,b=>(cx p.1 j&&(p.2==b))||E6 r j b
def MC:List hL->List (Nat×Bool)->Nat->Option Value
 |[],_,_=>none
 |p::r,cur,t=>match cx p.t t&&E6 cur p.j p.want with
  |true=>some p.v
  |false=>MC r cur t
def oR(a:Act):List hL->Prop
 |[]=>True
 |p::r=>(a.tmps.getD p.j undef= .bool p.want->a.tmps.getD p.t undef=p.v)/\oR a r
def kX(a:Act):List (Nat×Bool)->Prop
 |[]=>True
 |p::r=>a.tmps.getD p.1 undef= .bool p.2/\kX a r
theorem aiQ{a:Act}{cur:List (Nat×Bool)}(h:kX a cur){j:Nat}{b:Bool}(bx:E6 cur j b=true):a.tmps.getD j undef= .bool b:=by
 induction cur with
 |nil=>simp[E6]at bx
 |cons p r c=>simp only[E6,hA,ca,beq_iff_eq]at bx;rcases bx with⟨d,J⟩|bx;rw[<-bF d,<-J];exact h.1;exact c h.2 bx
theorem aFI{a:Act}{gs:List hL}(h:oR a gs){cur:List (Nat×Bool)}(hc:kX a cur){t:Nat}{v:Value}(b:MC gs cur t=some v):a.tmps.getD t undef=v:=by
 induction gs with
 |nil=>simp[MC]at b
 |cons p r c=>
  simp only[MC]at b;cases ag:cx p.t t&&E6 cur p.j p.want with
  |true=>rw[ag]at b;simp only[aM]at b;simp only[ca]at ag;rw[<-bF ag.1,<-b];exact h.1 (aiQ hc ag.2)
  |false=>rw[ag]at b;exact c h.2 b
def jn(fr:List (Nat×Value))(gs:List hL)(cur:List (Nat×Bool)):Operand->Option Value
 | .const v=>some v
 | .global g=>some (.pointer (some ⟨g,0,none⟩))
 | .tmp t=>match ey fr t with
   |some v=>some v
   |none=>MC gs cur t
 | .func _=>none
theorem RQ{n:cE}{fr:List (Nat×Value)}{gs:List hL}{cur:List (Nat×Bool)}{a:Act}(c:Fr n fr a)(d:oR a gs)(hc:kX a cur){x:Operand}{v:Value}(h:jn fr gs cur x=some v):a.eval x=v:=by
 cases x with
 |const u=>simp only[jn,aM]at h;rw[<-h];rfl
 |global g=>simp only[jn,aM]at h;rw[<-h];rfl
 |func f=>simp[jn]at h
 |tmp t=>
  simp only[jn]at h;cases b:ey fr t with
  |some u=>rw[b]at h;simp only[aM]at h;rw[<-h];exact c.g b
  |none=>rw[b]at h;exact aFI d hc h
def Jb(fr:List (Nat×Value))(gs:List hL)(cur:List (Nat×Bool)):List Operand->Option (List Value)
 |[]=>some []
 |x::r=>match jn fr gs cur x,Jb fr gs cur r with
  |some v,some vs=>some (v::vs)
  |_,_=>none
theorem aag{n:cE}{fr:List (Nat×Value)}{gs:List hL}{cur:List (Nat×Bool)}{a:Act}(b:Fr n fr a)(c:oR a gs)(hc:kX a cur):∀ {xs:List Operand}{vs:List Value},Jb fr gs cur xs=some vs->xs.map a.eval=vs
 |[],vs,h=>by simp only[Jb,aM]at h;subst h;rfl
 |x::r,vs,h=>by simp only[Jb]at h;split at h;rename_i v us d J;simp only[aM]at h;subst h;rw[ea,RQ b c hc d,aag b c hc J];cases h
def Mm:Operand->Bool
 | .const (.int _ n)=>n !=0
 |_=>false
def o1:IntKind->IntKind->Bool
 | .i64,.i64 | .u8,.u8 | .i32,.i32 | .u64,.u64 | .u32,.u32 | .u16,.u16 | .i16,.i16 | .i8,.i8=>true
 |_,_=>false
theorem q_{j k:IntKind}(h:o1 j k=true):j=k:=by cases j<;>cases k<;>simp_all [o1]
def n5(k:IntKind):Bool:=o1 k .i64
theorem n9{k:IntKind}(h:n5 k=true):k= .i64:=q_ h
def afF(a:Option pH)(hl:Bool)(op:BinOp)(j k:IntKind)(m n:Int):Option Value:=
 match op with
 | .add=>match n5 j&&n5 k with|true=>some (.int .i64 (ap (m+n)))|false=>none
 | .sub=>match n5 j&&n5 k with|true=>some (.int .i64 (ap (m-n)))|false=>none
 | .mul=>match n5 j&&n5 k with|true=>some (.int .i64 (ap (m*n)))|false=>none
 | .quo=>match n5 j&&n5 k&&hl with|true=>some (.int .i64 (ap (m.tdiv n)))|false=>none
 | .rem=>match n5 j&&n5 k&&hl with|true=>some (.int .i64 (m.tmod n))|false=>none
 | .or=>match n5 j&&n5 k with|true=>some (.int .i64 (aaj m n))|false=>none
 | .and=>match n5 j&&n5 k with|true=>some (.int .i64 (U1 m n))|false=>none
 | .lss=>match o1 j k with|true=>some (.bool (decide (m<n)))|false=>none
 | .leq=>match o1 j k with|true=>some (.bool (decide (m<=n)))|false=>none
 | .gtr=>match o1 j k with|true=>some (.bool (decide (n<m)))|false=>none
 | .geq=>match o1 j k with|true=>some (.bool (decide (n<=m)))|false=>none
 | .eql=>match a with
   |some (.i i)=>match o1 i j&&o1 j k with|true=>some (.bool (decide (m=n)))|false=>none
   |_=>none
 | .neq=>match a with
   |some (.i i)=>match o1 i j&&o1 j k with|true=>some (.bool (!decide (m=n)))|false=>none
   |_=>none
 |_=>none
def afG(a:Option pH)(op:BinOp)(p q:List UInt8):Option Value:=
 match op,a with
 | .eql,some .s=>some (.bool (decide (p=q)))
 | .neq,some .s=>some (.bool (!decide (p=q)))
 |_,_=>none
def afE(a:Option pH)(op:BinOp)(p q:Bool):Option Value:=
 match op,a with
 | .eql,some .b=>some (.bool (p==q))
 | .neq,some .b=>some (.bool (!(p==q)))
 |_,_=>none
def bin(a:Option pH)(hl:Bool)(op:BinOp):Value->Value->Option Value
 | .int j m,.int k n=>afF a hl op j k m n
 | .string ⟨⟨p⟩⟩,.string ⟨⟨q⟩⟩=>afG a op p q
 | .bool p,.bool q=>afE a op p q
 |_,_=>none
section
variable{P:Program}{o:Oper}{a:Act}{w:World}{x y:Operand}{t t':TypeId}
theorem afH{g:Option pH}(d:∀k,g=some k->k.ok P t){hl:Bool}(l:hl=true->∀k n,a.eval y= .int k n->n≠0){op:BinOp}{u v r:Value}(h:bin g hl op u v=some r)(c:o.op= .binOp op t x y t')(ad:a.eval x=u)(hy:a.eval y=v):bc P o a w r w:=by
 unfold bin at h;split at h
 ·rename_i j m k n;unfold afF at h;split at h
  case h_1=>
   split at h
   ·rename_i ag;simp only[ca]at ag;obtain⟨b,J⟩:=ag;have b:=n9 b;have J:=n9 J;subst b;subst J;simp only[aM]at h;subst h;exact aeq c ad hy
   ·cases h
  case h_2=>
   split at h
   ·rename_i ag;simp only[ca]at ag;obtain⟨b,J⟩:=ag;have b:=n9 b;have J:=n9 J;subst b;subst J;simp only[aM]at h;subst h;exact arc c ad hy
   ·cases h
  case h_3=>
   split at h
   ·rename_i ag;simp only[ca]at ag;obtain⟨b,J⟩:=ag;have b:=n9 b;have J:=n9 J;subst b;subst J;simp only[aM]at h;subst h;exact aPs c ad hy
   ·cases h
  case h_4=>
   split at h
   ·rename_i ag;simp only[ca]at ag;obtain⟨⟨b,J⟩,e⟩:=ag;have b:=n9 b;have J:=n9 J;subst b;subst J;simp only[aM]at h;subst h;have f:=l e _ _ hy;exact aq' c ad hy (by rw[gG,decide_eq_false_iff_not];exact f)
   ·cases h
  case h_5=>
   split at h
   ·rename_i ag;simp only[ca]at ag;obtain⟨⟨b,J⟩,e⟩:=ag;have b:=n9 b;have J:=n9 J;subst b;subst J;simp only[aM]at h;subst h;have f:=l e _ _ hy;exact ara c ad hy (by rw[gG,decide_eq_false_iff_not];exact f)
   ·cases h
  case h_6=>
   split at h
   ·rename_i ag;simp only[ca]at ag;obtain⟨b,J⟩:=ag;have b:=n9 b;have J:=n9 J;subst b;subst J;simp only[aM]at h;subst h;exact aPx c ad hy
   ·cases h
  case h_7=>
   split at h
   ·rename_i ag;simp only[ca]at ag;obtain⟨b,J⟩:=ag;have b:=n9 b;have J:=n9 J;subst b;subst J;simp only[aM]at h;subst h;exact aO' c ad hy
   ·cases h
  case h_8=>
   split at h
   ·rename_i ag;have ag:=q_ ag;subst ag;simp only[aM]at h;subst h;exact aPp c ad hy
   ·cases h
  case h_9=>
   split at h
   ·rename_i ag;have ag:=q_ ag;subst ag;simp only[aM]at h;subst h;exact aPo c ad hy
   ·cases h
  case h_10=>
   split at h
   ·rename_i ag;have ag:=q_ ag;subst ag;simp only[aM]at h;subst h;exact aq5 c ad hy
   ·cases h
  case h_11=>
   split at h
   ·rename_i ag;have ag:=q_ ag;subst ag;simp only[aM]at h;subst h;exact aPk c ad hy
   ·cases h
  case h_12=>
   split at h
   ·rename_i i;have hi:=d _ rfl;split at h;rename_i ag;simp only[ca]at ag;have b:=q_ ag.1;have J:=q_ ag.2;subst b;subst J;simp only[aM]at h;subst h;exact aPi hi c ad hy;cases h
   ·cases h
  case h_13=>
   split at h
   ·rename_i i;have hi:=d _ rfl;split at h;rename_i ag;simp only[ca]at ag;have b:=q_ ag.1;have J:=q_ ag.2;subst b;subst J;simp only[aM]at h;subst h;exact aPu hi c ad hy;cases h
   ·cases h
  case h_14=>cases h
 ·rename_i p q;unfold afG at h;split at h;simp only[aM]at h;subst h;exact aPj (d _ rfl) c ad hy;simp only[aM]at h;subst h;exact aPv (d _ rfl) c ad hy;cases h
 ·rename_i p q;unfold afE at h;split at h;simp only[aM]at h;subst h;exact aPh (d _ rfl) c ad hy;simp only[aM]at h;subst h;exact aPt (d _ rfl) c ad hy;cases h
 ·cases h
end
def nth{α:Type}:List α->Nat->Option α
 |[],_=>none
 |x::_,0=>some x
 |_::r,i+1=>nth r i
theorem dn{α:Type}:∀(l:List α)(i:Nat),nth l i=l[i]?
 |[],i=>by simp[nth]
 |x::r,0=>rfl
 |x::r,i+1=>by simp[nth,dn r i]
def YX:Operand->Bool
 | .const (.bool b)=>b
 |_=>false
def YT:Operand->Bool
 | .const (.bool b)=>!b
 |_=>false
def RX(x y:Operand)(b:Bool):Value->Value->Option Value
 | .bool p,.bool q=>match YX x with
   |true=>some (.bool (b||q))
   |false=>match YT y with
    |true=>some (.bool (b&&p))
    |false=>some (.bool (cond b p q))
 | .int j m,.int k n=>match o1 j k with
   |true=>some (.int j (cond b m n))
   |false=>none
 | .string ⟨⟨p⟩⟩,.string ⟨⟨q⟩⟩=>some (cu (cond b p q))
 |_,_=>none
theorem aDy{a:Act}{x:Operand}(h:YX x=true):a.eval x= .bool true:=by unfold YX at h;split at h;subst h;rfl;cases h
theorem aDt{a:Act}{x:Operand}(h:YT x=true):a.eval x= .bool false:=by
 unfold YT at h;split at h
 ·rename_i b;have:b=false:=by simpa using h
  subst this;rfl
 ·cases h
theorem al8{a:Act}{x y:Operand}{b:Bool}{u v r:Value}(h:RX x y b u v=some r)(ad:b=true->a.eval x=u)(hy:b=false->a.eval y=v):(if b then a.eval x else a.eval y)=r:=by
 unfold RX at h;split at h
 ·rename_i p q;split at h
  ·rename_i c;simp only[aM]at h;subst h;cases b with
   |true=>rw[lz rfl,aDy c];rfl
   |false=>rw[ly (by simp),hy rfl];rfl
  ·split at h
   ·rename_i d;simp only[aM]at h;subst h;cases b with
    |true=>rw[lz rfl,ad rfl];rfl
    |false=>rw[ly (by simp),aDt d];rfl
   ·simp only[aM]at h;subst h;cases b with
    |true=>rw[lz rfl,ad rfl];rfl
    |false=>rw[ly (by simp),hy rfl];rfl
 ·split at h
  ·rename_i e;have:=q_ e;subst this;simp only[aM]at h;subst h;cases b with
   |true=>rw[lz rfl,ad rfl];rfl
   |false=>rw[ly (by simp),hy rfl];rfl
  ·cases h
 ·simp only[aM]at h;subst h;cases b with
  |true=>rw[lz rfl,ad rfl];rfl
  |false=>rw[ly (by simp),hy rfl];rfl
 ·cases h
abbrev Out:=Value×List Nat×List (Nat×Nat)
def nr(aj:List Nat)(v:Value):Option Out:=some (v,aj,[])
def H5(G:oH)(M:List (Nat×Nat×List Value))(t m a:Nat)(aj:List Nat)(c dc:Nat):Option Out:=
 match nth M m,rf G.Nv t with
 |some (b,off,cs),some none=>match nth cs a with
  |some v=>some (v,aj,[(c,b),(dc,off+a)])
  |none=>none
 |some (b,off,cs),some (some n)=>match iI (a+n) cs.length with
  |true=>some (.agg ((cs.drop a).take n).toArray,aj,[(c,b),(dc,off+a)])
  |false=>none
 |_,_=>none
def ahD(G:oH)(s d:Nat)(aj:List Nat):Value->Option Out
 | .int k m=>match n5 k,rf G.qq s,rf G.qq d with
   |true,some (.i .i64),some (.i .i64)=>nr aj (.int .i64 (ap m))
   |true,some (.i .i64),some (.i .u8)=>nr aj (.int .u8 ((jh m).toNat:Int))
   |_,_,_=>none
 |_=>none
def ahG(G:oH)(t:Nat)(aj:List Nat):Value->Option Out
 | .string ⟨⟨p⟩⟩=>match rf G.qq t with
   |some .s=>nr aj (.int .i64 (p.length:Int))
   |_=>none
 | .slice _ n _=>match rf G.qq t with
   |some .cj=>nr aj (.int .i64 (n:Int))
   |_=>none
 |_=>none
def ahJ(fr:List (Nat×Value))(gs:List hL)(cur:List (Nat×Bool))(c x y:Operand):List Nat->Option Out
 |0::aj=>match c with
  | .tmp a=>match jn fr gs cur (.tmp a),jn fr gs ((a,true)::cur) x,jn fr gs ((a,false)::cur) y with
    |some (.bool b),some u,some v=>match RX x y b u v with
     |some r=>nr aj r
     |none=>none
    |_,_,_=>none
  |_=>none
 |_::aj=>match jn fr gs cur c with
  |some (.bool b)=>match b with
   |true=>match jn fr gs cur x with|some v=>nr aj v |none=>none
   |false=>match jn fr gs cur y with|some v=>nr aj v |none=>none
  |_=>none
 |[]=>none
def tS(G:oH)(M:List (Nat×Nat×List Value))(aj:List Nat)(fr:List (Nat×Value))(gs:List hL)(cur:List (Nat×Bool)):Op->Option Out
 | .move x=>match jn fr gs cur x with|some v=>nr aj v |none=>none
 | .assign x=>match jn fr gs cur x with|some v=>nr aj v |none=>none
 | .pick c x y=>ahJ fr gs cur c x y aj
 | .binOp op t x y _=>match jn fr gs cur x,jn fr gs cur y with
   |some u,some v=>match bin (rf G.qq t) (Mm y) op u v with
    |some r=>nr aj r
    |none=>none
   |_,_=>none
 | .unOp .not _ x=>match jn fr gs cur x with
   |some (.bool p)=>nr aj (.bool (!p))
   |_=>none
 | .convert s d x=>match jn fr gs cur x with
   |some v=>ahD G s d aj v
   |none=>none
 | .load t x=>match jn fr gs cur x,aj with
   |some (.pointer (some ⟨e,dc,none⟩)),m::a::f=>H5 G M t m a f e dc
   |_,_=>none
 | .fieldAddr s x j=>match jn fr gs cur x,MB G.qR s j with
   |some (.pointer (some ⟨b,p,none⟩)),some off=>nr aj (.pointer (some ⟨b,p+off,none⟩))
   |_,_=>none
 | .nilCheck x=>match jn fr gs cur x with
   |some (.pointer (some p))=>nr aj (.pointer (some p))
   |_=>none
 | .extract x i=>match jn fr gs cur x with
   |some (.tuple ⟨vs⟩)=>match nth vs i with
    |some v=>nr aj v
    |none=>none
   |_=>none
 | .makeFunc fn ⟨xs⟩ ⟨ys⟩=>match Jb fr gs cur xs,Jb fr gs cur ys with
   |some us,some vs=>nr aj (.func fn us.toArray vs.toArray)
   |_,_=>none
 | .call ⟨.builtin .len,⟨[x]⟩,⟨[t]⟩⟩=>match jn fr gs cur x with
   |some v=>ahG G t aj v
   |none=>none
 |_=>none
theorem o0{aj a:List Nat}{u v:Value}{l:List (Nat×Nat)}(h:nr aj u=some (v,a,l)):u=v:=by simp only[nr,aM,cI]at h;exact h.1
def pS:List (Nat×Nat)->Prop
 |[]=>True
 |p::r=>p.1=p.2/\pS r
section
variable{P:Program}{G:oH}{M:List (Nat×Nat×List Value)}{w:World}{a:Act}{o:Oper}
theorem ahC{n:cE}{fr:List (Nat×Value)}{gs:List hL}{cur:List (Nat×Bool)}{aj T:List Nat}{v:Value}{l:List (Nat×Nat)}(z:vz P G)(L:k9 w M)(C:Fr n fr a)(D:oR a gs)(hc:kX a cur)
 {op:Op}(q:o.op=op)(h:tS G M aj fr gs cur op=some (v,T,l))(N:pS l):bc P o a w v w:=by
 have opn:∀ {x:Operand}{u:Value},jn fr gs cur x=some u->a.eval x=u:=λ ad=>RQ C D hc ad
 unfold tS at h
 split at h
 ·split at h;rename_i ad;rw[<-o0 h];exact xF q (opn ad);cases h
 ·split at h;rename_i ad;rw[<-o0 h];exact Al q (opn ad);cases h
 ·rename_i c x y;unfold ahJ at h;split at h
  ·split at h
   ·rename_i I;split at h
    ·rename_i b u O g J A;split at h
     ·rename_i r K;rw[<-o0 h];have F:a.eval (.tmp I)= .bool b:=opn g;have ad:b=true->a.eval x=u:=λ ag=>RQ C D (show kX a ((I,true)::cur) from⟨by subst ag;exact F,hc⟩) J;have hy:b=false->a.eval y=O:=λ ag=>RQ C D (show kX a ((I,false)::cur) from⟨by subst ag;exact F,hc⟩) A;have Q:=al8 (a:=a) K ad hy;cases b with
      |true=>exact Ua q F (by simpa using Q)
      |false=>exact T' q F (by simpa using Q)
     ·cases h
    ·cases h
   ·cases h
  ·split at h;rename_i b g;split at h;split at h;rename_i u J;rw[<-o0 h];exact Ua q (opn g) (opn J);cases h;split at h;rename_i u J;rw[<-o0 h];exact T' q (opn g) (opn J);cases h;cases h
  ·cases h
 ·rename_i op t x y t';split at h;rename_i u O g J;split at h;rename_i r K;rw[<-o0 h];refine afH (λ k U=>GA z.qq U) (λ H k n R=>?_) K q (opn g) (opn J);unfold Mm at H;split at H;rename_i k' S;have:a.eval (.const (.int k' S))= .int k' S:=rfl;rw[this]at R;injection R with _ e;subst e;simpa using H;cases H;cases h;cases h
 ·rename_i x;split at h;rename_i p g;rw[<-o0 h];exact aq_ q (opn g);cases h
 ·rename_i s d x;split at h;rename_i u g;unfold ahD at h;split at h;rename_i k m;split at h;rename_i J A B;have:=n9 J;subst this;rw[<-o0 h];exact aPc (GA z.qq A) (GA z.qq B) q (opn g);rename_i J A B;have:=n9 J;subst this;rw[<-o0 h];exact aPd (GA z.qq A) (GA z.qq B) q (opn g);cases h;cases h;cases h
 ·rename_i t x;split at h;rename_i MU dc m E k5 g;have ad:=opn g;unfold H5 at h;split at h;rename_i b off cs J A;split at h;rename_i u B;simp only[aM,cI]at h;obtain⟨rfl,_,rfl⟩:=h;obtain⟨e1,e2,_⟩:=N;simp only at e1 e2;subst e1;subst e2;rw[dn]at J B;exact Am (anI z.Nv A) q ad (ak4 L J E u B);cases h;rename_i b off cs k J A;split at h;rename_i ag;simp only[aM,cI]at h;obtain⟨rfl,_,rfl⟩:=h;obtain⟨e1,e2,_⟩:=N;simp only at e1 e2;subst e1;subst e2;rw[dn]at J;have aj:=anI z.Nv A;have V:=cJ ag;refine aq8 aj.1 aj.2 (by simp;omega) q ad (λ j u ax=>?_);have W:=ak4 L J;rw[gK]at ax;split at ax;rw[ia]at ax;have:=W (E+j) u ax;simpa[jE]using this;cases ax;cases h;cases h;cases h
 ·rename_i s x j;split at h;rename_i b p off g J;rw[<-o0 h];obtain⟨cm,f,sz,X,Y,Z,g4,g5⟩:=azB z.qR J;rw[<-Z];exact T9 X Y g5 (by cases aH:cx sz 0 with|false=>rfl |true=>exact absurd (bF aH) g4) q (opn g);cases h
 ·rename_i x;split at h;rename_i p g;rw[<-o0 h];exact Ov q (opn g);cases h
 ·rename_i x i;split at h;rename_i vs g;split at h;rename_i u J;rw[<-o0 h];rw[dn]at J;exact Ou (vs:=vs) q (opn g) J;cases h;cases h
 ·rename_i fn xs ys;split at h;rename_i us vs g J;rw[<-o0 h];have e1:=aag C D hc g;have e2:=aag C D hc J;simp only[bc,execOp,q,Instr.makeFunc];rw[show(Array.map a.eval ⟨xs⟩)=us.toArray by rw[<-e1];simp,show(Array.map a.eval ⟨ys⟩)=vs.toArray by rw[<-e2];simp];rfl;cases h
 ·rename_i x t;split at h;rename_i u g;unfold ahG at h;split at h;split at h;rename_i J;rw[<-o0 h];exact aq7 (GA z.qq J) q (opn g);cases h;split at h;rename_i J;rw[<-o0 h];obtain⟨e,he⟩:=GA z.qq J;exact aq6 he q (opn g);cases h;cases h;cases h
 ·cases h
end
def Lg(ops:Array Oper)(j:Nat):Option Nat:=match nth ops.toList j with
 |some o=>o.dst
 |none=>none
theorem ait{ops:Array Oper}{j bC:Nat}(h:Lg ops j=some bC):(ops[j]?).bind (·.dst)=some bC:=by unfold Lg at h;rw[dn,ha]at h;split at h;rename_i o a;rw[a];exact h;cases h
abbrev avL:=List (Nat×Value)×List hL×List (Nat×Nat)
def bU(G:oH)(ops:Array Oper)(n:Nat)(M:List (Nat×Nat×List Value)):List Oper->List Nat->List (Nat×Value)->List hL->List (Nat×Nat)->Option avL
 |[],_,fr,gs,l=>some (fr,gs,l)
 |o::rest,aj,fr,gs,l=>match o.dst with
  |none=>none
  |some d=>match eN d n with
   |false=>none
   |true=>match o.guard with
    |none=>match tS G M aj fr gs [] o.op with
     |some (v,a,l')=>bU G ops n M rest a ((d,v)::fr) (uX gs d) (l'++l)
     |none=>none
    |some (j,want)=>match Lg ops j with
     |none=>none
     |some bC=>match eN bC n with
      |false=>none
      |true=>match aj with
       |0::a=>match cx bC d with
        |true=>none
        |false=>match tS G M a fr gs [(bC,want)] o.op with
         |some (v,c,l')=>bU G ops n M rest c (Gt fr d) (⟨d,bC,want,v⟩::uX gs d) (l'++l)
         |none=>none
       |_::a=>match ey fr bC with
        |some (.bool b)=>match b==want with
         |true=>match tS G M a fr gs [] o.op with
          |some (v,c,l')=>bU G ops n M rest c ((d,v)::fr) (uX gs d) (l'++l)
          |none=>none
         |false=>bU G ops n M rest a ((d,undef)::fr) (uX gs d) l
        |some (.tuple ⟨[]⟩)=>bU G ops n M rest a ((d,undef)::fr) (uX gs d) l
        |_=>none
       |[]=>none
def HX(fr:List (Nat×Value)):List Nat->Option (List (Nat×Value))
 |[]=>some []
 |t::r=>match ey fr t,HX fr r with
  |some v,some vs=>some ((t,v)::vs)
  |_,_=>none
def dup(l:List Nat):List (Nat×Nat):=l.map λ x=>(x,x)
def oQ(G:oH)(ops:Array Oper)(n:Nat)(M:List (Nat×Nat×List Value))(os:List Oper)(aj:List Nat)(fr:List (Nat×Value))(fo:List Nat):Option (List (Nat×Value)×List (Nat×Nat)):=
 match bU G ops n M os aj fr [] []with
 |some (fr',_,l)=>match HX fr' fo with
  |some k=>some (k,l)
  |none=>none
 |none=>none
theorem Py:∀l:List Nat,pS (dup l)
 |[]=>trivial
 |x::r=>⟨rfl,Py r⟩
theorem Bi:∀ {l l':List (Nat×Nat)},pS (l++l')->pS l/\pS l'
 |[],_,h=>⟨trivial,h⟩
 |_::_,_,h=>⟨⟨h.1,(Bi h.2).1⟩,(Bi h.2).2⟩
theorem Vm{fr:List (Nat×Value)}:∀ {fo:List Nat}{k:List (Nat×Value)},HX fr fo=some k->NK fr k
 |[],k,h=>by simp only[HX,aM]at h;subst h;trivial
 |t::r,k,h=>by simp only[HX]at h;split at h;rename_i v vs a J;simp only[aM]at h;subst h;exact⟨a,Vm J⟩;cases h
theorem aHO{a:Act}{n:cE}{d:Nat}{v:Value}(aj:a.tmps.size=n)(aK:eN d n=true):(a.put (some d) v).tmps.getD d undef=v:=by have b:d<n:=cJ aK;simp[Act.put,aj,b]
theorem R7{a:Act}{d t:Nat}{v:Value}(h:t≠d):(a.put (some d) v).tmps.getD t undef=a.tmps.getD t undef:=by simp only[Act.put,eh];rw[ff,ly (λ e=>h e.symm)]
theorem Bu{a:Act}{d:Nat}{v:Value}:∀ {gs:List hL},oR a gs->oR (a.put (some d) v) (uX gs d)
 |[],_=>trivial
 |p::r,h=>by
  simp only[uX];cases ag:cx p.t d||cx p.j d with
  |true=>exact Bu h.2
  |false=>
   simp only[hY]at ag;have b:p.t≠d:=λ e=>by rw[e]at ag;simp at ag
   have J:p.j≠d:=λ e=>by rw[e]at ag;simp at ag
   refine⟨?_,Bu h.2⟩;rw[R7 b,R7 J];exact h.1
theorem ZB{d t:Nat}{v:Value}:∀ {fr:List (Nat×Value)},ey (Gt fr d) t=some v->t≠d/\ey fr t=some v
 |[],h=>by simp[Gt,ey]at h
 |p::r,h=>by
  simp only[Gt]at h;cases ag:cx p.1 d with
  |true=>
   rw[ag]at h;obtain⟨a,J⟩:=ZB h;refine⟨a,?_⟩;have e:=bF ag;simp only[ey];cases hc:cx p.1 t with
   |true=>exact absurd ((bF hc).symm.trans e) a
   |false=>exact J
  |false=>
   rw[ag]at h;simp only[ey]at h⊢;cases hc:cx p.1 t with
   |true=>rw[hc]at h;refine⟨λ e=>?_,h⟩;rw[bF hc,e]at ag;simp at ag
   |false=>rw[hc]at h;exact ZB h
theorem Fr.Sv{n:cE}{d:Nat}{fr:List (Nat×Value)}{a:Act}{v:Value}(b:Fr n fr a):Fr n (Gt fr d) (a.put (some d) v):=⟨by simpa[Act.put]using b.size,b.defers,λ t u h=>by obtain⟨c,J⟩:=ZB h;rw[R7 c];exact b.get t u J⟩
def IH:Op->Bool
 | .load _ _=>true
 |_=>false
theorem ay2{G:oH}{M:List (Nat×Nat×List Value)}{aj:List Nat}{fr:List (Nat×Value)}{gs:List hL}{cur:List (Nat×Bool)}{op:Op}(h:IH op=false):tS G M aj fr gs cur op=tS G [] aj fr gs cur op:=by
 cases op with
 |load t x=>simp[IH]at h
 |unOp u t x=>cases u<;>rfl
 |call c=>unfold tS;split<;>first |rfl |(rename_i e;cases e;done)|(rename_i e;cases e;rfl)
 |_=>rfl
theorem VK{P:Program}{G:oH}{M:List (Nat×Nat×List Value)}{C:World->Prop}{a:Act}{o:Oper}{n:cE}{fr:List (Nat×Value)}{gs:List hL}{cur:List (Nat×Bool)}{aj f:List Nat}{v:Value}{l:List (Nat×Nat)}(b:vz P G)(g:∀w,C w->k9 w M)(c:Fr n fr a)(d:oR a gs)(hc:kX a cur)
 (h:tS G M aj fr gs cur o.op=some (v,f,l))(e:pS l):(∀w,C w->bc P o a w v w)/\(IH o.op=false->∀w,bc P o a w v w):=
 ⟨λ w i=>ahC b (g w i) c d hc rfl h e,λ j w=>ahC b (M:=[]) trivial c d hc rfl (by rw[<-ay2 j];exact h) e⟩
theorem aoB{ops:Array Oper}{o:Oper}{a:Act}{n:cE}{l:List (Nat×Value)}{j bC:Nat}{want:Bool}(c:Fr n l a)(d:o.guard=some (j,want))(ax:(ops[j]?).bind (·.dst)=some bC)(e:eN bC n=true) :
 Region.wanted o (yielded ops a.tmps)=true↔a.tmps.getD bC undef= .bool want:=by
 have f:bC<n:=cJ e
 have aj:=c.size
 have J:a.tmps[bC]? =some (a.tmps.getD bC undef):=by rw[iU (by omega)];simp[eh,aj,f]
 simp only[Region.wanted,d,yielded,ax,ae,J,beq_iff_eq]
 constructor
 ·intro h;split at h;rename_i b ag;simp only[aM]at h ag;rw[ag,h];cases h
 ·intro h;rw[h]
def avW(P:Program)(ops:Array Oper)(C:World->Prop)(o:Oper)(d:Nat)(a:Act)(u:Value):Prop:=o.dst=some d/\((Region.wanted o (yielded ops a.tmps)=true/\(∀w,C w->bc P o a w u w)/\(IH o.op=false->∀w,bc P o a w u w))\/(Region.wanted o (yielded ops a.tmps)=false/\u=undef))
section
variable{P:Program}{G:oH}{ops:Array Oper}{n:cE}{M:List (Nat×Nat×List Value)}{C:World->Prop}
theorem V6(A:vz P G)(B:∀w,C w->k9 w M){o:Oper}{rest:List Oper}{aj:List Nat}{fr:List (Nat×Value)}{gs:List hL}{l x:List (Nat×Nat)}{hf:List (Nat×Value)}{D:List hL}{a:Act}
 (c:Fr n fr a)(f:oR a gs)(h:bU G ops n M (o::rest) aj fr gs l=some (hf,D,x))(L:pS x)
 (E:∀ {os:List Oper}{aj:List Nat}{fr:List (Nat×Value)}{gs:List hL}{l:List (Nat×Nat)},bU G ops n M os aj fr gs l=some (hf,D,x)->pS l) :
 ∃d u g fr' F l',avW P ops C o d a u/\Fr n fr' (a.put (some d) u)/\oR (a.put (some d) u) F/\bU G ops n M rest g fr' F l'=some (hf,D,x):=by
 rw[bU]at h
 split at h
 ·cases h
 ·rename_i d aK;split at h;cases h
  ·rename_i k;split at h;rename_i i;split at h;rename_i v g l' m;have p:=(Bi (E h)).1;exact⟨d,v,g,_,_,_,⟨aK,.inl ⟨Ta i,VK (cur:=[]) A B c f trivial m p⟩⟩,c.put k,Bu f,h⟩;cases h
   ·rename_i j want i;split at h;cases h
    ·rename_i bC I;have r:=ait I;split at h;cases h
     ·rename_i s;split at h
      ·rename_i g;split at h;cases h
       ·rename_i H;split at h
        ·rename_i v y l' m;have p:=(Bi (E h)).1;have J:bC≠d:=λ e=>by rw[e]at H;simp at H
         by_cases z:a.tmps.getD bC undef= .bool want;refine⟨d,v,y,_,_,_,⟨aK,.inl ⟨(aoB c i r s).2 z,VK (cur:=[(bC,want)]) A B c f ⟨z,trivial⟩ m p⟩⟩,c.Sv,(show oR (a.put (some d) v) (⟨d,bC,want,v⟩::uX gs d) from⟨λ _=>aHO c.size k,Bu f⟩),h⟩;refine⟨d,undef,y,_,_,_,⟨aK,.inr ⟨by rw[fX];exact λ K=>z ((aoB c i r s).1 K),rfl⟩⟩,c.Sv,(show oR (a.put (some d) undef) (⟨d,bC,want,v⟩::uX gs d) from⟨λ ad=>?_,Bu f⟩),h⟩;simp only at ad;rw[R7 J]at ad;exact absurd ad z
        ·cases h
      ·rename_i q g N;split at h
       ·rename_i b ag;split at h
        ·rename_i t;have t:b=want:=by simpa using t
         subst t;split at h;rename_i v y l' m;have p:=(Bi (E h)).1;exact⟨d,v,y,_,_,_,⟨aK,.inl ⟨aL9 c i r ag s,VK (cur:=[]) A B c f trivial m p⟩⟩,c.put k,Bu f,h⟩;cases h
        ·rename_i t;exact⟨d,undef,g,_,_,_,⟨aK,.inr ⟨aL8 c i r ag t s,rfl⟩⟩,c.put k,Bu f,h⟩
       ·rename_i ag;exact⟨d,undef,g,_,_,_,⟨aK,.inr ⟨aL_ c i r ag s,rfl⟩⟩,c.put k,Bu f,h⟩
       ·cases h
      ·cases h
theorem Bj{hf:List (Nat×Value)}{c:List hL}{b:List (Nat×Nat)}(a:pS b):∀ {os:List Oper}{aj:List Nat}{fr:List (Nat×Value)}{gs:List hL}{l:List (Nat×Nat)},bU G ops n M os aj fr gs l=some (hf,c,b)->pS l
 |[],aj,fr,gs,l,h=>by simp only[bU,aM,cI]at h;rw[h.2.2];exact a
 |o::rest,aj,fr,gs,l,h=>by rw[bU]at h;split at h;cases h;split at h;cases h;split at h;split at h;exact(Bi (Bj a h)).2;cases h;split at h;cases h;split at h;cases h;split at h;split at h;cases h;split at h;exact(Bi (Bj a h)).2;cases h;split at h;split at h;split at h;exact(Bi (Bj a h)).2;cases h;exact Bj a h;exact Bj a h;cases h;cases h
theorem anM{w:World}{Q:Exit->Act->World->Prop}(i:vz P G)(j:k9 w M){hf:List (Nat×Value)}{r:List hL}{m:List (Nat×Nat)}(f:pS m):∀(k:Nat){rest:List Oper}{aj:List Nat}{fr:List (Nat×Value)}{gs:List hL}{l:List (Nat×Nat)}{a:Act},
 Fr n fr a->oR a gs->bU G ops n M (rest.take k) aj fr gs l=some (hf,r,m)->(∀p,Fr n hf p->wpList P ops Q (rest.drop k) p w)->wpList P ops Q rest a w
 |0,rest,aj,fr,gs,l,a,b,_,h,c=>by simp only[kJ,bU,aM,cI]at h;have:=c a (by rw[<-h.1];exact b);simpa using this
 |k+1,[],aj,fr,gs,l,a,b,_,h,c=>by simp only[List.take_nil,bU,aM,cI]at h;have:=c a (by rw[<-h.1];exact b);simpa using this
 |k+1,o::rest,aj,fr,gs,l,a,b,s,h,c=>by
  rw[jH]at h;obtain⟨d,u,y,fr',z,l',⟨aK,t⟩,v,x,h'⟩:=V6 (C:=λ w'=>w'=w) i (λ w' e=>by subst e;exact j) b s h f (Bj f);have next:=anM i j f k v x h' (by simpa using c)
  refine wpList_step λ K q=>?_;rcases t with⟨g,hy,_⟩|⟨g,rfl⟩
  ·rw[lz g];unfold Oper.wp;rw[show(execOp a.eval o).run P w=_ from hy w rfl];show K (a.put o.dst u) w
   rw[aK];exact q _ _ next
  ·rw[ly (by simp[g]),aK];exact q _ _ next
theorem amz{g:Act->Prop}(i:vz P G)(j:∀w,C w->k9 w M){hf:List (Nat×Value)}{q:List hL}{m:List (Nat×Nat)}(e:pS m):∀(k:Nat){rest:List Oper}{aj:List Nat}{fr:List (Nat×Value)}{gs:List hL}{l:List (Nat×Nat)}{a:Act},
 Fr n fr a->oR a gs->bU G ops n M (rest.take k) aj fr gs l=some (hf,q,m)->(∀p,Fr n hf p->wpQuiet P ops C g (rest.drop k) p)->wpQuiet P ops C g rest a
 |0,rest,aj,fr,gs,l,a,b,_,h,c=>by simp only[kJ,bU,aM,cI]at h;have:=c a (by rw[<-h.1];exact b);simpa using this
 |k+1,[],aj,fr,gs,l,a,b,_,h,c=>by simp only[List.take_nil,bU,aM,cI]at h;have:=c a (by rw[<-h.1];exact b);simpa using this
 |k+1,o::rest,aj,fr,gs,l,a,b,r,h,c=>by
  rw[jH]at h;obtain⟨d,u,x,fr',y,l',⟨aK,s⟩,t,v,h'⟩:=V6 (C:=C) i j b r h e (Bj e);have next:=amz i j e k t v h' (by simpa using c)
  unfold wpQuiet;rcases s with⟨f,hy,_⟩|⟨f,rfl⟩;rw[lz f];refine⟨u,λ w hc=>?_,?_⟩;unfold Oper.quietAt;rw[show(execOp a.eval o).run P w=_ from hy w hc];exact⟨rfl,rfl⟩;rw[aK];exact next
  ·rw[ly (by simp[f]),aK];exact next
theorem V7{os:List Oper}{aj:List Nat}{fr:List (Nat×Value)}{fo:List Nat}{k:List (Nat×Value)}{L:List (Nat×Nat)}(h:oQ G ops n M os aj fr fo=some (k,L)):∃hf a,bU G ops n M os aj fr [] []=some (hf,a,L)/\NK hf k:=by unfold oQ at h;split at h;rename_i fr' b l c;split at h;rename_i k' J;simp only[aM,cI]at h;obtain⟨rfl,rfl⟩:=h;exact⟨fr',b,c,Vm J⟩;cases h;cases h
theorem hS(k:Nat)(fo aj:List Nat){w:World}{Q:Exit->Act->World->Prop}{rest:List Oper}{fr fr':List (Nat×Value)}{L:List Nat}{a:Act}(c:vz P G)(d:k9 w M)(e:Fr n fr a)(f:oQ G ops n M (rest.take k) aj fr fo=some (fr',dup L))
 (next:∀b,Fr n fr' b->wpList P ops Q (rest.drop k) b w):wpList P ops Q rest a w:=by
 obtain⟨hf,i,g,J⟩:=V7 f
 exact anM (gs:=[]) c d (Py L) k e trivial g λ b h=>next b (h.sub J)
theorem aH'(k:Nat)(fo aj:List Nat){c:Act->Prop}{rest:List Oper}{fr fr':List (Nat×Value)}{L:List Nat}{a:Act}(d:vz P G)(e:∀w,C w->k9 w M)(f:Fr n fr a)(g:oQ G ops n M (rest.take k) aj fr fo=some (fr',dup L))
 (next:∀b,Fr n fr' b->wpQuiet P ops C c (rest.drop k) b):wpQuiet P ops C c rest a:=by
 obtain⟨hf,j,h,J⟩:=V7 g
 exact amz (gs:=[]) d e (Py L) k f trivial h λ b i=>next b (i.sub J)
end
def fJ:List Nat->Nat->Bool
 |[],_=>false
 |i::r,j=>cx i j||fJ r j
section
variable{P:Program}{ops:Array Oper}{Q:Exit->Act->World->Prop}{md:Region.Mode}{S:World->Prop}{p:Nat}
def zY(P:Program)(md:Region.Mode)(ops:Array Oper)(Q:Exit->Act->World->Prop)(p:Nat)(S:World->Prop):Nat->Array Bool->Act->World->Prop
 |0,listed,a,w=>Region.ready md ops listed=[]/\Q .normal a w
 |cM+1,listed,a,w=>
  (Region.ready md ops listed=[]->Q .normal a w)/\
  ∀i∈Region.ready md ops listed,wpOp P ops Q i (λ b w'=>((listed.setIfInBounds i true).getD p false=false->S w')/\zY P md ops Q p S cM (listed.setIfInBounds i true) b w') a w
theorem aoN:∀(cM:Nat)(listed:Array Bool)(a:Act)(w:World),zY P md ops Q p S cM listed a w->wpAny P md ops Q cM listed a w
 |0,_,_,_,h=>h
 |cM+1,_,_,_,h=>⟨h.1,λ i hi=>wpOp_mono (λ b w' h'=>aoN cM _ b w' h'.2) (h.2 i hi)⟩
theorem anG{a:Array Bool}{i p:Nat}(h:a.getD p false=true):(a.setIfInBounds i true).getD p false=true:=by simp only[eh,ff]at h⊢;split;rename_i e;subst e;split;rfl;rename_i b;rw[hG (by omega)]at h;cases h;exact h
theorem aoL{c:Nat}{d:World->Prop}:∀(cM:Nat)(listed:Array Bool)(a:Act)(w:World),listed.getD p false=true->zY P md ops Q c d cM listed a w->zY P md ops Q p S cM listed a w
 |0,_,_,_,_,h=>h
 |cM+1,_,_,_,b,h=>⟨h.1,λ i hi=>wpOp_mono (λ e w' h'=>⟨λ f=>absurd ((anG b).symm.trans f) (by simp),aoL cM _ e w' (anG b) h'.2⟩) (h.2 i hi)⟩
def pO:List Oper->Nat->Nat->List Nat->List Nat
 |[],_,_,acc=>acc
 |o::r,k,i,acc=>pO r (k+1) i (match o.after.toList.any λ e=>Region.binds .any e&&(cx e.on i||fJ acc e.on)with|true=>k::acc |false=>acc)
theorem uu{l:List Nat}{j:Nat}(h:fJ l j=true):j∈l:=by
 induction l with
 |nil=>simp[fJ]at h
 |cons i r a=>simp only[fJ,hA]at h;rcases h with h |h;rw[bF h];simp;exact eD _ (a h)
def Hn(ops:Array Oper)(i:Nat)(U:List Nat):Prop:=∀u∈U,∃o,ops[u]? =some o/\∃e∈o.after,Region.binds .any e=true/\(e.on=i\/e.on∈U)
theorem Vp{ops:Array Oper}{i:Nat}:∀ {l:List Oper}{k:Nat}{acc:List Nat},(∀m o,l[m]? =some o->ops[k+m]? =some o)->Hn ops i acc->Hn ops i (pO l k i acc)
 |[],_,_,_,h=>h
 |o::r,k,acc,d,h=>by rw[pO];refine Vp (λ m a f=>by have:=d (m+1) a (by simpa using f);rwa [show k+(m+1)=k+1+m by omega]at this) ?_;split;rename_i ag;intro u hu;rcases cG.1 hu with rfl |hu;simp only[h6,ca,hA]at ag;obtain⟨e,b,c,J⟩:=ag;refine⟨o,by simpa using d 0 o rfl,e,by simpa using b,c,?_⟩;rcases J with J |J;exact .inl (bF J);exact .inr (eD _ (uu J));obtain⟨a,g,e,b,c,J⟩:=h u hu;exact⟨a,g,e,b,c,J.imp id (eD _)⟩;exact h
def acU(ops:Array Oper)(p i:Nat)(ds:List Nat):Bool:=(match nth ops.toList p with
 |none=>true
 |some _=>fJ (pO ops.toList 0 i []) p)&&(pO ops.toList 0 i []).all λ u=>!(dT ops.size ds).getD u false
theorem acV{ops:Array Oper}{p i:Nat}{ds:List Nat}(h:acU ops p i ds=true):Hn ops i (pO ops.toList 0 i [])/\(ops[p]? =none\/p∈pO ops.toList 0 i [])/\∀u∈pO ops.toList 0 i [],(dT ops.size ds).getD u false=false:=by unfold acU at h;rw[ca]at h;refine⟨Vp (λ m o c=>by simpa using c) (λ u a=>by simp at a),?_,λ u a=>?_⟩;have b:=h.1;rw[dn,ha]at b;split at b;rename_i d;exact .inl d;exact .inr (uu b);have:=jM.1 h.2 u a;simpa using this
theorem aMd{i:Nat}{oi:Oper}{v:Value}(hi:ops[i]? =some oi)(C:∀(j:Nat)(o:Oper) cs b,ops[j]? =some o->o.op≠ .select cs b)(L:p≠i)
 (M:∀c a w,Q (.panic c) (a.put oi.dst v) w->Q (.panic c) a w){U:List Nat}(N:Hn ops i U)(A:ops[p]? =none\/p∈U) :
 ∀(n:Nat)(listed:Array Bool)(a:Act)(w:World),
  (∀j f,ops[j]? =some f->j≠i->listed.getD j true=false->(∀e∈f.after,Region.binds .any e=true->e.on≠i)->oi.apart ops f=true) ->
  listed.getD p false=false->(∀u∈U,listed.getD u false=false)->i∈Region.ready .any ops listed->YieldsIf P ops S oi v a->S w ->
  zY P .any ops Q p S n (listed.setIfInBounds i true) (a.put oi.dst v) w->zY P .any ops Q p S (n+1) listed a w:=by
 intro n
 induction n with
 |zero=>intro listed a w _ _ _ g hy q H;refine⟨λ h=>(by rw[h]at g;cases g),λ j ax=>?_⟩;by_cases d:j=i;subst d;exact hy.wpOp hi q ⟨λ _=>q,H⟩;have:=ready_mono ax d;rw[H.1]at this;cases this
 |succ n O=>
  intro listed a w D y r g hy q H;refine⟨λ h=>(by rw[h]at g;cases g),λ j ax=>?_⟩;by_cases d:j=i;subst d;exact hy.wpOp hi q ⟨λ _=>q,H⟩
  ·have l:=H.2 j (ready_mono ax d);obtain⟨E,f,s,F⟩:=mem_ready.1 ax;have wm:∀e∈f.after,Region.binds .any e=true->e.on≠i:=λ e z ag heq=>by have l:=F e z ag;have G:=(mem_ready.1 g).1;rw[heq]at l;rcases fO i listed.size with h' |h';simp[h']at G l;rw[G]at l;cases l;simp[hG h']at l
   have I:j∉U:=λ R=>by obtain⟨dh,B,e,z,ag,J⟩:=N j R;rw[s]at B;simp only[aM]at B;subst B;rcases J with J |J;exact wm e z ag J;have m:=F e z ag;rw[r _ J]at m;cases m
   have t:j≠p:=λ e=>by subst e;rcases A with h |h;rw[s]at h;cases h;exact I h
   have T:∀u∈U,(listed.setIfInBounds j true).getD u false=false:=λ u K=>by have:=r u K;have V:j≠u:=λ e=>I (e▸K);simp only[eh,ff,ly V]at this⊢;exact this
   have W:(listed.setIfInBounds j true).getD p false=false:=by simp only[eh,ff,ly t]at y⊢;exact y
   have x:((listed.setIfInBounds i true).setIfInBounds j true).getD p false=false:=by simp only[eh,ff,ly t,ly (Ne.symm L)]at y⊢;exact y
   have J:=wpOp_putIf s (D j f s d E wm) (λ cs b=>C i oi cs b hi) (λ cs b=>C j f cs b s) M hy l
   have X:∀k ok,ops[k]? =some ok->k≠i->(listed.setIfInBounds j true).getD k true=false ->
    (∀e∈ok.after,Region.binds .any e=true->e.on≠i)->oi.apart ops ok=true:=λ k ok Y Z r k2=>by
    refine D k ok Y Z ?_ k2
    by_cases wl:j=k
    ·subst wl;exact E
    ·rw[getD_set_ne true wl]at r;exact r
   refine wpOp_mono (λ aW w' m=>⟨λ _=>m.2.1 x,O (listed.setIfInBounds j true) aW w' X W T (ready_mono g (Ne.symm d)) m.1 (m.2.1 x) ?_⟩) J;rw[i_ _ _ d];exact m.2.2
theorem aoK{i:Nat}{oi:Oper}{v:Value}(hi:ops[i]? =some oi)(u:∀(j:Nat)(o:Oper) cs b,ops[j]? =some o->o.op≠ .select cs b)(C:p≠i)
 (D:∀c a w,Q (.panic c) (a.put oi.dst v) w->Q (.panic c) a w) :
 ∀(m:Nat)(listed:Array Bool)(a:Act)(w:World),
  (∀j f,ops[j]? =some f->j≠i->listed.getD j true=false->(∀e∈f.after,Region.binds .any e=true->e.on≠i)->oi.apart ops f=true) ->
  (listed.getD p false=false->S w)->i∈Region.ready .any ops listed->YieldsIf P ops (λ _=>True) oi v a ->
  zY P .any ops Q p S m (listed.setIfInBounds i true) (a.put oi.dst v) w->zY P .any ops Q p S (m+1) listed a w:=by
 have q:∀(r:Array Bool)(b:Bool),(r.setIfInBounds i true).getD p b=r.getD p b:=λ r b=>by simp only[eh,ff,ly (Ne.symm C)]
 intro m
 induction m with
 |zero=>intro listed a w _ s g hy H;refine⟨λ h=>(by rw[h]at g;cases g),λ j ax=>?_⟩;by_cases d:j=i;subst d;exact hy.wpOp hi trivial ⟨λ h=>s (by rwa [q]at h),H⟩;have:=ready_mono ax d;rw[H.1]at this;cases this
 |succ m E=>
  intro listed a w x s g hy H;refine⟨λ h=>(by rw[h]at g;cases g),λ j ax=>?_⟩;by_cases d:j=i;subst d;exact hy.wpOp hi trivial ⟨λ h=>s (by rwa [q]at h),H⟩
  ·have l:=H.2 j (ready_mono ax d);obtain⟨y,f,t,F⟩:=mem_ready.1 ax;have wm:∀e∈f.after,Region.binds .any e=true->e.on≠i:=λ e G ag heq=>by have l:=F e G ag;have z:=(mem_ready.1 g).1;rw[heq]at l;rcases fO i listed.size with h' |h';simp[h']at z l;rw[z]at l;cases l;simp[hG h']at l
   have J:=wpOp_putIf t (x j f t d y wm) (λ cs b=>u i oi cs b hi) (λ cs b=>u j f cs b t) D hy l
   have I:∀k ok,ops[k]? =some ok->k≠i->(listed.setIfInBounds j true).getD k true=false ->
    (∀e∈ok.after,Region.binds .any e=true->e.on≠i)->oi.apart ops ok=true:=λ k ok K L A M=>by
    refine x k ok K L ?_ M
    by_cases wl:j=k
    ·subst wl;exact y
    ·rw[getD_set_ne true wl]at A;exact A
   have B:∀w',(((listed.setIfInBounds i true).setIfInBounds j true).getD p false=false->S w')->(listed.setIfInBounds j true).getD p false=false->S w':=λ w' ad N=>ad (by rw[i_ _ _ (Ne.symm d),q];exact N);refine wpOp_mono (λ O w' n=>⟨B w' n.2.1,E (listed.setIfInBounds j true) O w' I (B w' n.2.1) (ready_mono g (Ne.symm d)) n.1 ?_⟩) J;rw[i_ _ _ d];exact n.2.2
end
def eB(P:Program)(ops:Array Oper)(Q:Exit->Act->World->Prop)(p:Nat)(S:World->Prop)(f:Nat)(ds:List Nat)(a:Act)(w:World):Prop:=((dT ops.size ds).getD p false=false->S w)/\zY P .any ops (NoPanic Q) p S f (dT ops.size ds) a w
def Gn(ops:List Oper):List Nat->Option (List Oper)
 |[]=>some []
 |i::r=>match nth ops i,Gn ops r with
  |some o,some os=>some (o::os)
  |_,_=>none
def alD(ops:Array Oper)(i:Nat):Bool:=match nth ops.toList i with
 |some o=>!IH o.op
 |none=>false
def JG(ops:Array Oper)(p:Nat):List Nat->List Nat->Bool
 |_,[]=>true
 |ds,i::r=>SX ops ds i&&(acU ops p i ds||alD ops i)&& !cx p i&&JG ops p (i::ds) r
def Nk:List Nat->List Nat->List Nat
 |[],ds=>ds
 |i::r,ds=>Nk r (i::ds)
section
variable{P:Program}{G:oH}{ops:Array Oper}{n:cE}{M:List (Nat×Nat×List Value)}{S:World->Prop}{Q:Exit->Act->World->Prop}{a:Act}{w:World}{f p:Nat}{ds:List Nat}
theorem aF6(i:Nat):dT ops.size (i::ds)=(dT ops.size ds).setIfInBounds i true:=rfl
theorem eB.wpAny(h:eB P ops Q p S f ds a w):Go.wpAny P .any ops (NoPanic Q) f (dT ops.size ds) a w:=aoN f _ a w h.2
theorem awD{id m:Nat}{lo:List Oper}(p:Nat)(S:World->World->Prop)(c:P.follows .mixedOrders=true)(b:cx lo.length m=true)(h:∀w',a_ [] w w'->eB P lo.toArray Q p (S w') m [] a w'):(Code.region id lo.toArray true).wp P Q a w:=by have b:=bF b;subst b;exact wp_region_noPanic (wp_region_any c (h _ (a_.drew [] w)).wpAny)
theorem ED(hc:(Region.ready .any ops (dT ops.size ds)).isEmpty=true)(h:Q .normal a w)(c:(dT ops.size ds).getD p false=false->S w):eB P ops Q p S f ds a w:=by
 refine⟨c,?_⟩;have b:=List.isEmpty_iff.1 hc;cases f with
 |zero=>exact⟨b,NoPanic.normal h⟩
 |succ f=>exact⟨λ _=>NoPanic.normal h,by rw[b];simp⟩
theorem eB.next(c:Nat)(d:World->Prop)(b:(dT ops.size ds).getD p false=true)(h:eB P ops Q c d f ds a w):eB P ops Q p S f ds a w:=⟨λ e=>absurd (b.symm.trans e) (by simp),aoL f _ a w b h.2⟩
theorem afq(D:vz P G)(E:∀w,S w->k9 w M)(m:S w){hf:List (Nat×Value)}{N:List hL}{F:List (Nat×Nat)}(q:pS F):∀(is:List Nat){os:List Oper}{aj ds:List Nat}{fr:List (Nat×Value)}{gs:List hL}{l:List (Nat×Nat)}{a:Act},
 (dT ops.size ds).getD p false=false->Gn ops.toList is=some os->JG ops p ds is=true->Fr n fr a->oR a gs->bU G ops n M os aj fr gs l=some (hf,N,F)->(∀H,Fr n hf H->eB P ops Q p S f (Nk is ds) H w)->eB P ops Q p S (f+is.length) ds a w
 |[],os,aj,ds,fr,gs,l,a,_,b,_,r,_,h,s=>by simp only[Gn,aM]at b;subst b;simp only[bU,aM,cI]at h;exact s a (by rw[<-h.1];exact r)
 |i::is,os,aj,ds,fr,gs,l,a,t,b,I,r,O,h,s=>by
  simp only[Gn]at b;split at b
  ·rename_i o R j J;simp only[aM]at b;subst b;rw[dn,ha]at j;simp only[JG,ca,gG]at I;obtain⟨⟨⟨g,k⟩,K⟩,z⟩:=I;have A:p≠i:=λ e=>by rw[e]at K;simp at K
   obtain⟨d,u,W,fr',X,l',⟨aK,L⟩,T,U,h'⟩:=V6 (C:=S) D E r O h q (Bj q);have V:(dT ops.size (i::ds)).getD p false=false:=by rw[aF6];simp only[eh,ff,ly (Ne.symm A)]at t⊢;exact t
   have next:=afq D E m q is V J z T U h' s
   simp only[SX,ca]at g;refine⟨λ _=>m,?_⟩;have:=next.2
   rw[show f+(i::is).length=f+is.length+1 by simp[jE]];rw[hA]at k;rcases k with k |L1;refine aMd (v:=u) j (Region.noSelect_spec g.1.1) A (λ c a w h=>h) (acV k).1 (acV k).2.1 (f+is.length) _ a w (Region.free_spec j g.1.2) t (acV k).2.2 (by simpa using g.2) (L.imp (λ⟨x,y,_⟩=>⟨x,y⟩) id) m ?_;rw[aK];exact this
   ·have B:IH o.op=false:=by
     unfold alD at L1;rw[dn,ha,j]at L1;simpa using L1
    refine aoK (v:=u) j (Region.noSelect_spec g.1.1) A (λ c a w h=>h) (f+is.length) _ a w (Region.free_spec j g.1.2) (λ _=>m) (by simpa using g.2) (L.imp (λ⟨x,_,y⟩=>⟨x,λ w _=>y B w⟩) id) ?_;rw[aK];exact this
  ·cases b
theorem av1(is:List Nat)(k:Nat)(fo aj:List Nat){os:List Oper}{fr fr':List (Nat×Value)}{L:List Nat}(d:vz P G)(e:∀w,S w->k9 w M)(g:Fr n fr a)(c:cx is.length k=true)(h:(dT ops.size ds).getD p false=false)(hi:Gn ops.toList is=some os)(i:JG ops p ds is=true)
 (j:oQ G ops n M os aj fr fo=some (fr',dup L))(l:S w)(next:∀b,Fr n fr' b->eB P ops Q p S f (Nk is ds) b w):eB P ops Q p S (f+k) ds a w:=by
 have c:=bF c
 subst c
 obtain⟨hf,q,m,J⟩:=V7 j
 exact afq (gs:=[]) d e l (Py L) is h hi i g trivial m λ b o=>next b (o.sub J)
theorem hM(i:Nat){o:Oper}(hi:ops[i]? =some o)(hc:(Region.ready .any ops (dT ops.size ds)==[i])=true)(d:(dT ops.size ds).getD p false=false->S w)(h:wpList P ops (Hw (eB P ops Q p S f (i::ds)) (NoPanic Q)) [o] a w):eB P ops Q p S (f+1) ds a w:=by
 have b:=eq_of_beq hc;refine⟨d,⟨λ c=>(by rw[b]at c;cases c),λ j ax=>?_⟩⟩;rw[b]at ax;have:j=i:=by simpa using ax
 subst this;exact acZ hi h
theorem O2(i j:Nat){o b:Oper}(hi:ops[i]? =some o)(ax:ops[j]? =some b)(hc:(Region.ready .any ops (dT ops.size ds)==[i,j])=true)(g:(dT ops.size ds).getD p false=false->S w)(h:wpList P ops (Hw (eB P ops Q p S f (i::ds)) (NoPanic Q)) [o] a w)
 (h':wpList P ops (Hw (eB P ops Q p S f (j::ds)) (NoPanic Q)) [b] a w):eB P ops Q p S (f+1) ds a w:=by
 have c:=eq_of_beq hc
 refine⟨g,⟨λ d=>(by rw[c]at d;cases d),λ q e=>?_⟩⟩
 rw[c]at e
 have:q=i\/q=j:=by simpa using e
 rcases this with rfl |rfl
 ·exact acZ hi h
 ·exact acZ ax h'
theorem fQ(h:eB P ops Q p S f ds a w):wpList P ops (Hw (eB P ops Q p S f ds) (NoPanic Q)) [] a w:=h
end
theorem U4(p q:List UInt8):((⟨⟨p⟩⟩:ByteArray)==⟨⟨q⟩⟩)=decide (p=q):=by
 show((⟨p⟩:Array UInt8)==⟨q⟩)=_
 rw[h5];simp
structure nQ (cU:Type) [DecidableEq cU] where
 enc:cU->Value
 desc:TypeDesc
 same:∀a b,Instr.sameNow desc (enc a) (enc b)=some (decide (b=a))
 bits:∀a,Instr.sameBits 10000 (enc a) (enc a)=true
 check:∀(P:Program)(w:World)(e:Bool)(t:TypeId)(a:cU),P.underlying t=some desc->(Instr.checkKey e 10000 t (enc a)).run P w= .ok () w
def aD_:nQ Int where
 enc n:=.int .i64 n
 desc:=.int .i64
 same a b:=by simp only[Instr.sameNow,if_true,aM];rw[h5];simp only[beq_iff_eq,decide_eq_true_iff];exact eq_comm
 bits a:=by
  have h:∀n,Instr.sameBits n (.int .i64 a) (.int .i64 a)=true:=λ n=>by cases n<;>simp[Instr.sameBits]
  exact h 10000
 check P w e t a h:=by
  have h':∀n:Nat,(Instr.checkKey e (n+1) t (.int .i64 a)).run P w= .ok () w:=λ n=>by simp[Instr.checkKey,run_underlying h]
  exact h' 9999
def o3:nQ (List UInt8) where
 enc s:=cu s
 desc:=.string
 same a b:=by
  simp only[Instr.sameNow,aM];have e:decide (a=b)=decide (b=a):=by rw[decide_eq_decide];exact eq_comm
  exact(U4 a b).trans e
 bits a:=by
  have h:∀n,Instr.sameBits n (cu a) (cu a)=true:=λ n=>by have e:((⟨⟨a⟩⟩:ByteArray)==⟨⟨a⟩⟩)=true:=(U4 a a).trans (by simp);cases n<;>(simp only[Instr.sameBits];exact e)
  exact h 10000
 check P w e t a h:=by
  have h':∀n:Nat,(Instr.checkKey e (n+1) t (cu a)).run P w= .ok () w:=λ n=>by simp[Instr.checkKey,run_underlying h]
  exact h' 9999
section
variable{cU β:Type} [DecidableEq cU](K:nQ cU)(bU:β->Value)
def UF(es:List MapEntry)(d:List (cU×β)):Prop:=es.map (λ e=>(e.key,e.val))=d.map (λ p=>(K.enc p.1,bU p.2))
def afc(w:World)(r:Nat)(d:List (cU×β)):Prop:=∃es clock,w.heap[r]? =some (.map es clock)/\UF K bU es.toList d/\(es.toList.map (·.born)).Pairwise (·< ·)/\∀e∈es.toList,e.born<clock
def a8.map(r:Nat)(d:List (cU×β)):a8 where
 bD:=[r]
 ok w:=afc K bU w r d
 law w w' h a:=by obtain⟨es,c,b,J⟩:=a;exact⟨es,c,(h r (by simp)).trans b,J⟩
def bA.map(r:Nat)(d:List (cU×β)):bA where
 ok M w:=r∉M/\r<w.heap.size/\afc K bU w r d
 law M kT w w' a f h:=by obtain⟨b,J,es,c,g,i⟩:=h;exact⟨λ ad=>by rcases f r ad with e |e;exact b e;omega,ez J a.size,es,c,(a.block r J b).trans g,i⟩
end
section
variable{cU β:Type} [DecidableEq cU]{K:nQ cU}{bU:β->Value}
variable{P:Program}{o:Oper}{a:Act}{w:World}{x y z:Operand}{t kt EQ:TypeId}{r:Nat}{d:List (cU×β)}{k:cU}{v:β}
theorem aPq(b:o.op= .makeMap t none):bc P o a w (.map (some w.heap.size)) (w.alloc (.map #[] 0)):=by simp only[bc,execOp,b,Sem.run_bind];rfl
end
def aeU(E:List a8):Prop:=∀(i:Nat)(x:a8),E[i]? =some x->x.bD.Nodup/\∀(j:Nat)(y:a8),E[j]? =some y->i≠j->∀k∈x.bD,k∉y.bD
theorem V9:∀ {E:List a8},(bT E).Nodup->aeU E
 |[],_=>λ i x h=>by simp at h
 |e::E,h=>by
  have h':(e.bD++bT E).Nodup:=by simpa[bT]using h
  rw[eT]at h';obtain⟨g,J,c⟩:=h';have d:=V9 J;intro i x ad;cases i with
  |zero=>
   simp only[de,aM]at ad;subst ad;refine⟨g,λ j y hy f k a b=>?_⟩;cases j with
   |zero=>exact f rfl
   |succ j=>exact c k a k (g_.2 ⟨y,b_ (by simpa using hy),b⟩) rfl
  |succ i=>
   have ad:E[i]? =some x:=by simpa using ad
   refine⟨(d i x ad).1,λ j y hy f k a b=>?_⟩;cases j with
   |zero=>simp only[de,aM]at hy;subst hy;exact c k b k (g_.2 ⟨x,b_ ad,a⟩) rfl
   |succ j=>exact(d i x ad).2 j y (by simpa using hy) (by omega) k a b
theorem alJ:∀ {E:List a8},aeU E->(bT E).Nodup
 |[],_=>by simp[bT]
 |e::E,h=>by
  have e1:bT (e::E)=e.bD++bT E:=by simp[bT]
  rw[e1,eT];refine⟨(h 0 e rfl).1,alJ λ i x ad=>⟨(h (i+1) x (by simpa using ad)).1,λ j y hy g k c=>(h (i+1) x (by simpa using ad)).2 (j+1) y (by simpa using hy) (by omega) k c⟩,λ a d b ag f=>?_⟩;subst f;obtain⟨x,ad,c⟩:=g_.1 ag;obtain⟨i,hi,rfl⟩:=il.1 ad;exact(h 0 e rfl).2 (i+1) E[i] (by simp[hi]) (by omega) a d c
def JB(E:List a8):List Nat->Option (List a8)
 |[]=>some []
 |i::r=>match nth E i,JB E r with
  |some x,some xs=>some (x::xs)
  |_,_=>none
def QH:List Nat->Nat->Bool
 |[],_=>false
 |i::r,j=>cx i j||QH r j
def ML:List Nat->Bool
 |[]=>true
 |i::r=>!QH r i&&ML r
theorem aDm{l:List Nat}{j:Nat}(h:QH l j=false):j∉l:=by
 induction l with
 |nil=>simp
 |cons i r a=>simp only[QH,hY]at h;intro b;rcases cG.1 b with rfl |e;simp at h;exact a h.2 e
theorem alj:∀ {l:List Nat},ML l=true->l.Nodup
 |[],_=>by simp
 |i::r,h=>by simp only[ML,ca,gG]at h;exact hJ.2 ⟨aDm h.1,alj h.2⟩
theorem SF{E:List a8}:∀ {is:List Nat}{a:List a8},JB E is=some a->∀(m:Nat)(x:a8),a[m]? =some x->∃i:Nat,is[m]? =some i/\E[i]? =some x
 |[],a,h,m,x,ad=>by simp only[JB,aM]at h;subst h;simp at ad
 |i::r,a,h,m,x,ad=>by
  simp only[JB]at h;split at h
  ·rename_i y ys b J;simp only[aM]at h;subst h;cases m with
   |zero=>simp only[de,aM]at ad;subst ad;exact⟨i,rfl,by rw[<-dn];exact b⟩
   |succ m=>obtain⟨q,c,d⟩:=SF J m x (by simpa using ad);exact⟨q,by simpa using c,d⟩
  ·cases h
section
variable{W w w':World}{M0 X:List Nat}{E:List a8}{D:List bA}
theorem bu.sel(h:bu W M0 X w E D)(is:List Nat){b:List a8}(o:ML is=true)(aj:JB E is=some b):bu W M0 X w b D:=by
 have d:∀x∈b,x∈E:=λ x ad=>by obtain⟨m,p,rfl⟩:=il.1 ad;obtain⟨i,_,hi⟩:=SF aj m _ (aR p);exact b_ hi
 have f:∀k∈bT b,k∈bT E:=λ k a=>by obtain⟨x,ad,q⟩:=g_.1 a;exact g_.2 ⟨x,d x ad,q⟩
 have aK:=V9 h.bC;have g:=alj o;refine⟨h.bU,h.iT,λ k a=>h.lt k (f k a),λ x ad=>h.ok x (d x ad),alJ λ m x ad=>?_,λ y hy=>y.law _ _ w w (a_.refl _ _) (λ k a=>.inl ?_) (h.rd y hy)⟩;obtain⟨i,hi,l⟩:=SF aj m x ad;refine⟨(aK i x l).1,λ c y hy r k a=>?_⟩;obtain⟨j,ax,s⟩:=SF aj c y hy;refine(aK i x l).2 j y s (λ e=>?_) k a;subst e;obtain⟨l1,e1⟩:=ba.1 hi;obtain⟨n,e2⟩:=ba.1 ax;rcases Nat.lt_or_gt_of_ne r with bz |bz;exact(iq.1 g m c l1 n bz) (e1.trans e2.symm);exact(iq.1 g c m n l1 bz) (e2.trans e1.symm);rcases cg.1 a with e |e;exact cg.2 (.inl e);exact cg.2 (.inr (f k e))
theorem H9(A B:List a8):bT (A++B)=bT A++bT B:=by simp[bT]
theorem bu.into(h:bu W M0 X w E D)(m:Nat):bu w (bT (E.take m)) (X++bT (E.drop m)) w (E.take m) D:=by
 have a1:bT E=bT (E.take m)++bT (E.drop m):=by rw[<-H9,iJ]
 have aK:=h.bC;rw[a1,eT]at aK;refine⟨a_.refl _ _,λ k a=>?_,λ k a=>⟨(h.lt k (by rw[a1];simp[a])).1,.inl a⟩,λ x ad=>h.ok x (List.mem_of_mem_take ad),aK.1,λ y hy=>y.law _ _ w w (a_.refl _ _) (λ k a=>.inl ?_) (h.rd y hy)⟩;rcases cg.1 a with e |e;refine⟨ez (h.iT k e).1 h.bU.size,λ b=>?_⟩;have:=(h.lt k (by rw[a1];simp[b])).2;rcases this with e2 |e2;exact(h.iT k e).2 e2;have:=(h.iT k e).1;omega;exact⟨(h.lt k (by rw[a1];simp[e])).1,λ b=>aK.2.2 k b k e rfl⟩;rw[a1];simp only[cg]at a⊢;rcases a with(e |e)|e<;>simp[e]
def UI:List bA->Prop
 |[]=>True
 |y::r=>(∀M kT w w',y.ok M w->y.ok kT w')/\UI r
theorem aeV:∀ {D:List bA},UI D->∀y∈D,∀M kT w w',y.ok M w->y.ok kT w'
 |[],_,y,hy=>by simp at hy
 |z::r,h,y,hy=>by rcases cG.1 hy with rfl |e;exact h.1;exact aeV h.2 y e
theorem bu.afx(h:bu W M0 X w E D)(m:Nat){j:List Nat}{d:List a8}{hs:List bA}(k:bu w (bT (E.take m)) j w' d hs)(l:∀y∈hs,y.ok (X++bT (d++E.drop m)) w'):bu W M0 X w' (d++E.drop m) (hs++D):=by
 have a1:bT E=bT (E.take m)++bT (E.drop m):=by rw[<-H9,iJ]
 have aK:=h.bC;rw[a1,eT]at aK;have i:∀b∈bT (E.take m),b<w.heap.size/\(b∈M0\/W.heap.size<=b):=λ b ag=>h.lt b (by rw[a1];simp[ag]);have f:∀b∈bT (E.drop m),b<w.heap.size/\(b∈M0\/W.heap.size<=b):=λ b ag=>h.lt b (by rw[a1];simp[ag]);have g:=k.bU;have n:∀b∈bT d,b∉bT (E.drop m):=λ b ag c=>by rcases(k.lt b ag).2 with e |e;exact aK.2.2 b e b c rfl;have:=(f b c).1;omega
 refine⟨h.bU.trans g (λ b ag=>(i b ag).2),h.iT,λ b ag=>?_,λ x ad=>?_,?_,λ y hy=>?_⟩;rw[H9]at ag;rcases cg.1 ag with e |e;refine⟨(k.lt b e).1,?_⟩;rcases(k.lt b e).2 with e2 |e2;exact(i b e2).2;exact .inr (fR h.bU.size e2);exact⟨ez (f b e).1 g.size,(f b e).2⟩;rcases cg.1 ad with e |e;exact k.ok x e;refine x.law w w' (λ b ag=>?_) (h.ok x (lm e));have c:b∈bT (E.drop m):=g_.2 ⟨x,e,ag⟩;exact g.block b (f b c).1 (λ o=>aK.2.2 b o b c rfl);rw[H9,eT];exact⟨k.bC,aK.2.1,λ a p b ag e=>by subst e;exact n a p ag⟩;rcases cg.1 hy with e |e;exact l y e;refine y.law _ _ w w' (g.mono λ b ag=>?_) (λ b ag=>?_) (h.rd y e);rw[a1];simp[ag];rw[H9]at ag;rw[a1];simp only[cg]at ag⊢;rcases ag with e1 |e1 |e1;simp[e1];rcases(k.lt b e1).2 with e2 |e2;simp[e2];exact .inr e2;simp[e1]
theorem bu.back(h:bu W M0 X w E D)(m:Nat){a:List a8}{hs:List bA}(k:bu w (bT (E.take m)) (X++bT (E.drop m)) w' a hs):bu W M0 X w' (a++E.drop m) (hs++D):=h.afx m k λ y hy=>y.law _ _ w' w' (a_.refl _ _) (λ b ag=>.inl (by rw[H9]at ag;simp only[cg]at ag⊢;rcases ag with e |e |e<;>simp[e])) (k.rd y hy)
theorem bu.hd(h:bu W M0 X w E D)(m:Nat){b:List Nat}{a:List a8}{hs:List bA}(c:UI hs)(k:bu w (bT (E.take m)) b w' a hs):bu W M0 X w' (a++E.drop m) (hs++D):=h.afx m k λ y hy=>aeV c y hy _ _ _ _ (k.rd y hy)
end
section
variable{P:Program}{ops:Array Oper}{Q:Exit->Act->World->Prop}{a:Act}{w:World}{rest:List Oper}{o:Oper}{n:cE}{d:Nat}{l:List (Nat×Value)}
 {W:World}{M0 X:List Nat}{E:List a8}{D:List bA}
theorem bu.IU{α:Type}{e sz g m:Nat}{cs:List Value}(h:bu W M0 X w E D)(i:Nat)(li:List α)(hi:E[i]? =some (a8.cd g e cs))(b:li.length=m)(hc:cx cs.length (m*sz)=true)(c:iI m 1000000=true):bu W M0 X w (E.set i (a8.row e sz (.slice (some ⟨g,0,none⟩) m m) li cs)) D:=by
 have ag:w.heap[g]? =some (.cells cs.toArray e (0,0)):=h.e i hi;have hc:=bF hc;have c:=cJ c;refine h.NQ i hi (a_.refl _ _) ?_ (by simp[a8.row,Value.ownBlock]) (λ k f=>.inl (by simpa[a8.row,Value.ownBlock,a8.cd]using f));show w.ownsRow 0 e sz (.slice (some ⟨g,0,none⟩) m m) li.length cs
 refine⟨by rw[b];exact hc,.inr ⟨g,m,cs.toArray,by rw[b],fY _,ag,by omega,by simp only[maxLen];omega,by simpa using hc,?_⟩⟩;rw[b,<-hc,iH]
theorem bu.ani(h:bu W M0 X w E D){α:Type}{T:dt α}{xs:List Value}{li:List α}(b:dN T (jb (X++bT E) w) w xs li):bu W M0 X w E (bA.rows T xs li::D):=h.more b
theorem SE{α:Type}{T:dt α}{t e:TypeId}{x y:Operand}{z:Value}{bytes m c:Nat}{v:Value}{li ml l':List α}{xs cs:List Value}{dM:Addr}(i:Nat)(s:bu W M0 X w E D)(hi:E[i]? =some (a8.row e T.size v li xs))
 (G:P.underlying t=some (.slice e))(mn:(P.info? e).map (λ i=>(i.zero,i.size,i.bytes))=some (some z,T.size,bytes))(H:z.cells.size=T.size)(I:0<T.size)
 (K:bE bytes li ml=some l')(L:ml.length=m)(M:0<bytes)
 (N:dN T (jb (X++bT E) w) w xs li)(hcs:dN T (jb (X++bT E) w) w cs ml)(O:∀j u,cs[j]? =some u->w.cell? (dM.add j)=some u)
 (R:Region.wanted o (yielded ops a.tmps)=true)
 (S:o.op= .call { callee:=.builtin .append,args:=#[x,y],argTypes:=#[t,t] })(ad:a.eval x=v)(hy:a.eval y= .slice (some dM) m c)(U:Fr n l a)(aK:o.dst=some d)(V:eN d n=true)
 (k:∀g A b w',a_ v.ownBlock.toList w w'->Fr n ((d,.slice A l'.length b)::l) g->bu W M0 X w' (E.set i (a8.row e T.size (.slice A l'.length b) l' (xs++cs))) (bA.rows T (xs++cs) l'::D)->wpList P ops Q rest g w'):wpList P ops Q (o::rest) a w:=by
 obtain⟨Y,LI,h,Fs,Z⟩:=ajQ mn
 obtain⟨yx,rfl⟩:=O4 K
 have nl:w.ownsRow 0 e T.size v li.length xs:=s.e i hi
 subst L
 have p:li.length+ml.length<=maxLen:=by have J:=kL (li.length+ml.length) M;simp only[maxLen];omega
 obtain⟨B,w',hh,J,C,_,c6⟩:=run_append_own_at (P:=P) w 0 t o.type e Y z T.size bytes G LI h Fs Z H I v li.length xs nl dM ml.length c cs (zL T hcs)
  O (Js T hcs) p yx (fY _)
 have F:(a8.row e T.size B (li++ml) (xs++cs)).ok w':=by
  show w'.ownsRow 0 e T.size B (li++ml).length (xs++cs)
  rw[dj];exact J
 obtain⟨A,b,rfl,_⟩:=Nl F
 have q6:bc P o a w (.slice A (li++ml).length b) w':=by simp only[bc,execOp,S,resolve,invoke,builtin,Sem.run_bind,Sem.run_pure,Result.andThen_ok,gN,ea,hP,ad,hy,hh]
 have BG:=s.ani (Nb T hcs N)
 refine gE R q6 U aK V λ g eb=>k g A b w' (a_.grown C) eb (BG.NQ i hi (a_.grown C) F (aHl _) λ q aO=>?_)
 have f:(Value.slice A (li++ml).length b).ownBlock=some q:=by simpa[a8.row]using aO
 rcases c6 with e5 |e5
 ·left;simpa[a8.row,<-e5]using f
 ·right;rw[e5]at f;injection f with f;subst f;refine⟨cP _,?_⟩;rcases J.2 with⟨r,_⟩|⟨g',cap,cur,r,_,gj,_⟩;rw[r]at e5;simp[Value.ownBlock]at e5
  ·rw[r]at e5;have:g'=w.heap.size:=by simpa[Value.ownBlock]using e5
   subst this;exact(fH.1 gj).1
theorem Ns{α:Type}{T:dt α}{t e:TypeId}{x y:Operand}{z:Value}{bytes g m c:Nat}{v:Value}{li ml l':List α}{xs cs:List Value}(i j q:Nat)(h:bu W M0 X w E D)(hi:E[i]? =some (a8.row e T.size v li xs))(ax:E[j]? =some (a8.cd g e cs))(r:D[q]? =some (bA.rows T xs li))
 (s:P.underlying t=some (.slice e))(mn:(P.info? e).map (λ i=>(i.zero,i.size,i.bytes))=some (some z,T.size,bytes))(B:z.cells.size=T.size)(C:eN 0 T.size=true)
 (F:bE bytes li ml=some l')(G:ml.length=m)(H:eN 0 bytes=true)(hcs:dN T (jb (X++bT E) w) w cs ml)
 (I:Region.wanted o (yielded ops a.tmps)=true)
 (J:o.op= .call { callee:=.builtin .append,args:=#[x,y],argTypes:=#[t,t] })(ad:a.eval x=v)(hy:a.eval y= .slice (some ⟨g,0,none⟩) m c)(K:Fr n l a)(aK:o.dst=some d)(L:eN d n=true)
 (k:∀b A f p w',Fr n ((d,.slice A l'.length f)::l) b->bu W M0 X w' ((E.set i (a8.row e T.size (.slice A l'.length f) l' p)).eraseIdx j) (bA.rows T p l'::D)->wpList P ops Q rest b w'):wpList P ops Q (o::rest) a w:=by
 have ag:=h.e j ax
 exact SE i h hi s mn B (cJ C) F G (cJ H) (h.d q r) hcs (λ j u M=>by rw[mU];simpa using x6 ag M) I J ad hy K aK L
  λ b A f w' _ N O=>k b A f _ w' N (O.Pz j)
theorem acd{α:Type}{T:dt α}{t e:TypeId}{x y:Operand}{z:Value}{bytes g m c:Nat}{v:Value}{li ml l':List α}{xs cs:List Value}(i j q:Nat)(h:bu W M0 X w E D)(hi:E[i]? =some (a8.row e T.size v li xs))(ax:E[j]? =some (a8.cd g e cs))(r:D[q]? =some (bA.rows T xs li))
 (s:P.underlying t=some (.slice e))(mn:(P.info? e).map (λ i=>(i.zero,i.size,i.bytes))=some (some z,T.size,bytes))(B:z.cells.size=T.size)(C:eN 0 T.size=true)
 (F:bE bytes li ml=some l')(G:ml.length=m)(H:eN 0 bytes=true)(hcs:dN T (jb (X++bT E) w) w cs ml)
 (I:Region.wanted o (yielded ops a.tmps)=true)
 (J:o.op= .call { callee:=.builtin .append,args:=#[x,y],argTypes:=#[t,t] })(ad:a.eval x=v)(hy:a.eval y= .slice (some ⟨g,0,none⟩) m c)(K:Fr n l a)(aK:o.dst=some d)(L:eN d n=true)
 (k:∀b A f p w',a_ v.ownBlock.toList w w'->Fr n ((d,.slice A l'.length f)::l) b->bu W M0 X w' ((E.set i (a8.row e T.size (.slice A l'.length f) l' p)).eraseIdx j) (bA.rows T p l'::D)->wpList P ops Q rest b w'):wpList P ops Q (o::rest) a w:=by
 have ag:=h.e j ax
 exact SE i h hi s mn B (cJ C) F G (cJ H) (h.d q r) hcs (λ j u M=>by rw[mU];simpa using x6 ag M) I J ad hy K aK L
  λ b A f w' N O R=>k b A f _ w' N O (R.Pz j)
theorem aPa{t e:TypeId}{x y:Operand}{v:Value}{sz k:Nat}{xs:List Value}{z:Value}{bytes:Nat}(b:P.underlying t=some (.slice e))(mn:(P.info? e).map (λ i=>(i.zero,i.size,i.bytes))=some (some z,sz,bytes))(c:w.ownsRow 0 e sz v k xs)
 (f:o.op= .call { callee:=.builtin .append,args:=#[x,y],argTypes:=#[t,t] })(ad:a.eval x=v)(hy:a.eval y= .slice none 0 0):bc P o a w v w:=by
 obtain⟨g,LI,h,Fs,m⟩:=ajQ mn
 have j:=run_append_owned_none (P:=P) (w:=w) 0 t o.type e g sz b LI v k xs c
 simp only[bc,execOp,f,resolve,invoke,builtin,Sem.run_bind,Sem.run_pure,Result.andThen_ok,gN,ea,hP,ad,hy,j]
theorem SD{α:Type}{T:dt α}{t e:TypeId}{x y:Operand}{z:Value}{bytes c:Nat}{v:Value}{li ml l':List α}{xs:List Value}{m:Option Addr}(i q p:Nat)(g:bu W M0 X w E D)(hi:E[i]? =some (a8.row e T.size v li xs))(V:D[q]? =some (bA.rows T xs li))(Y:D[p]? =some (bA.of (b2 T) [.slice m ml.length c] ml))
 (r:P.underlying t=some (.slice e))(mn:(P.info? e).map (λ i=>(i.zero,i.size,i.bytes))=some (some z,T.size,bytes))(M:z.cells.size=T.size)(N:eN 0 T.size=true)
 (s:bE bytes li ml=some l')(O:eN 0 bytes=true)
 (B:Region.wanted o (yielded ops a.tmps)=true)
 (C:o.op= .call { callee:=.builtin .append,args:=#[x,y],argTypes:=#[t,t] })(ad:a.eval x=v)(hy:a.eval y= .slice m ml.length c)(F:Fr n l a)(aK:o.dst=some d)(G:eN d n=true)
 (k:∀f A b R w',a_ v.ownBlock.toList w w'->Fr n ((d,.slice A l'.length b)::l) f->bu W M0 X w' (E.set i (a8.row e T.size (.slice A l'.length b) l' R)) (bA.rows T R l'::D)->wpList P ops Q rest f w'):wpList P ops Q (o::rest) a w:=by
 have H:=g.d q V
 have I:(b2 T).rd (jb (X++bT E) w) w [.slice m ml.length c] ml:=g.d p Y
 obtain⟨en,c1,e1,e2,e3,e4,e5⟩:=I
 simp only[hq,Value.slice.injEq,and_true,true_and]at e1
 obtain⟨rfl,rfl⟩:=e1
 by_cases S:ml=[]
 ·subst S;cases m with
  |none=>
   have Z:=e4 rfl;subst Z;have nl:w.ownsRow 0 e T.size v li.length xs:=g.e i hi;have p7:(a8.row e T.size v li xs).ok w:=g.e i hi;obtain⟨A,b,rfl,_⟩:=Nl p7;obtain⟨_,rfl⟩:=O4 s;refine gE B (aPa r mn nl C ad hy) F aK G λ f h=>?_;have U:li++[]=li:=gH li;refine k f A b xs w (a_.refl _ w) (by rw[U];exact h) ?_;rw[U];have a1:E.set i (a8.row e T.size (.slice A li.length b) li xs)=E:=by obtain⟨bz,he⟩:=ba.1 hi;rw[<-he,kW]
   rw[a1];exact g.more H
  |some dM=>exact SE (cs:=[]) i g hi r mn M (cJ N) s rfl (cJ O) H rfl (λ j u J=>by simp at J) B C ad hy F aK G λ f A b w' K h L=>k f A b _ w' K h L
 ·obtain⟨g1,g2,cs,g3,g4⟩:=e5 S;rw[g1]at hy;exact SE (cs:=cs) i g hi r mn M (cJ N) s rfl (cJ O) H g3 (λ j u J=>by rw[mU];exact g4 j u J) B C ad hy F aK G λ f A b w' K h L=>k f A b _ w' K h L
theorem SC{α:Type}{T:dt α}{t e:TypeId}{x y:Operand}{z:Value}{bytes c:Nat}{v:Value}{li ml l':List α}{xs:List Value}{h:Option Addr}(i q p:Nat)(j:bu W M0 X w E D)(hi:E[i]? =some (a8.row e T.size v li xs))(m:D[q]? =some (bA.rows T xs li))(r:D[p]? =some (bA.of (b2 T) [.slice h ml.length c] ml))
 (s:P.underlying t=some (.slice e))(mn:(P.info? e).map (λ i=>(i.zero,i.size,i.bytes))=some (some z,T.size,bytes))(u:z.cells.size=T.size)(B:eN 0 T.size=true)
 (C:bE bytes li ml=some l')(F:eN 0 bytes=true)
 (G:Region.wanted o (yielded ops a.tmps)=true)
 (H:o.op= .call { callee:=.builtin .append,args:=#[x,y],argTypes:=#[t,t] })(ad:a.eval x=v)(hy:a.eval y= .slice h ml.length c)(I:Fr n l a)(aK:o.dst=some d)(J:eN d n=true)
 (k:∀b A f g w',Fr n ((d,.slice A l'.length f)::l) b->bu W M0 X w' (E.set i (a8.row e T.size (.slice A l'.length f) l' g)) (bA.rows T g l'::D)->wpList P ops Q rest b w'):wpList P ops Q (o::rest) a w:=
 SD i q p j hi m r s mn u B C F G H ad hy I aK J λ b A f g w' _=>k b A f g w'
theorem CM{x:Value}{y:Nat}{code:BoundsCode}{k:IntKind}{i:Int}(ad:x= .int k i)(h:0<=i/\i<=y):(Instr.sliceBound x y code).run P w= .ok i.toNat w:=by subst ad;simp[Instr.sliceBound,asIntOf,h]
end
section
variable{α:Type}{T:dt α}
theorem abO{F:Nat->Prop}{w:World}{d':α}{b:List Value}(h':T.rd F w b d'):∀ {li:List α}{xs:List Value}{i:Nat},dN T F w xs li->i<li.length->dN T F w (xs.take (i*T.size)++b++xs.drop (i*T.size+T.size)) (li.set i d')
 |[],_,i,_,hi=>by simp at hi
 |d::r,xs,0,h,_=>by obtain⟨cs,ys,rfl,a,J⟩:=h;have c:=T.len a;refine⟨b,ys,?_,h',J⟩;simp[<-c]
 |d::r,xs,i+1,h,hi=>by
  obtain⟨cs,ys,rfl,a,J⟩:=h;have c:=T.len a;have e:=abO h' J (i:=i) (by simpa using hi);refine⟨cs,_,?_,a,e⟩;have e1:(i+1)*T.size=cs.length+i*T.size:=by rw[jj];omega
  rw[e1,j4,hp (by omega),show cs.length+i*T.size-cs.length=i*T.size by omega,List.drop_append,iA (l:=cs) (by omega),
   show cs.length+i*T.size+T.size-cs.length=i*T.size+T.size by omega]
  simp
end
theorem acu{β:Type}{L vs:List β}{p N:Nat}(b:p+vs.length<=N)(J:N<=L.length):(L.take p++vs++L.drop (p+vs.length)).take N=(L.take N).take p++vs++(L.take N).drop (p+vs.length):=by
 have a:(L.take p++vs).length=p+vs.length:=by rw[dj,fe];omega
 rw[j4,hp (by omega),a,List.take_take,kF (by omega),List.drop_take]
section
variable{P:Program}{ops:Array Oper}{Q:Exit->Act->World->Prop}{a:Act}{w:World}{rest:List Oper}{o:Oper}{n:cE}{d:Nat}{l:List (Nat×Value)}
 {W:World}{M0 X:List Nat}{E:List a8}{D:List bA}
theorem ahO{xs cs:List Value}{p:Nat}(h:∀j u,cs[j]? =some u->xs[p+j]? =some u):(xs.drop p).take cs.length=cs:=by apply jZ;intro j;rw[gK];by_cases ax:j<cs.length;rw[lz ax,ia,aR ax];exact h j _ (aR ax);rw[ly ax,fk (by omega)]
theorem aK'{α:Type}{T:dt α}{t e:TypeId}{x y:Operand}{A:Option Addr}{c kk sz:Nat}{li:List α}{xs cs0 vs:List Value}{z:Int}{R d':α}{v:Value}(i q:Nat)(C:bu W M0 X w E D)(hi:E[i]? =some (a8.row e T.size (.slice A li.length c) li xs))(aO:D[q]? =some (bA.rows T xs li))
 (ah:idx li z=some R)(hcs:T.rd (jb (X++bT E) w) w cs0 R)(S:fF w ⟨dD A,gB A+z.toNat*T.size,none⟩ cs0)(hw:Region.wanted o (yielded ops a.tmps)=true)
 (af:v.cells=vs.toArray)(aj:∀w,(Go.sizeOf t).run P w= .ok sz w)(ak:cx vs.length sz=true)(h1:vs.all (·.oneCell')=true)(F:iI (kk+vs.length) cs0.length=true)
 (LZ:T.rd (jb (X++bT E) w) w (lay cs0 kk vs) d')
 (ar:o.op= .store t x y)(ad:a.eval x= .pointer (some ⟨dD A,gB A+z.toNat*T.size+kk,none⟩))(hy:a.eval y=v)(aK:o.dst=none)
 (k:∀f w',a_ (Value.slice A li.length c).ownBlock.toList w w'->bu W M0 X w' (E.set i (a8.row e T.size (.slice A li.length c) (li.set z.toNat d') f)) (bA.rows T f (li.set z.toNat d')::D)->wpList P ops Q rest a w'):wpList P ops Q (o::rest) a w:=by
 obtain⟨z0,U,z2⟩:=np ah
 have h:vs.length=sz:=bF ak
 have Iv:kk+vs.length<=cs0.length:=cJ F
 have n0:=T.len hcs
 have G:w.ownsRow 0 e T.size (.slice A li.length c) li.length xs:=C.e i hi
 have H:dN T (jb (X++bT E) w) w xs li:=C.d q aO
 rcases G.2 with⟨_,b8⟩|⟨g,cap,cur,e1,_,V,m,wb,BA,I⟩
 ·omega
 simp only[Value.slice.injEq,true_and]at e1
 obtain⟨rfl,rfl⟩:=e1
 have J:dD (some ⟨g,0,none⟩)=g:=rfl
 have K:gB (some ⟨g,0,none⟩)=0:=rfl
 simp only[J,K,ji]at ad S
 have Y:(z.toNat+1)*T.size<=li.length*T.size:=jG _ U
 have aQu:li.length*T.size<=c*T.size:=jG _ m
 have ajC:(z.toNat+1)*T.size=z.toNat*T.size+T.size:=by rw[jj,Nat.one_mul]
 have sv:xs.length=li.length*T.size:=G.1
 have r:(xs.drop (z.toNat*T.size)).take cs0.length=cs0:=ahO λ j u ax=>by have:=S j u ax;have lI:j<cs0.length:=(ba.1 ax).1;rw[World.ownsRow.cellAt G (z.toNat*T.size+j) (by omega)]at this;exact this
 have s:=run_storeCells_at P g (z.toNat*T.size+kk) e vs 0 cur w V (by omega) (λ u hu=>jM.1 h1 u hu)
 simp only[jI]at s
 obtain⟨p,aC⟩:∃p,p=z.toNat*T.size+kk:=⟨_,rfl⟩
 rw[<-aC]at s ad
 have aQn:cur.toList.length=c*T.size:=by simpa using BA
 obtain⟨f,L⟩:∃f,f=xs.take p++vs++xs.drop (p+vs.length):=⟨_,rfl⟩
 have M:f=xs.take (z.toNat*T.size)++lay cs0 kk vs++xs.drop (z.toNat*T.size+T.size):=by
  rw[L,Zs _ _ _ Iv];have N:xs=xs.take (z.toNat*T.size)++(cs0++xs.drop (z.toNat*T.size+T.size)):=by
   conv=>lhs;rw[<-iJ (z.toNat*T.size) xs]
   congr 1;rw[<-iJ cs0.length (xs.drop (z.toNat*T.size)),r,List.drop_drop,n0]
  have B:(xs.take (z.toNat*T.size)).length=z.toNat*T.size:=by rw[fe];omega
  conv=>lhs;rw[N]
  rw[j4,hp (by rw[B];omega),B,List.drop_append,iA (l:=xs.take (z.toNat*T.size)) (by rw[B];omega),B,
   show p-z.toNat*T.size=kk by omega,show p+vs.length-z.toNat*T.size=kk+vs.length by omega,jt (by omega),List.drop_append_of_le_length (by omega)]
  simp
 have O:f.length=li.length*T.size:=by rw[L];simp only[dj,fe,jB];omega
 have p7:(a8.row e T.size (.slice (some ⟨g,0,none⟩) li.length c) (li.set z.toNat d') f).ok (w.setRow g (cur.toList.take p++vs++cur.toList.drop (p+vs.length)).toArray):=by
  show World.ownsRow _ 0 e T.size _ (li.set z.toNat d').length f
  rw[gu];refine⟨O,.inr ⟨g,c,(cur.toList.take p++vs++cur.toList.drop (p+vs.length)).toArray,rfl,fY _,?_,m,wb,?_,?_⟩⟩;simp only[World.setRow,jr,if_true,V];rfl;simp only[List.size_toArray,dj,fe,jB];omega;rw[List.toList_toArray,L,<-I];exact acu (by omega) (by omega)
 have YF:tH P o a w (w.setRow g (cur.toList.take p++vs++cur.toList.drop (p+vs.length)).toArray):=by simp only[tH,execOp,ar,ad,hy];simp only[eY,h]at s⊢;have ev:=af;unfold Value.cells at ev;simp[go_sem,Instr.storeAt,storeVar,aj,ev,h,s]
 have BG:=C.ani (T:=T) (xs:=f) (li:=li.set z.toNat d') (by rw[M];exact abO LZ H U)
 have Z:a_ (Value.slice (some ⟨g,0,none⟩) li.length c).ownBlock.toList w (w.setRow g (cur.toList.take p++vs++cur.toList.drop (p+vs.length)).toArray):=⟨rfl,rfl,rfl,by simp[World.setRow],λ b _ aA=>by simp only[World.setRow,jr];rw[ly (by simpa[Value.ownBlock,eq_comm]using aA)]⟩
 exact kx hw YF aK (k f _ Z (BG.NQ i hi Z p7 (by simp[a8.row,Value.ownBlock]) (λ b ag=>.inl (by simpa[a8.row]using ag))))
theorem aLa{α:Type}{T:dt α}{t e:TypeId}{x y:Operand}{A:Option Addr}{c kk sz:Nat}{li b:List α}{xs cs0 vs:List Value}{z:Int}{h d':α}{v:Value}(i q:Nat)(j:some (li.set z.toNat d')=some b)(m:bu W M0 X w E D)(hi:E[i]? =some (a8.row e T.size (.slice A li.length c) li xs))(p:D[q]? =some (bA.rows T xs li))
 (r:idx li z=some h)(hcs:T.rd (jb (X++bT E) w) w cs0 h)(s:fF w ⟨dD A,gB A+z.toNat*T.size,none⟩ cs0)(u:Region.wanted o (yielded ops a.tmps)=true)
 (B:v.cells=vs.toArray)(aj:∀w,(Go.sizeOf t).run P w= .ok sz w)(C:cx vs.length sz=true)(F:vs.all (·.oneCell')=true)(g:iI (kk+vs.length) cs0.length=true)
 (G:T.rd (jb (X++bT E) w) w (lay cs0 kk vs) d')
 (H:o.op= .store t x y)(ad:a.eval x= .pointer (some ⟨dD A,gB A+z.toNat*T.size+kk,none⟩))(hy:a.eval y=v)(aK:o.dst=none)
 (k:∀f w',li.length=b.length->a_ (Value.slice A li.length c).ownBlock.toList w w'->bu W M0 X w' (E.set i (a8.row e T.size (.slice A li.length c) b f)) (bA.rows T f b::D)->wpList P ops Q rest a w'):wpList P ops Q (o::rest) a w:=by
 obtain rfl:=ee j
 exact aK' i q m hi p r hcs s u B aj C F g G H ad hy aK λ f w'=>k f w' (by rw[gu])
theorem aKH{A:Option Addr}{m c sz:Nat}{t e:TypeId}{lo hi:Option Value}{i j:Int}(f:P.underlying t=some (.slice e))(aj:∀w,(Go.sizeOf e).run P w= .ok sz w)
 (g:(lo=none/\i=0)\/lo=some (.int .i64 i))(k:(hi=none/\j=m)\/hi=some (.int .i64 j))(h:0<=i/\i<=j/\j<=m)(p:m<=c) :
 (Instr.slice t (.slice A m c) lo hi none).run P w= .ok (.slice (if c=i.toNat then A else A.map (·.add (i.toNat*sz))) (j.toNat-i.toNat) (c-i.toNat)) w:=by
 have ag:(Instr.sliceBounds true m c lo hi none).run P w= .ok (i.toNat,j.toNat,c) w:=by have b:∀code,(Instr.sliceBound (.int .i64 j) c code).run P w= .ok j.toNat w:=λ code=>CM rfl (by omega);have q:∀code,(Instr.sliceBound (.int .i64 i) j.toNat code).run P w= .ok i.toNat w:=λ code=>CM rfl (by omega);have r:j=m->∀code,(Instr.sliceBound (.int .i64 i) m code).run P w= .ok i.toNat w:=λ e code=>CM rfl (by omega);rcases g with⟨rfl,rfl⟩|rfl<;>rcases k with⟨rfl,ax⟩|rfl;simp[Instr.sliceBounds,ax];simp[Instr.sliceBounds,b];simp[Instr.sliceBounds,r ax,ax];simp[Instr.sliceBounds,b,q]
 simp[Instr.slice,run_underlying f,ag,aj]
theorem T7{A:Option Addr}{m c sz:Nat}{t e:TypeId}{x:Operand}{lo hi:Option Operand}{i j:Int}(g:P.underlying t=some (.slice e))(aj:∀w,(Go.sizeOf e).run P w= .ok sz w)(k:o.op= .slice t x lo hi none)(ad:a.eval x= .slice A m c)
 (p:(lo=none/\i=0)\/∃z,lo=some z/\a.eval z= .int .i64 i)(q:(hi=none/\j=m)\/∃z,hi=some z/\a.eval z= .int .i64 j)(h:0<=i/\i<=j/\j<=m)(b:m<=c) :
 bc P o a w (.slice (if c=i.toNat then A else A.map (·.add (i.toNat*sz))) (j.toNat-i.toNat) (c-i.toNat)) w:=by
 have r:=aKH (P:=P) (w:=w) (A:=A) (m:=m) (c:=c) (lo:=lo.map a.eval) (hi:=hi.map a.eval) g aj (i:=i) (j:=j)
  (p.imp (λ h=>⟨by rw[h.1];rfl,h.2⟩) (λ⟨z,f,J⟩=>by rw[f,fs,J])) (q.imp (λ h=>⟨by rw[h.1];rfl,h.2⟩) (λ⟨z,f,J⟩=>by rw[f,fs,J])) h b
 simp only[bc,execOp,k,ad,Instr.sliceAt,Sem.run_bind,run_underlying g,Result.andThen_ok,iE,r]
 rfl
theorem Vn{α:Type}{l r:List α}{i j:Int}(h:cut l i j=some r):(0<=i/\i<=j/\j<=l.length)/\r=(l.take j.toNat).drop i.toNat:=by unfold cut at h;split at h;rename_i b;exact⟨b,by simpa using h.symm⟩;cases h
theorem w1{α:Type}{T:dt α}{F:Nat->Prop}{w:World}:∀ {l:List α}{xs:List Value}(i j:Nat),dN T F w xs l->dN T F w ((xs.take (j*T.size)).drop (i*T.size)) ((l.take j).drop i)
 |[],xs,i,j,h=>by
  have h:xs=[]:=h;subst h;have e:(([]:List α).take j).drop i=[]:=by simp
  rw[e];show List.drop _ (k1 _ _)=[]
  simp
 |d::r,xs,i,0,h=>by
  have e:((d::r).take 0).drop i=[]:=by simp
  rw[e];show List.drop _ (k1 _ _)=[]
  simp
 |d::r,xs,0,j+1,h=>by obtain⟨cs,ys,rfl,b,J⟩:=h;have f:=T.len b;have c:=w1 0 j J;simp only[Nat.zero_mul,ei]at c⊢;rw[jH,show(j+1)*T.size=cs.length+j*T.size by rw[jj];omega,j4,hp (by omega),show cs.length+j*T.size-cs.length=j*T.size by omega];exact⟨cs,_,rfl,b,c⟩
 |d::r,xs,i+1,j+1,h=>by
  obtain⟨cs,ys,rfl,b,J⟩:=h;have f:=T.len b;have c:=w1 i j J
  rw[jH,List.drop_succ_cons,show(j+1)*T.size=cs.length+j*T.size by rw[jj];omega,j4,hp (by omega),show cs.length+j*T.size-cs.length=j*T.size by omega,
   show(i+1)*T.size=cs.length+i*T.size by rw[jj];omega,List.drop_append,iA (l:=cs) (by omega),show cs.length+i*T.size-cs.length=i*T.size by omega,ie]
  exact c
end
section
variable{P:Program}{ops:Array Oper}{Q:Exit->Act->World->Prop}{a:Act}{w:World}{rest:List Oper}{o:Oper}{n:cE}{d:Nat}{l:List (Nat×Value)}
 {W:World}{M0 X:List Nat}{E:List a8}{D:List bA}
theorem Fr.nS(e:Fr n l a)(t:Nat){b c:Bool}(g:ey l t=some (.bool b))(ag:b=c):Fr n ((t,.bool c)::l) a:=
 ⟨e.size,e.defers,λ u v h=>by
  simp only[ey]at h;cases f:cx t u with
  |true=>rw[f]at h;simp only[aM]at h;rw[<-bF f,<-h,<-ag];exact e.get t _ g
  |false=>rw[f]at h;exact e.get u v h⟩
theorem K3{w b c:World}(h:a_ [] w b)(h':a_ [] b c):a_ [] w c:=h.trans h' (by simp)
theorem wS{t:TypeId}{cs:List Value}(c:Region.wanted o (yielded ops a.tmps)=true)(hy:bc P o a w (.pointer (some ⟨w.heap.size,0,none⟩)) (w.alloc (.cells cs.toArray t)))(e:Fr n l a)(f:bu W M0 X w E D)
 (aK:o.dst=some d)(h:eN d n=true)(k:∀b g w',a_ [] w w'->Fr n ((d,.pointer (some ⟨g,0,none⟩))::l) b->bu W M0 X w' (a8.cd g t cs::E) D->wpList P ops Q rest b w'):wpList P ops Q (o::rest) a w:=
 gE c hy e aK h λ b i=>k b _ _ (a_.alloc _ _ _) i (f.new t cs)
theorem alv{t:TypeId}{cs:List Value}{m:Nat}(c:Region.wanted o (yielded ops a.tmps)=true)(hy:bc P o a w (.slice (some ⟨w.heap.size,0,none⟩) m m) (w.alloc (.cells cs.toArray t)))(e:Fr n l a)(f:bu W M0 X w E D)
 (aK:o.dst=some d)(h:eN d n=true)(k:∀b g w',a_ [] w w'->Fr n ((d,.slice (some ⟨g,0,none⟩) m m)::l) b->bu W M0 X w' (a8.cd g t cs::E) D->wpList P ops Q rest b w'):wpList P ops Q (o::rest) a w:=
 gE c hy e aK h λ b i=>k b _ _ (a_.alloc _ _ _) i (f.new t cs)
theorem Kc{t e:TypeId}{sz:Nat}(b:P.underlying t=some (.slice e))(aj:∀w,(Go.sizeOf e).run P w= .ok sz w)(c:o.op= .buildSlice t 0 (List.toArray [])) :
 bc P o a w (.slice (some ⟨w.heap.size,0,none⟩) 0 0) (w.alloc (.cells (List.toArray []) e)):=by
 simp only[bc,execOp,c,Instr.buildSlice,Sem.run_bind,Sem.run_pure,aj,Result.andThen_ok,run_underlying b]
 simp[Instr.fill,newRow,go_sem]
theorem av0{S:World->Prop}{f p:Nat}{ds:List Nat}{v:Value}(i:Nat)(hi:ops[i]? =some o)(g:(SX ops ds i&& !cx p i)=true)(r:Region.wanted o (yielded ops a.tmps)=true)(hy:∀w',bc P o a w' v w')(j:S w)
 (s:Fr n l a)(aK:o.dst=some d)(t:eN d n=true)(k:∀m,Fr n ((d,v)::l) m->eB P ops Q p S f (i::ds) m w):eB P ops Q p S (f+1) ds a w:=by
 simp only[ca,gG]at g
 obtain⟨b,q⟩:=g
 have u:p≠i:=λ e=>by rw[e]at q;simp at q
 simp only[SX,ca]at b
 refine⟨λ _=>j,?_⟩
 refine aoK (v:=v) hi (Region.noSelect_spec b.1.1) u (λ c a w h=>h) f _ a w (Region.free_spec hi b.1.2) (λ _=>j) (by simpa using b.2) (.inl ⟨r,λ w _=>hy w⟩) ?_
 rw[aK]
 exact(k _ (s.put t)).2
theorem bu.swap{x y:a8}(h:bu W M0 X w (x::y::E) D):bu W M0 X w (y::x::E) D:=by
 have r:∀k,k∈bT (y::x::E)↔k∈bT (x::y::E):=λ k=>by simp only[bT,hz,cg];exact⟨λ h=>by rcases h with h |h |h<;>simp[h],λ h=>by rcases h with h |h |h<;>simp[h]⟩
 refine⟨h.bU,h.iT,λ k i=>h.lt k ((r k).1 i),λ z f=>h.ok z (by simp only[cG]at f⊢;rcases f with h |h |h<;>simp[h]),?_,λ z f=>z.law _ _ w w (a_.refl _ _) (λ k i=>.inl (by
  rcases cg.1 i with e |e;exact cg.2 (.inl e)
  ·exact cg.2 (.inr ((r k).1 e)))) (h.rd z f)⟩
 have aK:=h.bC;have e1:bT (x::y::E)=x.bD++(y.bD++bT E):=by simp[bT]
 have e2:bT (y::x::E)=y.bD++(x.bD++bT E):=by simp[bT]
 rw[e1,eT,eT]at aK;rw[e2,eT,eT];obtain⟨j,⟨m,p,q⟩,c⟩:=aK;exact⟨m,⟨j,p,λ a g b ag=>c a g b (by simp[ag])⟩,λ a g b ag=>by
  rcases cg.1 ag with e |e;exact λ e3=>c b e a (by simp[g]) e3.symm
  ·exact q a g b e⟩
end
section
variable{P:Program}{o:Oper}{a:Act}{w:World}{xs ys:Array Value}
theorem ag_{d sz:Nat}{f:Go.Field}{l:List Go.Field}{us vs:List Value}{e q:Prop} [Decidable e] [Decidable q](c:(f.name != "_")=true)(g:∀w,(isAgg f.type).run P w= .ok true w)(aj:∀w,(Go.sizeOf f.type).run P w= .ok sz w)
 (ad:xs.extract f.offset (f.offset+sz)=us.toArray)(hy:ys.extract f.offset (f.offset+sz)=vs.toArray)(i:(Op.equalIn (d+1) f.type (.agg us.toArray) (.agg vs.toArray)).run P w= .ok (decide q) w)
 (h:(Op.eqFields (d+1) xs ys l).run P w= .ok (decide e) w):(Op.eqFields (d+1) xs ys (f::l)).run P w= .ok (decide (q/\e)) w:=by
 have j:f.name≠ "_" :=by simpa using c
 simp only[Op.eqFields,j,if_true,ne_eq,not_false_iff,part,Sem.run_bind,g,aj,Result.andThen_ok,ad,hy,Sem.run_pure,i]
 by_cases b:q
 ·simp[b,h]
 ·simp[b]
theorem ag'{d:Nat}{t:TypeId}{cm:Array Go.Field}{q:Prop} [Decidable q](b:P.underlying t=some (.struct cm))(e:P.stoodInHeld t=false)(h:(Op.eqFields d xs ys cm.toList).run P w= .ok (decide q) w):(Op.equalIn (d+1) t (.agg xs) (.agg ys)).run P w= .ok (decide q) w:=by
 have c:P.fieldsOf t=cm:=by simp[Program.fieldsOf,b]
 have h':=run_equalIn_struct (P:=P) w d t xs ys (by rw[c];exact b) e;rw[c,h]at h';exact h'
theorem Bh{d:Nat}{f:Go.Field}{l:List Go.Field}{m n:List UInt8}{e:Prop} [Decidable e](c:(f.name != "_")=true)(g:P.underlying f.type=some .string)(i:∀w,(isAgg f.type).run P w= .ok false w)
 (ad:xs[f.offset]? =some (cu m))(hy:ys[f.offset]? =some (cu n))(h:(Op.eqFields (d+1) xs ys l).run P w= .ok (decide e) w):(Op.eqFields (d+1) xs ys (f::l)).run P w= .ok (decide (m=n/\e)) w:=by
 have j:f.name≠ "_" :=by simpa using c
 have heq:(Op.equalIn (d+1) f.type (cu m) (cu n)).run P w= .ok (decide (m=n)) w:=by simp only[Op.equalIn,Sem.run_bind,run_underlying g,Result.andThen_ok];rw[<-U4 m n];rfl
 simp only[Op.eqFields,j,if_true,ne_eq,not_false_iff,part,Sem.run_bind,i,Result.andThen_ok,ad,hy,gT,if_false,Sem.run_pure,heq]
 by_cases b:m=n
 ·subst b;simp[h]
 ·simp[b]
end
section
variable{P:Program}{ops:Array Oper}{Q:Exit->Act->World->Prop}{a:Act}{w:World}{rest:List Oper}{o:Oper}{n:cE}{d:Nat}{l:List (Nat×Value)}
 {W:World}{M0 X:List Nat}{E:List a8}{D:List bA}
theorem amZ{F:Nat->Prop}{w:World}:∀s:List UInt8,dN S4 F w (s.map λ b=>Value.int .u8 (b.toNat:Int)) s
 |[]=>rfl
 |b::r=>⟨[.int .u8 (b.toNat:Int)],_,rfl,rfl,amZ r⟩
end
section
variable{P:Program}{Q:Exit->Act->World->Prop}{a:Act}{w:World}
theorem Pj{c:Operand}{x y:Code}{t:Bool}{ρ:Type}{p q:Option ρ}{r:ρ}(hc:a.eval c= .bool t)(h:cond t p q=some r)(b:t=true->p=some r->x.wp P Q a w)(d:t=false->q=some r->y.wp P Q a w):(Code.cond c x y).wp P Q a w:=wp_cond_split hc (λ e=>b e (Vj e h)) (λ e=>d e (Vi e h))
end
section
variable{P:Program}{ops:Array Oper}{Q:Exit->Act->World->Prop}{a:Act}{w w0 w':World}{rest:List Oper}{o:Oper}{n:cE}{d:Nat}{l:List (Nat×Value)}
 {W:World}{M0 X:List Nat}{E:List a8}{D:List bA}
theorem aPw{t:TypeId}{x:Operand}{m:Int}(b:o.op= .unOp .neg t x)(ad:a.eval x= .int .i64 m):bc P o a w (.int .i64 (ap (0-m))) w:=by rw[<-zX];simp only[bc,execOp,b,ad];simp[go_sem]
theorem bu.RL(h:bu W M0 X w E D){g:Nat}{t:TypeId}{cs:List Value}{x:a8}(i j:Nat)(hi:E[i]? =some (a8.cd g t cs))(ax:E[j]? =some x)(b:i≠j):g∉x.bD:=λ c=>(V9 h.bC i _ hi).2 j x ax b g (by simp[a8.cd]) c
theorem V5{g:Nat}(h:a_ [] w0 w)(h':a_ [g] w w')(b:w0.heap.size<=g):a_ [] w0 w':=h.trans h' (λ x ad=>.inr (by simp at ad;omega))
theorem PI{M:List Nat}{p:Addr}{cs:List Value}(h:a_ M w w')(b:p.block∉M)(c:p.block<w.heap.size)(hc:fF w p cs):fF w' p cs:=hc.law (h.block p.block c b)
theorem wT{t:TypeId}{cs:List Value}{m:Nat}(c:Region.wanted o (yielded ops a.tmps)=true)(hy:bc P o a w (.slice (some ⟨w.heap.size,0,none⟩) m m) (w.alloc (.cells cs.toArray t)))(e:Fr n l a)(f:bu W M0 X w E D)
 (aK:o.dst=some d)(h:eN d n=true)(k:∀b g w',a_ [] w w'->w.heap.size<=g->Fr n ((d,.slice (some ⟨g,0,none⟩) m m)::l) b->bu W M0 X w' (a8.cd g t cs::E) D->wpList P ops Q rest b w'):wpList P ops Q (o::rest) a w:=
 gE c hy e aK h λ b i=>k b _ _ (a_.alloc _ _ _) (cP _) i (f.new t cs)
end
def sL:List Oper->Bool
 |[]=>true
 |o::r=>(match o.op with
  | .defer _=>false
  |_=>true)&&sL r
theorem RI:∀ {l:List Oper},sL l=true->∀o∈l,∀c,o.op≠ .defer c
 |[],_,o,a,_=>by simp at a
 |p::r,h,o,a,c=>by simp only[sL,ca]at h;rcases cG.1 a with rfl |e;intro e2;rw[e2]at h;exact absurd h.1 (by simp);exact RI h.2 o e c
def Rd(ro:Option Nat):Fence:={ Fence.wide with round:=ro }
theorem abP{ro:Option Nat}{q:Prop}:(Rd ro).depth.isSome=true->q:=λ h=>by simp[Rd,Fence.wide]at h
section
variable{P:Program}{ops:Array Oper}{Q:Exit->Act->World->Prop}{K:Act->World->Prop}{a:Act}{w:World}{o:Oper}{ro:Option Nat}{n:Nat}
theorem aaf(aK:∀c,o.op≠ .defer c)(h:o.wp P a w K Q):o.wpIn (Rd ro) n P a w K Q:=by
 unfold Oper.wpIn;refine⟨λ _ _=>trivial,?_⟩;rw[Oper.semAt_eq _ _ _ aK];unfold Oper.wp at h;generalize(execOp a.eval o).run P w=r at *
 cases r with
 |ok x w'=>
  cases x<;>simp only[Oper.upon,Oper.uponIn]at h⊢ <;>first
   |exact h
   |exact⟨abP,(callsIn_wide (n:=n-1)).2 h⟩
   |exact⟨abP,λ c cs _=>let⟨v,w',r,s⟩:=h c cs;⟨v,w',r,stepsIn_wide.2 s⟩⟩
 |halt x w'=>cases x<;>simp only[Oper.upon,Oper.uponIn]at h⊢ <;>exact h
theorem Q'(b:∀a w,¬Q .outgrown a w):∀ {os:List Oper}{a:Act}{w:World},sL os=true->wpList P ops Q os a w->wpListIn (Rd ro) n P ops Q os a w
 |[],_,_,_,h=>h
 |o::r,a,w,aK,h=>by have c:=aK;simp only[sL,ca]at c;simp only[wpList]at h;simp only[wpListIn];split;rename_i d;rw[lz d]at h;rcases h with h |⟨_,e,w',h⟩;exact aaf (RI aK o (by simp)) (Oper.wp_mono (λ a w h=>Q' b c.2 h) h);exact absurd h (b _ _);rename_i d;rw[ly d]at h;exact⟨λ _ _=>trivial,Q' b c.2 h⟩
theorem aFB(k:Nat){lo:List Oper}(aK:sL (lo.take k)=true)(h:wpList P ops (Exit.then (wpListIn (Rd ro) n P ops Q (lo.drop k)) (λ _ _ _=>False)) (lo.take k) a w):wpListIn (Rd ro) n P ops Q lo a w:=by
 have key:∀(os rest:List Oper)(a:Act)(w:World),sL os=true->wpList P ops (Exit.then (wpListIn (Rd ro) n P ops Q rest) (λ _ _ _=>False)) os a w->wpListIn (Rd ro) n P ops Q (os++rest) a w:=by
  intro os;induction os with
  |nil=>intro rest a w _ h;exact h
  |cons o r f=>
   intro rest a w aK h;have c:=aK;simp only[sL,ca]at c;simp only[wpList]at h;simp only[hX,wpListIn];split
   ·rename_i d;rw[lz d]at h;rcases h with h |⟨_,j,w',h⟩
    ·have g:=aaf (ro:=ro) (n:=n) (RI aK o (by simp)) (Oper.wp_mono (λ a w h=>f rest a w c.2 h) h);refine⟨g.1,?_⟩;have J:=g.2;revert J;generalize(o.semAt (Rd ro).round a.eval).run P w=i;intro J;cases i with
     |ok x w'=>
      cases x<;>simp only[Oper.uponIn]at J⊢ <;>first
       |exact J
       |exact⟨J.1,CallsIn.mono J.2 (λ e w'' b=>by cases e<;>first |exact b |exact absurd b (by simp[Exit.then,LetsOut]))⟩
       |exact⟨J.1,RoundIn.mono J.2 (λ e w'' b=>by cases e<;>first |exact b |exact absurd b (by simp[Exit.then,LetsOut]))⟩
     |halt x w'=>cases x<;>simp only[Oper.uponIn]at J⊢ <;>first |exact J |exact absurd J (by simp[Exit.then])
    ·exact absurd h (by simp[Exit.then])
   ·rename_i d;rw[ly d]at h;exact⟨λ _ _=>trivial,f rest _ _ c.2 h⟩
 have:=key (lo.take k) (lo.drop k) a w aK h;rwa [iJ]at this
theorem aHg(d:∀a w,¬Q .outgrown a w)(aK:sL ops.toList=true){i:Nat}(h:wpOp P ops Q i K a w):wpOpIn (Rd ro) n P ops Q i K a w:=by
 unfold wpOp at h;unfold wpOpIn;split;rename_i e;rw[e]at h;exact h
 ·rename_i o c;rw[c]at h;have f:o∈ops.toList:=by have:=b_ (l:=ops.toList) (i:=i) (a:=o) (by rw[ha];exact c);exact this
  simp only at h;split;rename_i b;rw[lz b]at h;rcases h with h |⟨_,g,w',h⟩;exact aaf (RI aK o f) h;exact absurd h (d _ _);rename_i b;rw[ly b]at h;exact⟨λ _ _=>trivial,h⟩
theorem afo(b:∀a w,¬Q .outgrown a w)(aK:sL ops.toList=true):∀ {f:Nat}{ls:Array Bool}{a:Act}{w:World},wpAny P .any ops Q f ls a w->wpAnyIn (Rd ro) n P .any ops Q f ls a w
 |0,_,_,_,h=>h
 |f+1,ls,a,w,h=>⟨h.1,λ i hi=>aHg b aK (wpOp_mono (λ a w h=>afo b aK h) (h.2 i hi))⟩
end
def ht(ro:Option Nat)(n:Nat)(P:Program)(c:Code)(Q:Exit->Act->World->Prop)(a:Act)(w:World):Prop:=(∀a w,¬Q .outgrown a w)->c.wpIn (Rd ro) n P Q a w
section
variable{P:Program}{Q:Exit->Act->World->Prop}{a:Act}{w:World}{ro:Option Nat}{n:Nat}
theorem Tg(h:Q .normal a w):ht ro n P .skip Q a w:=λ _=>wpIn_skip h
theorem ac4{id:Nat}(h:Q (.exit id) a w):ht ro n P (.exit id) Q a w:=λ _=>wpIn_exit h
theorem pg{x y:Code}(h:∀K:Act->World->Prop,(∀a w,ht ro n P y Q a w->K a w)->ht ro n P x (Exit.then K Q) a w):ht ro n P (.seq x y) Q a w:=λ b=>wpIn_seq (h _ (λ _ _ h=>h b) b)
theorem ac3{c:Operand}{x y:Code}{t:Bool}(hc:a.eval c= .bool t)(d:t=true->ht ro n P x Q a w)(f:t=false->ht ro n P y Q a w):ht ro n P (.cond c x y) Q a w:=λ b=>wpIn_cond_split hc (λ e=>d e b) (λ e=>f e b)
theorem aMi{c:Operand}{x y:Code}{b:Bool}(hc:a.eval c= .bool b)(ag:b=false)(h:ht ro n P y Q a w):ht ro n P (.cond c x y) Q a w:=λ d=>wpIn_cond_false (by rw[hc,ag]) (h d)
theorem ac1{id:Nat}{c:Code}(h:ht ro n P c (Exit.inBlock id Q) a w):ht ro n P (.block id c) Q a w:=λ b=>wpIn_block (h b)
theorem ac2{id:Nat}{c:Code}(b:Act->World->Prop)(ad:∀K:Act->World->Prop,(∀a w,b a w->K a w)->ht ro n P c (Exit.inBlock id (Exit.then K Q)) a w)(hy:∀a w,b a w->Q .normal a w):ht ro n P (.block id c) Q a w:=by
 intro d;refine wpIn_block (wpIn_mono (ad _ hy d) ?_);intro e a w h;cases e with
 |exit i=>by_cases hi:i=id;simpa[Exit.inBlock,Exit.then,hi]using h;simpa[Exit.inBlock,Exit.then,hi]using h
 |_=>exact h
theorem aoQ{c:Code}(b:Nat->Act->World->Prop)(k:Nat)(h:b k a w)(f:∀a w,¬b 0 a w)
 (round:∀k a w,b (k+1) a w->∀K:Act->World->Prop,(∀a w,b k a w->K a w)->ht ro n P c (Exit.then K Q) a w):ht ro n P (.loop c) Q a w:=by
 intro g
 refine wpIn_loop (λ a w=>∃n,b n a w) (λ a w=>leastOf (λ n=>b n a w)) ⟨k,h⟩ ?_
 intro a w i
 have d:=(leastOf_spec i).1
 cases e:leastOf (λ n=>b n a w)with
 |zero=>rw[e]at d;exact absurd d (f a w)
 |succ m=>rw[e]at d;exact round m a w d _ (λ j w' h'=>⟨⟨m,h'⟩,Nat.lt_succ_of_le ((leastOf_spec ⟨m,h'⟩).2 m h')⟩) g
theorem rH{id:Nat}{l:List Oper}(aK:sL l=true)(h:wpList P l.toArray Q l a w):ht ro n P (.region id l.toArray false) Q a w:=λ b=>wpIn_region_lit (Q' b aK h)
theorem aoP{id m:Nat}{lo:List Oper}(p:Nat)(S:World->World->Prop)(c:P.follows .mixedOrders=true)(b:cx lo.length m=true)(aK:sL lo=true)(h:∀w',a_ [] w w'->eB P lo.toArray Q p (S w') m [] a w'):ht ro n P (.region id lo.toArray true) Q a w:=by have b:=bF b;subst b;intro d;exact wpIn_mono (Q:=NoPanic Q) (wpIn_region_any c (afo (Q:=NoPanic Q) (λ a w=>d a w) aK (h _ (a_.drew [] w)).wpAny)) NoPanic.imp
theorem aMj{id:Nat}{l:List Oper}(h:(∀a w,¬Q .outgrown a w)->wpListIn (Rd ro) n P l.toArray Q l a w):ht ro n P (.region id l.toArray false) Q a w:=λ b=>wpIn_region_lit (h b)
end
def a8.obj(g:Nat)(o:Obj):a8 where
 bD:=[g]
 ok w:=w.heap[g]? =some o
 law w w' h a:=(h g (by simp)).trans a
section
variable{W w:World}{M0 X:List Nat}{E:List a8}{D:List bA}
theorem azr(w:World)(g:Nat)(o:Obj):a_ [g] w (w.putObj g o):=⟨rfl,rfl,rfl,by simp,λ k _ a=>World.putObj_heap_other (by simpa using a)⟩
theorem bu.putObj{g:Nat}{o:Obj}(b:bu W M0 X w E D)(i:Nat)(hi:E[i]? =some (a8.obj g o))(a:Obj):bu W M0 X (w.putObj g a) (E.set i (a8.obj g a)) D:=b.NQ i hi (azr w g a) (by have h:w.heap[g]? =some o:=b.e i hi;exact World.putObj_heap_same (fH.1 h).1) (by simp[a8.obj]) (λ k c=>.inl c)
theorem bu.newObj(b:bu W M0 X w E D)(o:Obj):bu W M0 X (w.alloc o) (a8.obj w.heap.size o::E) D:=b.push _ (a_.alloc _ _ _) (World.alloc_heap_new w o) (λ k a=>by simp[a8.obj]at a;subst a;exact⟨cP _,by simp⟩) (by simp[a8.obj])
end
def mark(r:Nat):Deferred:={ target:=.collected r,args:=#[] }
theorem ag6{P:Program}{f:FuncId}{fn:Func}{c:Code}{vs:List Value}{w:World}{R:Ending->World->Prop}{n:Nat}
 (b:P.funcs[f]? =some fn)(ag:fn.body=some c)(d:fn.ntmps=n)(e:iI vs.length n=true)
 (h:∀a,Fr ⟨n,[]⟩ (vS 0 vs) a->c.wp P (bodyPostM Fence.wide 0 P fn R) a w):Calls P f vs.toArray w R:=by
 refine(callsIn_wide (n:=0)).1 (callsIn_of_wp_marks b ag trivial (wpIn_wide.2 ?_))
 rw[d]
 exact h _ (Fr.init vs n e)
section
variable{P:Program}{a:Act}{w:World}{W:World}{M0 X:List Nat}{E:List a8}{D:List bA}{fn:Func}{R:Ending->World->Prop}{l:List (Nat×Value)}{n g t u:Nat}{v fN:Value}
theorem ak0(i:Nat)(c:Fr ⟨n,[mark g]⟩ l a)(b:bu W M0 X w E D)(hi:E[i]? =some (a8.obj g (.deferred (some []))))(h:∀w',bu W M0 X w' (E.set i (a8.obj g (.deferred none))) D->∃v,(results fn a.tmps).run P w'= .ok v w'/\R (.returned v) w') :
 bodyPostM Fence.wide 0 P fn R .ret a w:=by
 show LeavesInM Fence.wide 0 P fn a.tmps R a.defers .returning w
 rw[c.defers]
 exact⟨by simp,.inl ⟨g,_,rfl,run_takeDeferred (b.e i hi),h _ (b.putObj i hi _)⟩⟩
theorem aFS(i:Nat)(c:fn.results= #[.tmp t])(b:Fr ⟨n,[mark g]⟩ l a)(d:bu W M0 X w E D)(hi:E[i]? =some (a8.obj g (.deferred (some []))))(e:ey l t=some v)
 (h:∀w',bu W M0 X w' (E.set i (a8.obj g (.deferred none))) D->R (.returned v) w'):bodyPostM Fence.wide 0 P fn R .ret a w:=
 ak0 i b d hi λ w' f=>⟨_,results_tmp c _ _ _,by rw[b.get _ _ e];exact h w' f⟩
theorem aFT(i:Nat)(c:fn.results= #[.tmp t,.tmp u])(b:Fr ⟨n,[mark g]⟩ l a)(d:bu W M0 X w E D)(hi:E[i]? =some (a8.obj g (.deferred (some []))))(e:ey l t=some v)(f:ey l u=some fN)
 (h:∀w',bu W M0 X w' (E.set i (a8.obj g (.deferred none))) D->R (.returned (.tuple #[v,fN])) w'):bodyPostM Fence.wide 0 P fn R .ret a w:=
 ak0 i b d hi λ w' j=>⟨_,results_tmp2 c _ _ _,by rw[b.get _ _ e,b.get _ _ f];exact h w' j⟩
end
theorem ayI{P:Program}{f:FuncId}{fn:Func}{c:Code}{vs:List Value}{w:World}{R:Ending->World->Prop}{n:Nat}
 (b:P.funcs[f]? =some fn)(ag:fn.body=some c)(d:fn.ntmps=n)(e:iI vs.length n=true)(g:∀w,¬R .outgrown w)
 (h:∀a,Fr ⟨n,[]⟩ (vS 0 vs) a->ht none 1 P c (bodyPost P fn R) a w):CallsIn (Rd none) 1 P f vs.toArray w R:=by
 refine callsIn_of_wp b ag trivial ?_
 rw[d]
 exact h _ (Fr.init vs n e) (λ a w h=>g w h)
theorem av6{P:Program}{fn:Func}{R:Ending->World->Prop}{a:Act}{w:World}(h:bodyPost P fn R .ret a w):bodyPost P fn R .normal a w:=h
theorem aow{n:Nat}(h:n<=maxLen):I.ap ((n:Int)-1)=(n:Int)-1:=by unfold I.ap;simp only[maxLen]at h;omega
theorem aDd{a pre rem:List Int}{x:Int}(h:a=(x::rem).reverse++pre):I.idx a (rem.length:Int)=some x:=by subst h;unfold I.idx;rw[lz (by omega)];simp
def aeX(P:Program)(f:FuncId):Prop:=∀(a:List Int->World->Prop)(b:List Int)(A:Option Addr)(c fU L:Nat)(w0:World),
 (∀rem w,a rem w->∃W M0 X E,bu W M0 X w E [bA.kf fU [.slice A b.length c],bA.of (b2 (dE .i64)) [.slice A b.length c] b]) ->
 (∀x rem w,a (x::rem) w->YieldAt (Rd none) 0 P L #[.int .i64 (rem.length:Int),.int .i64 x] w (λ e w'=>e= .returned (.bool true)/\a rem w')) ->
 a b.reverse w0->CallsIn (Rd none) 1 P f #[.func (.yield L) #[] #[],.pointer (some ⟨fU,0,none⟩)] w0 (λ e w'=>(∃v,e= .returned v)/\a [] w')
section
variable{P:Program}{ops:Array Oper}{Q:Exit->Act->World->Prop}{a:Act}{w:World}{rest:List Oper}{o:Oper}{n:cE}{d L:Nat}{l:List (Nat×Value)}
theorem aKM{b:Operand}{xs:List Operand}{mc:Array TypeId}{vs:List Value}(c:o.op= .call { callee:=.value b,args:=xs.toArray,argTypes:=mc })(e:a.eval b= .func (.yield L) #[] #[])(f:Bk a xs vs) :
 (execOp a.eval o).run P w=(Instr.yield L vs.toArray).run P w:=by
 have g:=PL f
 simp only[execOp,c,resolve,gN,g,e]
 simp[Deferred.ofValue,invoke]
theorem aPD{b:Operand}{xs:List Operand}{mc:Array TypeId}{vs:List Value}{R:Ending->World->Prop}(g:Region.wanted o (yielded ops a.tmps)=true)(c:o.op= .call { callee:=.value b,args:=xs.toArray,argTypes:=mc })
 (h:a.eval b= .func (.yield L) #[] #[])(i:Bk a xs vs)(hy:YieldAt (Rd none) 0 P L vs.toArray w R)(j:Fr n l a)(aK:o.dst=some d)(m:eN d n=true)
 (k:∀e w',R e w'->∃v,e= .returned v/\∀f,Fr n ((d,v)::l) f->wpListIn (Rd none) 1 P ops Q rest f w'):wpListIn (Rd none) 1 P ops Q (o::rest) a w:=by
 refine wpListIn_step λ K p=>?_
 rw[lz g]
 refine⟨λ _ _=>trivial,?_⟩
 obtain⟨fn,tmps,assign,body,q,J⟩:=hy
 rw[Oper.semAt_eq _ _ _ (by rw[c];simp),aKM c h i,q]
 refine⟨abP,RoundIn.mono J ?_⟩
 intro e w' r
 obtain⟨v,rfl,s⟩:=k e w' r
 rw[aK]
 exact p _ _ (s _ (j.put m))
end
section
variable{P:Program}{Q:Exit->Act->World->Prop}{a:Act}{w:World}{W:World}{M0 X:List Nat}{E:List a8}{D:List bA}
theorem afX{β:Type}{q t f j n fU c:Nat}{A:Option Addr}{l:List (Nat×Value)}{l1:Int->Int->List (Nat×Value)}{assign body:Code}(r:β->List a8)(k:β->List bA)(d:List Int->β->Prop)(u:List Int)(b0:β)(bh bs:Nat)
 (wk:aeX P q)(Pv:∀args w,(callFunc q args).run P w= .ok (.enter q args) w)
 (z:Fr ⟨n,[]⟩ l a)(ay:ey l t=some (.func (.func q) #[] #[.pointer (some ⟨fU,0,none⟩)]))(BM:eN f n=true)(wq:eN j n=true)
 (hm:bu W M0 X w (r b0) (k b0))(aH:d u.reverse b0)
 (k4:∀b,(k b)[bh]? =some (bA.kf fU [.slice A u.length c]))(yO:∀b,(k b)[bs]? =some (bA.of (b2 (dE .i64)) [.slice A u.length c] u))
 (ao:∀L i x w m (K:Act->World->Prop),Fr ⟨n,[]⟩ ((j,.int .i64 x)::(f,.int .i64 i)::l) m->(∀s,Fr ⟨n,[]⟩ (l1 i x) s->K s w)->ht (some L) 0 P assign (Exit.then K (λ _ _ _=>False)) m w)
 (ag:∀L g S T U b i x rem w m (K:Exit->Act->World->Prop),d (x::rem) b->Fr ⟨n,[]⟩ (l1 i x) m->bu W M0 X w (a8.obj g S::a8.obj T U::r b) (k b) ->
  (∀B s w',d rem B->bu W M0 X w' (a8.obj g S::a8.obj T U::r B) (k B)->K .normal s w')->ht (some L) 0 P body K m w)
 (H:∀g b m w',d [] b->Fr ⟨n,[mark g]⟩ l m->bu W M0 X w' (a8.obj g (.deferred (some []))::r b) (k b)->Q .normal m w') :
 (Code.rangeFunc (.tmp t) #[f,j] assign body).wp P Q a w:=by
 refine(wpIn_wide (n:=2)).1 (wpIn_rangeFunc λ fn _=>?_)
 obtain⟨rec,o⟩:∃rec:LoopState->Loop,rec=λ hE=>{ state:=hE,pending:=none,fn,tmps:=a.tmps,params:=#[f,j],assign,body,defers:=w.heap.size }:=⟨_,rfl⟩
 obtain⟨p,C⟩:∃p,(w.alloc (.deferred (some []))).alloc (.loop (rec .ready))=p:=⟨_,rfl⟩
 have I:bu W M0 X p (a8.obj (w.heap.size+1) (.loop (rec .ready))::a8.obj w.heap.size (.deferred (some []))::r b0) (k b0):=by have:=(hm.newObj (.deferred (some []))).newObj (.loop (rec .ready));rw[C]at this;simpa using this
 refine⟨w.heap.size+1,[mark w.heap.size],p,{ target:=.fn (.func q) #[.pointer (some ⟨fU,0,none⟩)],args:=#[.func (.yield (w.heap.size+1)) #[] #[]] },p,q,
  #[.func (.yield (w.heap.size+1)) #[] #[],.pointer (some ⟨fU,0,none⟩)],p,?_,?_,λ _ _=>trivial,?_,λ _=>by decide,?_⟩
 ·rw[<-C,o];exact run_enterLoop_outer _ _ _ _ _
 ·have LF:=z.g ay;simp only[resolve,LF];simp[go_sem]
 ·simp[invoke,go_sem,Pv]
 ·refine CallsIn.mono (wk (λ rem w'=>∃b,d rem b/\bu W M0 X w' (a8.obj (w.heap.size+1) (.loop (rec .ready))::a8.obj w.heap.size (.deferred (some []))::r b) (k b)) u A c fU (w.heap.size+1) p ?_ ?_ ⟨b0,aH,I⟩) ?_
  ·rintro rem w' ⟨b,_,G⟩
   exact⟨_,_,_,_,G.less λ y hy=>by
    simp only[cG,hI,or_false]at hy;rcases hy with rfl |rfl;exact b_ (k4 b)
    ·exact b_ (yO b)⟩
  ·rintro x rem w' ⟨b,J,G⟩;have V:w'.heap[w.heap.size+1]? =some (.loop (rec .ready)):=G.e 0 rfl;have hy:=run_yield (P:=P) (args:=#[.int .i64 (rem.length:Int),.int .i64 x]) V (by rw[o];rfl);rw[o]at hy;refine⟨fn,_,assign,body,hy,roundIn_of_wpIn trivial ?_⟩
   have M:Fr ⟨n,[]⟩ ((j,.int .i64 x)::(f,.int .i64 (rem.length:Int))::l) ⟨((#[f,j]:Array Tmp).zip #[Value.int .i64 (rem.length:Int),.int .i64 x]).foldl (λ tmps (x:Tmp×Value)=>tmps.setIfInBounds x.1 x.2) a.tmps,[]⟩:=by
    have Y:=(z.put (v:=.int .i64 (rem.length:Int)) BM).put (v:=.int .i64 x) wq;have e:((#[f,j]:Array Tmp).zip #[Value.int .i64 (rem.length:Int),.int .i64 x]).foldl (λ tmps (x:Tmp×Value)=>tmps.setIfInBounds x.1 x.2) a.tmps=((a.put (some f) (.int .i64 (rem.length:Int))).put (some j) (.int .i64 x)).tmps:=by simp[Act.put]
    refine⟨?_,rfl,?_⟩;simp only[e];exact Y.size;simp only[e];exact Y.get
   refine ao (w.heap.size+1) _ _ w' _ _ M ?_ (λ a w h=>h);intro s N;have BG:=G.putObj 0 rfl (.loop { rec .ready with state:=.busy });refine⟨_,run_beginRound V (by rw[o]),?_⟩;refine ag (w.heap.size+1) _ _ _ _ b _ x rem _ s _ J N BG ?_ (λ a w h=>h);intro B a3 O n3 LV;have R:O.heap[w.heap.size+1]? =some (.loop { rec .ready with state:=.busy }):=LV.e 0 rfl;refine⟨_,_,run_endRound none R,rfl,B,n3,?_⟩;have F:=LV.putObj 0 rfl (.loop (rec .ready));rw[o]at F⊢;exact F
  ·rintro e O ⟨⟨v,rfl⟩,b,J,LV⟩;have R:O.heap[w.heap.size+1]? =some (.loop (rec .ready)):=LV.e 0 rfl;have Z:=run_endLoop (P:=P) R (by rw[o];simp);rw[o]at Z;refine⟨none,_,Z,?_⟩;have F:=LV.putObj 0 rfl (.loop { rec .ready with state:=.exhausted });rw[o]at F;refine H w.heap.size b _ _ J ⟨z.size,?_,z.get⟩ (F.drop (List.sublist_cons_self _ _));show[mark w.heap.size]++a.defers=[mark w.heap.size]
   rw[z.defers];rfl
end
def bA.aLx:bA:=⟨λ _ _=>True,λ _ _ _ _ _ _ _=>trivial⟩
def bA.alS{α:Type}(o:Option α)(f:α->bA):bA:=match o with
 |none=>bA.aLx
 |some x=>f x
section
variable{P:Program}{ops:Array Oper}{Q:Exit->Act->World->Prop}{a:Act}{w:World}{rest:List Oper}{o:Oper}{n:cE}{d:Nat}{l:List (Nat×Value)}
 {W:World}{M0 X:List Nat}{E:List a8}{D:List bA}
theorem bu.none(h:bu W M0 X w E D){α:Type}(f:α->bA):bu W M0 X w E (bA.alS (Option.none:Option α) f::D):=h.more (y:=bA.alS (Option.none:Option α) f) trivial
theorem aPf{t e:TypeId}{sz:Nat}{x:Operand}{lo hi:Option Operand}(b:P.underlying t=some (.slice e))(aj:∀w,(Go.sizeOf e).run P w= .ok sz w)(c:o.op= .slice t x lo hi none)(ad:a.eval x= .slice none 0 0)
 (f:(lo=none/\(0 :Int)=0)\/∃z,lo=some z/\a.eval z= .int .i64 0)(g:(hi=none/\(0 :Int)=(0 :Nat))\/∃z,hi=some z/\a.eval z= .int .i64 0):bc P o a w (.slice none 0 0) w:=by
 have h:=T7 (P:=P) (w:=w) b aj c ad f g (i:=0) (j:=0) ⟨j6 _,j6 _,by omega⟩ (cP 0)
 simpa using h
theorem aPe{t e:TypeId}{A:Option Addr}{m c:Nat}{x:Operand}(b:P.underlying t=some (.slice e))(f:o.op= .call { callee:=.builtin .cap,args:=#[x],argTypes:=#[t] })(ad:a.eval x= .slice A m c):bc P o a w (.int .i64 c) w:=by simp[bc,execOp,f,resolve,invoke,builtin,Builtin.cap_,ad,run_underlying b,goInt]
theorem aPB{t t':TypeId}{x y:Operand}{k:IntKind}{m:Int}{n:Nat}(c:iI n 64=true)(e:o.op= .binOp .shr t x y t')(ad:a.eval x= .int .u64 m)(hy:a.eval y= .int k (n:Int)):bc P o a w (.int .u64 (zO m n)) w:=by have b:=cJ c;unfold zO;simp only[bc,execOp,e,ad,hy];simp[go_sem,b]
end
section
variable{P:Program}{W w w':World}{M0 X:List Nat}{E:List a8}{D:List bA}{n:cE}{l:List (Nat×Value)}{a:Act}{o:Oper}{ops:Array Oper}{rest:List Oper}{Q:Exit->Act->World->Prop}{d:Nat}
theorem aKI{A:Option Addr}{m c sz:Nat}{t e:TypeId}{j:Int}(b:P.underlying t=some (.slice e))(aj:∀w,(Go.sizeOf e).run P w= .ok sz w)(h:0<=j/\j<=c) :
 (Instr.slice t (.slice A m c) none (some (.int .i64 j)) (some (.int .i64 j))).run P w= .ok (.slice (if j.toNat=0 then A else A.map (·.add (0*sz))) j.toNat j.toNat) w:=by
 have f:∀code,(Instr.sliceBound (.int .i64 j) c code).run P w= .ok j.toNat w:=λ code=>CM rfl (by omega)
 have g:∀code,(Instr.sliceBound (.int .i64 j) j.toNat code).run P w= .ok j.toNat w:=λ code=>CM rfl (by omega)
 have ag:(Instr.sliceBounds true m c none (some (.int .i64 j)) (some (.int .i64 j))).run P w= .ok (0,j.toNat,j.toNat) w:=by simp[Instr.sliceBounds,f,g]
 simp[Instr.slice,run_underlying b,ag,aj]
end
end aw
namespace Go.Value
abbrev q{α:Type}(A:Option Addr)(c:Nat)(l:List α):Value:=.slice A l.length c
end Go.Value
namespace aw
open Go Go.RowKit I
abbrev jg:=Option Addr
abbrev qF:=List Value
abbrev rZ:=List Int
theorem wn{ops:Array Oper}{a:Act}{o:Oper}(b:o.guard=none:=by rfl):Region.wanted o (yielded ops a.tmps)=true:=Ta b
section
variable{W w:World}{M0 X:List Nat}{E nO:List a8}{D hs:List bA}{n:cE}{l l' new fr hf:List (Nat×Value)}{a:Act}
theorem Fr.cut(b:Fr n l a)(h:HX l (l'.map (·.1))=some l':=by kernel_rfl):Fr n l' a:=b.sub (Vm h)
def JA(D:List bA):List Nat->Option (List bA)
 |[]=>some []
 |i::r=>match nth D i,JA D r with
  |some y,some ys=>some (y::ys)
  |_,_=>none
theorem anD:∀ {is:List Nat}{hs:List bA},JA D is=some hs->RY D hs
 |[],hs,h=>by simp only[JA,aM]at h;subst h;trivial
 |i::r,hs,h=>by simp only[JA]at h;split at h;rename_i y ys b J;simp only[aM]at h;subst h;exact⟨⟨i,by rw[<-dn];exact b⟩,anD J⟩;cases h
theorem bu.iX(h:bu W M0 X w E D)(is:List Nat)(e:JA D is=some hs:=by kernel_rfl):bu W M0 X w E hs:=h.pick (anD e)
theorem bu.rC(h:bu W M0 X w E D)(ed is:List Nat)(e1:ML ed=true:=by kernel_rfl)(e2:JB E ed=some nO:=by kernel_rfl)(e:JA D is=some hs:=by kernel_rfl):bu W M0 X w nO hs:=(h.sel ed e1 e2).iX is e
theorem oi{α:Type}{a b:α}(h:some a=some b):a=b:=ee h
theorem os{α:Type}{a b:α}(h:some a=some b):b=a:=(ee h).symm
def r8:List (Nat×Value)->List (Nat×Value)->List (Nat×Value)
 |[],r=>r
 |x::l,r=>x::r8 l r
def yy:List (Nat×Value)->Nat->Bool
 |[],_=>false
 |p::r,j=>cx p.1 j||yy r j
def MT:List (Nat×Value)->List (Nat×Value)->List (Nat×Value)
 |_,[]=>[]
 |new,p::r=>match yy new p.1 with
  |true=>MT new r
  |false=>p::MT (p::new) r
def pP(new fr:List (Nat×Value)):List (Nat×Value):=r8 new (MT new fr)
theorem akW{t:Nat}{r:List (Nat×Value)}:∀ {l:List (Nat×Value)},ey (r8 l r) t=cond (yy l t) (ey l t) (ey r t)
 |[]=>by simp[r8,yy]
 |p::l=>by
  simp only[r8,ey,yy];cases cx p.1 t with
  |true=>simp
  |false=>simp only[hK];exact akW
theorem ZA{t:Nat}:∀ {r new:List (Nat×Value)},yy new t=false->ey (MT new r) t=ey r t
 |[],_,_=>rfl
 |p::r,new,h=>by
  simp only[MT,ey];cases ag:cx p.1 t with
  |true=>have:p.1=t:=bF ag;rw[this,h];simp only[ey,this,Nat.beq_refl]
  |false=>
   cases yy new p.1 with
   |true=>simp only;exact ZA h
   |false=>simp only[ey,ag];exact ZA (by simp only[yy,ag,hK];exact h)
theorem Fr.Ps(c:Fr n (pP new fr) a):Fr n (r8 new fr) a:=⟨c.size,c.defers,λ t v b=>c.get t v (by
 unfold pP;rw[akW]at b⊢;cases d:yy new t with
 |true=>rw[d]at b;exact b
 |false=>rw[d]at b;rw[ZA d];exact b)⟩
def PK(G:oH)(ops:Array Oper)(n:Nat)(M:List (Nat×Nat×List Value))(is aj:List Nat)(fr:List (Nat×Value))(fo:List Nat):Option (List (Nat×Value)×List (Nat×Nat)):=
 match Gn ops.toList is with
 |some os=>oQ G ops n M os aj fr fo
 |none=>none
theorem azs{G:oH}{ops:Array Oper}{n:Nat}{M:List (Nat×Nat×List Value)}{is aj:List Nat}{fr:List (Nat×Value)}{fo:List Nat}{r:List (Nat×Value)×List (Nat×Nat)}(h:PK G ops n M is aj fr fo=some r):∃os,Gn ops.toList is=some os/\oQ G ops n M os aj fr fo=some r:=by unfold PK at h;split at h;rename_i os b;exact⟨os,b,h⟩;cases h
end
end aw
namespace I
structure Kind where
 Kind:Int
 al:List UInt8
 deriving DecidableEq
structure Handler where
 From:Int
 To:Int
 At:Int
 al:List UInt8
 deriving DecidableEq
structure Method where
 Name:List UInt8
 Static:Bool
 cD:List Kind
 Returns:Kind
 iO:Int
 iL:Int
 Code:List UInt8
 cL:List Handler
structure Field where
 Name:List UInt8
 Kind:Kind
 deriving DecidableEq
structure al where
 Name:List UInt8
 dg:List UInt8
 Fields:List Field
 bn:List Method
structure Target where
 al:Int
 Method:Int
 deriving DecidableEq
structure aN where
 aV:List al
 aT:List Int
 Fields:List (List Field)
 Names:List (List (List UInt8))
 aU:List (List Target)
structure bt where
 l:List al
 bZ:List ((List UInt8)×Int)
 dC:List Int
structure aP where
 wO:List Int
 ai:Int
 az:Int
 aI:Int
 aD:Int
 aJ:List Int
 Next:Int
structure b4 where
 K:aN
structure bp where
 H:aP
 S:b4
 ai:List Int
 az:List Int
 dO:List (Int×Bool)
open Go
def Gz:aw.dt Kind where
 size:=2
 rd _ _ cs d:=cs=[.int .i64 d.Kind,aw.cu d.al]
 len h:=by subst h;rfl
 one h v a:=by subst h;simp only[cG,hI,or_false]at a;rcases a with rfl |rfl<;>rfl
 law _ h:=h
def Gy:aw.dt Handler where
 size:=4
 rd _ _ cs d:=cs=[.int .i64 d.From,.int .i64 d.To,.int .i64 d.At,aw.cu d.al]
 len h:=by subst h;rfl
 one h v a:=by subst h;simp only[cG,hI,or_false]at a;rcases a with rfl |rfl |rfl |rfl<;>rfl
 law _ h:=h
def sZ:aw.dt Method where
 size:=9
 rd F w cs d:=∃a c1 b c2,cs=[aw.cu d.Name,.bool d.Static,.slice a d.cD.length c1,.int .i64 d.Returns.Kind,aw.cu d.Returns.al,.int .i64 d.iO,.int .i64 d.iL,aw.cu d.Code,.slice b d.cL.length c2]/\(aw.b2 I.Gz).rd F w [.slice a d.cD.length c1] d.cD/\(aw.b2 I.Gy).rd F w [.slice b d.cL.length c2] d.cL
 len h:=by obtain⟨a,c1,b,c2,c,_⟩:=h;subst c;rfl
 one h v e:=by obtain⟨a,c1,b,c2,c,_⟩:=h;subst c;simp only[cG,hI,or_false]at e;rcases e with rfl |rfl |rfl |rfl |rfl |rfl |rfl |rfl |rfl<;>rfl
 law f h:=by obtain⟨a,c1,b,c2,c,g,J⟩:=h;exact⟨a,c1,b,c2,c,(aw.b2 I.Gz).law f g,(aw.b2 I.Gy).law f J⟩
def kz:aw.dt Field where
 size:=3
 rd _ _ cs d:=cs=[aw.cu d.Name,.int .i64 d.Kind.Kind,aw.cu d.Kind.al]
 len h:=by subst h;rfl
 one h v a:=by subst h;simp only[cG,hI,or_false]at a;rcases a with rfl |rfl |rfl<;>rfl
 law _ h:=h
def lU:aw.dt al where
 size:=4
 rd F w cs d:=∃a c1 b c2,cs=[aw.cu d.Name,aw.cu d.dg,.slice a d.Fields.length c1,.slice b d.bn.length c2]/\(aw.b2 I.kz).rd F w [.slice a d.Fields.length c1] d.Fields/\(aw.b2 I.sZ).rd F w [.slice b d.bn.length c2] d.bn
 len h:=by obtain⟨a,c1,b,c2,c,_⟩:=h;subst c;rfl
 one h v e:=by obtain⟨a,c1,b,c2,c,_⟩:=h;subst c;simp only[cG,hI,or_false]at e;rcases e with rfl |rfl |rfl |rfl<;>rfl
 law f h:=by obtain⟨a,c1,b,c2,c,g,J⟩:=h;exact⟨a,c1,b,c2,c,(aw.b2 I.kz).law f g,(aw.b2 I.sZ).law f J⟩
def lV:aw.dt Target where
 size:=2
 rd _ _ cs d:=cs=[.int .i64 d.al,.int .i64 d.Method]
 len h:=by subst h;rfl
 one h v a:=by subst h;simp only[cG,hI,or_false]at a;rcases a with rfl |rfl<;>rfl
 law _ h:=h
def aLF:aw.dt aN where
 size:=5
 rd F w cs d:=∃a c1 b c2 c c3 e c4 f c5,cs=[.slice a d.aV.length c1,.slice b d.aT.length c2,.slice c d.Fields.length c3,.slice e d.Names.length c4,.slice f d.aU.length c5]/\(aw.b2 I.lU).rd F w [.slice a d.aV.length c1] d.aV/\(aw.b2 (aw.dE .i64)).rd F w [.slice b d.aT.length c2] d.aT/\(aw.b2 (aw.b2 I.kz)).rd F w [.slice c d.Fields.length c3] d.Fields/\(aw.b2 (aw.b2 aw.ky)).rd F w [.slice e d.Names.length c4] d.Names/\(aw.b2 (aw.b2 I.lV)).rd F w [.slice f d.aU.length c5] d.aU
 len h:=by obtain⟨a,c1,b,c2,c,c3,e,c4,f,c5,g,_⟩:=h;subst g;rfl
 one h v j:=by obtain⟨a,c1,b,c2,c,c3,e,c4,f,c5,g,_⟩:=h;subst g;simp only[cG,hI,or_false]at j;rcases j with rfl |rfl |rfl |rfl |rfl<;>rfl
 law i h:=by obtain⟨a,c1,b,c2,c,c3,e,c4,f,c5,g,k,J,l,m,n⟩:=h;exact⟨a,c1,b,c2,c,c3,e,c4,f,c5,g,(aw.b2 I.lU).law i k,(aw.b2 (aw.dE .i64)).law i J,(aw.b2 (aw.b2 I.kz)).law i l,(aw.b2 (aw.b2 aw.ky)).law i m,(aw.b2 (aw.b2 I.lV)).law i n⟩
def aLE:aw.dt aP where
 size:=7
 rd F w cs d:=∃a c1 b c2,cs=[.slice a d.wO.length c1,.int .i64 d.ai,.int .i64 d.az,.int .i64 d.aI,.int .i64 d.aD,.slice b d.aJ.length c2,.int .i64 d.Next]/\(aw.b2 (aw.dE .i64)).rd F w [.slice a d.wO.length c1] d.wO/\(aw.b2 (aw.dE .i64)).rd F w [.slice b d.aJ.length c2] d.aJ
 len h:=by obtain⟨a,c1,b,c2,c,_⟩:=h;subst c;rfl
 one h v e:=by obtain⟨a,c1,b,c2,c,_⟩:=h;subst c;simp only[cG,hI,or_false]at e;rcases e with rfl |rfl |rfl |rfl |rfl |rfl |rfl<;>rfl
 law f h:=by obtain⟨a,c1,b,c2,c,g,J⟩:=h;exact⟨a,c1,b,c2,c,(aw.b2 (aw.dE .i64)).law f g,(aw.b2 (aw.dE .i64)).law f J⟩
end I
namespace Go.Value
abbrev dc(g:Nat):Value:=.pointer (some ⟨g,0,none⟩)
abbrev i(n:Int):Value:=.int .i64 n
end Go.Value
namespace Go.Proofs.YteeliipnilghaaaGreat
open Go Go.RowKit
abbrev cj{α:Type}(T:aw.dt α)(A:Option Addr)(c:Nat)(l:List α):aw.bA:=aw.bA.of (aw.b2 T) [.slice A l.length c] l
def tX:aw.oH:=⟨[(3,.i .i64),(4,.b),(5,.i .u8),(9,.s),(22,.cj),(25,.cj),(26,.cj),(27,.cj),(28,.cj),(31,.i .i64),(73,.cj),(119,.cj),(120,.cj),(121,.cj),(124,.cj),(126,.cj),(129,.cj),(132,.cj),(202,.cj),(204,.cj)],[(24,0,0),(24,1,1),(24,2,2),(24,3,3),(24,4,4),(24,5,5),(24,6,6),(30,0,0),(30,1,1),(30,2,2),(30,3,3),(30,4,4),(69,0,0),(72,0,0),(72,1,7),(72,2,12),(72,3,13),(72,4,14),(117,0,0),(117,1,1),(117,2,2),(128,0,0),(128,1,1),(131,0,0),(131,1,1),(131,2,2),(131,3,3),(131,4,5),(131,5,6),(131,6,7),(131,7,8),(134,0,0),(134,1,1),(134,2,2),(134,3,3),(136,0,0),(136,1,1),(157,0,0),(157,1,1),(157,2,2),(157,3,3)],[(3,none),(4,none),(5,none),(9,none),(22,none),(24,some 7),(25,none),(26,none),(27,none),(28,none),(30,some 5),(60,none),(69,some 5),(70,none),(113,none),(115,none),(118,none),(120,none),(121,none),(124,none),(126,none),(128,some 2),(129,none),(131,some 9),(132,none),(134,some 4),(136,some 3),(157,some 4),(166,some 2)]⟩
theorem tY:aw.vz Tryz.prog tX:=⟨⟨Tryz.underlying3,Tryz.underlying4,Tryz.underlying5,Tryz.underlying9,⟨_,Tryz.underlying22⟩,⟨_,Tryz.underlying25⟩,⟨_,Tryz.underlying26⟩,⟨_,Tryz.underlying27⟩,⟨_,Tryz.underlying28⟩,Tryz.underlying31,⟨_,Tryz.underlying73⟩,⟨_,Tryz.underlying119⟩,⟨_,Tryz.underlying120⟩,⟨_,Tryz.underlying121⟩,⟨_,Tryz.underlying124⟩,⟨_,Tryz.underlying126⟩,⟨_,Tryz.underlying129⟩,⟨_,Tryz.underlying132⟩,⟨_,Tryz.underlying202⟩,⟨_,Tryz.underlying204⟩,trivial⟩,⟨aw.e9 Tryz.underlying24 rfl rfl Tryz.sizeOf22 rfl,aw.e9 Tryz.underlying24 rfl rfl Tryz.sizeOf3 rfl,aw.e9 Tryz.underlying24 rfl rfl Tryz.sizeOf3 rfl,aw.e9 Tryz.underlying24 rfl rfl Tryz.sizeOf3 rfl,aw.e9 Tryz.underlying24 rfl rfl Tryz.sizeOf3 rfl,aw.e9 Tryz.underlying24 rfl rfl Tryz.sizeOf22 rfl,aw.e9 Tryz.underlying24 rfl rfl Tryz.sizeOf3 rfl,aw.e9 Tryz.underlying30 rfl rfl Tryz.sizeOf25 rfl,aw.e9 Tryz.underlying30 rfl rfl Tryz.sizeOf22 rfl,aw.e9 Tryz.underlying30 rfl rfl Tryz.sizeOf26 rfl,aw.e9 Tryz.underlying30 rfl rfl Tryz.sizeOf27 rfl,aw.e9 Tryz.underlying30 rfl rfl Tryz.sizeOf28 rfl,aw.e9 Tryz.underlying69 rfl rfl Tryz.sizeOf30 rfl,aw.e9 Tryz.underlying72 rfl rfl Tryz.sizeOf24 rfl,aw.e9 Tryz.underlying72 rfl rfl Tryz.sizeOf69 rfl,aw.e9 Tryz.underlying72 rfl rfl Tryz.sizeOf22 rfl,aw.e9 Tryz.underlying72 rfl rfl Tryz.sizeOf22 rfl,aw.e9 Tryz.underlying72 rfl rfl Tryz.sizeOf70 rfl,aw.e9 Tryz.underlying117 rfl rfl Tryz.sizeOf25 rfl,aw.e9 Tryz.underlying117 rfl rfl Tryz.sizeOf115 rfl,aw.e9 Tryz.underlying117 rfl rfl Tryz.sizeOf22 rfl,aw.e9 Tryz.underlying128 rfl rfl Tryz.sizeOf3 rfl,aw.e9 Tryz.underlying128 rfl rfl Tryz.sizeOf9 rfl,aw.e9 Tryz.underlying131 rfl rfl Tryz.sizeOf9 rfl,aw.e9 Tryz.underlying131 rfl rfl Tryz.sizeOf4 rfl,aw.e9 Tryz.underlying131 rfl rfl Tryz.sizeOf126 rfl,aw.e9 Tryz.underlying131 rfl rfl Tryz.sizeOf128 rfl,aw.e9 Tryz.underlying131 rfl rfl Tryz.sizeOf3 rfl,aw.e9 Tryz.underlying131 rfl rfl Tryz.sizeOf3 rfl,aw.e9 Tryz.underlying131 rfl rfl Tryz.sizeOf9 rfl,aw.e9 Tryz.underlying131 rfl rfl Tryz.sizeOf129 rfl,aw.e9 Tryz.underlying134 rfl rfl Tryz.sizeOf9 rfl,aw.e9 Tryz.underlying134 rfl rfl Tryz.sizeOf9 rfl,aw.e9 Tryz.underlying134 rfl rfl Tryz.sizeOf124 rfl,aw.e9 Tryz.underlying134 rfl rfl Tryz.sizeOf132 rfl,aw.e9 Tryz.underlying136 rfl rfl Tryz.sizeOf9 rfl,aw.e9 Tryz.underlying136 rfl rfl Tryz.sizeOf128 rfl,aw.e9 Tryz.underlying157 rfl rfl Tryz.sizeOf3 rfl,aw.e9 Tryz.underlying157 rfl rfl Tryz.sizeOf3 rfl,aw.e9 Tryz.underlying157 rfl rfl Tryz.sizeOf3 rfl,aw.e9 Tryz.underlying157 rfl rfl Tryz.sizeOf9 rfl,trivial⟩,⟨Tryz.isAgg3,Tryz.isAgg4,Tryz.isAgg5,Tryz.isAgg9,Tryz.isAgg22,⟨Tryz.isAgg24,Tryz.sizeOf24⟩,Tryz.isAgg25,Tryz.isAgg26,Tryz.isAgg27,Tryz.isAgg28,⟨Tryz.isAgg30,Tryz.sizeOf30⟩,Tryz.isAgg60,⟨Tryz.isAgg69,Tryz.sizeOf69⟩,Tryz.isAgg70,Tryz.isAgg113,Tryz.isAgg115,Tryz.isAgg118,Tryz.isAgg120,Tryz.isAgg121,Tryz.isAgg124,Tryz.isAgg126,⟨Tryz.isAgg128,Tryz.sizeOf128⟩,Tryz.isAgg129,⟨Tryz.isAgg131,Tryz.sizeOf131⟩,Tryz.isAgg132,⟨Tryz.isAgg134,Tryz.sizeOf134⟩,⟨Tryz.isAgg136,Tryz.sizeOf136⟩,⟨Tryz.isAgg157,Tryz.sizeOf157⟩,⟨Tryz.isAgg166,Tryz.sizeOf166⟩,trivial⟩⟩
theorem FJ:(Tryz.prog.info? 3).map (λ i=>(i.zero,i.size,i.bytes))=some (some (.int .i64 0),1,8):=by kernel_rfl
theorem YP:(Tryz.prog.info? 9).map (λ i=>(i.zero,i.size,i.bytes))=some (some (aw.cu []),1,16):=by kernel_rfl
theorem aDp:(Tryz.prog.info? 136).map (λ i=>(i.zero,i.size,i.bytes))=some (some (.agg #[aw.cu [],.int .i64 0,aw.cu []]),3,40):=by kernel_rfl
theorem YO:(Tryz.prog.info? 166).map (λ i=>(i.zero,i.size,i.bytes))=some (some (.agg #[.int .i64 0,.int .i64 0]),2,16):=by kernel_rfl
theorem aHB:∀w,(aw.placesOf Tryz.prog 166).run Tryz.prog w= .ok #[(0,1),(1,1)] w:=λ w=>by kernel_rfl
theorem ayU{o:Oper}{a:Act}{w:World}{t':TypeId}{x y:Operand}{X Y:I.Kind}(b:o.op= .binOp .eql 128 x y t')(ad:a.eval x= .agg #[.int .i64 X.Kind,aw.cu X.al])(hy:a.eval y= .agg #[.int .i64 Y.Kind,aw.cu Y.al]):aw.bc Tryz.prog o a w (.bool (decide (X=Y))) w:=by
 have aK:decide (X=Y)=decide (X.Kind=Y.Kind/\X.al=Y.al/\True):=by rcases X with⟨_,_⟩;rcases Y with⟨_,_⟩;simp
 rw[aK];exact aw.T8 Tryz.underlying128 (by kernel_rfl) (by kernel_rfl) (aw.pR rfl Tryz.underlying3 Tryz.isAgg3 rfl rfl (aw.Bh rfl Tryz.underlying9 Tryz.isAgg9 rfl rfl (by simp[aw.vT]))) b ad hy
theorem ayY{o:Oper}{a:Act}{w:World}{t':TypeId}{x y:Operand}{X Y:I.Kind}(b:o.op= .binOp .neq 128 x y t')(ad:a.eval x= .agg #[.int .i64 X.Kind,aw.cu X.al])(hy:a.eval y= .agg #[.int .i64 Y.Kind,aw.cu Y.al]):aw.bc Tryz.prog o a w (.bool (!decide (X=Y))) w:=by
 have aK:decide (X=Y)=decide (X.Kind=Y.Kind/\X.al=Y.al/\True):=by rcases X with⟨_,_⟩;rcases Y with⟨_,_⟩;simp
 rw[aK];exact aw.T_ Tryz.underlying128 (by kernel_rfl) (by kernel_rfl) (aw.pR rfl Tryz.underlying3 Tryz.isAgg3 rfl rfl (aw.Bh rfl Tryz.underlying9 Tryz.isAgg9 rfl rfl (by simp[aw.vT]))) b ad hy
theorem ayS{o:Oper}{a:Act}{w:World}{t':TypeId}{x y:Operand}{X Y:I.Field}(b:o.op= .binOp .eql 136 x y t')(ad:a.eval x= .agg #[aw.cu X.Name,.int .i64 X.Kind.Kind,aw.cu X.Kind.al])(hy:a.eval y= .agg #[aw.cu Y.Name,.int .i64 Y.Kind.Kind,aw.cu Y.Kind.al]):aw.bc Tryz.prog o a w (.bool (decide (X=Y))) w:=by
 have aK:decide (X=Y)=decide (X.Name=Y.Name/\(X.Kind.Kind=Y.Kind.Kind/\X.Kind.al=Y.Kind.al/\True)/\True):=by rcases X with⟨_,⟨_,_⟩⟩;rcases Y with⟨_,⟨_,_⟩⟩;simp
 rw[aK];exact aw.T8 Tryz.underlying136 (by kernel_rfl) (by kernel_rfl) (aw.Bh rfl Tryz.underlying9 Tryz.isAgg9 rfl rfl (aw.ag_ (us:=[.int .i64 X.Kind.Kind,aw.cu X.Kind.al]) (vs:=[.int .i64 Y.Kind.Kind,aw.cu Y.Kind.al]) (q:=X.Kind.Kind=Y.Kind.Kind/\X.Kind.al=Y.Kind.al/\True) rfl Tryz.isAgg128 Tryz.sizeOf128 rfl rfl (aw.ag' Tryz.underlying128 (by kernel_rfl) (aw.pR rfl Tryz.underlying3 Tryz.isAgg3 rfl rfl (aw.Bh rfl Tryz.underlying9 Tryz.isAgg9 rfl rfl (by simp[aw.vT])))) (by simp[aw.vT]))) b ad hy
theorem ayW{o:Oper}{a:Act}{w:World}{t':TypeId}{x y:Operand}{X Y:I.Field}(b:o.op= .binOp .neq 136 x y t')(ad:a.eval x= .agg #[aw.cu X.Name,.int .i64 X.Kind.Kind,aw.cu X.Kind.al])(hy:a.eval y= .agg #[aw.cu Y.Name,.int .i64 Y.Kind.Kind,aw.cu Y.Kind.al]):aw.bc Tryz.prog o a w (.bool (!decide (X=Y))) w:=by
 have aK:decide (X=Y)=decide (X.Name=Y.Name/\(X.Kind.Kind=Y.Kind.Kind/\X.Kind.al=Y.Kind.al/\True)/\True):=by rcases X with⟨_,⟨_,_⟩⟩;rcases Y with⟨_,⟨_,_⟩⟩;simp
 rw[aK];exact aw.T_ Tryz.underlying136 (by kernel_rfl) (by kernel_rfl) (aw.Bh rfl Tryz.underlying9 Tryz.isAgg9 rfl rfl (aw.ag_ (us:=[.int .i64 X.Kind.Kind,aw.cu X.Kind.al]) (vs:=[.int .i64 Y.Kind.Kind,aw.cu Y.Kind.al]) (q:=X.Kind.Kind=Y.Kind.Kind/\X.Kind.al=Y.Kind.al/\True) rfl Tryz.isAgg128 Tryz.sizeOf128 rfl rfl (aw.ag' Tryz.underlying128 (by kernel_rfl) (aw.pR rfl Tryz.underlying3 Tryz.isAgg3 rfl rfl (aw.Bh rfl Tryz.underlying9 Tryz.isAgg9 rfl rfl (by simp[aw.vT])))) (by simp[aw.vT]))) b ad hy
theorem ayT{o:Oper}{a:Act}{w:World}{t':TypeId}{x y:Operand}{X Y:I.Handler}(b:o.op= .binOp .eql 157 x y t')(ad:a.eval x= .agg #[.int .i64 X.From,.int .i64 X.To,.int .i64 X.At,aw.cu X.al])(hy:a.eval y= .agg #[.int .i64 Y.From,.int .i64 Y.To,.int .i64 Y.At,aw.cu Y.al]):aw.bc Tryz.prog o a w (.bool (decide (X=Y))) w:=by
 have aK:decide (X=Y)=decide (X.From=Y.From/\X.To=Y.To/\X.At=Y.At/\X.al=Y.al/\True):=by rcases X with⟨_,_,_,_⟩;rcases Y with⟨_,_,_,_⟩;simp
 rw[aK];exact aw.T8 Tryz.underlying157 (by kernel_rfl) (by kernel_rfl) (aw.pR rfl Tryz.underlying3 Tryz.isAgg3 rfl rfl (aw.pR rfl Tryz.underlying3 Tryz.isAgg3 rfl rfl (aw.pR rfl Tryz.underlying3 Tryz.isAgg3 rfl rfl (aw.Bh rfl Tryz.underlying9 Tryz.isAgg9 rfl rfl (by simp[aw.vT]))))) b ad hy
theorem ayX{o:Oper}{a:Act}{w:World}{t':TypeId}{x y:Operand}{X Y:I.Handler}(b:o.op= .binOp .neq 157 x y t')(ad:a.eval x= .agg #[.int .i64 X.From,.int .i64 X.To,.int .i64 X.At,aw.cu X.al])(hy:a.eval y= .agg #[.int .i64 Y.From,.int .i64 Y.To,.int .i64 Y.At,aw.cu Y.al]):aw.bc Tryz.prog o a w (.bool (!decide (X=Y))) w:=by
 have aK:decide (X=Y)=decide (X.From=Y.From/\X.To=Y.To/\X.At=Y.At/\X.al=Y.al/\True):=by rcases X with⟨_,_,_,_⟩;rcases Y with⟨_,_,_,_⟩;simp
 rw[aK];exact aw.T_ Tryz.underlying157 (by kernel_rfl) (by kernel_rfl) (aw.pR rfl Tryz.underlying3 Tryz.isAgg3 rfl rfl (aw.pR rfl Tryz.underlying3 Tryz.isAgg3 rfl rfl (aw.pR rfl Tryz.underlying3 Tryz.isAgg3 rfl rfl (aw.Bh rfl Tryz.underlying9 Tryz.isAgg9 rfl rfl (by simp[aw.vT]))))) b ad hy
theorem ayV{o:Oper}{a:Act}{w:World}{t':TypeId}{x y:Operand}{X Y:I.Target}(b:o.op= .binOp .eql 166 x y t')(ad:a.eval x= .agg #[.int .i64 X.al,.int .i64 X.Method])(hy:a.eval y= .agg #[.int .i64 Y.al,.int .i64 Y.Method]):aw.bc Tryz.prog o a w (.bool (decide (X=Y))) w:=by
 have aK:decide (X=Y)=decide (X.al=Y.al/\X.Method=Y.Method/\True):=by rcases X with⟨_,_⟩;rcases Y with⟨_,_⟩;simp
 rw[aK];exact aw.T8 Tryz.underlying166 (by kernel_rfl) (by kernel_rfl) (aw.pR rfl Tryz.underlying3 Tryz.isAgg3 rfl rfl (aw.pR rfl Tryz.underlying3 Tryz.isAgg3 rfl rfl (by simp[aw.vT]))) b ad hy
theorem ayZ{o:Oper}{a:Act}{w:World}{t':TypeId}{x y:Operand}{X Y:I.Target}(b:o.op= .binOp .neq 166 x y t')(ad:a.eval x= .agg #[.int .i64 X.al,.int .i64 X.Method])(hy:a.eval y= .agg #[.int .i64 Y.al,.int .i64 Y.Method]):aw.bc Tryz.prog o a w (.bool (!decide (X=Y))) w:=by
 have aK:decide (X=Y)=decide (X.al=Y.al/\X.Method=Y.Method/\True):=by rcases X with⟨_,_⟩;rcases Y with⟨_,_⟩;simp
 rw[aK];exact aw.T_ Tryz.underlying166 (by kernel_rfl) (by kernel_rfl) (aw.pR rfl Tryz.underlying3 Tryz.isAgg3 rfl rfl (aw.pR rfl Tryz.underlying3 Tryz.isAgg3 rfl rfl (by simp[aw.vT]))) b ad hy
section
open aw
variable{n:cE}{fr:List (Nat×Value)}{w:World}{a:Act}
theorem aIa(k:Nat)(aj:List Nat){ops:Array Oper}{C:World->Prop}{b:Act->Prop}{rest:List Oper}{M:List (Nat×Nat×List Value)}(fr':List (Nat×Value))(L:List Nat)(d:∀w,C w->k9 w M)(e:Fr n fr a)
 (next:∀c,Fr n fr' c->wpQuiet Tryz.prog ops C b (rest.drop k) c)(f:oQ tX ops n M (rest.take k) aj fr (fr'.map (·.1))=some (fr',dup L):=by kernel_rfl):wpQuiet Tryz.prog ops C b rest a:=aH' k _ aj tY d e f next
theorem rg(aj:List Nat){id:Nat}{lo:List Oper}{Q:Exit->Act->World->Prop}{M:List (Nat×Nat×List Value)}(fr':List (Nat×Value))(L:List Nat)(c:k9 w M)(d:Fr n fr a)
 (next:∀b,Fr n fr' b->Q .normal b w)(e:oQ tX lo.toArray n M lo aj fr (fr'.map (·.1))=some (fr',dup L):=by kernel_rfl):(Code.region id lo.toArray false).wp Tryz.prog Q a w:=by
 refine mY (hS lo.length _ aj tY c d (by rw[iH];exact e) λ b f=>?_)
 rw[gF]
 exact next b f
theorem NH(aj:List Nat){id:Nat}{lo:List Oper}{c:Code}{Q:Exit->Act->World->Prop}(fr':List (Nat×Value))(d:Fr n fr a)
 (next:∀b,Fr n fr' b->c.wp Tryz.prog Q b w)(e:oQ tX lo.toArray n [] lo aj fr (fr'.map (·.1))=some (fr',dup []):=by kernel_rfl):(Code.seq (.region id lo.toArray false) c).wp Tryz.prog Q a w:=wp_seq_k λ _ f=>rg aj fr' [] fp d (λ b g=>f _ _ (next b g)) e
theorem mZ(k:Nat)(aj:List Nat){ops:Array Oper}{Q:Exit->Act->World->Prop}{rest:List Oper}(c:List (Nat×Value))(d:Fr n fr a)
 (next:∀b,Fr n (r8 c fr) b->wpList Tryz.prog ops Q (rest.drop k) b w)(e:oQ tX ops n [] (rest.take k) aj fr ((pP c fr).map (·.1))=some (pP c fr,dup []):=by kernel_rfl):wpList Tryz.prog ops Q rest a w:=hS k _ aj tY fp d e λ b h=>next b h.Ps
theorem qQ(k:Nat)(aj:List Nat){ops:Array Oper}{Q:Exit->Act->World->Prop}{rest:List Oper}{M:List (Nat×Nat×List Value)}(c:List (Nat×Value))(L:List Nat)(d:k9 w M)(e:Fr n fr a)
 (next:∀b,Fr n (r8 c fr) b->wpList Tryz.prog ops Q (rest.drop k) b w)(f:oQ tX ops n M (rest.take k) aj fr ((pP c fr).map (·.1))=some (pP c fr,dup L):=by kernel_rfl):wpList Tryz.prog ops Q rest a w:=hS k _ aj tY d e f λ b h=>next b h.Ps
theorem agq(aj:List Nat){id:Nat}{lo:List Oper}{Q:Exit->Act->World->Prop}{M:List (Nat×Nat×List Value)}(c:List (Nat×Value))(L:List Nat)(d:k9 w M)(e:Fr n fr a)
 (next:∀b,Fr n (r8 c fr) b->Q .normal b w)(f:oQ tX lo.toArray n M lo aj fr ((pP c fr).map (·.1))=some (pP c fr,dup L):=by kernel_rfl):(Code.region id lo.toArray false).wp Tryz.prog Q a w:=rg aj _ L d e (λ b h=>next b h.Ps) f
theorem agr(aj:List Nat){id:Nat}{lo:List Oper}{Q:Exit->Act->World->Prop}(b:List (Nat×Value))(d:Fr n fr a)
 (next:∀c,Fr n (r8 b fr) c->Q .normal c w)(e:oQ tX lo.toArray n [] lo aj fr ((pP b fr).map (·.1))=some (pP b fr,dup []):=by kernel_rfl):(Code.region id lo.toArray false).wp Tryz.prog Q a w:=agq aj b [] fp d next e
theorem sg(aj:List Nat){id:Nat}{lo:List Oper}{c:Code}{Q:Exit->Act->World->Prop}(b:List (Nat×Value))(e:Fr n fr a)
 (next:∀d,Fr n (r8 b fr) d->c.wp Tryz.prog Q d w)(f:oQ tX lo.toArray n [] lo aj fr ((pP b fr).map (·.1))=some (pP b fr,dup []):=by kernel_rfl):(Code.seq (.region id lo.toArray false) c).wp Tryz.prog Q a w:=wp_seq_k λ _ g=>agq aj b [] fp e (λ d h=>g _ _ (next d h)) f
variable{ops:Array Oper}{Q:Exit->Act->World->Prop}{S:World->Prop}{f p:Nat}{ds:List Nat}{M:List (Nat×Nat×List Value)}
theorem a0(is:List Nat)(k:Nat)(aj:List Nat)(fr':List (Nat×Value))(L:List Nat)(c:∀w,S w->k9 w M)(d:Fr n fr a)(e:S w)(next:∀b,Fr n fr' b->eB Tryz.prog ops Q p S f (Nk is ds) b w)
 (g:cx is.length k=true:=by kernel_rfl)(h:(dT ops.size ds).getD p false=false:=by kernel_rfl)(i:JG ops p ds is=true:=by kernel_rfl)(j:PK tX ops n M is aj fr (fr'.map (·.1))=some (fr',dup L):=by kernel_rfl):eB Tryz.prog ops Q p S (f+k) ds a w:=by
 obtain⟨os,l,J⟩:=azs j
 exact av1 is k _ aj tY c d g h l i J e next
theorem dM(is:List Nat)(k:Nat)(aj:List Nat)(c:List (Nat×Value))(L:List Nat)(d:∀w,S w->k9 w M)(e:Fr n fr a)(g:S w)(next:∀b,Fr n (r8 c fr) b->eB Tryz.prog ops Q p S f (Nk is ds) b w)
 (i:cx is.length k=true:=by kernel_rfl)(j:(dT ops.size ds).getD p false=false:=by kernel_rfl)(l:JG ops p ds is=true:=by kernel_rfl)(m:PK tX ops n M is aj fr ((pP c fr).map (·.1))=some (pP c fr,dup L):=by kernel_rfl):eB Tryz.prog ops Q p S (f+k) ds a w:=
 a0 is k aj _ L d e g (λ b h=>next b h.Ps) i j l m
end
theorem pK:Tryz.prog.cellsOf 3=1:=by kernel_rfl
theorem axf:Tryz.prog.cellsOf 4=1:=by kernel_rfl
theorem Bb:Tryz.prog.cellsOf 9=1:=by kernel_rfl
theorem Vk:Tryz.prog.cellsOf 22=1:=by kernel_rfl
theorem aw':Tryz.prog.cellsOf 24=7:=by kernel_rfl
theorem axa:Tryz.prog.cellsOf 25=1:=by kernel_rfl
theorem axb:Tryz.prog.cellsOf 26=1:=by kernel_rfl
theorem axc:Tryz.prog.cellsOf 27=1:=by kernel_rfl
theorem axd:Tryz.prog.cellsOf 28=1:=by kernel_rfl
theorem axe:Tryz.prog.cellsOf 30=5:=by kernel_rfl
theorem aw6:Tryz.prog.cellsOf 120=1:=by kernel_rfl
theorem aw7:Tryz.prog.cellsOf 121=1:=by kernel_rfl
theorem aga:Tryz.prog.cellsOf 124=1:=by kernel_rfl
theorem aw8:Tryz.prog.cellsOf 126=1:=by kernel_rfl
theorem Po:Tryz.prog.cellsOf 128=2:=by kernel_rfl
theorem aw9:Tryz.prog.cellsOf 129=1:=by kernel_rfl
theorem agb:Tryz.prog.cellsOf 131=9:=by kernel_rfl
theorem aw_:Tryz.prog.cellsOf 132=1:=by kernel_rfl
theorem agc:Tryz.prog.cellsOf 134=4:=by kernel_rfl
theorem agd:Tryz.prog.cellsOf 136=3:=by kernel_rfl
theorem age:Tryz.prog.cellsOf 157=4:=by kernel_rfl
theorem agf:Tryz.prog.cellsOf 166=2:=by kernel_rfl
theorem awo:Tryz.prog.bytesOf 3=8:=by kernel_rfl
theorem awp:Tryz.prog.bytesOf 9=16:=by kernel_rfl
theorem awf:Tryz.prog.bytesOf 120=24:=by kernel_rfl
theorem awg:Tryz.prog.bytesOf 121=24:=by kernel_rfl
theorem awh:Tryz.prog.bytesOf 124=24:=by kernel_rfl
theorem awi:Tryz.prog.bytesOf 128=24:=by kernel_rfl
theorem awj:Tryz.prog.bytesOf 131=128:=by kernel_rfl
theorem awk:Tryz.prog.bytesOf 134=80:=by kernel_rfl
theorem awl:Tryz.prog.bytesOf 136=40:=by kernel_rfl
theorem awm:Tryz.prog.bytesOf 157=40:=by kernel_rfl
theorem awn:Tryz.prog.bytesOf 166=16:=by kernel_rfl
theorem akM{l:List Value}(h:l.length=2):∃a0 a,l=[a0,a]:=match l,h with|[a0,a],_=>⟨a0,a,rfl⟩
theorem aFt{l:List Value}(h:l.length=3):∃a0 a b,l=[a0,a,b]:=match l,h with|[a0,a,b],_=>⟨a0,a,b,rfl⟩
theorem akN{l:List Value}(h:l.length=4):∃a0 a b a3,l=[a0,a,b,a3]:=match l,h with|[a0,a,b,a3],_=>⟨a0,a,b,a3,rfl⟩
theorem aFu{l:List Value}(h:l.length=5):∃a0 a b a3 a4,l=[a0,a,b,a3,a4]:=match l,h with|[a0,a,b,a3,a4],_=>⟨a0,a,b,a3,a4,rfl⟩
theorem aFv{l:List Value}(h:l.length=7):∃a0 a b a3 a4 a5 c,l=[a0,a,b,a3,a4,a5,c]:=match l,h with|[a0,a,b,a3,a4,a5,c],_=>⟨a0,a,b,a3,a4,a5,c,rfl⟩
theorem aFw{l:List Value}(h:l.length=9):∃a0 a b a3 a4 a5 c d e,l=[a0,a,b,a3,a4,a5,c,d,e]:=match l,h with|[a0,a,b,a3,a4,a5,c,d,e],_=>⟨a0,a,b,a3,a4,a5,c,d,e,rfl⟩
section
variable{H:Type}{enc:TypeId×Value->H}{N:Nat}
theorem Sj:aw.iM Tryz.prog enc N 22 (aw.b2 (aw.dE .i64)) (λ l=>l.length*8<=N/\∀a∈l,aw.jK a):=by have h:=aw.uU (enc:=enc) (N:=N) Tryz.underlying22 pK (by decide) (aw.ql Tryz.underlying3);rw[awo]at h;exact h
def afd(N:Nat)(d:I.aP):Prop:=(d.wO.length*8<=N/\∀a∈d.wO,aw.jK a)/\aw.jK d.ai/\aw.jK d.az/\aw.jK d.aI/\aw.jK d.aD/\(d.aJ.length*8<=N/\∀a∈d.aJ,aw.jK a)/\aw.jK d.Next
theorem aJV:aw.iM Tryz.prog enc N 24 I.aLE (afd N):=by intro W n cs x h k l;obtain⟨gY,b,a⟩:=aw.qR Tryz.underlying24 h k l;replace b:=b.trans aw';obtain⟨a0,c,d,a3,a4,a5,e,rfl⟩:=aFv b;obtain⟨G',m,o,w0⟩:=aw.gg a 0 rfl rfl rfl Vk (r:=[a0]) rfl;obtain⟨p,i,q⟩:=(Sj) W _ _ _ m o w0;obtain⟨s,e0,b8⟩:=aw.pb i;obtain rfl:a0=_:=(eO b8).1;obtain⟨cC,t,u,v⟩:=aw.gg a 1 rfl rfl rfl pK (r:=[c]) rfl;obtain⟨w,y,z⟩:=(aw.ql Tryz.underlying3) W _ _ _ t u v;have e1:[c]=_:=y;obtain rfl:c=_:=(eO e1).1;obtain⟨kN,J,A,B⟩:=aw.gg a 2 rfl rfl rfl pK (r:=[d]) rfl;obtain⟨C,D,E⟩:=(aw.ql Tryz.underlying3) W _ _ _ J A B;have e2:[d]=_:=D;obtain rfl:d=_:=(eO e2).1;obtain⟨rS,F,G,K⟩:=aw.gg a 3 rfl rfl rfl pK (r:=[a3]) rfl;obtain⟨L,gD,M⟩:=(aw.ql Tryz.underlying3) W _ _ _ F G K;have e3:[a3]=_:=gD;obtain rfl:a3=_:=(eO e3).1;obtain⟨Kb,O,P,Q⟩:=aw.gg a 4 rfl rfl rfl pK (r:=[a4]) rfl;obtain⟨R,mA,S⟩:=(aw.ql Tryz.underlying3) W _ _ _ O P Q;have e4:[a4]=_:=mA;obtain rfl:a4=_:=(eO e4).1;obtain⟨T,U,V,X⟩:=aw.gg a 5 rfl rfl rfl Vk (r:=[a5]) rfl;obtain⟨Y,j,Z⟩:=(Sj) W _ _ _ U V X;obtain⟨Aq,c5,e5⟩:=aw.pb j;obtain rfl:a5=_:=(eO e5).1;obtain⟨aO9,eV,zF,f⟩:=aw.gg a 6 rfl rfl rfl pK (r:=[e]) rfl;obtain⟨d6,g,BU⟩:=(aw.ql Tryz.underlying3) W _ _ _ eV zF f;have e6:[e]=_:=g;obtain rfl:e=_:=(eO e6).1;exact⟨⟨p,w,C,L,R,Y,d6⟩,⟨s,e0,Aq,c5,rfl,i,j⟩,⟨q,z,E,M,S,Z,BU⟩⟩
def Kr(N:Nat)(d:I.Kind):Prop:=aw.jK d.Kind/\d.al.length<=N
theorem abT:aw.iM Tryz.prog enc N 128 I.Gz (Kr N):=by intro W n cs x h d e;obtain⟨t,a,c⟩:=aw.qR Tryz.underlying128 h d e;replace a:=a.trans Po;obtain⟨a0,b,rfl⟩:=akM a;obtain⟨u,f,g,w0⟩:=aw.gg c 0 rfl rfl rfl pK (r:=[a0]) rfl;obtain⟨i,j,k⟩:=(aw.ql Tryz.underlying3) W _ _ _ f g w0;have b8:[a0]=_:=j;obtain rfl:a0=_:=(eO b8).1;obtain⟨v,l,m,o⟩:=aw.gg c 1 rfl rfl rfl Bb (r:=[b]) rfl;obtain⟨p,q,s⟩:=(aw.CK Tryz.underlying9) W _ _ _ l m o;have e1:[b]=_:=q;obtain rfl:b=_:=(eO e1).1;exact⟨⟨i,p⟩,rfl,⟨k,s⟩⟩
def Kq(N:Nat)(d:I.Field):Prop:=d.Name.length<=N/\Kr N d.Kind
theorem aJT:aw.iM Tryz.prog enc N 136 I.kz (Kq N):=by intro W n cs x h e f;obtain⟨u,a,b⟩:=aw.qR Tryz.underlying136 h e f;replace a:=a.trans agd;obtain⟨a0,c,d,rfl⟩:=aFt a;obtain⟨v,g,i,w0⟩:=aw.gg b 0 rfl rfl rfl Bb (r:=[a0]) rfl;obtain⟨j,k,l⟩:=(aw.CK Tryz.underlying9) W _ _ _ g i w0;have b8:[a0]=_:=k;obtain rfl:a0=_:=(eO b8).1;obtain⟨w,m,o,p⟩:=aw.gg b 1 rfl rfl rfl Po (r:=[c,d]) rfl;obtain⟨q,s,t⟩:=abT W _ _ _ m o p;have e1:[c,d]=_:=s;simp only[hq,and_true]at e1;obtain⟨rfl,rfl⟩:=e1;exact⟨⟨j,q⟩,rfl,⟨l,t⟩⟩
theorem am2:aw.iM Tryz.prog enc N 124 (aw.b2 I.kz) (λ l=>l.length*40<=N/\∀a∈l,Kq N a):=by have h:=aw.uU (enc:=enc) (N:=N) Tryz.underlying124 agd (by decide) aJT;rw[awl]at h;exact h
theorem aJ2:aw.iM Tryz.prog enc N 126 (aw.b2 I.Gz) (λ l=>l.length*24<=N/\∀a∈l,Kr N a):=by have h:=aw.uU (enc:=enc) (N:=N) Tryz.underlying126 Po (by decide) abT;rw[awi]at h;exact h
def UN(N:Nat)(d:I.Handler):Prop:=aw.jK d.From/\aw.jK d.To/\aw.jK d.At/\d.al.length<=N
theorem aJU:aw.iM Tryz.prog enc N 157 I.Gy (UN N):=by intro W n cs x h e f;obtain⟨F,b,a⟩:=aw.qR Tryz.underlying157 h e f;replace b:=b.trans age;obtain⟨a0,c,d,a3,rfl⟩:=akN b;obtain⟨G,g,i,w0⟩:=aw.gg a 0 rfl rfl rfl pK (r:=[a0]) rfl;obtain⟨j,k,l⟩:=(aw.ql Tryz.underlying3) W _ _ _ g i w0;have b8:[a0]=_:=k;obtain rfl:a0=_:=(eO b8).1;obtain⟨K,m,o,p⟩:=aw.gg a 1 rfl rfl rfl pK (r:=[c]) rfl;obtain⟨q,s,t⟩:=(aw.ql Tryz.underlying3) W _ _ _ m o p;have e1:[c]=_:=s;obtain rfl:c=_:=(eO e1).1;obtain⟨L,J,u,v⟩:=aw.gg a 2 rfl rfl rfl pK (r:=[d]) rfl;obtain⟨w,y,z⟩:=(aw.ql Tryz.underlying3) W _ _ _ J u v;have e2:[d]=_:=y;obtain rfl:d=_:=(eO e2).1;obtain⟨M,A,B,C⟩:=aw.gg a 3 rfl rfl rfl Bb (r:=[a3]) rfl;obtain⟨D,gD,E⟩:=(aw.CK Tryz.underlying9) W _ _ _ A B C;have e3:[a3]=_:=gD;obtain rfl:a3=_:=(eO e3).1;exact⟨⟨j,q,w,D⟩,rfl,⟨l,t,z,E⟩⟩
theorem aJ3:aw.iM Tryz.prog enc N 129 (aw.b2 I.Gy) (λ l=>l.length*40<=N/\∀a∈l,UN N a):=by have h:=aw.uU (enc:=enc) (N:=N) Tryz.underlying129 age (by decide) aJU;rw[awm]at h;exact h
def OY(N:Nat)(d:I.Method):Prop:=d.Name.length<=N/\True/\(d.cD.length*24<=N/\∀a∈d.cD,Kr N a)/\Kr N d.Returns/\aw.jK d.iO/\aw.jK d.iL/\d.Code.length<=N/\(d.cL.length*40<=N/\∀a∈d.cL,UN N a)
theorem aJX:aw.iM Tryz.prog enc N 131 I.sZ (OY N):=by intro W n cs x h s t;obtain⟨gY,c,a⟩:=aw.qR Tryz.underlying131 h s t;replace c:=c.trans agb;obtain⟨a0,d,o,a3,a4,a5,e,f,p,rfl⟩:=aFw c;obtain⟨G',u,v,w0⟩:=aw.gg a 0 rfl rfl rfl Bb (r:=[a0]) rfl;obtain⟨w,y,z⟩:=(aw.CK Tryz.underlying9) W _ _ _ u v w0;have b8:[a0]=_:=y;obtain rfl:a0=_:=(eO b8).1;obtain⟨cC,A,B,C⟩:=aw.gg a 1 rfl rfl rfl axf (r:=[d]) rfl;obtain⟨D,E,F⟩:=(aw.aJZ Tryz.underlying4) W _ _ _ A B C;have e1:[d]=_:=E;obtain rfl:d=_:=(eO e1).1;obtain⟨kN,J,G,K⟩:=aw.gg a 2 rfl rfl rfl aw8 (r:=[o]) rfl;obtain⟨L,q,M⟩:=(aJ2) W _ _ _ J G K;obtain⟨O,c2,e2⟩:=aw.pb q;obtain rfl:o=_:=(eO e2).1;obtain⟨rS,P,Q,R⟩:=aw.gg a 3 rfl rfl rfl Po (r:=[a3,a4]) rfl;obtain⟨S,gD,T⟩:=abT W _ _ _ P Q R;have e3:[a3,a4]=_:=gD;simp only[hq,and_true]at e3;obtain⟨rfl,rfl⟩:=e3;obtain⟨Kb,U,V,X⟩:=aw.gg a 4 rfl rfl rfl pK (r:=[a5]) rfl;obtain⟨Y,mA,Z⟩:=(aw.ql Tryz.underlying3) W _ _ _ U V X;have e4:[a5]=_:=mA;obtain rfl:a5=_:=(eO e4).1;obtain⟨aO8,c6,uR,zW⟩:=aw.gg a 5 rfl rfl rfl pK (r:=[e]) rfl;obtain⟨d5,sR,q9⟩:=(aw.ql Tryz.underlying3) W _ _ _ c6 uR zW;have e5:[e]=_:=sR;obtain rfl:e=_:=(eO e5).1;obtain⟨aO9,eV,zF,g⟩:=aw.gg a 6 rfl rfl rfl Bb (r:=[f]) rfl;obtain⟨d6,i,BU⟩:=(aw.CK Tryz.underlying9) W _ _ _ eV zF g;have e6:[f]=_:=i;obtain rfl:f=_:=(eO e6).1;obtain⟨aRk,iv,CB,j⟩:=aw.gg a 7 rfl rfl rfl aw9 (r:=[p]) rfl;obtain⟨d7,b,k⟩:=(aJ3) W _ _ _ iv CB j;obtain⟨l,m,e7⟩:=aw.pb b;obtain rfl:p=_:=(eO e7).1;exact⟨⟨w,D,L,S,Y,d5,d6,d7⟩,⟨O,c2,l,m,rfl,q,b⟩,⟨z,F,M,T,Z,q9,BU,k⟩⟩
theorem aJ4:aw.iM Tryz.prog enc N 132 (aw.b2 I.sZ) (λ l=>l.length*128<=N/\∀a∈l,OY N a):=by have h:=aw.uU (enc:=enc) (N:=N) Tryz.underlying132 agb (by decide) aJX;rw[awj]at h;exact h
def Kp(N:Nat)(d:I.al):Prop:=d.Name.length<=N/\d.dg.length<=N/\(d.Fields.length*40<=N/\∀a∈d.Fields,Kq N a)/\(d.bn.length*128<=N/\∀a∈d.bn,OY N a)
theorem aJS:aw.iM Tryz.prog enc N 134 I.lU (Kp N):=by intro W n cs x h f g;obtain⟨K,b,a⟩:=aw.qR Tryz.underlying134 h f g;replace b:=b.trans agc;obtain⟨a0,c,d,a3,rfl⟩:=akN b;obtain⟨L,i,j,w0⟩:=aw.gg a 0 rfl rfl rfl Bb (r:=[a0]) rfl;obtain⟨k,l,m⟩:=(aw.CK Tryz.underlying9) W _ _ _ i j w0;have b8:[a0]=_:=l;obtain rfl:a0=_:=(eO b8).1;obtain⟨M,o,p,q⟩:=aw.gg a 1 rfl rfl rfl Bb (r:=[c]) rfl;obtain⟨s,t,u⟩:=(aw.CK Tryz.underlying9) W _ _ _ o p q;have e1:[c]=_:=t;obtain rfl:c=_:=(eO e1).1;obtain⟨O,J,v,w⟩:=aw.gg a 2 rfl rfl rfl aga (r:=[d]) rfl;obtain⟨y,e,z⟩:=(am2) W _ _ _ J v w;obtain⟨A,c2,e2⟩:=aw.pb e;obtain rfl:d=_:=(eO e2).1;obtain⟨P,B,C,D⟩:=aw.gg a 3 rfl rfl rfl aw_ (r:=[a3]) rfl;obtain⟨E,gD,F⟩:=(aJ4) W _ _ _ B C D;obtain⟨G,c3,e3⟩:=aw.pb gD;obtain rfl:a3=_:=(eO e3).1;exact⟨⟨k,s,y,E⟩,⟨A,c2,G,c3,rfl,e,gD⟩,⟨m,u,z,F⟩⟩
theorem aJ5:aw.iM Tryz.prog enc N 25 (aw.b2 I.lU) (λ l=>l.length*80<=N/\∀a∈l,Kp N a):=by have h:=aw.uU (enc:=enc) (N:=N) Tryz.underlying25 agc (by decide) aJS;rw[awk]at h;exact h
theorem aJ6:aw.iM Tryz.prog enc N 26 (aw.b2 (aw.b2 I.kz)) (λ l=>l.length*24<=N/\∀a∈l,(a.length*40<=N/\∀b∈a,Kq N b)):=by have h:=aw.uU (enc:=enc) (N:=N) Tryz.underlying26 aga (by decide) (am2);rw[awh]at h;exact h
theorem aJ0:aw.iM Tryz.prog enc N 120 (aw.b2 aw.ky) (λ l=>l.length*16<=N/\∀a∈l,a.length<=N):=by have h:=aw.uU (enc:=enc) (N:=N) Tryz.underlying120 Bb (by decide) (aw.CK Tryz.underlying9);rw[awp]at h;exact h
theorem aJ7:aw.iM Tryz.prog enc N 27 (aw.b2 (aw.b2 aw.ky)) (λ l=>l.length*24<=N/\∀a∈l,(a.length*16<=N/\∀b∈a,b.length<=N)):=by have h:=aw.uU (enc:=enc) (N:=N) Tryz.underlying27 aw6 (by decide) (aJ0);rw[awf]at h;exact h
def OZ(N:Nat)(d:I.Target):Prop:=aw.jK d.al/\aw.jK d.Method
theorem aJY:aw.iM Tryz.prog enc N 166 I.lV (OZ N):=by intro W n cs x h d e;obtain⟨t,a,c⟩:=aw.qR Tryz.underlying166 h d e;replace a:=a.trans agf;obtain⟨a0,b,rfl⟩:=akM a;obtain⟨u,f,g,w0⟩:=aw.gg c 0 rfl rfl rfl pK (r:=[a0]) rfl;obtain⟨i,j,k⟩:=(aw.ql Tryz.underlying3) W _ _ _ f g w0;have b8:[a0]=_:=j;obtain rfl:a0=_:=(eO b8).1;obtain⟨v,l,m,o⟩:=aw.gg c 1 rfl rfl rfl pK (r:=[b]) rfl;obtain⟨p,q,s⟩:=(aw.ql Tryz.underlying3) W _ _ _ l m o;have e1:[b]=_:=q;obtain rfl:b=_:=(eO e1).1;exact⟨⟨i,p⟩,rfl,⟨k,s⟩⟩
theorem aJ1:aw.iM Tryz.prog enc N 121 (aw.b2 I.lV) (λ l=>l.length*16<=N/\∀a∈l,OZ N a):=by have h:=aw.uU (enc:=enc) (N:=N) Tryz.underlying121 agf (by decide) aJY;rw[awn]at h;exact h
theorem aJ8:aw.iM Tryz.prog enc N 28 (aw.b2 (aw.b2 I.lV)) (λ l=>l.length*24<=N/\∀a∈l,(a.length*16<=N/\∀b∈a,OZ N b)):=by have h:=aw.uU (enc:=enc) (N:=N) Tryz.underlying28 aw7 (by decide) (aJ1);rw[awg]at h;exact h
def OX(N:Nat)(d:I.aN):Prop:=(d.aV.length*80<=N/\∀a∈d.aV,Kp N a)/\(d.aT.length*8<=N/\∀a∈d.aT,aw.jK a)/\(d.Fields.length*24<=N/\∀a∈d.Fields,(a.length*40<=N/\∀b∈a,Kq N b))/\(d.Names.length*24<=N/\∀a∈d.Names,(a.length*16<=N/\∀b∈a,b.length<=N))/\(d.aU.length*24<=N/\∀a∈d.aU,(a.length*16<=N/\∀b∈a,OZ N b))
theorem aJW:aw.iM Tryz.prog enc N 30 I.aLF (OX N):=by intro W n cs x h i j;obtain⟨T,b,a⟩:=aw.qR Tryz.underlying30 h i j;replace b:=b.trans axe;obtain⟨a0,c,d,a3,a4,rfl⟩:=aFu b;obtain⟨U,k,l,w0⟩:=aw.gg a 0 rfl rfl rfl axa (r:=[a0]) rfl;obtain⟨m,e,o⟩:=(aJ5) W _ _ _ k l w0;obtain⟨p,e0,b8⟩:=aw.pb e;obtain rfl:a0=_:=(eO b8).1;obtain⟨V,q,s,t⟩:=aw.gg a 1 rfl rfl rfl Vk (r:=[c]) rfl;obtain⟨u,f,v⟩:=(Sj) W _ _ _ q s t;obtain⟨w,c1,e1⟩:=aw.pb f;obtain rfl:c=_:=(eO e1).1;obtain⟨X,J,y,z⟩:=aw.gg a 2 rfl rfl rfl axb (r:=[d]) rfl;obtain⟨A,g,B⟩:=(aJ6) W _ _ _ J y z;obtain⟨C,c2,e2⟩:=aw.pb g;obtain rfl:d=_:=(eO e2).1;obtain⟨Y,D,E,F⟩:=aw.gg a 3 rfl rfl rfl axc (r:=[a3]) rfl;obtain⟨G,gD,K⟩:=(aJ7) W _ _ _ D E F;obtain⟨L,c3,e3⟩:=aw.pb gD;obtain rfl:a3=_:=(eO e3).1;obtain⟨Z,M,O,P⟩:=aw.gg a 4 rfl rfl rfl axd (r:=[a4]) rfl;obtain⟨Q,mA,R⟩:=(aJ8) W _ _ _ M O P;obtain⟨S,c4,e4⟩:=aw.pb mA;obtain rfl:a4=_:=(eO e4).1;exact⟨⟨m,u,A,G,Q⟩,⟨p,e0,w,c1,C,c2,L,c3,S,c4,rfl,e,f,g,gD,mA⟩,⟨o,v,B,K,R⟩⟩
end
end Go.Proofs.YteeliipnilghaaaGreat
