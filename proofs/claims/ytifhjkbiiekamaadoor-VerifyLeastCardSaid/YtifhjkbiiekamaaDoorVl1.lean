/- Part 1 of the proof that is ended in the last text: small logic, what the functions compute, walks, plain laws. -/
import Derived.WalkKit
import Derived.Deep.LoopGhost
import Derived.Deep.Quiet
import Derived.Maps.AppendAt
import Derived.KernelRfl
import Derived.Deep.RegionHeld3
import Derived.Laws.StructEq
import Derived.Carry
import Derived.ChangeSame
import Derived.OpenShut
import Derived.Deep.Slices
import Derived.Deep.Fields
import Derived.ChangeMaps5
import Derived.Lib.LaidTab
import Derived.OrdersHeld
import Derived.MapKept
import Derived.Laws.OwnMore
import Derived.Laws.IdiomStrings
import Derived.RangeFuncRecord
import Derived.RangeFuncSeq
import Derived.RangeFuncIn
import Derived.RangeFuncLeaves
import Derived.OrdersIn
import Derived.TacticsIn
import Derived.Deep.OwnRows
import Derived.Lib.AppendZeros
import Derived.ArgAppend
import Derived.Test.YtifhjkbiiekamaaDoorChecked
open Array renaming getD_eq_getD_getElem?->dP,getElem?_eq_getElem->iy,getElem?_eq_none->hI,getElem?_eq_some_iff->eL,getElem?_modify->j1,getElem?_setIfInBounds->eb,getElem?_toList->g0,setIfInBounds_comm->iv
open Bool renaming and_eq_true->bL,eq_false_iff->hA,eq_iff_iff->iN,false_eq_true->ie,not_eq_true'->gI,or_eq_false_iff->kc,or_eq_true->hZ
open Int renaming eq_ofNat_of_zero_le->jI,le_refl->lb
open List renaming all_eq_true->jK,append_assoc->iV,append_nil->iW,cons.inj->gW,cons.injEq->hN,cons_append->iO,drop_of_length_le->ig,drop_zero->kl,eq_nil_of_length_eq_zero->g_,ext_getElem?->jF,flatMap_cons->iw,getElem?_append->lx,getElem?_append_right->eX,getElem?_cons_zero->dX,getElem?_drop->ja,getElem?_eq_getElem->bu,getElem?_eq_none->gV,getElem?_eq_some_iff->bb,getElem?_map->j4,getElem?_take->hG,length_append->fD,length_cons->df,length_drop->kf,length_map->iY,length_range->jD,length_set->lI,length_take->gf,map_cons->fA,map_nil->ib,map_toArray->gu,mem_append->de,mem_append_left->lz,mem_append_right->lu,mem_cons->dc,mem_cons_of_mem->fg,mem_cons_self->kL,mem_flatMap->hn,mem_iff_getElem->je,mem_map->jP,mem_of_getElem?->cU,nil_append->lO,nodup_append->ft,nodup_cons->jr,not_mem_nil->hx,pairwise_iff_getElem->jq,range->fC,replicate->gl,set_getElem_self->lv,take_append->ke,take_append_drop->iM,take_length->kg,take_of_length_le->hM,take_succ_cons->jf
open Nat renaming add_assoc->jg,add_mul->iU,beq->bT,ble->hX,blt->eM,decEq->kO,eq_of_beq_eq_true->aZ,le_mul_of_pos_right->k1,le_of_ble_eq_true->bW,le_refl->da,le_trans->fo,lt_of_lt_of_le->dY,lt_or_ge->gE,lt_succ_self->ky,min_eq_left->lB,mul_le_mul_right->jd,zero_add->jw,zero_le->hh
open Option renaming bind_some->ae,map_none->iu,map_some->fU,some.inj->eR,some.injEq->aK
open Prod renaming mk.injEq->cY
noncomputable section
theorem lP{p : Prop} [Decidable p](h : p) : decide p=true:=_root_.decide_eq_true h
theorem lQ{p : Prop} [Decidable p](h : ¬p) : decide p=false:=_root_.decide_eq_false h
theorem lW{c : Prop}{_ : Decidable c}(h : ¬c){α : Sort _}{t e : α} : ite c t e=e:=_root_.if_neg h
theorem lX{c : Prop}{_ : Decidable c}(h : c){α : Sort _}{t e : α} : ite c t e=t:=_root_.if_pos h
theorem lY{α : Sort _}(a b : α) : cond true a b=a:=rfl
theorem l0{α : Sort _}(a b : α) : cond false a b=b:=rfl
namespace ad
def bj(n:Int):Int:=(n+9223372036854775808)%18446744073709551616-9223372036854775808
def alx(n:Int):Int:=n%18446744073709551616
def Lr(a b:Int):Int:=bj ((BitVec.ofInt 64 a|||BitVec.ofInt 64 b).toNat:Int)
def Gz(a b:Int):Int:=bj ((BitVec.ofInt 64 a&&&BitVec.ofInt 64 b).toNat:Int)
def Ff(a:Int)(n:Nat):Int:=bj (a*2^n)
def Fg(a:Int)(n:Nat):Int:=a / 2^n
def wg(n:Int):UInt8:=UInt8.ofNat (n%256).toNat
def idx{α:Type}(l:List α)(i:Int):Option α:=if 0<=i then l[i.toNat]? else none
def AH(b:Bool):Option Unit:=if b then some ()else none
def b2{α:Type}(bytes:Nat)(l m:List α):Option (List α):=if(l.length+m.length)*bytes<=140737488355328 then some (l++m)else none
def bytesOf(s:List UInt8):Option (List UInt8):=if s.length<=140737488355328 then some s else none
def KQ{α:Type}(z:α)(bytes:Nat)(n:Int):Option (List α):=if 0<=n/\bytes*n.toNat<=140737488355328 then some (gl n.toNat z)else none
def GA{α:Type}(z:α)(bytes:Nat)(n:Int):Option (List α):=if 0<n/\bytes*n.toNat<=140737488355328 then some (gl n.toNat z)else none
def cut{α:Type}(l:List α)(i j:Int):Option (List α):=if 0<=i/\i<=j/\j<=l.length then some ((l.take j.toNat).drop i.toNat)else none
theorem GQ{α:Type}{b:Bool}{x y:Option α}{r:α}(ag:b=true)(h:cond b x y=some r):x=some r:=by subst ag;exact h
theorem GO{α:Type}{b:Bool}{x y:Option α}{r:α}(ag:b=false)(h:cond b x y=some r):y=some r:=by subst ag;exact h
theorem fF{α β:Type}{o:Option α}{f:α->Option β}{r:β}(h:o.bind f=some r):∃x,o=some x/\f x=some r:=by
 cases o with
 |none=>cases h
 |some x=>exact⟨x,rfl,h⟩
theorem hY{α:Type}{l:List α}{i:Int}{d:α}(h:idx l i=some d):0<=i/\i.toNat<l.length/\l[i.toNat]? =some d:=by unfold idx at h;split at h;rename_i a;exact⟨a,(bb.1 h).1,h⟩;cases h
theorem Cx{α:Type}{bytes:Nat}{l m r:List α}(h:b2 bytes l m=some r):(l.length+m.length)*bytes<=140737488355328/\r=l++m:=by unfold b2 at h;split at h;rename_i a;exact⟨a,by simpa using h.symm⟩;cases h
theorem ahs{α:Type}{z:α}{bytes:Nat}{n:Int}{r:List α}(h:KQ z bytes n=some r):0<=n/\bytes*n.toNat<=140737488355328/\r=gl n.toNat z:=by unfold KQ at h;split at h;rename_i a;exact⟨a.1,a.2,by simpa using h.symm⟩;cases h
theorem YP{α:Type}{z:α}{bytes:Nat}{n:Int}{r:List α}(h:GA z bytes n=some r):0<n/\bytes*n.toNat<=140737488355328/\r=gl n.toNat z:=by unfold GA at h;split at h;rename_i a;exact⟨a.1,a.2,by simpa using h.symm⟩;cases h
theorem Lc{b:Bool}{u:Unit}(h:AH b=some u):b=true:=by unfold AH at h;split at h;assumption;cases h
theorem YS(n:Int):((wg n).toNat:Int)=n%256:=by unfold wg;have a:0<=n%256:=Int.emod_nonneg _ (by omega);have I:n%256<256:=Int.emod_lt_of_pos _ (by omega);simp only[UInt8.toNat_ofNat'];omega
def join{b6 α:Type}(k:b6)(b:b6->Option α):Option α:=b k
section
variable{b6 β:Type} [DecidableEq b6]
def eU:List (b6×β)->b6->Option β
 |[],_=>none
 |p::r,k=>if p.1=k then some p.2 else eU r k
def k0:List (b6×β)->b6->β->List (b6×β)
 |[],k,v=>[(k,v)]
 |p::r,k,v=>if p.1=k then(k,v)::r else p::k0 r k v
def lM:List (b6×β)->b6->Option Nat
 |[],_=>none
 |p::r,k=>if p.1=k then some 0 else(lM r k).map (·+1)
end
inductive Way (ρ α:Type)
 |go (a:α)
 |out (r:ρ)
def cT{ρ α:Type}(x:Option (Way ρ α))(k:α->Option ρ):Option ρ:=match x with
 |none=>none
 |some (.go a)=>k a
 |some (.out r)=>some r
def dj{ρ α β:Type}(x:Option (Way ρ α))(k:α->Option (Way ρ β)):Option (Way ρ β):=match x with
 |none=>none
 |some (.go a)=>k a
 |some (.out r)=>some (.out r)
def Pl{ρ α:Type}(k:α->Option ρ):Way ρ α->Option ρ
 | .go a=>k a
 | .out r=>some r
theorem akB{ρ α:Type}{x:Option (Way ρ α)}{k:α->Option ρ}{r:ρ}(h:cT x k=some r):∃y,x=some y/\Pl k y=some r:=by
 cases x with
 |none=>cases h
 |some y=>cases y<;>exact⟨_,rfl,h⟩
@[simp] theorem xN {ρ α:Type} (a:α) (k:α->Option ρ):cT (some (.go a)) k=k a:=rfl
@[simp] theorem aoj {ρ α:Type} (r:ρ) (k:α->Option ρ):cT (some (.out r)) k=some r:=rfl
@[simp] theorem k6 {ρ α β:Type} (a:α) (k:α->Option (Way ρ β)):dj (some (.go a)) k=k a:=rfl
@[simp] theorem aoi {ρ α β:Type} (r:ρ) (k:α->Option (Way ρ β)):dj (some (.out r)) k=some (.out r):=rfl
end ad
namespace aA
open Go Go.RowKit
def dp:List (Nat×Value)->Nat->Option Value
 |[],_=>none
 |p::r,t=>match bT p.1 t with
  |true=>some p.2
  |false=>dp r t
structure b' where
 n:Nat
 ds:List Deferred
instance:Coe b' Nat:=⟨b'.n⟩
structure Fr (n:b') (l:List (Nat×Value)) (a:Act):Prop where
 size:a.tmps.size=n.n
 defers:a.defers=n.ds
 get:∀t v,dp l t=some v->a.tmps.getD t undef=v
theorem Fr.g{n:b'}{l:List (Nat×Value)}{a:Act}{t:Nat}{v:Value}(b:Fr n l a)(h:dp l t=some v):a.eval (.tmp t)=v:=b.get t v h
theorem Fr.put{n:b'}{d:Nat}{l:List (Nat×Value)}{a:Act}{v:Value}(b:Fr n l a)(aE:eM d n=true):Fr n ((d,v)::l) (a.put (some d) v):=by
 have c:d<n:=bW aE;refine⟨by simpa[Act.put]using b.size,b.defers,λ t u h=>?_⟩;have f:=b.size;simp only[dp]at h;cases ag:bT d t with
 |true=>rw[ag]at h;simp only[aK]at h;have e:d=t:=aZ ag;subst e;subst h;simp[Act.put,f,c]
 |false=>
  rw[ag]at h;have e:d≠t:=by intro e;subst e;simp at ag
  have:=b.get t u h;simp only[Act.put,dP]at this⊢;rw[eb,lW e];exact this
def Bs(l:List (Nat×Value)):List (Nat×Value)->Prop
 |[]=>True
 |p::r=>dp l p.1=some p.2/\Bs l r
theorem agY{l l':List (Nat×Value)}(h:Bs l l'):∀t v,dp l' t=some v->dp l t=some v:=by
 induction l' with
 |nil=>intro t v a;simp[dp]at a
 |cons p r b=>
  intro t v a;simp only[dp]at a;cases ag:bT p.1 t with
  |true=>rw[ag]at a;have e:p.1=t:=aZ ag;simp only[aK]at a;rw[<-e,<-a];exact h.1
  |false=>rw[ag]at a;exact b h.2 t v a
theorem Fr.sub{n:b'}{l l':List (Nat×Value)}{a:Act}(b:Fr n l a)(h:Bs l l'):Fr n l' a:=⟨b.size,b.defers,λ t v c=>b.get t v (agY h t v c)⟩
def mi:Nat->List Value->List (Nat×Value)
 |_,[]=>[]
 |k,v::r=>(k,v)::mi (k+1) r
theorem agX(vs:List Value):∀k t v,dp (mi k vs) t=some v->k<=t/\vs[t-k]? =some v:=by
 induction vs with
 |nil=>intro k t v h;simp[mi,dp]at h
 |cons u r a=>
  intro k t v h;simp only[mi,dp]at h;cases ag:bT k t with
  |true=>rw[ag]at h;have e:k=t:=aZ ag;subst e;simpa using h
  |false=>
   rw[ag]at h;have e:k≠t:=by intro e;subst e;simp at ag
   obtain⟨I,J⟩:=a (k+1) t v h;refine⟨by omega,?_⟩;have:t-k=(t- (k+1))+1:=by omega
   rw[this];simpa using J
theorem Fr.init(vs:List Value)(n:Nat)(h:hX vs.length n=true):Fr ⟨n,[]⟩ (mi 0 vs) { tmps:=vs.toArray++Array.replicate (n-vs.toArray.size) undef,defers:=[] }:=by
 have c:vs.length<=n:=by simpa using h
 refine⟨by simp;omega,rfl,λ t v d=>?_⟩;obtain⟨_,J⟩:=agX vs 0 t v d;have a:t<vs.length:=by rcases gE t vs.length with h |h;exact h;rw[gV (by simpa using h)]at J;cases J
 have b:vs[t]? =some v:=by simpa using J
 rw[dP];rw[bu a,aK]at b;simp[Array.getElem?_append,a,b]
theorem enter{P:Program}{f:FuncId}{fn:Func}{c:Code}{vs:List Value}{w:World}{R:Ending->World->Prop}{n:Nat}
 (b:P.funcs[f]? =some fn)(ag:fn.body=some c)(d:fn.ntmps=n)(e:hX vs.length n=true)
 (h:∀a,Fr ⟨n,[]⟩ (mi 0 vs) a->c.wp P (bodyPost P fn R) a w):Calls P f vs.toArray w R:=by
 refine calls_of_wp b ag ?_
 rw[d]
 exact h _ (Fr.init vs n e)
structure aY (M:List Nat) (w w':World):Prop where
 os:w'.os=w.os
 tape:w'.tape=w.tape
 output:w'.output=w.output
 size:w.heap.size<=w'.heap.size
 block:∀k,k<w.heap.size->k∉M->w'.heap[k]? =w.heap[k]?
theorem aY.refl(M:List Nat)(w:World):aY M w w:=⟨rfl,rfl,rfl,da _,λ _ _ _=>rfl⟩
theorem aY.trans{M hK:List Nat}{a b c:World}(h:aY M a b)(k:aY hK b c)(f:∀x∈hK,x∈M\/a.heap.size<=x):aY M a c:=⟨k.os.trans h.os,k.tape.trans h.tape,k.output.trans h.output,fo h.size k.size,λ i hi d=>(k.block i (dY hi h.size) (λ g=>by rcases f i g with e |e;exact d e;omega)).trans (h.block i hi d)⟩
theorem aY.drew(M:List Nat)(w:World):aY M w w.drew:=⟨rfl,rfl,rfl,da _,λ _ _ _=>rfl⟩
theorem aY.alloc(M:List Nat)(w:World)(o:Obj):aY M w (w.alloc o):=⟨rfl,rfl,rfl,by simp,λ k a _=>Below.heap_alloc _ _ _ a⟩
theorem aY.set(w:World)(a:Addr)(u:Value):aY [a.block] w (w.setCell a u):=⟨rfl,rfl,rfl,by simp[World.setCell],λ k _ b=>Below.heap_setCell _ _ _ _ (by simpa using b)⟩
theorem aY.mono{M hK:List Nat}{a b:World}(h:aY M a b)(c:∀x∈M,x∈hK):aY hK a b:=⟨h.os,h.tape,h.output,h.size,λ k d e=>h.block k d (λ f=>e (c k f))⟩
theorem aY.grown{w w':World}{row:Option Nat}(h:w.grownBy w' row):aY row.toList w w':=⟨h.os,h.tape,h.output,h.size,λ k a b=>h.block k a (λ e=>b (by rw[<-e];simp))⟩
theorem aY.below{w w':World}(h:aY [] w w'):Below w.heap.size w w':=⟨h.os,h.tape,h.output,h.size,λ k a=>h.block k a (by simp)⟩
structure aU where
 a6:List Nat
 ok:World->Prop
 law:∀w w',(∀k∈a6,w'.heap[k]? =w.heap[k]?)->ok w->ok w'
structure bc where
 ok:List Nat->World->Prop
 law:∀M hK w w',aY M w w'->(∀k∈hK,k∈M\/w.heap.size<=k)->ok M w->ok hK w'
def bD(E:List aU):List Nat:=E.flatMap aU.a6
structure a9 (W:World) (ar X:List Nat) (w:World) (E:List aU) (D:List bc):Prop where
 bM:aY ar W w
 fy:∀k∈X,k<W.heap.size/\k∉ar
 lt:∀k∈bD E,k<w.heap.size/\(k∈ar\/W.heap.size<=k)
 ok:∀x∈E,x.ok w
 a3:(bD E).Nodup
 rd:∀y∈D,y.ok (X++bD E) w
section
variable{W w w':World}{ar X:List Nat}{E:List aU}{D:List bc}
theorem a9.start(ar X:List Nat)(w:World)(E:List aU)(D:List bc)(a:∀k∈X,k<w.heap.size/\k∉ar)(b:∀k∈bD E,k<w.heap.size/\k∈ar)(d:∀x∈E,x.ok w)(e:(bD E).Nodup)(f:∀y∈D,y.ok (X++bD E) w) :
 a9 w ar X w E D:=⟨aY.refl _ _,a,λ k c=>⟨(b k c).1,.inl (b k c).2⟩,d,e,f⟩
theorem a9.ep(h:a9 W ar X w E D)(b:aY [] w w'):a9 W ar X w' E D:=
 ⟨h.bM.trans b (by simp),h.fy,λ k a=>⟨dY (h.lt k a).1 b.size,(h.lt k a).2⟩,
  λ x c=>x.law w w' (λ k a=>b.block k (h.lt k (hn.2 ⟨x,c,a⟩)).1 (by simp)) (h.ok x c),h.a3,
  λ y hy=>y.law (X++bD E) _ w w' (b.mono (by simp)) (λ k a=>.inl a) (h.rd y hy)⟩
theorem a9.drew(h:a9 W ar X w E D):a9 W ar X w.drew E D:=h.ep (aY.drew _ _)
theorem a9.push(h:a9 W ar X w E D)(x:aU)(f:aY [] w w')(i:x.ok w')(c:∀k∈x.a6,w.heap.size<=k/\k<w'.heap.size)(j:x.a6.Nodup):a9 W ar X w' (x::E) D:=by
 have I:=h.ep f;refine⟨I.bM,h.fy,λ k d=>?_,λ y hy=>?_,?_,λ y hy=>?_⟩;rcases de.1 (by simpa[bD]using d:k∈x.a6++bD E)with e |e;exact⟨(c k e).2,.inr (fo h.bM.size (c k e).1)⟩;exact I.lt k e;rcases dc.1 hy with rfl |e;exact i;exact I.ok y e
 ·have:bD (x::E)=x.a6++bD E:=by simp[bD]
  rw[this,ft];refine⟨j,h.a3,λ a l b ag e=>?_⟩;subst e;have:=(c a l).1;have:=(h.lt a ag).1;omega
 ·refine y.law (X++bD E) _ w w' (f.mono (by simp)) (λ k d=>?_) (h.rd y hy);have g:k∈X++(x.a6++bD E):=by simpa[bD]using d
  simp only[de]at g;rcases g with e |e |e;exact .inl (by simp[e]);exact .inr (c k e).1;exact .inl (by simp[e])
theorem a9.drop(h:a9 W ar X w E D){b:List aU}(g:List.Sublist b E):a9 W ar X w b D:=by
 have c:List.Sublist (bD b) (bD E):=by
  unfold bD;clear h;induction g with
  |slnil=>simp
  |cons a _ d=>simpa using d.trans (List.sublist_append_right _ _)
  |cons_cons a _ d=>simpa using List.Sublist.append_left d a.a6
 exact⟨h.bM,h.fy,λ k f=>h.lt k (c.subset f),λ x i=>h.ok x (g.subset i),h.a3.sublist c,
  λ y hy=>y.law (X++bD E) _ w w (aY.refl _ _) (λ k f=>.inl (by rcases de.1 f with e |e;exact de.2 (.inl e);exact de.2 (.inr (c.subset e)))) (h.rd y hy)⟩
theorem a9.q2(h:a9 W ar X w E D){A B:List aU}{x e2:aU}(r:E=A++x::B)(d:aY x.a6 w w')(s:e2.ok w')(t:e2.a6.Nodup)
 (g:∀k∈e2.a6,k∈x.a6\/(w.heap.size<=k/\k<w'.heap.size)):a9 W ar X w' (A++e2::B) D:=by
 subst r
 have c:bD (A++x::B)=bD A++(x.a6++bD B):=by simp[bD]
 have al:bD (A++e2::B)=bD A++(e2.a6++bD B):=by simp[bD]
 have l:=h.a3
 rw[c,ft,ft]at l
 obtain⟨u,⟨C,v,m⟩,i⟩:=l
 have j:∀k∈x.a6,k<w.heap.size/\(k∈ar\/W.heap.size<=k):=λ k aj=>h.lt k (by rw[c];simp[aj])
 refine⟨h.bM.trans d (λ k aj=>(j k aj).2),h.fy,λ k aj=>?_,λ y hy=>?_,?_,λ y hy=>?_⟩
 ·rw[al]at aj;simp only[de]at aj;rcases aj with aj |aj |aj;have:=h.lt k (by rw[c];simp[aj]);exact⟨dY this.1 d.size,this.2⟩;rcases g k aj with e |e;exact⟨dY (j k e).1 d.size,(j k e).2⟩;exact⟨e.2,.inr (fo h.bM.size e.1)⟩;have:=h.lt k (by rw[c];simp[aj]);exact⟨dY this.1 d.size,this.2⟩
 ·have n:∀z,z∈A\/z∈B->z.ok w':=λ z o=>by
   have p:z∈A++x::B:=by rcases o with e |e<;>simp[e]
   refine z.law w w' (λ k aj=>d.block k (h.lt k (hn.2 ⟨z,p,aj⟩)).1 (λ DB=>?_)) (h.ok z p);rcases o with e |e
   ·exact i k (hn.2 ⟨z,e,aj⟩) k (by simp[DB]) rfl
   ·exact m k DB k (hn.2 ⟨z,e,aj⟩) rfl
  simp only[de,dc]at hy;rcases hy with hy |rfl |hy
  ·exact n y (.inl hy)
  ·exact s
  ·exact n y (.inr hy)
 ·rw[al,ft,ft];have q:∀k∈e2.a6,∀b,(b∈bD A\/b∈bD B)->k≠b:=λ k aj b ag e=>by subst e;rcases g k aj with e |e;rcases ag with ag |ag;exact i k ag k (by simp[e]) rfl;exact m k e k ag rfl;have:=(h.lt k (by rw[c];rcases ag with ag |ag<;>simp[ag])).1;omega
  exact⟨u,⟨t,v,λ a f b ag=>q a f b (.inr ag)⟩,λ a f b ag=>by
   rcases de.1 ag with ag |ag;exact λ e=>q b ag a (.inl f) e.symm
   ·exact i a f b (by simp[ag])⟩
 ·refine y.law (X++bD (A++x::B)) _ w w' (d.mono (λ k aj=>by rw[c];simp[aj])) (λ k aj=>?_) (h.rd y hy);rw[al]at aj;simp only[de]at aj;rcases aj with aj |aj |aj |aj;exact .inl (by simp[aj]);exact .inl (by rw[c];simp[aj]);rcases g k aj with e |e;exact .inl (by rw[c];simp[e]);exact .inr e.1;exact .inl (by rw[c];simp[aj])
theorem a9.more(h:a9 W ar X w E D){y:bc}(hy:y.ok (X++bD E) w):a9 W ar X w E (y::D):=⟨h.bM,h.fy,h.lt,h.ok,h.a3,λ z a=>by rcases dc.1 a with rfl |e;exact hy;exact h.rd z e⟩
theorem a9.less(h:a9 W ar X w E D){a:List bc}(b:∀y∈a,y∈D):a9 W ar X w E a:=⟨h.bM,h.fy,h.lt,h.ok,h.a3,λ y hy=>h.rd y (b y hy)⟩
theorem a9.e(h:a9 W ar X w E D)(i:Nat){x:aU}(hi:E[i]? =some x):x.ok w:=h.ok x (cU hi)
theorem a9.d(h:a9 W ar X w E D)(i:Nat){y:bc}(hi:D[i]? =some y):y.ok (X++bD E) w:=h.rd y (cU hi)
theorem bc.less{y:bc}{M hK:List Nat}(h:y.ok M w)(a:∀k∈hK,k∈M):y.ok hK w:=y.law M hK w w (aY.refl _ _) (λ k b=>.inl (a k b)) h
theorem a9.Fq(h:a9 W ar X w E D)(i:Nat){x e2:aU}(hi:E[i]? =some x)(a:aY x.a6 w w')(b:e2.ok w')(c:e2.a6.Nodup)
 (d:∀k∈e2.a6,k∈x.a6\/(w.heap.size<=k/\k<w'.heap.size)):a9 W ar X w' (E.set i e2) D:=by
 obtain⟨e,rfl⟩:=bb.1 hi
 have f:E=E.take i++E[i]::E.drop (i+1):=by simp
 have:=h.q2 f a b c d
 rwa [List.set_eq_take_append_cons_drop,lX e]
end
open Go Go.RowKit ad
abbrev bQ(l:List UInt8):Value:=.string ⟨⟨l⟩⟩
structure cE (α:Type) where
 size:Nat
 rd:(Nat->Prop)->World->List Value->α->Prop
 len:∀ {F w cs d},rd F w cs d->cs.length=size
 one:∀ {F w cs d},rd F w cs d->∀v∈cs,v.oneCell'=true
 law:∀ {F F' w w' cs d},(∀k,F k->F' k/\w'.heap[k]? =w.heap[k]?)->rd F w cs d->rd F' w' cs d
def gL(M:List Nat)(w:World):Nat->Prop:=λ k=>k∉M/\k<w.heap.size
def bc.of{α:Type}(T:cE α)(cs:List Value)(d:α):bc where
 ok M w:=T.rd (gL M w) w cs d
 law M hK w w' b c h:=T.law (λ k a=>⟨⟨λ f=>by rcases c k f with e |e;exact a.1 e;exact absurd a.2 (by omega),dY a.2 b.size⟩,b.block k a.2 a.1⟩) h
def fr(k:IntKind):cE Int where
 size:=1
 rd _ _ cs d:=cs=[.int k d]
 len h:=by subst h;rfl
 one h v a:=by subst h;simp at a;subst a;rfl
 law _ h:=h
def Fs:cE UInt8 where
 size:=1
 rd _ _ cs d:=cs=[.int .u8 (d.toNat:Int)]
 len h:=by subst h;rfl
 one h v a:=by subst h;simp at a;subst a;rfl
 law _ h:=h
def ak3:cE Bool where
 size:=1
 rd _ _ cs d:=cs=[.bool d]
 len h:=by subst h;rfl
 one h v a:=by subst h;simp at a;subst a;rfl
 law _ h:=h
def km:cE (List UInt8) where
 size:=1
 rd _ _ cs d:=cs=[bQ d]
 len h:=by subst h;rfl
 one h v a:=by subst h;simp at a;subst a;rfl
 law _ h:=h
section
variable{α:Type}(T:cE α)
def cS(F:Nat->Prop)(w:World):List Value->List α->Prop
 |xs,[]=>xs=[]
 |xs,d::r=>∃cs ys,xs=cs++ys/\T.rd F w cs d/\cS F w ys r
theorem nV{F:Nat->Prop}{w:World}:∀ {l:List α}{xs:List Value},cS T F w xs l->xs.length=l.length*T.size
 |[],xs,h=>by simp only[cS]at h;subst h;simp
 |d::r,xs,h=>by obtain⟨cs,ys,rfl,I,J⟩:=h;rw[fD,T.len I,nV J,df,iU];omega
theorem vm{F:Nat->Prop}{w:World}:∀ {l:List α}{xs:List Value},cS T F w xs l->∀v∈xs,v.oneCell'=true
 |[],xs,h=>by simp only[cS]at h;subst h;simp
 |d::r,xs,h=>by obtain⟨cs,ys,rfl,I,J⟩:=h;intro v a;rcases de.1 a with e |e;exact T.one I v e;exact vm J v e
theorem ki{F F':Nat->Prop}{w w':World}(a:∀k,F k->F' k/\w'.heap[k]? =w.heap[k]?):∀ {l:List α}{xs:List Value},cS T F w xs l->cS T F' w' xs l
 |[],xs,h=>h
 |d::r,xs,h=>by obtain⟨cs,ys,rfl,I,J⟩:=h;exact⟨cs,ys,rfl,T.law a I,ki a J⟩
theorem UK{F:Nat->Prop}{w:World}{d:α}{cs:List Value}(aE:T.rd F w cs d):∀ {l:List α}{xs:List Value},cS T F w xs l->cS T F w (xs++cs) (l++[d])
 |[],xs,h=>by simp only[cS]at h;subst h;exact⟨cs,[],by simp,aE,rfl⟩
 |e::r,xs,h=>by obtain⟨c,ys,rfl,I,J⟩:=h;exact⟨c,ys++cs,by simp,I,UK aE J⟩
theorem A2{F:Nat->Prop}{w:World}{l':List α}{ec:List Value}(h':cS T F w ec l'):∀ {l:List α}{xs:List Value},cS T F w xs l->cS T F w (xs++ec) (l++l')
 |[],xs,h=>by simp only[cS]at h;subst h;simpa using h'
 |e::r,xs,h=>by obtain⟨c,ys,rfl,I,J⟩:=h;exact⟨c,ys++ec,by simp,I,A2 h' J⟩
theorem xD{F:Nat->Prop}{w:World}:∀ {l:List α}{xs:List Value}{i:Nat}{d:α},cS T F w xs l->l[i]? =some d ->
 ∃cs,T.rd F w cs d/\∀j u,cs[j]? =some u->xs[i*T.size+j]? =some u
 |[],_,i,d,_,hi=>by simp at hi
 |e::r,xs,0,d,h,hi=>by
  obtain⟨cs,ys,rfl,I,_⟩:=h;simp only[dX,aK]at hi;subst hi;refine⟨cs,I,λ j u a=>?_⟩;have f:j<cs.length:=by rcases gE j cs.length with h |h;exact h;rw[gV h]at a;cases a
  simpa[lx,f]using a
 |e::r,xs,i+1,d,h,hi=>by
  obtain⟨cs,ys,rfl,I,J⟩:=h;obtain⟨c,hc,a⟩:=xD (i:=i) J (by simpa using hi);refine⟨c,hc,λ j u g=>?_⟩;have b:=T.len I;have k:(i+1)*T.size+j=cs.length+(i*T.size+j):=by rw[iU];omega
  rw[k,eX (by omega)];simpa using a j u g
def eg(w:World)(a:Addr)(xs:List Value):Prop:=∀j u,xs[j]? =some u->w.cell? ⟨a.block,a.off+j,none⟩=some u
theorem eg.law{w w':World}{a:Addr}{xs:List Value}(h:eg w a xs)(ag:w'.heap[a.block]? =w.heap[a.block]?):eg w' a xs:=λ j u b=>(World.cell?_of_block (a:=⟨a.block,a.off+j,none⟩) ag).trans (h j u b)
def c2(A:Option Addr):Nat:=(A.getD ⟨0,0,none⟩).block
def fp(A:Option Addr):Nat:=(A.getD ⟨0,0,none⟩).off
def cM:cE (List α) where
 size:=1
 rd F w cs l:=∃A c,cs=[.slice A l.length c]/\l.length<=c/\c<=maxLen/\(A=none->c=0)/\
  (l≠[]->A=some ⟨c2 A,fp A,none⟩/\F (c2 A)/\∃xs,cS T F w xs l/\eg w ⟨c2 A,fp A,none⟩ xs)
 len h:=by obtain⟨A,c,rfl,_⟩:=h;rfl
 one h v b:=by obtain⟨A,c,rfl,_⟩:=h;simp at b;subst b;rfl
 law a h:=by obtain⟨A,c,I,d,e,f,g⟩:=h;refine⟨A,c,I,d,e,f,λ i=>?_⟩;obtain⟨j,al,xs,aL,bB⟩:=g i;exact⟨j,(a _ al).1,xs,ki T a aL,bB.law (a _ al).2⟩
theorem jN{F:Nat->Prop}{w:World}{v:Value}{l:List α}(h:(cM T).rd F w [v] l):∃A c,v= .slice A l.length c:=by obtain⟨A,c,I,_⟩:=h;exact⟨A,c,by simpa using I⟩
theorem vr{F:Nat->Prop}{w:World}{A:Option Addr}{n c:Nat}{l:List α}{i:Int}{d:α}(h:(cM T).rd F w [.slice A n c] l)(hi:idx l i=some d) :
 A=some ⟨c2 A,fp A,none⟩/\(0<=i/\i<n)/\∃cs,T.rd F w cs d/\eg w ⟨c2 A,fp A+i.toNat*T.size,none⟩ cs:=by
 obtain⟨b,I,J⟩:=hY hi
 obtain⟨p,q,a,aL,bB,ch,fH⟩:=h
 simp only[hN,Value.slice.injEq,and_true]at a
 obtain⟨rfl,rfl,rfl⟩:=a
 obtain⟨e,r,xs,f,g⟩:=fH (λ k=>by rw[k]at I;simp at I)
 obtain⟨cs,hc,m⟩:=xD T f J
 refine⟨e,⟨b,by omega⟩,cs,hc,λ j u o=>?_⟩
 have:=g (i.toNat*T.size+j) u (m j u o)
 simpa[jg]using this
end
def aU.c8(g:Nat)(t:TypeId)(cs:List Value):aU where
 a6:=[g]
 ok w:=w.heap[g]? =some (.cells cs.toArray t (0,0))
 law w w' h a:=(h g (by simp)).trans a
def aU.row{α:Type}(e:TypeId)(size:Nat)(v:Value)(l:List α)(xs:List Value):aU where
 a6:=v.ownBlock.toList
 ok w:=w.ownsRow 0 e size v l.length xs
 law w w' h b:=by refine⟨b.1,?_⟩;rcases b.2 with c |⟨g,cap,cur,rfl,ag,d,a⟩;exact .inl c;exact .inr ⟨g,cap,cur,rfl,ag,(h g (by simp[Value.ownBlock])).trans d,a⟩
def bc.rows{α:Type}(T:cE α)(xs:List Value)(l:List α):bc where
 ok M w:=cS T (gL M w) w xs l
 law M hK w w' b c h:=ki T (λ k a=>⟨⟨λ d=>by rcases c k d with e |e;exact a.1 e;exact absurd a.2 (by omega),dY a.2 b.size⟩,b.block k a.2 a.1⟩) h
theorem E8{α:Type}{w:World}{e:TypeId}{size:Nat}{v:Value}{l:List α}{xs:List Value}(h:(aU.row e size v l xs).ok w):∃A c,v= .slice A l.length c/\l.length<=c/\c<=maxLen/\(A=none->c=0)/\(A≠none->A=some ⟨c2 A,0,none⟩):=by have h':w.ownsRow 0 e size v l.length xs:=h;rcases h'.2 with⟨rfl,a⟩|⟨g,cap,cur,rfl,_,_,I,J,_⟩;exact⟨none,0,by rw[a],by omega,hh _,λ _=>rfl,λ h=>absurd rfl h⟩;exact⟨some ⟨g,0,none⟩,cap,rfl,I,J,(λ h=>by cases h),λ _=>rfl⟩
theorem aka{α:Type}{T:cE α}{M:List Nat}{w:World}{e:TypeId}{A:Option Addr}{n c:Nat}{l:List α}{xs:List Value}(h:(aU.row e T.size (.slice A n c) l xs).ok w)(d:(bc.rows T xs l).ok M w)
 (f:∀k∈(Value.slice A n c).ownBlock.toList,k∉M):(bc.of (cM T) [.slice A n c] l).ok M w:=by
 have h':w.ownsRow 0 e T.size (.slice A n c) l.length xs:=h
 have i:cS T (gL M w) w xs l:=d
 show(cM T).rd (gL M w) w _ l
 rcases h'.2 with⟨I,m⟩|⟨g,cap,cur,I,_,o,a,p,s,t⟩
 ·have q:l=[]:=g_ m;simp only[Value.slice.injEq]at I;obtain⟨rfl,rfl,rfl⟩:=I;subst q;exact⟨none,0,rfl,by simp,hh _,λ _=>rfl,λ h=>absurd rfl h⟩
 ·simp only[Value.slice.injEq]at I;obtain⟨rfl,rfl,rfl⟩:=I;refine⟨_,_,rfl,a,p,(λ h=>by cases h),λ _=>⟨rfl,⟨f g (by simp[Value.ownBlock]),(eL.1 o).1⟩,xs,i,λ j u r=>?_⟩⟩;have b:=h'.cells (g:=g) rfl j u r
  simpa[Addr.add,c2,fp]using(by
   have e:(⟨g,0,none⟩:Addr).add j=⟨g,0+j,none⟩:=by unfold Addr.add;split<;>simp_all
   rw[e]at b;exact b:w.cell? ⟨g,0+j,none⟩=some u)
theorem rI{w:World}{g:Nat}{t:TypeId}{cs:List Value}(h:(aU.c8 g t cs).ok w){j:Nat}{v:Value}(a:cs[j]? =some v):w.cell? ⟨g,j,none⟩=some v:=by have h':w.heap[g]? =some (.cells cs.toArray t (0,0)):=h;simp[World.cell?,h',a]
theorem y0{w:World}{g:Nat}{t:TypeId}{cs:List Value}(h:(aU.c8 g t cs).ok w):g<w.heap.size:=by have h':w.heap[g]? =some (.cells cs.toArray t (0,0)):=h;exact(eL.1 h').1
theorem YW(w:World)(t:TypeId)(cs:List Value):(aU.c8 w.heap.size t cs).ok (w.alloc (.cells cs.toArray t)):=heap_alloc_new w _
def bc.ho(g:Nat)(cs:List Value):bc where
 ok M w:=g∉M/\g<w.heap.size/\eg w ⟨g,0,none⟩ cs
 law M hK w w' a b h:=⟨λ c=>by rcases b g c with e |e;exact h.1 e;exact absurd h.2.1 (by omega),dY h.2.1 a.size,h.2.2.law (a.block g h.2.1 h.1)⟩
theorem Bf{α:Type}{T:cE α}{F:Nat->Prop}{w:World}{cs:List Value}{l:List α}(h:(cM T).rd F w cs l):∃A c,cs=[.slice A l.length c]:=by obtain⟨A,c,I,_⟩:=h;exact⟨A,c,I⟩
theorem aj'{α:Type}{T:cE α}{M:List Nat}{w:World}{e:TypeId}{A:Option Addr}{n c:Nat}{l:List α}{xs:List Value}{i:Int}{d:α}(h:(aU.row e T.size (.slice A n c) l xs).ok w)(f:(bc.rows T xs l).ok M w)(hi:idx l i=some d) :
 A=some ⟨c2 A,fp A,none⟩/\(0<=i/\i<n)/\∃cs,T.rd (gL M w) w cs d/\eg w ⟨c2 A,fp A+i.toNat*T.size,none⟩ cs:=by
 obtain⟨k,I,J⟩:=hY hi
 have h':w.ownsRow 0 e T.size (.slice A n c) l.length xs:=h
 have m:cS T (gL M w) w xs l:=f
 rcases h'.2 with⟨a,q⟩|⟨g,cap,cur,a,_,r,_⟩
 ·omega
 ·simp only[Value.slice.injEq]at a;obtain⟨rfl,rfl,rfl⟩:=a;obtain⟨cs,hc,o⟩:=xD T m J;refine⟨rfl,⟨k,by omega⟩,cs,hc,λ j u p=>?_⟩;have b:=h'.cells (g:=g) rfl _ u (o j u p);have al:(⟨g,0,none⟩:Addr).add (i.toNat*T.size+j)=⟨g,0+(i.toNat*T.size+j),none⟩:=by unfold Addr.add;split<;>simp_all
  rw[al]at b;show w.cell? ⟨g,0+i.toNat*T.size+j,none⟩=some u
  rw[jg];exact b
theorem Tm(p q:List UInt8):(p==q)=decide (p=q):=by rw[iN];simp
section
variable{P:Program}{o:Oper}{a:Act}{w:World}
abbrev aS(P:Program)(o:Oper)(a:Act)(w:World)(v:Value)(w':World):Prop:=(execOp a.eval o).run P w= .ok (.value v) w'
abbrev nd(P:Program)(o:Oper)(a:Act)(w:World)(w':World):Prop:=(execOp a.eval o).run P w= .ok .skip w'
theorem F1{x:Operand}{v:Value}(b:o.op= .move x)(c:a.eval x=v):aS P o a w v w:=by simp only[aS,execOp,b,c];rfl
theorem FY{x:Operand}{v:Value}(b:o.op= .assign x)(c:a.eval x=v):aS P o a w v w:=by simp only[aS,execOp,b,c];rfl
theorem F3{c x y:Operand}{v:Value}(b:o.op= .pick c x y)(hc:a.eval c= .bool true)(d:a.eval x=v):aS P o a w v w:=by simp only[aS,execOp,b,hc,d];rfl
theorem F2{c x y:Operand}{v:Value}(b:o.op= .pick c x y)(hc:a.eval c= .bool false)(hy:a.eval y=v):aS P o a w v w:=by simp only[aS,execOp,b,hc,hy];rfl
section
variable{x y:Operand}{t t':TypeId}{k:IntKind}{m n:Int}
theorem amP(b:o.op= .binOp .add t x y t')(c:a.eval x= .int k m)(hy:a.eval y= .int k n):aS P o a w (.int k (k.wrap (m+n))) w:=by simp only[aS,execOp,b,c,hy];simp[go_sem]
theorem ann(b:o.op= .binOp .sub t x y t')(c:a.eval x= .int k m)(hy:a.eval y= .int k n):aS P o a w (.int k (k.wrap (m-n))) w:=by simp only[aS,execOp,b,c,hy];simp[go_sem]
theorem ana(b:o.op= .binOp .mul t x y t')(c:a.eval x= .int k m)(hy:a.eval y= .int k n):aS P o a w (.int k (k.wrap (m*n))) w:=by simp only[aS,execOp,b,c,hy];simp[go_sem]
theorem ank(b:o.op= .binOp .quo t x y t')(c:a.eval x= .int k m)(hy:a.eval y= .int k n)(d:n≠0):aS P o a w (.int k (k.wrap (m.tdiv n))) w:=by simp only[aS,execOp,b,c,hy];simp[go_sem,d]
theorem am_(b:o.op= .binOp .lss t x y t')(c:a.eval x= .int k m)(hy:a.eval y= .int k n):aS P o a w (.bool (decide (m<n))) w:=by simp only[aS,execOp,b,c,hy];simp[go_sem]
theorem am9(b:o.op= .binOp .leq t x y t')(c:a.eval x= .int k m)(hy:a.eval y= .int k n):aS P o a w (.bool (decide (m<=n))) w:=by simp only[aS,execOp,b,c,hy];simp[go_sem]
theorem am4(b:o.op= .binOp .gtr t x y t')(c:a.eval x= .int k m)(hy:a.eval y= .int k n):aS P o a w (.bool (decide (n<m))) w:=by simp only[aS,execOp,b,c,hy];simp[go_sem]
theorem am3(b:o.op= .binOp .geq t x y t')(c:a.eval x= .int k m)(hy:a.eval y= .int k n):aS P o a w (.bool (decide (n<=m))) w:=by simp only[aS,execOp,b,c,hy];simp[go_sem]
theorem am1(b:P.underlying t=some (.int k))(c:o.op= .binOp .eql t x y t')(d:a.eval x= .int k m)(hy:a.eval y= .int k n):aS P o a w (.bool (decide (m=n))) w:=by have:=run_underlying (P:=P) b;simp only[aS,execOp,c,d,hy];simp[go_sem,this];rfl
theorem ane(b:P.underlying t=some (.int k))(c:o.op= .binOp .neq t x y t')(d:a.eval x= .int k m)(hy:a.eval y= .int k n):aS P o a w (.bool (!decide (m=n))) w:=by have:=run_underlying (P:=P) b;simp only[aS,execOp,c,d,hy];simp[go_sem,this];rfl
end
section
variable{x y:Operand}{t t':TypeId}{p q:Bool}
theorem akr(b:P.underlying t=some .bool)(p q:Bool)(w:World):(binOp .eql t (.bool p) (.bool q)).run P w= .ok (.bool (p==q)) w:=by
 have h:∀d:Nat,(Op.equalIn (d+1) t (.bool p) (.bool q)).run P w= .ok (p==q) w:=λ d=>by simp[Op.equalIn,run_underlying b]
 simp only[binOp];simp[Op.equal,Op.maxDepth,h 9999]
theorem aks(b:P.underlying t=some .bool)(p q:Bool)(w:World):(binOp .neq t (.bool p) (.bool q)).run P w= .ok (.bool (!(p==q))) w:=by
 have h:∀d:Nat,(Op.equalIn (d+1) t (.bool p) (.bool q)).run P w= .ok (p==q) w:=λ d=>by simp[Op.equalIn,run_underlying b]
 simp only[binOp];simp[Op.equal,Op.maxDepth,h 9999]
theorem am0(b:P.underlying t=some .bool)(c:o.op= .binOp .eql t x y t')(d:a.eval x= .bool p)(hy:a.eval y= .bool q):aS P o a w (.bool (p==q)) w:=by simp only[aS,execOp,c,d,hy];simp[go_sem,akr b]
theorem anc(b:P.underlying t=some .bool)(c:o.op= .binOp .neq t x y t')(d:a.eval x= .bool p)(hy:a.eval y= .bool q):aS P o a w (.bool (!(p==q))) w:=by simp only[aS,execOp,c,d,hy];simp[go_sem,aks b]
theorem WX(b:o.op= .unOp .not t x)(c:a.eval x= .bool p):aS P o a w (.bool (!p)) w:=by simp only[aS,execOp,b,c];simp[go_sem]
end
section
variable{x y:Operand}{t t':TypeId}{p q:List UInt8}
theorem am2(b:P.underlying t=some .string)(c:o.op= .binOp .eql t x y t')(d:a.eval x=bQ p)(hy:a.eval y=bQ q):aS P o a w (.bool (decide (p=q))) w:=by have:=run_underlying (P:=P) b;simp only[aS,execOp,c,d,hy];simp[go_sem,this];exact Tm p q
theorem anf(b:P.underlying t=some .string)(c:o.op= .binOp .neq t x y t')(d:a.eval x=bQ p)(hy:a.eval y=bQ q):aS P o a w (.bool (!decide (p=q))) w:=by have:=run_underlying (P:=P) b;simp only[aS,execOp,c,d,hy];simp[go_sem,this];exact Tm p q
theorem WT{e4:TypeId}(b:P.underlying e4=some .string)(c:o.op= .call { callee:=.builtin .len,args:=#[x],argTypes:=#[e4] })(d:a.eval x=bQ p):aS P o a w (.int .i64 p.length) w:=by simp only[aS,execOp,c,resolve,invoke,gu,fA,ib,d];simp[go_sem,Builtin.len_,run_underlying b,goInt]
theorem WS{e4:TypeId}{A:Option Addr}{n c:Nat}{e:TypeId}(b:P.underlying e4=some (.slice e))(d:o.op= .call { callee:=.builtin .len,args:=#[x],argTypes:=#[e4] })(f:a.eval x= .slice A n c):aS P o a w (.int .i64 n) w:=by simp only[aS,execOp,d,resolve,invoke,gu,fA,ib,f];simp[go_sem,Builtin.len_,run_underlying b,goInt]
theorem am7{i:Nat}{b:UInt8}(c:P.underlying t=some .string)(d:o.op= .index t x y)(f:a.eval x=bQ p)(hy:a.eval y= .int .i64 i)(ag:p[i]? =some b):aS P o a w (.int .u8 b.toNat) w:=by
 simp only[aS,execOp,d,f,hy];obtain⟨I,J⟩:=bb.1 ag;have e:(⟨⟨p⟩⟩:ByteArray)[i]? =some b:=by
  show(if h:i<_ then some _ else none)=_
  rw[dif_pos (show i<(⟨⟨p⟩⟩:ByteArray).size from I)];exact congrArg some J
 simp[go_sem,Instr.index,run_underlying c,e]
theorem NL{k k':IntKind}{n:Int}(b:P.underlying t=some (.int k))(qc:P.underlying t'=some (.int k'))(c:o.op= .convert t t' x)(d:a.eval x= .int k n):aS P o a w (.int k' (k'.wrap n)) w:=by simp only[aS,execOp,c,d];simp[go_sem,convert,run_underlying b,run_underlying qc]
end
end
theorem ph(n:Int):IntKind.i64.wrap n=bj n:=by rw[IntKind.wrap_i64];rfl
theorem Vv(n:Int):IntKind.u8.wrap n=((wg n).toNat:Int):=by rw[YS,IntKind.wrap_u8]
section
variable{P:Program}{o:Oper}{a:Act}{w:World}{x y:Operand}{t t':TypeId}{m n:Int}
theorem amQ(b:o.op= .binOp .add t x y t')(c:a.eval x= .int .i64 m)(hy:a.eval y= .int .i64 n):aS P o a w (.int .i64 (bj (m+n))) w:=by rw[<-ph];exact amP b c hy
theorem ano(b:o.op= .binOp .sub t x y t')(c:a.eval x= .int .i64 m)(hy:a.eval y= .int .i64 n):aS P o a w (.int .i64 (bj (m-n))) w:=by rw[<-ph];exact ann b c hy
theorem anb(b:o.op= .binOp .mul t x y t')(c:a.eval x= .int .i64 m)(hy:a.eval y= .int .i64 n):aS P o a w (.int .i64 (bj (m*n))) w:=by rw[<-ph];exact ana b c hy
theorem WZ(c:o.op= .binOp .rem t x y t')(d:a.eval x= .int .i64 m)(hy:a.eval y= .int .i64 n)(b:(!decide (n=0))=true):aS P o a w (.int .i64 (m.tmod n)) w:=by
 have b:n≠0:=by simpa using b
 simp only[aS,execOp,c,d,hy];simp[go_sem,b]
theorem WY(b:o.op= .binOp .quo t x y t')(c:a.eval x= .int .i64 m)(hy:a.eval y= .int .i64 n)(d:(!decide (n=0))=true):aS P o a w (.int .i64 (bj (m.tdiv n))) w:=by rw[<-ph];exact ank b c hy (by simpa using d)
theorem amV(b:P.underlying t=some (.int .i64))(qc:P.underlying t'=some (.int .i64))(c:o.op= .convert t t' x)(d:a.eval x= .int .i64 m):aS P o a w (.int .i64 (bj m)) w:=by have h:=NL (P:=P) (w:=w) b qc c d;rwa [ph]at h
theorem amW(b:P.underlying t=some (.int .i64))(qc:P.underlying t'=some (.int .u8))(c:o.op= .convert t t' x)(d:a.eval x= .int .i64 m):aS P o a w (.int .u8 ((wg m).toNat:Int)) w:=by have h:=NL (P:=P) (w:=w) b qc c d;rwa [Vv]at h
theorem CT(a:Act)(v:Value):a.eval (.const v)=v:=rfl
theorem Qb(a:Act)(g:Nat):a.eval (.global g)= .pointer (some ⟨g,0,none⟩):=rfl
theorem B5{vs:List Value}{i:Nat}{v:Value}(b:o.op= .extract x i)(c:a.eval x= .tuple vs.toArray)(d:vs[i]? =some v):aS P o a w v w:=by simp only[aS,execOp,b,c];simp[go_sem,Instr.extract,d]
theorem WW{p:Addr}(b:o.op= .nilCheck x)(c:a.eval x= .pointer (some p)):aS P o a w (.pointer (some p)) w:=by simp only[aS,execOp,b,c];rfl
end
theorem iq(b o n:Nat):(⟨b,o,none⟩:Addr).add n=⟨b,o+n,none⟩:=by unfold Addr.add;split<;>simp_all
section
variable{P:Program}{o:Oper}{a:Act}{w:World}{x y:Operand}{t e s:TypeId}
theorem am8{i:Int}{b:UInt8}{p:List UInt8}(c:P.underlying t=some .string)(d:o.op= .index t x y)(f:a.eval x=bQ p)(hy:a.eval y= .int .i64 i)(ag:idx p i=some b):aS P o a w (.int .u8 b.toNat) w:=by obtain⟨g,I,J⟩:=hY ag;obtain⟨n,rfl⟩:=jI g;exact am7 c d f hy (by simpa using J)
theorem m3{A:Option Addr}{n c sz:Nat}{i:Int}(d:P.underlying t=some (.slice e))(f:∀w,(Go.sizeOf e).run P w= .ok sz w)
 (g:o.op= .indexAddr t x y)(b:a.eval x= .slice A n c)(hy:a.eval y= .int .i64 i)(h:A=some ⟨c2 A,fp A,none⟩)(hi:0<=i/\i<n) :
 aS P o a w (.pointer (some ⟨c2 A,fp A+i.toNat*sz,none⟩)) w:=by
 obtain⟨j,I⟩:=hi
 obtain⟨k,rfl⟩:=jI j
 have l:k<n:=by omega
 rw[h]at b
 simp only[aS,execOp,g,b,hy]
 simp[go_sem,Instr.indexAt,run_underlying d,l,f,iq]
theorem WQ{bU:Array Field}{f:Field}{j b p sz:Nat}(c:P.underlying s=some (.struct bU))(d:bU[j]? =some f)(g:∀w,(Go.sizeOf f.type).run P w= .ok sz w)(h:bT sz 0=false)
 (i:o.op= .fieldAddr s x j)(k:a.eval x= .pointer (some ⟨b,p,none⟩)):aS P o a w (.pointer (some ⟨b,p+f.offset,none⟩)) w:=by
 have l:sz≠0:=by intro e;subst e;simp at h
 simp only[aS,execOp,i,k]
 simp[go_sem,Instr.fieldAt,run_underlying c,d,fieldPlace,g,l,iq]
theorem NM{b p:Nat}{v:Value}(c:∀w,(isAgg t).run P w= .ok false w)(d:o.op= .load t x)(f:a.eval x= .pointer (some ⟨b,p,none⟩))(hc:w.cell? ⟨b,p,none⟩=some v):aS P o a w v w:=by simp only[aS,execOp,d,f];simp[go_sem,Instr.loadAt,loadVar,c,hc]
theorem WU{b p sz:Nat}{cs:List Value}(c:∀w,(isAgg t).run P w= .ok true w)(d:∀w,(Go.sizeOf t).run P w= .ok sz w)(f:cs.length=sz)(g:o.op= .load t x)
 (i:a.eval x= .pointer (some ⟨b,p,none⟩))(hc:eg w ⟨b,p,none⟩ cs):aS P o a w (.agg cs.toArray) w:=by
 have h:=run_loadCells_list (P:=P) w ⟨b,p,none⟩ cs (λ j u k=>by rw[iq];exact hc j u k)
 rw[f]at h
 unfold loadCells at h
 simp only[aS,execOp,g,i]
 simp[go_sem,Instr.loadAt,loadVar,c,d,h]
theorem FZ{v:Value}{cs:List Value}(b:v.cells=cs.toArray)(c:o.op= .box t x)(d:a.eval x=v):aS P o a w (.pointer (some ⟨w.heap.size,0,none⟩)) (w.alloc (.cells cs.toArray t)):=by have fl:=b;unfold Value.cells at fl;simp only[aS,execOp,c,d];simp[go_sem,Instr.box,newVar,newRow,fl]
theorem rf{z:Value}{cs:List Value}(b:∀w,(zeroValue t).run P w= .ok z w)(c:z.cells=cs.toArray)(d:o.op= .alloc t):aS P o a w (.pointer (some ⟨w.heap.size,0,none⟩)) (w.alloc (.cells cs.toArray t)):=by have fl:=c;unfold Value.cells at fl;simp only[aS,execOp,d];simp[go_sem,Instr.alloc,newVar,newRow,b,fl]
end
def lay:List Value->Nat->List Value->List Value
 |l,0,cs=>cs++l.drop cs.length
 |[],_+1,_=>[]
 |u::l,n+1,cs=>u::lay l n cs
theorem Ku:∀(l:List Value)(n:Nat)(cs:List Value),n+cs.length<=l.length->lay l n cs=l.take n++cs++l.drop (n+cs.length)
 |l,0,cs,_=>by simp[lay]
 |[],n+1,cs,h=>by simp at h
 |u::l,n+1,cs,h=>by
  have:=Ku l n cs (by simp at h;omega);simp only[lay,this,jf,iO];have e:n+1+cs.length=(n+cs.length)+1:=by omega
  rw[e,List.drop_succ_cons]
section
variable{P:Program}{o:Oper}{a:Act}{w:World}{x y:Operand}{t e s:TypeId}
theorem NN{g p sz:Nat}{tb:TypeId}{cs vs:List Value}{v:Value}(i:v.cells=vs.toArray)(j:∀w,(Go.sizeOf t).run P w= .ok sz w)(l:bT vs.length sz=true)(I:vs.all (·.oneCell')=true)
 (c:hX (p+vs.length) cs.length=true)(ag:(aU.c8 g tb cs).ok w)(m:o.op= .store t x y)(n:a.eval x= .pointer (some ⟨g,p,none⟩))(hy:a.eval y=v) :
 ∃w',nd P o a w w'/\aY [g] w w'/\(aU.c8 g tb (lay cs p vs)).ok w':=by
 have d:w.heap[g]? =some (.cells cs.toArray tb (0,0)):=ag
 have b:vs.length=sz:=aZ l
 have f:p+vs.length<=cs.length:=bW c
 have h:=run_storeCells_at P g p tb vs 0 cs.toArray w d (by simpa using f) (λ u q=>jK.1 I u q)
 simp only[Nat.add_zero]at h
 refine⟨w.setRow g (lay cs p vs).toArray,?_,?_,?_⟩
 ·simp only[nd,execOp,m,n,hy];rw[Ku _ _ _ f];simp only[iV,b]at h;have fl:=i;unfold Value.cells at fl;simp[go_sem,Instr.storeAt,storeVar,j,fl,b,h]
 ·refine⟨rfl,rfl,rfl,by simp[World.setRow],λ k _ r=>?_⟩;simp only[World.setRow,j1];rw[lW (by simpa[eq_comm]using r)]
 ·show(w.setRow g _).heap[g]? =_
  simp[World.setRow,j1,d]
end
section
variable{P:Program}{o:Oper}{a:Act}{w:World}{x y:Operand}{t e:TypeId}
def C5(a:Act):List (Nat×Operand)->List (Nat×Value)->Prop
 |[],[]=>True
 |(i,x)::xs,(j,v)::vs=>(a.eval x=v/\i=j)/\C5 a xs vs
 |_,_=>False
theorem HO:∀ {xs:List (Nat×Operand)}{vs:List (Nat×Value)},C5 a xs vs->xs.map (λ p=>(p.1,a.eval p.2))=vs
 |[],[],_=>rfl
 |(i,x)::xs,(j,v)::vs,h=>by obtain⟨⟨I,rfl⟩,J⟩:=h;rw[fA,HO J,I]
def placesOf(P:Program)(t:TypeId):Sem (Array (Nat×Nat)):=(match P.underlying t with|some (.struct bU)=>bU |_=>#[]).mapM λ(f:Field)=>do pure (f.offset,<-Go.sizeOf f.type)
theorem amT{z:Value}{bU:Array Field}{b:Array (Nat×Nat)}{xs:List (Nat×Operand)}{vs:List (Nat×Value)}{cs:List Value}(f:∀w,(zeroValue t).run P w= .ok z w)(c:P.underlying t=some (.struct bU))
 (g:∀w,(placesOf P t).run P w= .ok b w)(h:o.op= .build t xs.toArray)(j:C5 a xs vs)(k:Instr.fill (λ i=>b[i]?) z.cells vs=some cs.toArray):aS P o a w (.agg cs.toArray) w:=by
 have d:=g w
 simp only[placesOf,c]at d
 have I:=HO j
 simp only[aS,execOp,h,Instr.build,Sem.run_bind,f,Result.andThen_ok,run_underlying c,d,gu]
 have e:(xs.map λ(i,x)=>(i,a.eval x))=vs:=I
 simp only[e,k]
 rfl
theorem x7{z:Value}{sz n:Nat}{xs:List (Nat×Operand)}{vs:List (Nat×Value)}{cs:List Value}(d:P.underlying t=some (.slice e))(f:∀w,(Go.sizeOf e).run P w= .ok sz w)(g:∀w,(zeroValue e).run P w= .ok z w)
 (b:hX (n*sz) 16777216=true)(c:bT (n*sz) 0=false)(h:o.op= .buildSlice t n xs.toArray)(j:C5 a xs vs)
 (k:Instr.fill (λ i=>some (i*sz,sz)) ((Array.range (n*sz)).map (z.cells[·%z.cells.size]!)) vs=some cs.toArray) :
 aS P o a w (.slice (some ⟨w.heap.size,0,none⟩) n n) (w.alloc (.cells cs.toArray e)):=by
 have I:=HO j
 have l:(xs.map λ(i,x)=>(i,a.eval x))=vs:=I
 have J: ¬(n*sz>2^24):=by have:=bW b;omega
 have m:n*sz≠0:=by intro p;rw[p]at c;simp at c
 simp only[aS,execOp,h,Instr.buildSlice,Sem.run_bind,Sem.run_pure,f,g,Result.andThen_ok,run_underlying d,gu,l,lW J,lW m,k]
 rfl
theorem anh{t':TypeId}{m n:Int}(b:o.op= .binOp .or t x y t')(c:a.eval x= .int .i64 m)(hy:a.eval y= .int .i64 n):aS P o a w (.int .i64 (Lr m n)) w:=by unfold Lr;rw[<-ph];simp only[aS,execOp,b,c,hy];rfl
theorem amR{t':TypeId}{m n:Int}(b:o.op= .binOp .and t x y t')(c:a.eval x= .int .i64 m)(hy:a.eval y= .int .i64 n):aS P o a w (.int .i64 (Gz m n)) w:=by unfold Gz;rw[<-ph];simp only[aS,execOp,b,c,hy];rfl
theorem anl{t':TypeId}{k:IntKind}{m:Int}{n:Nat}(c:hX n 64=true)(d:o.op= .binOp .shl t x y t')(f:a.eval x= .int .i64 m)(hy:a.eval y= .int k (n:Int)):aS P o a w (.int .i64 (Ff m n)) w:=by have b:=bW c;unfold Ff;rw[<-ph];simp only[aS,execOp,d,f,hy];simp[go_sem,b]
end
section
variable{P:Program}{ops:Array Oper}{Q:Exit->Act->World->Prop}{a:Act}{w w':World}{rest:List Oper}{o:Oper}{n:b'}{d:Nat}{l:List (Nat×Value)}{v:Value}
theorem xW(b:o.guard=none):Region.wanted o (yielded ops a.tmps)=true:=by simp[Region.wanted,b]
theorem mY(b:Region.wanted o (yielded ops a.tmps)=true)(hy:aS P o a w v w')(c:Fr n l a)(aE:o.dst=some d)(e:eM d n=true)(k:∀a',Fr n ((d,v)::l) a'->wpList P ops Q rest a' w'):wpList P ops Q (o::rest) a w:=by
 refine wpList_step λ K f=>?_;rw[lX b];unfold Oper.wp;rw[show(execOp a.eval o).run P w=_ from hy];show K (a.put o.dst v) w'
 rw[aE];exact f _ _ (k _ (c.put e))
theorem hD(b:Region.wanted o (yielded ops a.tmps)=true)(hy:nd P o a w w')(aE:o.dst=none)(k:wpList P ops Q rest a w'):wpList P ops Q (o::rest) a w:=by
 refine wpList_step λ K c=>?_;rw[lX b];unfold Oper.wp;rw[show(execOp a.eval o).run P w=_ from hy];show K (a.put o.dst undef) w'
 rw[aE];exact c _ _ k
theorem alk{j a3:Nat}{b:Bool}(c:Fr n l a)(e:o.guard=some (j,b))(f:(ops[j]?).bind (·.dst)=some a3)(g:dp l a3=some (.bool b))(i:eM a3 n=true):Region.wanted o (yielded ops a.tmps)=true:=by
 have k:a3<n:=bW i;have h:=c.get a3 _ g;have m:=c.size;have J:a.tmps[a3]? =some (.bool b):=by rw[iy (by omega)];simpa[dP,m,k]using h
 simp[Region.wanted,e,yielded,f,J]
theorem alj{j a3:Nat}{b c:Bool}(e:Fr n l a)(f:o.guard=some (j,b))(g:(ops[j]?).bind (·.dst)=some a3)(i:dp l a3=some (.bool c))(k:(c==b)=false)(m:eM a3 n=true):Region.wanted o (yielded ops a.tmps)=false:=by
 have p:a3<n:=bW m;have h:=e.get a3 _ i;have q:=e.size;have J:a.tmps[a3]? =some (.bool c):=by rw[iy (by omega)];simpa[dP,q,p]using h
 simpa[Region.wanted,f,yielded,g,J]using k
theorem alm{j a3:Nat}{b:Bool}(c:Fr n l a)(e:o.guard=some (j,b))(f:(ops[j]?).bind (·.dst)=some a3)(g:dp l a3=some undef)(i:eM a3 n=true):Region.wanted o (yielded ops a.tmps)=false:=by
 have k:a3<n:=bW i;have h:=c.get a3 _ g;have m:=c.size;have J:a.tmps[a3]? =some undef:=by rw[iy (by omega)];simpa[dP,m,k]using h
 simp[Region.wanted,e,yielded,f,J,undef]
theorem eJ(b:Region.wanted o (yielded ops a.tmps)=false)(c:Fr n l a)(aE:o.dst=some d)(e:eM d n=true)(k:∀a',Fr n ((d,undef)::l) a'->wpList P ops Q rest a' w):wpList P ops Q (o::rest) a w:=by refine wpList_step λ K f=>?_;rw[lW (by simp[b]),aE];exact f _ _ (k _ (c.put e))
def wF(a:Act):List Operand->List Value->Prop
 |[],[]=>True
 |x::xs,v::vs=>a.eval x=v/\wF a xs vs
 |_,_=>False
theorem HP:∀ {xs:List Operand}{vs:List Value},wF a xs vs->xs.map a.eval=vs
 |[],[],_=>rfl
 |x::xs,v::vs,h=>by rw[fA,h.1,HP h.2]
theorem alr{f:FuncId}{xs:List Operand}{e4:Array TypeId}{vs:List Value}{R:Ending->World->Prop}{K:Act->World->Prop}
 (b:o.op= .call { callee:=.value (.func f),args:=xs.toArray,argTypes:=e4 })(c:∀args w,(callFunc f args).run P w= .ok (.enter f args) w)
 (g:wF a xs vs)(hc:Calls P f vs.toArray w R)(k:∀e w',R e w'->∃v,e= .returned v/\K (a.put o.dst v) w'):o.wp P a w K Q:=by
 unfold Oper.wp
 have e:(execOp a.eval o).run P w= .ok (.enter f vs.toArray) w:=by have I:=HP g;simp only[execOp,b,resolve,gu,I];simp[go_sem,Act.eval,Deferred.ofValue,invoke,c]
 rw[e]
 exact hc.mono λ e w' h=>by obtain⟨v,rfl,i⟩:=k e w' h;exact i
theorem Bc{f:FuncId}{xs:List Operand}{e4:Array TypeId}{vs:List Value}{R:Ending->World->Prop}(b:Region.wanted o (yielded ops a.tmps)=true)
 (c:o.op= .call { callee:=.value (.func f),args:=xs.toArray,argTypes:=e4 })(g:∀args w,(callFunc f args).run P w= .ok (.enter f args) w)
 (h:wF a xs vs)(hc:Calls P f vs.toArray w R)(i:Fr n l a)(aE:o.dst=some d)(j:eM d n=true)
 (k:∀e w',R e w'->∃v,e= .returned v/\∀a',Fr n ((d,v)::l) a'->wpList P ops Q rest a' w'):wpList P ops Q (o::rest) a w:=by
 refine wpList_step λ K m=>?_
 rw[lX b]
 refine alr c g h hc λ e w' p=>?_
 obtain⟨v,q,r⟩:=k e w' p
 rw[aE]
 exact⟨v,q,m _ _ (r _ (i.put j))⟩
end
section
variable{P:Program}{Q:Exit->Act->World->Prop}{a:Act}{w:World}
theorem O8{c:Code}(b:Nat->Act->World->Prop)(k:Nat)(h:b k a w)(e:∀a w,¬b 0 a w)
 (round:∀k a w,b (k+1) a w->∀K:Act->World->Prop,(∀a w,b k a w->K a w)->c.wp P (Exit.then K Q) a w):(Code.loop c).wp P Q a w:=
 wp_loop_ghost b k h λ m a w d=>by
  cases m with
  |zero=>exact absurd d (e a w)
  |succ m=>exact round m a w d _ λ a' w' h'=>⟨m,ky m,h'⟩
theorem ajI{fn:Func}{R:Ending->World->Prop}{n:Nat}{l:List (Nat×Value)}(b:fn.results= #[])(c:Fr ⟨n,[]⟩ l a)(h:R (.returned (.tuple #[])) w):bodyPost P fn R .ret a w:=⟨c.defers,_,results_none b _ _ _,h⟩
theorem EW{fn:Func}{R:Ending->World->Prop}{n:Nat}{t:Nat}{l:List (Nat×Value)}{v:Value}(c:fn.results= #[.tmp t])(b:Fr ⟨n,[]⟩ l a)(d:dp l t=some v)(h:R (.returned v) w):bodyPost P fn R .ret a w:=⟨b.defers,_,results_tmp c _ _ _,by rw[b.get _ _ d];exact h⟩
def Mz(P:Program)(a:Act)(w:World):ResultVar->Value->Prop
 | .tmp t,v=>a.tmps.getD t undef=v
 | .cell dr ty,v=>∃b p,a.tmps.getD dr undef= .pointer (some ⟨b,p,none⟩)/\
  ((∃cs:List Value,(∀w,(isAgg ty).run P w= .ok true w)/\(∀w,(Go.sizeOf ty).run P w= .ok cs.length w)/\eg w ⟨b,p,none⟩ cs/\v= .agg cs.toArray)\/
   ((∀w,(isAgg ty).run P w= .ok false w)/\w.cell? ⟨b,p,none⟩=some v))
def E5(P:Program)(a:Act)(w:World):List ResultVar->List Value->Prop
 |[],[]=>True
 |r::rs,v::vs=>Mz P a w r v/\E5 P a w rs vs
 |_,_=>False
def pack:List Value->Value
 |[v]=>v
 |vs=>.tuple vs.toArray
def E4(a:Act):ResultVar->Sem Value
 | .tmp t=>pure (a.tmps.getD t undef)
 | .cell dr t=>do loadVar t (<-asAddr (a.tmps.getD dr undef))
theorem akt{r:ResultVar}{v:Value}(h:Mz P a w r v):(E4 a r).run P w= .ok v w:=by
 cases r with
 |tmp t=>exact congrArg (λ x=>Result.ok x w) h
 |cell dr ty=>obtain⟨b,p,I,J⟩:=h;simp only[E4,I];rcases J with⟨cs,c,e,hc,rfl⟩|⟨c,hc⟩;have d:=run_loadCells_list (P:=P) w ⟨b,p,none⟩ cs (λ j u f=>by rw[iq];exact hc j u f);unfold loadCells at d;simp[go_sem,loadVar,asAddr,c,e,d];simp[go_sem,loadVar,asAddr,c,hc]
theorem U5:∀ {rs:List ResultVar}{vs:List Value},E5 P a w rs vs->(rs.mapM (E4 a)).run P w= .ok vs w
 |[],[],_=>rfl
 |r::rs,v::vs,h=>by have I:=akt h.1;have J:=U5 h.2;rw[List.mapM_cons];simp only[Sem.run_bind,I,J,Result.andThen_ok];rfl
theorem Mq{fn:Func}{R:Ending->World->Prop}{n:Nat}{l:List (Nat×Value)}{rs:List ResultVar}{vs:List Value}(b:fn.results=rs.toArray)(c:Fr ⟨n,[]⟩ l a)(d:E5 P a w rs vs)
 (h:R (.returned (pack vs)) w):bodyPost P fn R .ret a w:=by
 refine⟨c.defers,pack vs,?_,h⟩
 have I:=U5 d
 unfold results
 have e:(λ x=>match x with| .tmp t=>pure (a.tmps.getD t undef)| .cell dr t=>do loadVar t (<-asAddr (a.tmps.getD dr undef)):ResultVar->Sem Value)=E4 a:=by funext x;cases x<;>rfl
 rw[b,List.mapM_toArray]
 simp only[Sem.run_bind]
 show Result.andThen (((List.toArray <$> rs.mapM (λ x=>match x with| .tmp t=>pure (a.tmps.getD t undef)| .cell dr t=>do loadVar t (<-asAddr (a.tmps.getD dr undef)):ResultVar->Sem Value))).run P w) _=_
 rw[e,map_eq_pure_bind,Sem.run_bind,I]
 match vs with
 |[]=>rfl
 |[v]=>rfl
 |v::u::r=>rfl
end
section
variable{P:Program}{ops:Array Oper}{Q:Exit->Act->World->Prop}{a:Act}{w:World}{rest:List Oper}{o:Oper}{n:b'}{d:Nat}{l:List (Nat×Value)}
 {W:World}{ar X:List Nat}{E:List aU}{D:List bc}
theorem a9.new(c:a9 W ar X w E D)(t:TypeId)(cs:List Value):a9 W ar X (w.alloc (.cells cs.toArray t)) (aU.c8 w.heap.size t cs::E) D:=c.push _ (aY.alloc _ _ _) (YW w t cs) (λ k b=>by simp[aU.c8]at b;subst b;exact⟨da _,by simp⟩) (by simp[aU.c8])
theorem q1{g p sz:Nat}{t tb:TypeId}{x y:Operand}{cs vs:List Value}{v:Value}(i:Nat)(c:a9 W ar X w E D)(hi:E[i]? =some (aU.c8 g tb cs))(e:Region.wanted o (yielded ops a.tmps)=true)
 (f:v.cells=vs.toArray)(h:∀w,(Go.sizeOf t).run P w= .ok sz w)(j:bT vs.length sz=true)(I:vs.all (·.oneCell')=true)(b:hX (p+vs.length) cs.length=true)
 (m:o.op= .store t x y)(q:a.eval x= .pointer (some ⟨g,p,none⟩))(hy:a.eval y=v)(aE:o.dst=none)
 (k:∀w',a9 W ar X w' (E.set i (aU.c8 g tb (lay cs p vs))) D->wpList P ops Q rest a w'):wpList P ops Q (o::rest) a w:=by
 obtain⟨w',I,J,r⟩:=NN f h j I b (c.e i hi) m q hy
 exact hD e I aE (k w' (c.Fq i hi J r (by simp[aU.c8]) (λ k s=>.inl s)))
theorem a9.Er{α:Type}(b:a9 W ar X w E D)(e:TypeId)(size:Nat):a9 W ar X w (aU.row e size (.slice none 0 0) ([]:List α) []::E) D:=b.push _ (aY.refl _ _) (World.ownsRow_nil w 0 e size) (λ k c=>by simp[aU.row,Value.ownBlock]at c) (by simp[aU.row,Value.ownBlock])
theorem aif(o:Option Nat):o.toList.Nodup:=by cases o<;>simp
theorem SP{e:TypeId}{z:Value}{sz bytes:Nat}(h:(P.info? e).map (λ i=>(i.zero,i.size,i.bytes))=some (some z,sz,bytes)):∃i,P.info? e=some i/\i.zero=some z/\i.size=sz/\i.bytes=bytes:=by
 cases hi:P.info? e with
 |none=>rw[hi]at h;cases h
 |some i=>rw[hi]at h;simp only[fU,aK,cY]at h;exact⟨i,rfl,h.1,h.2.1,h.2.2⟩
end
section
variable{P:Program}{ops:Array Oper}{C:World->Prop}{m9:Act->Prop}{a:Act}{w:World}{rest:List Oper}{o:Oper}{n:b'}{d:Nat}{l:List (Nat×Value)}{v:Value}
theorem qs(b:Region.wanted o (yielded ops a.tmps)=false)(c:Fr n l a)(aE:o.dst=some d)(e:eM d n=true)(k:∀a',Fr n ((d,undef)::l) a'->wpQuiet P ops C m9 rest a'):wpQuiet P ops C m9 (o::rest) a:=by unfold wpQuiet;rw[lW (by simp[b]),aE];exact k _ (c.put e)
theorem Zf{id:Nat}{Q:Exit->Act->World->Prop}{l:List Oper}(b:P.follows .mixedOrders=true)(c:Region.lexB .any l.toArray=true)
 (h:wpQuiet P l.toArray (λ w'=>aY [] w w') (λ a=>∀w',aY [] w w'->Q .normal a w') l a):(Code.region id l.toArray true).wp P Q a w:=
 wp_region_quiet (C:=λ w'=>aY [] w w') b c (aY.drew [] w) (by refine Eq.mp ?_ h;rw[List.toList_toArray])|>λ h=>wp_mono h (λ e a w q=>q)
end
theorem abA{w w':World}{p:Addr}{v:Value}(h:aY [] w w')(hc:w.cell? p=some v):w'.cell? p=some v:=(World.cell?_of_block (h.block p.block (World.block_lt_of_cell? w p hc) (by simp))).trans hc
theorem wE{w w':World}{p:Addr}{cs:List Value}(h:aY [] w w')(hc:eg w p cs):eg w' p cs:=λ j u a=>abA h (hc j u a)
section
variable{P:Program}{Q:Exit->Act->World->Prop}{K:Act->World->Prop}{a:Act}{w:World}
theorem rb{i:Nat}(h:Q (.exit i) a w):Exit.then K Q (.exit i) a w:=h
theorem B0{i:Nat}(h:Q .normal a w):Exit.inBlock i Q (.exit i) a w:=by simpa[Exit.inBlock]using h
theorem FM(h:Q .ret a w):Exit.then K Q .ret a w:=h
theorem WJ{i:Nat}(h:Q .ret a w):Exit.inBlock i Q .ret a w:=h
theorem O5{id:Nat}{c:Code}(b:Act->World->Prop)(d:∀K:Act->World->Prop,(∀a w,b a w->K a w)->c.wp P (Exit.inBlock id (Exit.then K Q)) a w)(hy:∀a w,b a w->Q .normal a w):(Code.block id c).wp P Q a w:=by
 refine wp_block (wp_mono (d _ hy) ?_);intro e a w h;cases e with
 |exit i=>by_cases hi:i=id;simpa[Exit.inBlock,Exit.then,hi]using h;simpa[Exit.inBlock,Exit.then,hi]using h
 |_=>exact h
theorem mf{id:Nat}{l:List Oper}(h:wpList P l.toArray Q l a w):(Code.region id l.toArray false).wp P Q a w:=wp_region_lit h
end
section
variable{W w:World}{ar X:List Nat}{E:List aU}{D:List bc}
def EJ(D:List bc):List bc->Prop
 |[]=>True
 |y::r=>(∃i:Nat,D[i]? =some y)/\EJ D r
theorem Ud{D:List bc}:∀ {a:List bc},EJ D a->∀y∈a,y∈D
 |[],_,y,hy=>by simp at hy
 |z::r,h,y,hy=>by rcases dc.1 hy with rfl |e;obtain⟨i,hi⟩:=h.1;exact cU hi;exact Ud h.2 y e
theorem a9.pick(h:a9 W ar X w E D){a:List bc}(b:EJ D a):a9 W ar X w E a:=h.less (Ud b)
theorem a9.CY(h:a9 W ar X w E D)(i:Nat):a9 W ar X w (E.eraseIdx i) D:=h.drop (List.eraseIdx_sublist E i)
theorem a9.freeze{α:Type}{T:cE α}{e:TypeId}{A:Option Addr}{n c:Nat}{l:List α}{xs:List Value}(h:a9 W ar X w E D)(i j:Nat)(hi:E[i]? =some (aU.row e T.size (.slice A n c) l xs))(b:D[j]? =some (bc.rows T xs l)) :
 a9 W ar X w (E.eraseIdx i) (bc.of (cM T) [.slice A n c] l::D):=by
 have I:=h.CY i
 refine I.more (aka (h.e i hi) (I.d j b) ?_)
 intro k a d
 rcases de.1 d with ak |ak
 ·have f:=h.fy k ak;rcases(h.lt k (hn.2 ⟨_,cU hi,a⟩)).2 with al |al;exact f.2 al;omega
 ·obtain⟨o,g⟩:=bb.1 hi;have m:E=E.take i++E[i]::E.drop (i+1):=by simp
  have aE:=h.a3;rw[m,g]at aE;have al:bD (E.take i++aU.row e T.size (.slice A n c) l xs::E.drop (i+1))=bD (E.take i)++((aU.row e T.size (.slice A n c) l xs).a6++bD (E.drop (i+1))):=by simp[bD]
  rw[al,ft,ft]at aE;rw[List.eraseIdx_eq_take_drop_succ]at ak;rcases de.1 (by simpa[bD]using ak:k∈bD (E.take i)++bD (E.drop (i+1)))with aL |aL;exact aE.2.2 k aL k (de.2 (.inl a)) rfl;exact aE.2.1.2.2 k a k aL rfl
theorem a9.Ri{g:Nat}{t:TypeId}{cs:List Value}(h:a9 W ar X w E D)(i:Nat)(hi:E[i]? =some (aU.c8 g t cs)):a9 W ar X w (E.eraseIdx i) (bc.ho g cs::D):=by
 have I:=h.CY i;refine I.more ⟨?_,y0 (h.e i hi),λ j u b=>?_⟩
 ·intro c;have a:g∈(aU.c8 g t cs).a6:=by simp[aU.c8]
  rcases de.1 c with ak |ak;have d:=h.fy g ak;rcases(h.lt g (hn.2 ⟨_,cU hi,a⟩)).2 with al |al;exact d.2 al;omega
  ·obtain⟨k,e⟩:=bb.1 hi;have f:E=E.take i++E[i]::E.drop (i+1):=by simp
   have aE:=h.a3;rw[f,e]at aE;have al:bD (E.take i++aU.c8 g t cs::E.drop (i+1))=bD (E.take i)++((aU.c8 g t cs).a6++bD (E.drop (i+1))):=by simp[bD]
   rw[al,ft,ft]at aE;rw[List.eraseIdx_eq_take_drop_succ]at ak;rcases de.1 (by simpa[bD]using ak:g∈bD (E.take i)++bD (E.drop (i+1)))with aL |aL;exact aE.2.2 g aL g (de.2 (.inl a)) rfl;exact aE.2.1.2.2 g a g aL rfl
 ·have:=rI (h.e i hi) b;simpa using this
end
def cq(n:Nat):List Nat->Array Bool
 |[]=>Array.replicate n false
 |i::d=>(cq n d).setIfInBounds i true
def vZ(K:Act->World->Prop)(Q:Exit->Act->World->Prop):Exit->Act->World->Prop
 | .normal,a,w=>K a w
 |e,a,w=>Q e a w
section
variable{P:Program}{ops:Array Oper}{Q:Exit->Act->World->Prop}{a:Act}{w:World}{o:Oper}{n:b'}{f d i:Nat}{ds:List Nat}{l:List (Nat×Value)}{v:Value}
def xR(ops:Array Oper)(ds:List Nat)(i:Nat):Bool:=Region.noSelect ops&&Region.free .any ops (cq ops.size ds) i&&(Region.ready .any ops (cq ops.size ds)).contains i
theorem alq{K:Act->World->Prop}{Q:Exit->Act->World->Prop}(h:o.wp P a w K (vZ K Q)):o.wp P a w K Q:=by
 unfold Oper.wp at *
 generalize(execOp a.eval o).run P w=r at *
 cases r with
 |ok n w'=>
  cases n<;>simp only[Oper.upon]at h⊢ <;>
   first
    |exact h
    |exact Calls.mono h (λ e w'' b=>by cases e<;>first |exact b |exact b)
 |halt x w'=>cases x<;>simp only[Oper.upon]at h⊢ <;>exact h
theorem Ng{K:Act->World->Prop}(hi:ops[i]? =some o)(h:wpList P ops (vZ K (NoPanic Q)) [o] a w):wpOp P ops (NoPanic Q) i K a w:=by unfold wpOp;simp only[hi];unfold wpList at h;split at h;rename_i b;rw[lX b];rcases h with h |⟨I,J⟩;exact .inl (alq h);exact .inr ⟨I,J.elim λ a h=>h.elim λ w h=>⟨a,w,h⟩⟩;rename_i b;rw[lW b];exact h
end
section
variable{P:Program}{o:Oper}{a:Act}{w:World}{t t':TypeId}{x y:Operand}{bU:Array Go.Field}{xs ys:Array Value}{b:Bool}
theorem x8(c:P.underlying t=some (.struct bU))(e:P.stoodInHeld t=false)(f:P.eqGuardType P.depth t=false)
 (g:(Op.eqFields 9999 xs ys bU.toList).run P w= .ok b w)(i:o.op= .binOp .eql t x y t')(j:a.eval x= .agg xs)(hy:a.eval y= .agg ys):aS P o a w (.bool b) w:=by
 have d:P.fieldsOf t=bU:=by simp[Program.fieldsOf,c]
 have h:=run_equalIn_struct (P:=P) w 9999 t xs ys (by rw[d];exact c) e
 rw[d,g]at h
 have h:(Op.equalIn 10000 t (Value.agg xs) (Value.agg ys)).run P w= .ok b w:=h
 simp only[aS,execOp,i,j,hy]
 simp[go_sem,Op.equal,Op.maxDepth,h,run_eqGuard_agg w _ _ _ _ _ _ f]
theorem x9(c:P.underlying t=some (.struct bU))(e:P.stoodInHeld t=false)(f:P.eqGuardType P.depth t=false)
 (g:(Op.eqFields 9999 xs ys bU.toList).run P w= .ok b w)(i:o.op= .binOp .neq t x y t')(j:a.eval x= .agg xs)(hy:a.eval y= .agg ys):aS P o a w (.bool (!b)) w:=by
 have d:P.fieldsOf t=bU:=by simp[Program.fieldsOf,c]
 have h:=run_equalIn_struct (P:=P) w 9999 t xs ys (by rw[d];exact c) e
 rw[d,g]at h
 have h:(Op.equalIn 10000 t (Value.agg xs) (Value.agg ys)).run P w= .ok b w:=h
 simp only[aS,execOp,i,j,hy]
 simp[go_sem,Op.equal,Op.maxDepth,h,run_eqGuard_agg w _ _ _ _ _ _ f]
theorem kC{d:Nat}:(Op.eqFields d xs ys []).run P w= .ok true w:=rfl
theorem fX{d:Nat}{f:Go.Field}{l:List Go.Field}{k:IntKind}{m n:Int}{e:Prop} [Decidable e](g:(f.name != "_")=true)(i:P.underlying f.type=some (.int k))(j:∀w,(isAgg f.type).run P w= .ok false w)
 (p:xs[f.offset]? =some (.int k m))(hy:ys[f.offset]? =some (.int k n))(h:(Op.eqFields (d+1) xs ys l).run P w= .ok (decide e) w):(Op.eqFields (d+1) xs ys (f::l)).run P w= .ok (decide (m=n/\e)) w:=by
 have q:f.name≠ "_" :=by simpa using g
 simp only[Op.eqFields,q,if_true,ne_eq,not_false_iff,part,Sem.run_bind,j,Result.andThen_ok,p,hy,ie,if_false,Sem.run_pure,run_equalIn_int w d f.type k k m n i]
 by_cases c:m=n
 ·subst c;simp[h]
 ·simp[c,show(m==n)=false from by simpa using c]
end
open Go Go.RowKit Go.ChangeShapes Go.WideShapes Go.Deep ad
section
variable{H:Type}{enc:TypeId×Value->H}{P:Program}
theorem Pb(e:laidOutB P=true){W f:World}{hg:Nat->Bool}:∀ {b:List TypeId}{vs:List Value}{ds:List (DataW H)}{ps:List MemPlace},DataW.TrodAll enc P W 0 (λ _=>true) true b vs ds ps ->
 (b.all λ t=>P.readableRec t&&eM t P.types.size)=true->(∀p∈ps,W.sameAt f p)->(∀p∈ps,hg p.block=true)->DataW.TrodAll enc P f 0 hg true b vs ds ps
 |[],vs,ds,ps,h,_,_,_=>by obtain⟨rfl,rfl,rfl⟩:=trodAll_nil h;exact trodAll_mk0
 |t::b,vs,ds,ps,h,c,g,i=>by
  obtain⟨v,l,d,j,p,q,rfl,rfl,rfl,k,I⟩:=trodAll_cons h;simp only[List.all_cons,bL]at c
  exact trodAll_cons_mk (WideElems.Trod_stays e c.1.1 (bW c.1.2) k (λ x a=>g x (lz _ a)) (λ x a=>i x (lz _ a)))
   (Pb e I c.2 (λ x a=>g x (lu _ a)) (λ x a=>i x (lu _ a)))
theorem ais{f:Func}{s:ChangeSpec}{W c:World}{args:Array Value}{ds gs:List (DataW H)}{before:List MemPlace}{tb:TypeId}
 (e:DataW.Whole enc P f.params.toList s.vars false W args.toList ds gs before)(y:laidOutB P=true)(z:(f.params.toList.all λ t=>P.readableRec t&&eM t P.types.size)=true)
 (l:s.vars=[])(g:s.fn H ds= { results:=[.lit (.bool true)],args:=ds })(ag:P.underlying tb=some .bool)(m:f.resultTypes= #[tb])(A:aY [] W c) :
 s.post enc P f false true false false W args (.bool true) c:=by
 have h:=A.below
 have i:∀p∈before,p.block<W.heap.size:=λ p j=>e.lt p j
 have k:=e
 obtain⟨p,q,B,n,o,C,D⟩:=e
 rw[l]at n
 obtain⟨rfl,rfl⟩:=trodVars_none n
 simp only[iW]at o
 subst o
 have d:∀x∈before,(λ b=>decide (b<W.heap.size)) x.block=true:=λ x a=>by simpa using i x a
 have r:∀hg:Nat->Bool,(∀x∈before,hg x.block=true)->DataW.TrodAll enc P c 0 hg true f.params.toList args.toList ds before:=λ hg E=>Pb y B z (λ x a=>h.same (i x a)) E
 have u:∀(b:Nat)(hg:Nat->Bool)(aE:Bool),DataW.TrodAll enc P c b hg aE f.resultTypes.toList ((Value.bool true).resultList f.resultTypes.size) [.lit (.bool true)] []:=λ b hg aE=>by rw[m];exact trodAll_cons_mk (p:=[]) (shut_bool ag true) trodAll_mk0
 have v:∀hg:Nat->Bool,DataW.TrodVars enc P c hg s.vars [] []:=λ hg=>by rw[l];rfl
 refine⟨ds,[],before,[],before,[],k,?_,?_,?_,World.keptBut_mono (λ x a=>⟨a,Or.inr (by simpa using a)⟩) (h.frame (·∈before)),λ _=>?_⟩
 ·simp only[iW,g];exact u _ _ _
 ·simp only[iW,g];exact r _ d
 ·simp only[iW,g];exact v _
 ·refine⟨ok_one m rfl (okWide_bool_mk ag true),_,_,([]++before)++[],⟨[]++before,[],trodAll_append (r (λ _=>true) (λ _ _=>rfl)) (u _ _ _),v _,rfl,?_,?_⟩,?_⟩
  ·intro b off j;have w:MemPlace.cell b off∈before:=by simpa using j
   rw[h.frozen (i _ w)];exact C b off w
  ·intro F;simpa using D F
  ·intro x a _;simpa using a
theorem U4{α:Type}{T:cE α}{F:Nat->Prop}{W:World}{b o:Nat}{R:α->Prop}:∀m:Nat,(∀i,i<m->∃cs d,eg W ⟨b,o+i*T.size,none⟩ cs/\T.rd F W cs d/\R d) ->
 ∃(l:List α)(xs:List Value),l.length=m/\cS T F W xs l/\eg W ⟨b,o,none⟩ xs/\∀d∈l,R d
 |0,_=>⟨[],[],rfl,rfl,λ j u a=>by simp at a,λ d aE=>by cases aE⟩
 |m+1,h=>by obtain⟨l,xs,I,J,f,g⟩:=U4 m (λ i hi=>h i (by omega));obtain⟨cs,d,k,n,lk⟩:=h m (by omega);refine⟨l++[d],xs++cs,by simp[I],UK (T:=T) n J,λ j u a=>?_,λ e p=>?_⟩;have c:=nV (T:=T) J;rcases gE j xs.length with q |wV;exact f j u (by simpa[lx,q]using a);rw[eX wV]at a;have:=k (j-xs.length) u a;rw[c,I]at this;rw[show o+j=o+m*T.size+(j-m*T.size) by rw[c,I]at wV;omega];simpa using this;rcases de.1 p with ak |ak;exact g e ak;simp at ak;subst ak;exact lk
end
def jo{H:Type}(P:Program)(enc:TypeId×Value->H)(N:Nat)(t:TypeId){α:Type}(T:cE α)(R:α->Prop):Prop:=∀(W:World)(n:Nat)(cs:List Value)(x:DataW H×List MemPlace),DataW.trod enc P W 0 (λ _=>true) true n t cs=some x->(∀p∈x.2,p.block<W.heap.size)->(∀m∈x.1.weights P t,m<=N)->∃d,T.rd (gL [] W) W cs d/\R d
def ru(n:Int):Prop:=-9223372036854775808<=n/\n<=9223372036854775807
section
variable{H:Type}{enc:TypeId×Value->H}{P:Program}{N:Nat}{t e:TypeId}
theorem vn(a:P.underlying t=some .string):jo P enc N t km (λ s=>s.length<=N):=by intro W n cs x h _ b;obtain⟨s,rfl,rfl,_⟩:=DataW.trod_string a h;exact⟨s.data.toList,rfl,b _ (by simp[DataW.weights])⟩
theorem xH(a:P.underlying t=some (.int .i64)):jo P enc N t (fr .i64) ru:=by intro W n cs x h _ _;obtain⟨z,rfl,_,b⟩:=DataW.trod_int a h;exact⟨z,rfl,by simpa[ru,Lit.wf,IntKind.min,IntKind.max,IntKind.signed,IntKind.bits]using b⟩
theorem ajV(a:P.underlying t=some .bool):jo P enc N t ak3 (λ _=>True):=by intro W n cs x h _ _;obtain⟨b,rfl,_⟩:=DataW.trod_bool a h;exact⟨b,rfl,trivial⟩
theorem Ty{d:DataW H}{m:Nat}(a:m∈d.weights P e):∀ {l:List (DataW H)},d∈l->m∈DataW.weightsAll P e l
 |[],h=>by cases h
 |x::r,h=>by simp only[DataW.weightsAll,de];rcases dc.1 h with rfl |h;exact .inl a;exact .inr (Ty a h)
theorem A6{α:Type}{T:cE α}{R:α->Prop}(q:P.underlying t=some (.slice e))(M:P.cellsOf e=T.size)(s:eM 0 T.size=true)(O:jo P enc N e T R):jo P enc N t (cM T) (λ l=>l.length*P.bytesOf e<=N/\∀d∈l,R d):=by
 have s:0<T.size:=bW s;intro W n cs x h v w;rcases open_slice q h with⟨rfl,rfl⟩|⟨a,c,cap,m,Q,D,S,rfl,_,U,y,V,z,hi⟩;exact⟨[],⟨none,0,rfl,da _,hh _,λ _=>rfl,λ h=>absurd rfl h⟩,by simp,λ d aE=>by cases aE⟩
 ·have X:m=cap:=by simpa using V
  subst X;have A:x.2=MemPlace.row a (m*P.cellsOf e)++(fC m).flatMap S:=congrArg Prod.snd z;have B:x.1= .slice ((fC c).map D) ((fC (m-c)).map λ j=>D (c+j)):=congrArg Prod.fst z;have Y:(c+(m-c))*P.bytesOf e<=N:=by refine w _ ?_;rw[B];simp only[DataW.weights,q,iY,jD];exact kL
  have f:c*P.bytesOf e<=N:=fo (jd _ (Nat.le_add_right _ _)) Y;by_cases Z:c=0;subst Z;exact⟨[],⟨some a,m,rfl,by simp,y,λ h=>(by cases h),λ h=>absurd rfl h⟩,by simp,λ d aE=>by cases aE⟩
  ·have C:∀i,i<c->∃cs d,(∀j u,cs[j]? =some u->W.cell? (a.add (i*T.size+j))=some u)/\cs.length=T.size/\T.rd (gL [] W) W cs d/\R d:=λ i r=>by
    have E:i<m:=by omega
    obtain⟨G,hc,qc⟩:=hi i E;obtain⟨d,aE,dg⟩:=O W Q G _ qc (λ p JI=>v p (by
     rw[A,de];exact .inr (hn.2 ⟨i,by simpa using E,JI⟩))) (λ k aj=>w k (by
     rw[B];simp only[DataW.weights,q,dc,de];exact .inr (.inl (Ty aj (jP.2 ⟨i,by simpa using r,rfl⟩)))))
    rw[M]at hc;obtain⟨_,K,zv⟩:=World.cells?_some hc;refine⟨G,d,λ j u g=>?_,K,aE,dg⟩;have p7:j<T.size:=by rw[<-K];exact(bb.1 g).1
    have:=zv j p7;rw[g,Go.Deep.add_add]at this;exact this
   have L:a.spot=none:=by obtain⟨cs,d,I,J,_⟩:=C 0 (by omega);have:=I 0 _ (bu (by omega));unfold World.cell? at this;split at this;split at this;cases this;rename_i ao;simpa[Addr.add]using ao;cases this
   obtain⟨ab,OA,anD⟩:=a;simp only at L;subst L;obtain⟨l,xs,I,J,aw,a5⟩:=U4 (T:=T) (F:=gL [] W) (W:=W) (b:=ab) (o:=OA) (R:=R) c (λ i r=>by obtain⟨cs,d,dm,_,lk,OX⟩:=C i r;exact⟨cs,d,λ j u g=>by have:=dm j u g;rw[iq]at this;simpa[jg]using this,lk,OX⟩)
   subst I;refine⟨l,⟨_,m,rfl,U,y,λ h=>(by cases h),λ _=>⟨rfl,⟨by simp,?_⟩,xs,J,aw⟩⟩,f,a5⟩;have gU:MemPlace.cell ab OA∈x.2:=by rw[A,de];left;have:0<m*P.cellsOf e:=Nat.mul_pos (by omega) (by omega);simp only[MemPlace.row,jP,List.mem_range];exact⟨0,this,by simp⟩
   exact v _ gU
theorem Tz{m:Nat}:∀ {a:List TypeId}{l:List (DataW H)}{j:Nat}{u:TypeId}{d:DataW H},a[j]? =some u->l[j]? =some d->m∈d.weights P u->m∈DataW.weightsEach P a l
 |[],_,j,_,_,h,_,_=>by simp at h
 |_::_,[],j,_,_,_,h,_=>by simp at h
 |t::a,x::l,0,u,d,I,J,b=>by simp only[dX,aK]at I J;subst I;subst J;simp only[DataW.weightsEach,de];exact .inl b
 |t::a,x::l,j+1,u,d,I,J,b=>by simp only[DataW.weightsEach,de];exact .inr (Tz (j:=j) (by simpa using I) (by simpa using J) b)
theorem ox{bU:Array Go.Field}{W:World}{n:Nat}{cs:List Value}{x:DataW H×List MemPlace}(c:P.underlying t=some (.struct bU))(h:DataW.trod enc P W 0 (λ _=>true) true n t cs=some x)(i:∀p∈x.2,p.block<W.heap.size)(k:∀m∈x.1.weights P t,m<=N) :
 ∃a,cs.length=P.cellsOf t/\∀(j:Nat)(f:Go.Field),bU[j]? =some f->∃y,DataW.trod enc P W 0 (λ _=>true) true a f.type ((cs.drop f.offset).take (P.cellsOf f.type))=some y/\(∀p∈y.2,p.block<W.heap.size)/\(∀m∈y.1.weights P f.type,m<=N):=by
 obtain⟨ys,a,_,g,l,o,q⟩:=DataW.trod_struct c h
 refine⟨a,l,λ j f b=>?_⟩
 have v:j<bU.size:=(eL.1 b).1
 have hy:ys[j]? =some (ys[j]'(by omega)):=bu _
 refine⟨ys[j]'(by omega),by rw[q j f b,hy],λ p r=>i p ?_,λ m s=>k m ?_⟩
 ·rw[g];exact hn.2 ⟨_,List.getElem_mem _,r⟩
 ·rw[g];simp only[DataW.weights,c];refine Tz (j:=j) (u:=f.type) (d:=(ys[j]'(by omega)).1) ?_ ?_ s;rw[j4,g0,b];rfl;rw[j4,hy];rfl
theorem hS{bU:Array Go.Field}{W:World}{a:Nat}{cs:List Value}(d:∀(j:Nat)(f:Go.Field),bU[j]? =some f->∃y,DataW.trod enc P W 0 (λ _=>true) true a f.type ((cs.drop f.offset).take (P.cellsOf f.type))=some y/\(∀p∈y.2,p.block<W.heap.size)/\(∀m∈y.1.weights P f.type,m<=N))
 (j:Nat){f:Go.Field}(g:bU[j]? =some f){t off k:Nat}(b:f.type=t)(h:f.offset=off)(i:P.cellsOf t=k){r:List Value}(l:(cs.drop off).take k=r):∃y,DataW.trod enc P W 0 (λ _=>true) true a t r=some y/\(∀p∈y.2,p.block<W.heap.size)/\(∀m∈y.1.weights P t,m<=N):=by
 obtain⟨y,I,J,c⟩:=d j f g
 rw[b,h]at I
 rw[b]at c
 rw[i,l]at I
 exact⟨y,I,J,c⟩
theorem Gx{v:Array Value}{l:List Value}(h:(Value.agg v).cells.toList=l):v=l.toArray:=by have h:v.toList=l:=h;rw[<-h]
theorem Cy{α:Type}{T:cE α}{R:α->Prop}{W:World}{v:Value}{d:DataW H}{ps:List MemPlace}(a:jo P enc N t T R)(h:DataW.Trod enc P W 0 (λ _=>true) true t v d ps)(b:∀p∈ps,p.block<W.heap.size)(c:∀m∈d.weights P t,m<=N):∃d',T.rd (gL [] W) W v.cells.toList d'/\R d':=by obtain⟨n,f⟩:=h;exact a W n _ _ f b c
end
inductive kr
 |i (k:IntKind)
 |b
 |s
 |b4
def kr.ok(P:Program)(t:TypeId):kr->Prop
 | .i k=>P.underlying t=some (.int k)
 | .b=>P.underlying t=some .bool
 | .s=>P.underlying t=some .string
 | .b4=>∃e,P.underlying t=some (.slice e)
structure jQ where
 la:List (Nat×kr)
 ox:List (Nat×Nat×Nat)
 Bd:List (Nat×Option Nat)
def M2(P:Program):List (Nat×kr)->Prop
 |[]=>True
 |p::r=>p.2.ok P p.1/\M2 P r
def Gf(P:Program)(s j off:Nat):Prop:=∃bU f sz,P.underlying s=some (.struct bU)/\bU[j]? =some f/\f.offset=off/\sz≠0/\∀w,(Go.sizeOf f.type).run P w= .ok sz w
def HX(P:Program):List (Nat×Nat×Nat)->Prop
 |[]=>True
 |p::r=>Gf P p.1 p.2.1 p.2.2/\HX P r
def On(P:Program)(t:Nat):Option Nat->Prop
 |none=>∀w,(isAgg t).run P w= .ok false w
 |some n=>(∀w,(isAgg t).run P w= .ok true w)/\∀w,(Go.sizeOf t).run P w= .ok n w
def ML(P:Program):List (Nat×Option Nat)->Prop
 |[]=>True
 |p::r=>On P p.1 p.2/\ML P r
structure oa (P:Program) (G:jQ):Prop where
 la:M2 P G.la
 ox:HX P G.ox
 Bd:ML P G.Bd
theorem fw{P:Program}{s j off sz:Nat}{bU:Array Go.Field}{f:Go.Field}(h:P.underlying s=some (.struct bU))(a:bU[j]? =some f)(b:f.offset=off)(c:∀w,(Go.sizeOf f.type).run P w= .ok sz w)(d:bT sz 0=false):Gf P s j off:=⟨bU,f,sz,h,a,b,(λ e=>by subst e;simp at d),c⟩
def lK{β:Type}:List (Nat×β)->Nat->Option β
 |[],_=>none
 |p::r,t=>match bT p.1 t with
  |true=>some p.2
  |false=>lK r t
def Aw:List (Nat×Nat×Nat)->Nat->Nat->Option Nat
 |[],_,_=>none
 |p::r,s,j=>match bT p.1 s&&bT p.2.1 j with
  |true=>some p.2.2
  |false=>Aw r s j
theorem vB{P:Program}{l:List (Nat×kr)}(h:M2 P l){t:Nat}{k:kr}(a:lK l t=some k):k.ok P t:=by
 induction l with
 |nil=>simp[lK]at a
 |cons p r b=>
  simp only[lK]at a;cases ag:bT p.1 t with
  |true=>rw[ag]at a;simp only[aK]at a;rw[<-aZ ag,<-a];exact h.1
  |false=>rw[ag]at a;exact b h.2 a
theorem Va{P:Program}{l:List (Nat×Option Nat)}(h:ML P l){t:Nat}{k:Option Nat}(a:lK l t=some k):On P t k:=by
 induction l with
 |nil=>simp[lK]at a
 |cons p r b=>
  simp only[lK]at a;cases ag:bT p.1 t with
  |true=>rw[ag]at a;simp only[aK]at a;rw[<-aZ ag,<-a];exact h.1
  |false=>rw[ag]at a;exact b h.2 a
theorem abL{P:Program}{l:List (Nat×Nat×Nat)}(h:HX P l){s j off:Nat}(a:Aw l s j=some off):Gf P s j off:=by
 induction l with
 |nil=>simp[Aw]at a
 |cons p r b=>
  simp only[Aw]at a;cases ag:bT p.1 s&&bT p.2.1 j with
  |true=>rw[ag]at a;simp only[aK]at a;simp only[bL]at ag;rw[<-aZ ag.1,<-aZ ag.2,<-a];exact h.1
  |false=>rw[ag]at a;exact b h.2 a
def h0(w:World):List (Nat×Nat×List Value)->Prop
 |[]=>True
 |m::r=>eg w ⟨m.1,m.2.1,none⟩ m.2.2/\h0 w r
theorem gv{w:World}:h0 w []:=trivial
theorem fL{w:World}{b p:Nat}{cs:List Value}{M:List (Nat×Nat×List Value)}(h:eg w ⟨b,p,none⟩ cs)(k:h0 w M):h0 w ((b,p,cs)::M):=⟨h,k⟩
theorem Tx{w:World}{M:List (Nat×Nat×List Value)}(h:h0 w M){i b p:Nat}{cs:List Value}(hi:M[i]? =some (b,p,cs)):eg w ⟨b,p,none⟩ cs:=by
 induction M generalizing i with
 |nil=>simp at hi
 |cons m r a=>
  cases i with
  |zero=>simp only[dX,aK]at hi;subst hi;exact h.1
  |succ i=>exact a h.2 (by simpa using hi)
theorem iP{w:World}{g:Nat}{t:TypeId}{cs:List Value}(h:(aU.c8 g t cs).ok w):eg w ⟨g,0,none⟩ cs:=λ j u a=>by have:=rI h a;simpa using this
structure fu where
 t:Nat
 j:Nat
 want:Bool
 v:Value
def vo:List (Nat×Value)->Nat->List (Nat×Value)
 |[],_=>[]
 |p::r,d=>match bT p.1 d with
  |true=>vo r d
  |false=>p::vo r d
def nX:List fu->Nat->List fu
 |[],_=>[]
 |p::r,d=>match bT p.t d||bT p.j d with
  |true=>nX r d
  |false=>p::nX r d
def um:List (Nat×Bool)->Nat->Bool->Bool
 |[],_,_=>false
 |p::r,j,b=>(bT p.1 j&&(p.2==b))||um r j b
def Ax:List fu->List (Nat×Bool)->Nat->Option Value
 |[],_,_=>none
 |p::r,cur,t=>match bT p.t t&&um cur p.j p.want with
  |true=>some p.v
  |false=>Ax r cur t
def j2(a:Act):List fu->Prop
 |[]=>True
 |p::r=>(a.tmps.getD p.j undef= .bool p.want->a.tmps.getD p.t undef=p.v)/\j2 a r
def hQ(a:Act):List (Nat×Bool)->Prop
 |[]=>True
 |p::r=>a.tmps.getD p.1 undef= .bool p.2/\hQ a r
theorem RZ{a:Act}{cur:List (Nat×Bool)}(h:hQ a cur){j:Nat}{b:Bool}(aX:um cur j b=true):a.tmps.getD j undef= .bool b:=by
 induction cur with
 |nil=>simp[um]at aX
 |cons p r c=>simp only[um,hZ,bL,beq_iff_eq]at aX;rcases aX with⟨I,J⟩|aX;rw[<-aZ I,<-J];exact h.1;exact c h.2 aX
theorem agZ{a:Act}{gs:List fu}(h:j2 a gs){cur:List (Nat×Bool)}(hc:hQ a cur){t:Nat}{v:Value}(b:Ax gs cur t=some v):a.tmps.getD t undef=v:=by
 induction gs with
 |nil=>simp[Ax]at b
 |cons p r c=>
  simp only[Ax]at b;cases ag:bT p.t t&&um cur p.j p.want with
  |true=>rw[ag]at b;simp only[aK]at b;simp only[bL]at ag;rw[<-aZ ag.1,<-b];exact h.1 (RZ hc ag.2)
  |false=>rw[ag]at b;exact c h.2 b
def gF(aQ:List (Nat×Value))(gs:List fu)(cur:List (Nat×Bool)):Operand->Option Value
 | .const v=>some v
 | .global g=>some (.pointer (some ⟨g,0,none⟩))
 | .tmp t=>match dp aQ t with
   |some v=>some v
   |none=>Ax gs cur t
 | .func _=>none
theorem EA{n:b'}{aQ:List (Nat×Value)}{gs:List fu}{cur:List (Nat×Bool)}{a:Act}(c:Fr n aQ a)(d:j2 a gs)(hc:hQ a cur){x:Operand}{v:Value}(h:gF aQ gs cur x=some v):a.eval x=v:=by
 cases x with
 |const u=>simp only[gF,aK]at h;rw[<-h];rfl
 |global g=>simp only[gF,aK]at h;rw[<-h];rfl
 |func f=>simp[gF]at h
 |tmp t=>
  simp only[gF]at h;cases b:dp aQ t with
  |some u=>rw[b]at h;simp only[aK]at h;rw[<-h];exact c.g b
  |none=>rw[b]at h;exact agZ d hc h
def xr(aQ:List (Nat×Value))(gs:List fu)(cur:List (Nat×Bool)):List Operand->Option (List Value)
 |[]=>some []
 |x::r=>match gF aQ gs cur x,xr aQ gs cur r with
  |some v,some vs=>some (v::vs)
  |_,_=>none
theorem Lq{n:b'}{aQ:List (Nat×Value)}{gs:List fu}{cur:List (Nat×Bool)}{a:Act}(b:Fr n aQ a)(c:j2 a gs)(hc:hQ a cur):∀ {xs:List Operand}{vs:List Value},xr aQ gs cur xs=some vs->xs.map a.eval=vs
 |[],vs,h=>by simp only[xr,aK]at h;subst h;rfl
 |x::r,vs,h=>by simp only[xr]at h;split at h;rename_i v us I J;simp only[aK]at h;subst h;rw[fA,EA b c hc I,Lq b c hc J];cases h
def Ah:Operand->Bool
 | .const (.int _ n)=>n !=0
 |_=>false
def j':IntKind->IntKind->Bool
 | .i64,.i64 | .u8,.u8 | .i32,.i32 | .u64,.u64 | .u32,.u32 | .u16,.u16 | .i16,.i16 | .i8,.i8=>true
 |_,_=>false
theorem lG{j k:IntKind}(h:j' j k=true):j=k:=by cases j<;>cases k<;>simp_all [j']
def jB(k:IntKind):Bool:=j' k .i64
theorem jC{k:IntKind}(h:jB k=true):k= .i64:=lG h
def OQ(a:Option kr)(fM:Bool)(op:BinOp)(j k:IntKind)(m n:Int):Option Value:=
 match op with
 | .add=>match jB j&&jB k with|true=>some (.int .i64 (bj (m+n)))|false=>none
 | .sub=>match jB j&&jB k with|true=>some (.int .i64 (bj (m-n)))|false=>none
 | .mul=>match jB j&&jB k with|true=>some (.int .i64 (bj (m*n)))|false=>none
 | .quo=>match jB j&&jB k&&fM with|true=>some (.int .i64 (bj (m.tdiv n)))|false=>none
 | .rem=>match jB j&&jB k&&fM with|true=>some (.int .i64 (m.tmod n))|false=>none
 | .or=>match jB j&&jB k with|true=>some (.int .i64 (Lr m n))|false=>none
 | .and=>match jB j&&jB k with|true=>some (.int .i64 (Gz m n))|false=>none
 | .lss=>match j' j k with|true=>some (.bool (decide (m<n)))|false=>none
 | .leq=>match j' j k with|true=>some (.bool (decide (m<=n)))|false=>none
 | .gtr=>match j' j k with|true=>some (.bool (decide (n<m)))|false=>none
 | .geq=>match j' j k with|true=>some (.bool (decide (n<=m)))|false=>none
 | .eql=>match a with
   |some (.i i)=>match j' i j&&j' j k with|true=>some (.bool (decide (m=n)))|false=>none
   |_=>none
 | .neq=>match a with
   |some (.i i)=>match j' i j&&j' j k with|true=>some (.bool (!decide (m=n)))|false=>none
   |_=>none
 |_=>none
def OS(a:Option kr)(op:BinOp)(p q:List UInt8):Option Value:=
 match op,a with
 | .eql,some .s=>some (.bool (decide (p=q)))
 | .neq,some .s=>some (.bool (!decide (p=q)))
 |_,_=>none
def OP(a:Option kr)(op:BinOp)(p q:Bool):Option Value:=
 match op,a with
 | .eql,some .b=>some (.bool (p==q))
 | .neq,some .b=>some (.bool (!(p==q)))
 |_,_=>none
def bin(a:Option kr)(fM:Bool)(op:BinOp):Value->Value->Option Value
 | .int j m,.int k n=>OQ a fM op j k m n
 | .string ⟨⟨p⟩⟩,.string ⟨⟨q⟩⟩=>OS a op p q
 | .bool p,.bool q=>OP a op p q
 |_,_=>none
section
variable{P:Program}{o:Oper}{a:Act}{w:World}{x y:Operand}{t t':TypeId}
theorem OT{g:Option kr}(d:∀k,g=some k->k.ok P t){fM:Bool}(l:fM=true->∀k n,a.eval y= .int k n->n≠0){op:BinOp}{u v r:Value}(h:bin g fM op u v=some r)(b:o.op= .binOp op t x y t')(c:a.eval x=u)(hy:a.eval y=v):aS P o a w r w:=by
 unfold bin at h;split at h
 ·rename_i j m k n;unfold OQ at h;split at h
  case h_1=>
   split at h
   ·rename_i ag;simp only[bL]at ag;obtain⟨I,J⟩:=ag;have I:=jC I;have J:=jC J;subst I;subst J;simp only[aK]at h;subst h;exact amQ b c hy
   ·cases h
  case h_2=>
   split at h
   ·rename_i ag;simp only[bL]at ag;obtain⟨I,J⟩:=ag;have I:=jC I;have J:=jC J;subst I;subst J;simp only[aK]at h;subst h;exact ano b c hy
   ·cases h
  case h_3=>
   split at h
   ·rename_i ag;simp only[bL]at ag;obtain⟨I,J⟩:=ag;have I:=jC I;have J:=jC J;subst I;subst J;simp only[aK]at h;subst h;exact anb b c hy
   ·cases h
  case h_4=>
   split at h
   ·rename_i ag;simp only[bL]at ag;obtain⟨⟨I,J⟩,e⟩:=ag;have I:=jC I;have J:=jC J;subst I;subst J;simp only[aK]at h;subst h;have f:=l e _ _ hy;exact WY b c hy (by rw[gI,decide_eq_false_iff_not];exact f)
   ·cases h
  case h_5=>
   split at h
   ·rename_i ag;simp only[bL]at ag;obtain⟨⟨I,J⟩,e⟩:=ag;have I:=jC I;have J:=jC J;subst I;subst J;simp only[aK]at h;subst h;have f:=l e _ _ hy;exact WZ b c hy (by rw[gI,decide_eq_false_iff_not];exact f)
   ·cases h
  case h_6=>
   split at h
   ·rename_i ag;simp only[bL]at ag;obtain⟨I,J⟩:=ag;have I:=jC I;have J:=jC J;subst I;subst J;simp only[aK]at h;subst h;exact anh b c hy
   ·cases h
  case h_7=>
   split at h
   ·rename_i ag;simp only[bL]at ag;obtain⟨I,J⟩:=ag;have I:=jC I;have J:=jC J;subst I;subst J;simp only[aK]at h;subst h;exact amR b c hy
   ·cases h
  case h_8=>
   split at h
   ·rename_i ag;have ag:=lG ag;subst ag;simp only[aK]at h;subst h;exact am_ b c hy
   ·cases h
  case h_9=>
   split at h
   ·rename_i ag;have ag:=lG ag;subst ag;simp only[aK]at h;subst h;exact am9 b c hy
   ·cases h
  case h_10=>
   split at h
   ·rename_i ag;have ag:=lG ag;subst ag;simp only[aK]at h;subst h;exact am4 b c hy
   ·cases h
  case h_11=>
   split at h
   ·rename_i ag;have ag:=lG ag;subst ag;simp only[aK]at h;subst h;exact am3 b c hy
   ·cases h
  case h_12=>
   split at h
   ·rename_i i;have hi:=d _ rfl;split at h;rename_i ag;simp only[bL]at ag;have I:=lG ag.1;have J:=lG ag.2;subst I;subst J;simp only[aK]at h;subst h;exact am1 hi b c hy;cases h
   ·cases h
  case h_13=>
   split at h
   ·rename_i i;have hi:=d _ rfl;split at h;rename_i ag;simp only[bL]at ag;have I:=lG ag.1;have J:=lG ag.2;subst I;subst J;simp only[aK]at h;subst h;exact ane hi b c hy;cases h
   ·cases h
  case h_14=>cases h
 ·rename_i p q;unfold OS at h;split at h;simp only[aK]at h;subst h;exact am2 (d _ rfl) b c hy;simp only[aK]at h;subst h;exact anf (d _ rfl) b c hy;cases h
 ·rename_i p q;unfold OP at h;split at h;simp only[aK]at h;subst h;exact am0 (d _ rfl) b c hy;simp only[aK]at h;subst h;exact anc (d _ rfl) b c hy;cases h
 ·cases h
end
def nth{α:Type}:List α->Nat->Option α
 |[],_=>none
 |x::_,0=>some x
 |_::r,i+1=>nth r i
theorem cr{α:Type}:∀(l:List α)(i:Nat),nth l i=l[i]?
 |[],i=>by simp[nth]
 |x::r,0=>rfl
 |x::r,i+1=>by simp[nth,cr r i]
def J8:Operand->Bool
 | .const (.bool b)=>b
 |_=>false
def J5:Operand->Bool
 | .const (.bool b)=>!b
 |_=>false
def EI(x y:Operand)(b:Bool):Value->Value->Option Value
 | .bool p,.bool q=>match J8 x with
   |true=>some (.bool (b||q))
   |false=>match J5 y with
    |true=>some (.bool (b&&p))
    |false=>some (.bool (cond b p q))
 | .int j m,.int k n=>match j' j k with
   |true=>some (.int j (cond b m n))
   |false=>none
 | .string ⟨⟨p⟩⟩,.string ⟨⟨q⟩⟩=>some (bQ (cond b p q))
 |_,_=>none
theorem afx{a:Act}{x:Operand}(h:J8 x=true):a.eval x= .bool true:=by unfold J8 at h;split at h;subst h;rfl;cases h
theorem afu{a:Act}{x:Operand}(h:J5 x=true):a.eval x= .bool false:=by
 unfold J5 at h;split at h
 ·rename_i b;have:b=false:=by simpa using h
  subst this;rfl
 ·cases h
theorem Ub{a:Act}{x y:Operand}{b:Bool}{u v r:Value}(h:EI x y b u v=some r)(c:b=true->a.eval x=u)(hy:b=false->a.eval y=v):(if b then a.eval x else a.eval y)=r:=by
 unfold EI at h;split at h
 ·rename_i p q;split at h
  ·rename_i d;simp only[aK]at h;subst h;cases b with
   |true=>rw[lX rfl,afx d];rfl
   |false=>rw[lW (by simp),hy rfl];rfl
  ·split at h
   ·rename_i e;simp only[aK]at h;subst h;cases b with
    |true=>rw[lX rfl,c rfl];rfl
    |false=>rw[lW (by simp),afu e];rfl
   ·simp only[aK]at h;subst h;cases b with
    |true=>rw[lX rfl,c rfl];rfl
    |false=>rw[lW (by simp),hy rfl];rfl
 ·split at h
  ·rename_i f;have:=lG f;subst this;simp only[aK]at h;subst h;cases b with
   |true=>rw[lX rfl,c rfl];rfl
   |false=>rw[lW (by simp),hy rfl];rfl
  ·cases h
 ·simp only[aK]at h;subst h;cases b with
  |true=>rw[lX rfl,c rfl];rfl
  |false=>rw[lW (by simp),hy rfl];rfl
 ·cases h
abbrev Out:=Value×List Nat×List (Nat×Nat)
def jb(a:List Nat)(v:Value):Option Out:=some (v,a,[])
def wC(G:jQ)(M:List (Nat×Nat×List Value))(t m a:Nat)(c:List Nat)(d cy:Nat):Option Out:=
 match nth M m,lK G.Bd t with
 |some (b,off,cs),some none=>match nth cs a with
  |some v=>some (v,c,[(d,b),(cy,off+a)])
  |none=>none
 |some (b,off,cs),some (some n)=>match hX (a+n) cs.length with
  |true=>some (.agg ((cs.drop a).take n).toArray,c,[(d,b),(cy,off+a)])
  |false=>none
 |_,_=>none
def QW(G:jQ)(s d:Nat)(a:List Nat):Value->Option Out
 | .int k m=>match jB k,lK G.la s,lK G.la d with
   |true,some (.i .i64),some (.i .i64)=>jb a (.int .i64 (bj m))
   |true,some (.i .i64),some (.i .u8)=>jb a (.int .u8 ((wg m).toNat:Int))
   |_,_,_=>none
 |_=>none
def QY(G:jQ)(t:Nat)(a:List Nat):Value->Option Out
 | .string ⟨⟨p⟩⟩=>match lK G.la t with
   |some .s=>jb a (.int .i64 (p.length:Int))
   |_=>none
 | .slice _ n _=>match lK G.la t with
   |some .b4=>jb a (.int .i64 (n:Int))
   |_=>none
 |_=>none
def Q0(aQ:List (Nat×Value))(gs:List fu)(cur:List (Nat×Bool))(c x y:Operand):List Nat->Option Out
 |0::a=>match c with
  | .tmp d=>match gF aQ gs cur (.tmp d),gF aQ gs ((d,true)::cur) x,gF aQ gs ((d,false)::cur) y with
    |some (.bool b),some u,some v=>match EI x y b u v with
     |some r=>jb a r
     |none=>none
    |_,_,_=>none
  |_=>none
 |_::a=>match gF aQ gs cur c with
  |some (.bool b)=>match b with
   |true=>match gF aQ gs cur x with|some v=>jb a v |none=>none
   |false=>match gF aQ gs cur y with|some v=>jb a v |none=>none
  |_=>none
 |[]=>none
def pO(G:jQ)(M:List (Nat×Nat×List Value))(a:List Nat)(aQ:List (Nat×Value))(gs:List fu)(cur:List (Nat×Bool)):Op->Option Out
 | .move x=>match gF aQ gs cur x with|some v=>jb a v |none=>none
 | .assign x=>match gF aQ gs cur x with|some v=>jb a v |none=>none
 | .pick c x y=>Q0 aQ gs cur c x y a
 | .binOp op t x y _=>match gF aQ gs cur x,gF aQ gs cur y with
   |some u,some v=>match bin (lK G.la t) (Ah y) op u v with
    |some r=>jb a r
    |none=>none
   |_,_=>none
 | .unOp .not _ x=>match gF aQ gs cur x with
   |some (.bool p)=>jb a (.bool (!p))
   |_=>none
 | .convert s d x=>match gF aQ gs cur x with
   |some v=>QW G s d a v
   |none=>none
 | .load t x=>match gF aQ gs cur x,a with
   |some (.pointer (some ⟨f,cy,none⟩)),m::e::g=>wC G M t m e g f cy
   |_,_=>none
 | .fieldAddr s x j=>match gF aQ gs cur x,Aw G.ox s j with
   |some (.pointer (some ⟨b,p,none⟩)),some off=>jb a (.pointer (some ⟨b,p+off,none⟩))
   |_,_=>none
 | .nilCheck x=>match gF aQ gs cur x with
   |some (.pointer (some p))=>jb a (.pointer (some p))
   |_=>none
 | .extract x i=>match gF aQ gs cur x with
   |some (.tuple ⟨vs⟩)=>match nth vs i with
    |some v=>jb a v
    |none=>none
   |_=>none
 | .makeFunc fn ⟨xs⟩ ⟨ys⟩=>match xr aQ gs cur xs,xr aQ gs cur ys with
   |some us,some vs=>jb a (.func fn us.toArray vs.toArray)
   |_,_=>none
 | .call ⟨.builtin .len,⟨[x]⟩,⟨[t]⟩⟩=>match gF aQ gs cur x with
   |some v=>QY G t a v
   |none=>none
 |_=>none
theorem j_{a b:List Nat}{u v:Value}{l:List (Nat×Nat)}(h:jb a u=some (v,b,l)):u=v:=by simp only[jb,aK,cY]at h;exact h.1
def eqs:List (Nat×Nat)->Prop
 |[]=>True
 |p::r=>p.1=p.2/\eqs r
section
variable{P:Program}{G:jQ}{M:List (Nat×Nat×List Value)}{w:World}{a:Act}{o:Oper}
theorem QV{n:b'}{aQ:List (Nat×Value)}{gs:List fu}{cur:List (Nat×Bool)}{K Y:List Nat}{v:Value}{l:List (Nat×Nat)}(q:oa P G)(S:h0 w M)(D:Fr n aQ a)(E:j2 a gs)(hc:hQ a cur)
 {op:Op}(g:o.op=op)(h:pO G M K aQ gs cur op=some (v,Y,l))(T:eqs l):aS P o a w v w:=by
 have opn:∀ {x:Operand}{u:Value},gF aQ gs cur x=some u->a.eval x=u:=λ z=>EA D E hc z
 unfold pO at h
 split at h
 ·split at h;rename_i z;rw[<-j_ h];exact F1 g (opn z);cases h
 ·split at h;rename_i z;rw[<-j_ h];exact FY g (opn z);cases h
 ·rename_i c x y;unfold Q0 at h;split at h
  ·split at h
   ·rename_i O;split at h
    ·rename_i b u U I J A;split at h
     ·rename_i r Q;rw[<-j_ h];have L:a.eval (.tmp O)= .bool b:=opn I;have z:b=true->a.eval x=u:=λ ag=>EA D E (show hQ a ((O,true)::cur) from⟨by subst ag;exact L,hc⟩) J;have hy:b=false->a.eval y=U:=λ ag=>EA D E (show hQ a ((O,false)::cur) from⟨by subst ag;exact L,hc⟩) A;have V:=Ub (a:=a) Q z hy;cases b with
      |true=>exact F3 g L (by simpa using V)
      |false=>exact F2 g L (by simpa using V)
     ·cases h
    ·cases h
   ·cases h
  ·split at h;rename_i b I;split at h;split at h;rename_i u J;rw[<-j_ h];exact F3 g (opn I) (opn J);cases h;split at h;rename_i u J;rw[<-j_ h];exact F2 g (opn I) (opn J);cases h;cases h
  ·cases h
 ·rename_i op t x y t';split at h;rename_i u U I J;split at h;rename_i r Q;rw[<-j_ h];refine OT (λ k Z=>vB q.la Z) (λ N k n W=>?_) Q g (opn I) (opn J);unfold Ah at N;split at N;rename_i k' X;have:a.eval (.const (.int k' X))= .int k' X:=rfl;rw[this]at W;injection W with _ e;subst e;simpa using N;cases N;cases h;cases h
 ·rename_i x;split at h;rename_i p I;rw[<-j_ h];exact WX g (opn I);cases h
 ·rename_i s d x;split at h;rename_i u I;unfold QW at h;split at h;rename_i k m;split at h;rename_i J A C;have:=jC J;subst this;rw[<-j_ h];exact amV (vB q.la A) (vB q.la C) g (opn I);rename_i J A C;have:=jC J;subst this;rw[<-j_ h];exact amW (vB q.la A) (vB q.la C) g (opn I);cases h;cases h;cases h
 ·rename_i t x;split at h;rename_i AQ cy m F eB I;have z:=opn I;unfold wC at h;split at h;rename_i b off cs J A;split at h;rename_i u C;simp only[aK,cY]at h;obtain⟨rfl,_,rfl⟩:=h;obtain⟨B,al,_⟩:=T;simp only at B al;subst B;subst al;rw[cr]at J C;exact NM (Va q.Bd A) g z (Tx S J F u C);cases h;rename_i b off cs k J A;split at h;rename_i ag;simp only[aK,cY]at h;obtain⟨rfl,_,rfl⟩:=h;obtain⟨B,al,_⟩:=T;simp only at B al;subst B;subst al;rw[cr]at J;have K:=Va q.Bd A;have hle:=bW ag;refine WU K.1 K.2 (by simp;omega) g z (λ j u H=>?_);have iX:=Tx S J;rw[hG]at H;split at H;rw[ja]at H;have:=iX (F+j) u H;simpa[jg]using this;cases H;cases h;cases h;cases h
 ·rename_i s x j;split at h;rename_i b p off I J;rw[<-j_ h];obtain⟨bU,f,sz,cW,bg,eu,hU,R⟩:=abL q.ox J;rw[<-eu];exact WQ cW bg R (by cases aJ:bT sz 0 with|false=>rfl |true=>exact absurd (aZ aJ) hU) g (opn I);cases h
 ·rename_i x;split at h;rename_i p I;rw[<-j_ h];exact WW g (opn I);cases h
 ·rename_i x i;split at h;rename_i vs I;split at h;rename_i u J;rw[<-j_ h];rw[cr]at J;exact B5 (vs:=vs) g (opn I) J;cases h;cases h
 ·rename_i fn xs ys;split at h;rename_i us vs I J;rw[<-j_ h];have B:=Lq D E hc I;have al:=Lq D E hc J;simp only[aS,execOp,g,Instr.makeFunc];rw[show(Array.map a.eval ⟨xs⟩)=us.toArray by rw[<-B];simp,show(Array.map a.eval ⟨ys⟩)=vs.toArray by rw[<-al];simp];rfl;cases h
 ·rename_i x t;split at h;rename_i u I;unfold QY at h;split at h;split at h;rename_i J;rw[<-j_ h];exact WT (vB q.la J) g (opn I);cases h;split at h;rename_i J;rw[<-j_ h];obtain⟨e,he⟩:=vB q.la J;exact WS he g (opn I);cases h;cases h;cases h
 ·cases h
end
def zl(ops:Array Oper)(j:Nat):Option Nat:=match nth ops.toList j with
 |some o=>o.dst
 |none=>none
theorem RJ{ops:Array Oper}{j a3:Nat}(h:zl ops j=some a3):(ops[j]?).bind (·.dst)=some a3:=by unfold zl at h;rw[cr,g0]at h;split at h;rename_i o a;rw[a];exact h;cases h
abbrev Yz:=List (Nat×Value)×List fu×List (Nat×Nat)
def bM(G:jQ)(ops:Array Oper)(n:Nat)(M:List (Nat×Nat×List Value)):List Oper->List Nat->List (Nat×Value)->List fu->List (Nat×Nat)->Option Yz
 |[],_,aQ,gs,l=>some (aQ,gs,l)
 |o::a,f,aQ,gs,l=>match o.dst with
  |none=>none
  |some d=>match eM d n with
   |false=>none
   |true=>match o.guard with
    |none=>match pO G M f aQ gs [] o.op with
     |some (v,c,l')=>bM G ops n M a c ((d,v)::aQ) (nX gs d) (l'++l)
     |none=>none
    |some (j,want)=>match zl ops j with
     |none=>none
     |some a3=>match eM a3 n with
      |false=>none
      |true=>match f with
       |0::c=>match bT a3 d with
        |true=>none
        |false=>match pO G M c aQ gs [(a3,want)] o.op with
         |some (v,e,l')=>bM G ops n M a e (vo aQ d) (⟨d,a3,want,v⟩::nX gs d) (l'++l)
         |none=>none
       |_::c=>match dp aQ a3 with
        |some (.bool b)=>match b==want with
         |true=>match pO G M c aQ gs [] o.op with
          |some (v,e,l')=>bM G ops n M a e ((d,v)::aQ) (nX gs d) (l'++l)
          |none=>none
         |false=>bM G ops n M a c ((d,undef)::aQ) (nX gs d) l
        |some (.tuple ⟨[]⟩)=>bM G ops n M a c ((d,undef)::aQ) (nX gs d) l
        |_=>none
       |[]=>none
def wz(aQ:List (Nat×Value)):List Nat->Option (List (Nat×Value))
 |[]=>some []
 |t::r=>match dp aQ t,wz aQ r with
  |some v,some vs=>some ((t,v)::vs)
  |_,_=>none
def dup(l:List Nat):List (Nat×Nat):=l.map λ x=>(x,x)
def jZ(G:jQ)(ops:Array Oper)(n:Nat)(M:List (Nat×Nat×List Value))(os:List Oper)(a:List Nat)(aQ:List (Nat×Value))(ep:List Nat):Option (List (Nat×Value)×List (Nat×Nat)):=
 match bM G ops n M os a aQ [] []with
 |some (fr',_,l)=>match wz fr' ep with
  |some k=>some (k,l)
  |none=>none
 |none=>none
theorem CX:∀l:List Nat,eqs (dup l)
 |[]=>trivial
 |x::r=>⟨rfl,CX r⟩
theorem rS:∀ {l l':List (Nat×Nat)},eqs (l++l')->eqs l/\eqs l'
 |[],_,h=>⟨trivial,h⟩
 |_::_,_,h=>⟨⟨h.1,(rS h.2).1⟩,(rS h.2).2⟩
theorem GU{aQ:List (Nat×Value)}:∀ {ep:List Nat}{k:List (Nat×Value)},wz aQ ep=some k->Bs aQ k
 |[],k,h=>by simp only[wz,aK]at h;subst h;trivial
 |t::r,k,h=>by simp only[wz]at h;split at h;rename_i v vs I J;simp only[aK]at h;subst h;exact⟨I,GU J⟩;cases h
theorem aiz{a:Act}{n:b'}{d:Nat}{v:Value}(b:a.tmps.size=n)(aE:eM d n=true):(a.put (some d) v).tmps.getD d undef=v:=by have c:d<n:=bW aE;simp[Act.put,b,c]
theorem EQ{a:Act}{d t:Nat}{v:Value}(h:t≠d):(a.put (some d) v).tmps.getD t undef=a.tmps.getD t undef:=by simp only[Act.put,dP];rw[eb,lW (λ e=>h e.symm)]
theorem rV{a:Act}{d:Nat}{v:Value}:∀ {gs:List fu},j2 a gs->j2 (a.put (some d) v) (nX gs d)
 |[],_=>trivial
 |p::r,h=>by
  simp only[nX];cases ag:bT p.t d||bT p.j d with
  |true=>exact rV h.2
  |false=>
   simp only[kc]at ag;have I:p.t≠d:=λ e=>by rw[e]at ag;simp at ag
   have J:p.j≠d:=λ e=>by rw[e]at ag;simp at ag
   refine⟨?_,rV h.2⟩;rw[EQ I,EQ J];exact h.1
theorem KF{d t:Nat}{v:Value}:∀ {aQ:List (Nat×Value)},dp (vo aQ d) t=some v->t≠d/\dp aQ t=some v
 |[],h=>by simp[vo,dp]at h
 |p::r,h=>by
  simp only[vo]at h;cases ag:bT p.1 d with
  |true=>
   rw[ag]at h;obtain⟨I,J⟩:=KF h;refine⟨I,?_⟩;have e:=aZ ag;simp only[dp];cases hc:bT p.1 t with
   |true=>exact absurd ((aZ hc).symm.trans e) I
   |false=>exact J
  |false=>
   rw[ag]at h;simp only[dp]at h⊢;cases hc:bT p.1 t with
   |true=>rw[hc]at h;refine⟨λ e=>?_,h⟩;rw[aZ hc,e]at ag;simp at ag
   |false=>rw[hc]at h;exact KF h
theorem Fr.E6{n:b'}{d:Nat}{aQ:List (Nat×Value)}{a:Act}{v:Value}(b:Fr n aQ a):Fr n (vo aQ d) (a.put (some d) v):=⟨by simpa[Act.put]using b.size,b.defers,λ t u h=>by obtain⟨I,J⟩:=KF h;rw[EQ I];exact b.get t u J⟩
def w8:Op->Bool
 | .load _ _=>true
 |_=>false
theorem aa_{G:jQ}{M:List (Nat×Nat×List Value)}{a:List Nat}{aQ:List (Nat×Value)}{gs:List fu}{cur:List (Nat×Bool)}{op:Op}(h:w8 op=false):pO G M a aQ gs cur op=pO G [] a aQ gs cur op:=by
 cases op with
 |load t x=>simp[w8]at h
 |unOp u t x=>cases u<;>rfl
 |call c=>unfold pO;split<;>first |rfl |(rename_i e;cases e;done)|(rename_i e;cases e;rfl)
 |_=>rfl
theorem Hq{P:Program}{G:jQ}{M:List (Nat×Nat×List Value)}{C:World->Prop}{a:Act}{o:Oper}{n:b'}{aQ:List (Nat×Value)}{gs:List fu}{cur:List (Nat×Bool)}{f g:List Nat}{v:Value}{l:List (Nat×Nat)}(b:oa P G)(i:∀w,C w->h0 w M)(c:Fr n aQ a)(d:j2 a gs)(hc:hQ a cur)
 (h:pO G M f aQ gs cur o.op=some (v,g,l))(e:eqs l):(∀w,C w->aS P o a w v w)/\(w8 o.op=false->∀w,aS P o a w v w):=
 ⟨λ w j=>QV b (i w j) c d hc rfl h e,λ k w=>QV b (M:=[]) trivial c d hc rfl (by rw[<-aa_ k];exact h) e⟩
theorem VS{ops:Array Oper}{o:Oper}{a:Act}{n:b'}{l:List (Nat×Value)}{j a3:Nat}{want:Bool}(c:Fr n l a)(d:o.guard=some (j,want))(e:(ops[j]?).bind (·.dst)=some a3)(f:eM a3 n=true) :
 Region.wanted o (yielded ops a.tmps)=true↔a.tmps.getD a3 undef= .bool want:=by
 have g:a3<n:=bW f
 have i:=c.size
 have J:a.tmps[a3]? =some (a.tmps.getD a3 undef):=by rw[iy (by omega)];simp[dP,i,g]
 simp only[Region.wanted,d,yielded,e,ae,J,beq_iff_eq]
 constructor
 ·intro h;split at h;rename_i b ag;simp only[aK]at h ag;rw[ag,h];cases h
 ·intro h;rw[h]
def YG(P:Program)(ops:Array Oper)(C:World->Prop)(o:Oper)(d:Nat)(a:Act)(u:Value):Prop:=o.dst=some d/\((Region.wanted o (yielded ops a.tmps)=true/\(∀w,C w->aS P o a w u w)/\(w8 o.op=false->∀w,aS P o a w u w))\/(Region.wanted o (yielded ops a.tmps)=false/\u=undef))
section
variable{P:Program}{G:jQ}{ops:Array Oper}{n:b'}{M:List (Nat×Nat×List Value)}{C:World->Prop}
theorem HM(A:oa P G)(B:∀w,C w->h0 w M){o:Oper}{g:List Oper}{D:List Nat}{aQ:List (Nat×Value)}{gs:List fu}{l x:List (Nat×Nat)}{e5:List (Nat×Value)}{E:List fu}{a:Act}
 (c:Fr n aQ a)(f:j2 a gs)(h:bM G ops n M (o::g) D aQ gs l=some (e5,E,x))(Q:eqs x)
 (F:∀ {os:List Oper}{D:List Nat}{aQ:List (Nat×Value)}{gs:List fu}{l:List (Nat×Nat)},bM G ops n M os D aQ gs l=some (e5,E,x)->eqs l) :
 ∃d u i fr' J l',YG P ops C o d a u/\Fr n fr' (a.put (some d) u)/\j2 (a.put (some d) u) J/\bM G ops n M g i fr' J l'=some (e5,E,x):=by
 rw[bM]at h
 split at h
 ·cases h
 ·rename_i d aE;split at h;cases h
  ·rename_i m;split at h;rename_i k;split at h;rename_i v i l' I;have p:=(rS (F h)).1;exact⟨d,v,i,_,_,_,⟨aE,.inl ⟨xW k,Hq (cur:=[]) A B c f trivial I p⟩⟩,c.put m,rV f,h⟩;cases h
   ·rename_i j want k;split at h;cases h
    ·rename_i a3 L;have r:=RJ L;split at h;cases h
     ·rename_i s;split at h
      ·rename_i i;split at h;cases h
       ·rename_i K;split at h
        ·rename_i v y l' I;have p:=(rS (F h)).1;have N:a3≠d:=λ e=>by rw[e]at K;simp at K
         by_cases z:a.tmps.getD a3 undef= .bool want;refine⟨d,v,y,_,_,_,⟨aE,.inl ⟨(VS c k r s).2 z,Hq (cur:=[(a3,want)]) A B c f ⟨z,trivial⟩ I p⟩⟩,c.E6,(show j2 (a.put (some d) v) (⟨d,a3,want,v⟩::nX gs d) from⟨λ _=>aiz c.size m,rV f⟩),h⟩;refine⟨d,undef,y,_,_,_,⟨aE,.inr ⟨by rw[hA];exact λ O=>z ((VS c k r s).1 O),rfl⟩⟩,c.E6,(show j2 (a.put (some d) undef) (⟨d,a3,want,v⟩::nX gs d) from⟨λ H=>?_,rV f⟩),h⟩;simp only at H;rw[EQ N]at H;exact absurd H z
        ·cases h
      ·rename_i q i R;split at h
       ·rename_i b ag;split at h
        ·rename_i t;have t:b=want:=by simpa using t
         subst t;split at h;rename_i v y l' I;have p:=(rS (F h)).1;exact⟨d,v,y,_,_,_,⟨aE,.inl ⟨alk c k r ag s,Hq (cur:=[]) A B c f trivial I p⟩⟩,c.put m,rV f,h⟩;cases h
        ·rename_i t;exact⟨d,undef,i,_,_,_,⟨aE,.inr ⟨alj c k r ag t s,rfl⟩⟩,c.put m,rV f,h⟩
       ·rename_i ag;exact⟨d,undef,i,_,_,_,⟨aE,.inr ⟨alm c k r ag s,rfl⟩⟩,c.put m,rV f,h⟩
       ·cases h
      ·cases h
theorem rT{e5:List (Nat×Value)}{e:List fu}{c:List (Nat×Nat)}(a:eqs c):∀ {os:List Oper}{b:List Nat}{aQ:List (Nat×Value)}{gs:List fu}{l:List (Nat×Nat)},bM G ops n M os b aQ gs l=some (e5,e,c)->eqs l
 |[],b,aQ,gs,l,h=>by simp only[bM,aK,cY]at h;rw[h.2.2];exact a
 |o::d,b,aQ,gs,l,h=>by rw[bM]at h;split at h;cases h;split at h;cases h;split at h;split at h;exact(rS (rT a h)).2;cases h;split at h;cases h;split at h;cases h;split at h;split at h;cases h;split at h;exact(rS (rT a h)).2;cases h;split at h;split at h;split at h;exact(rS (rT a h)).2;cases h;exact rT a h;exact rT a h;cases h;cases h
theorem Vd{w:World}{Q:Exit->Act->World->Prop}(m:oa P G)(p:h0 w M){e5:List (Nat×Value)}{s:List fu}{q:List (Nat×Nat)}(i:eqs q):∀(k:Nat){b:List Oper}{g:List Nat}{aQ:List (Nat×Value)}{gs:List fu}{l:List (Nat×Nat)}{a:Act},
 Fr n aQ a->j2 a gs->bM G ops n M (b.take k) g aQ gs l=some (e5,s,q)->(∀a',Fr n e5 a'->wpList P ops Q (b.drop k) a' w)->wpList P ops Q b a w
 |0,b,g,aQ,gs,l,a,c,_,h,f=>by simp only[List.take_zero,bM,aK,cY]at h;have:=f a (by rw[<-h.1];exact c);simpa using this
 |k+1,[],g,aQ,gs,l,a,c,_,h,f=>by simp only[List.take_nil,bM,aK,cY]at h;have:=f a (by rw[<-h.1];exact c);simpa using this
 |k+1,o::b,g,aQ,gs,l,a,c,t,h,f=>by
  rw[jf]at h;obtain⟨d,u,z,fr',A,l',⟨aE,v⟩,x,y,h'⟩:=HM (C:=λ w'=>w'=w) m (λ w' e=>by subst e;exact p) c t h i (rT i);have next:=Vd m p i k x y h' (by simpa using f)
  refine wpList_step λ K r=>?_;rcases v with⟨j,hy,_⟩|⟨j,rfl⟩
  ·rw[lX j];unfold Oper.wp;rw[show(execOp a.eval o).run P w=_ from hy w rfl];show K (a.put o.dst u) w
   rw[aE];exact r _ _ next
  ·rw[lW (by simp[j]),aE];exact r _ _ next
theorem Uu{j:Act->Prop}(m:oa P G)(p:∀w,C w->h0 w M){e5:List (Nat×Value)}{r:List fu}{q:List (Nat×Nat)}(g:eqs q):∀(k:Nat){b:List Oper}{f:List Nat}{aQ:List (Nat×Value)}{gs:List fu}{l:List (Nat×Nat)}{a:Act},
 Fr n aQ a->j2 a gs->bM G ops n M (b.take k) f aQ gs l=some (e5,r,q)->(∀a',Fr n e5 a'->wpQuiet P ops C j (b.drop k) a')->wpQuiet P ops C j b a
 |0,b,f,aQ,gs,l,a,c,_,h,e=>by simp only[List.take_zero,bM,aK,cY]at h;have:=e a (by rw[<-h.1];exact c);simpa using this
 |k+1,[],f,aQ,gs,l,a,c,_,h,e=>by simp only[List.take_nil,bM,aK,cY]at h;have:=e a (by rw[<-h.1];exact c);simpa using this
 |k+1,o::b,f,aQ,gs,l,a,c,s,h,e=>by
  rw[jf]at h;obtain⟨d,u,y,fr',z,l',⟨aE,t⟩,v,x,h'⟩:=HM (C:=C) m p c s h g (rT g);have next:=Uu m p g k v x h' (by simpa using e)
  unfold wpQuiet;rcases t with⟨i,hy,_⟩|⟨i,rfl⟩;rw[lX i];refine⟨u,λ w hc=>?_,?_⟩;unfold Oper.quietAt;rw[show(execOp a.eval o).run P w=_ from hy w hc];exact⟨rfl,rfl⟩;rw[aE];exact next
  ·rw[lW (by simp[i]),aE];exact next
theorem HN{os:List Oper}{a:List Nat}{aQ:List (Nat×Value)}{ep:List Nat}{k:List (Nat×Value)}{L:List (Nat×Nat)}(h:jZ G ops n M os a aQ ep=some (k,L)):∃e5 b,bM G ops n M os a aQ [] []=some (e5,b,L)/\Bs e5 k:=by unfold jZ at h;split at h;rename_i fr' c l I;split at h;rename_i k' J;simp only[aK,cY]at h;obtain⟨rfl,rfl⟩:=h;exact⟨fr',c,I,GU J⟩;cases h;cases h
theorem hg(k:Nat)(ep c:List Nat){w:World}{Q:Exit->Act->World->Prop}{b:List Oper}{aQ fr':List (Nat×Value)}{L:List Nat}{a:Act}(d:oa P G)(e:h0 w M)(f:Fr n aQ a)(g:jZ G ops n M (b.take k) c aQ ep=some (fr',dup L))
 (next:∀a',Fr n fr' a'->wpList P ops Q (b.drop k) a' w):wpList P ops Q b a w:=by
 obtain⟨e5,i,I,J⟩:=HN g
 exact Vd (gs:=[]) d e (CX L) k f trivial I λ a' h=>next a' (h.sub J)
theorem aiQ(k:Nat)(ep d:List Nat){c:Act->Prop}{b:List Oper}{aQ fr':List (Nat×Value)}{L:List Nat}{a:Act}(e:oa P G)(f:∀w,C w->h0 w M)(g:Fr n aQ a)(h:jZ G ops n M (b.take k) d aQ ep=some (fr',dup L))
 (next:∀a',Fr n fr' a'->wpQuiet P ops C c (b.drop k) a'):wpQuiet P ops C c b a:=by
 obtain⟨e5,j,I,J⟩:=HN h
 exact Uu (gs:=[]) e f (CX L) k g trivial I λ a' i=>next a' (i.sub J)
end
def ev:List Nat->Nat->Bool
 |[],_=>false
 |i::r,j=>bT i j||ev r j
section
variable{P:Program}{ops:Array Oper}{Q:Exit->Act->World->Prop}{md:Region.Mode}{S:World->Prop}{p:Nat}
def q6(P:Program)(md:Region.Mode)(ops:Array Oper)(Q:Exit->Act->World->Prop)(p:Nat)(S:World->Prop):Nat->Array Bool->Act->World->Prop
 |0,listed,a,w=>Region.ready md ops listed=[]/\Q .normal a w
 |bq+1,listed,a,w=>
  (Region.ready md ops listed=[]->Q .normal a w)/\
  ∀i∈Region.ready md ops listed,wpOp P ops Q i (λ a' w'=>((listed.setIfInBounds i true).getD p false=false->S w')/\q6 P md ops Q p S bq (listed.setIfInBounds i true) a' w') a w
theorem V2:∀(bq:Nat)(listed:Array Bool)(a:Act)(w:World),q6 P md ops Q p S bq listed a w->wpAny P md ops Q bq listed a w
 |0,_,_,_,h=>h
 |bq+1,_,_,_,h=>⟨h.1,λ i hi=>wpOp_mono (λ a' w' h'=>V2 bq _ a' w' h'.2) (h.2 i hi)⟩
theorem U'{bO:Array Bool}{i p:Nat}(h:bO.getD p false=true):(bO.setIfInBounds i true).getD p false=true:=by simp only[dP,eb]at h⊢;split;rename_i e;subst e;split;rfl;rename_i a;rw[hI (by omega)]at h;cases h;exact h
theorem V0{c:Nat}{d:World->Prop}:∀(bq:Nat)(listed:Array Bool)(a:Act)(w:World),listed.getD p false=true->q6 P md ops Q c d bq listed a w->q6 P md ops Q p S bq listed a w
 |0,_,_,_,_,h=>h
 |bq+1,_,_,_,b,h=>⟨h.1,λ i hi=>wpOp_mono (λ a' w' h'=>⟨λ e=>absurd ((U' b).symm.trans e) (by simp),V0 bq _ a' w' (U' b) h'.2⟩) (h.2 i hi)⟩
def kz:List Oper->Nat->Nat->List Nat->List Nat
 |[],_,_,acc=>acc
 |o::r,k,i,acc=>kz r (k+1) i (match o.after.toList.any λ e=>Region.binds .any e&&(bT e.on i||ev acc e.on)with|true=>k::acc |false=>acc)
theorem lE{l:List Nat}{j:Nat}(h:ev l j=true):j∈l:=by
 induction l with
 |nil=>simp[ev]at h
 |cons i r a=>simp only[ev,hZ]at h;rcases h with h |h;rw[aZ h];simp;exact fg _ (a h)
def vT(ops:Array Oper)(i:Nat)(U:List Nat):Prop:=∀u∈U,∃o,ops[u]? =some o/\∃e∈o.after,Region.binds .any e=true/\(e.on=i\/e.on∈U)
theorem G0{ops:Array Oper}{i:Nat}:∀ {l:List Oper}{k:Nat}{acc:List Nat},(∀m o,l[m]? =some o->ops[k+m]? =some o)->vT ops i acc->vT ops i (kz l k i acc)
 |[],_,_,_,h=>h
 |o::r,k,acc,c,h=>by rw[kz];refine G0 (λ m a d=>by have:=c (m+1) a (by simpa using d);rwa [show k+(m+1)=k+1+m by omega]at this) ?_;split;rename_i ag;intro u hu;rcases dc.1 hu with rfl |hu;simp only[List.any_eq_true,bL,hZ]at ag;obtain⟨e,b,I,J⟩:=ag;refine⟨o,by simpa using c 0 o rfl,e,by simpa using b,I,?_⟩;rcases J with J |J;exact .inl (aZ J);exact .inr (fg _ (lE J));obtain⟨a,f,e,b,I,J⟩:=h u hu;exact⟨a,f,e,b,I,J.imp id (fg _)⟩;exact h
def Nb(ops:Array Oper)(p i:Nat)(ds:List Nat):Bool:=(match nth ops.toList p with
 |none=>true
 |some _=>ev (kz ops.toList 0 i []) p)&&(kz ops.toList 0 i []).all λ u=>!(cq ops.size ds).getD u false
theorem Nc{ops:Array Oper}{p i:Nat}{ds:List Nat}(h:Nb ops p i ds=true):vT ops i (kz ops.toList 0 i [])/\(ops[p]? =none\/p∈kz ops.toList 0 i [])/\∀u∈kz ops.toList 0 i [],(cq ops.size ds).getD u false=false:=by unfold Nb at h;rw[bL]at h;refine⟨G0 (λ m o b=>by simpa using b) (λ u a=>by simp at a),?_,λ u a=>?_⟩;have I:=h.1;rw[cr,g0]at I;split at I;rename_i c;exact .inl c;exact .inr (lE I);have:=jK.1 h.2 u a;simpa using this
theorem alo{i:Nat}{cf:Oper}{v:Value}(hi:ops[i]? =some cf)(y:∀(j:Nat)(o:Oper) cs b,ops[j]? =some o->o.op≠ .select cs b)(L:p≠i)
 (M:∀c a w,Q (.panic c) (a.put cf.dst v) w->Q (.panic c) a w){U:List Nat}(N:vT ops i U)(t:ops[p]? =none\/p∈U) :
 ∀(l:Nat)(listed:Array Bool)(a:Act)(w:World),
  (∀j d,ops[j]? =some d->j≠i->listed.getD j true=false->(∀e∈d.after,Region.binds .any e=true->e.on≠i)->cf.apart ops d=true) ->
  listed.getD p false=false->(∀u∈U,listed.getD u false=false)->i∈Region.ready .any ops listed->YieldsIf P ops S cf v a->S w ->
  q6 P .any ops Q p S l (listed.setIfInBounds i true) (a.put cf.dst v) w->q6 P .any ops Q p S (l+1) listed a w:=by
 intro l
 induction l with
 |zero=>intro listed a w _ _ _ f hy m H;refine⟨λ h=>(by rw[h]at f;cases f),λ j r=>?_⟩;by_cases e6:j=i;subst e6;exact hy.wpOp hi m ⟨λ _=>m,H⟩;have:=ready_mono r e6;rw[H.1]at this;cases this
 |succ l O=>
  intro listed a w z kP n f hy m H;refine⟨λ h=>(by rw[h]at f;cases f),λ j r=>?_⟩;by_cases e6:j=i;subst e6;exact hy.wpOp hi m ⟨λ _=>m,H⟩
  ·have I:=H.2 j (ready_mono r e6);obtain⟨A,d,q,B⟩:=mem_ready.1 r;have C:∀e∈d.after,Region.binds .any e=true->e.on≠i:=λ e s ag heq=>by have I:=B e s ag;have D:=(mem_ready.1 f).1;rw[heq]at I;rcases gE i listed.size with h' |h';simp[h']at D I;rw[D]at I;cases I;simp[hI h']at I
   have E:j∉U:=λ R=>by obtain⟨cI,x,e,s,ag,J⟩:=N j R;rw[q]at x;simp only[aK]at x;subst x;rcases J with J |J;exact C e s ag J;have g:=B e s ag;rw[n _ J]at g;cases g
   have F:j≠p:=λ e=>by subst e;rcases t with h |h;rw[q]at h;cases h;exact E h
   have T:∀u∈U,(listed.setIfInBounds j true).getD u false=false:=λ u G=>by have:=n u G;have V:j≠u:=λ e=>E (e▸G);simp only[dP,eb,lW V]at this⊢;exact this
   have W:(listed.setIfInBounds j true).getD p false=false:=by simp only[dP,eb,lW F]at kP⊢;exact kP
   have St:((listed.setIfInBounds i true).setIfInBounds j true).getD p false=false:=by simp only[dP,eb,lW F,lW (Ne.symm L)]at kP⊢;exact kP
   have J:=wpOp_putIf q (z j d q e6 A C) (λ cs b=>y i cf cs b hi) (λ cs b=>y j d cs b q) M hy I
   have X:∀k ok,ops[k]? =some ok->k≠i->(listed.setIfInBounds j true).getD k true=false ->
    (∀e∈ok.after,Region.binds .any e=true->e.on≠i)->cf.apart ops ok=true:=λ k ok Y Z n i_=>by
    refine z k ok Y Z ?_ i_
    by_cases K:j=k
    ·subst K;exact A
    ·rw[getD_set_ne true K]at n;exact n
   refine wpOp_mono (λ a' w' g=>⟨λ _=>g.2.1 St,O (listed.setIfInBounds j true) a' w' X W T (ready_mono f (Ne.symm e6)) g.1 (g.2.1 St) ?_⟩) J;rw[iv _ _ e6];exact g.2.2
theorem VZ{i:Nat}{cf:Oper}{v:Value}(hi:ops[i]? =some cf)(s:∀(j:Nat)(o:Oper) cs b,ops[j]? =some o->o.op≠ .select cs b)(B:p≠i)
 (C:∀c a w,Q (.panic c) (a.put cf.dst v) w->Q (.panic c) a w) :
 ∀(g:Nat)(listed:Array Bool)(a:Act)(w:World),
  (∀j d,ops[j]? =some d->j≠i->listed.getD j true=false->(∀e∈d.after,Region.binds .any e=true->e.on≠i)->cf.apart ops d=true) ->
  (listed.getD p false=false->S w)->i∈Region.ready .any ops listed->YieldsIf P ops (λ _=>True) cf v a ->
  q6 P .any ops Q p S g (listed.setIfInBounds i true) (a.put cf.dst v) w->q6 P .any ops Q p S (g+1) listed a w:=by
 have n:∀(bO:Array Bool)(b:Bool),(bO.setIfInBounds i true).getD p b=bO.getD p b:=λ bO b=>by simp only[dP,eb,lW (Ne.symm B)]
 intro g
 induction g with
 |zero=>intro listed a w _ q f hy H;refine⟨λ h=>(by rw[h]at f;cases f),λ j l=>?_⟩;by_cases e6:j=i;subst e6;exact hy.wpOp hi trivial ⟨λ h=>q (by rwa [n]at h),H⟩;have:=ready_mono l e6;rw[H.1]at this;cases this
 |succ g D=>
  intro listed a w t q f hy H;refine⟨λ h=>(by rw[h]at f;cases f),λ j l=>?_⟩;by_cases e6:j=i;subst e6;exact hy.wpOp hi trivial ⟨λ h=>q (by rwa [n]at h),H⟩
  ·have I:=H.2 j (ready_mono l e6);obtain⟨u,d,r,E⟩:=mem_ready.1 l;have F:∀e∈d.after,Region.binds .any e=true->e.on≠i:=λ e G ag heq=>by have I:=E e G ag;have x:=(mem_ready.1 f).1;rw[heq]at I;rcases gE i listed.size with h' |h';simp[h']at x I;rw[x]at I;cases I;simp[hI h']at I
   have J:=wpOp_putIf r (t j d r e6 u F) (λ cs b=>s i cf cs b hi) (λ cs b=>s j d cs b r) C hy I
   have K:∀k ok,ops[k]? =some ok->k≠i->(listed.setIfInBounds j true).getD k true=false ->
    (∀e∈ok.after,Region.binds .any e=true->e.on≠i)->cf.apart ops ok=true:=λ k ok L M y N=>by
    refine t k ok L M ?_ N
    by_cases z:j=k
    ·subst z;exact u
    ·rw[getD_set_ne true z]at y;exact y
   have A:∀w',(((listed.setIfInBounds i true).setIfInBounds j true).getD p false=false->S w')->(listed.setIfInBounds j true).getD p false=false->S w':=λ w' O R=>O (by rw[iv _ _ (Ne.symm e6),n];exact R);refine wpOp_mono (λ a' w' m=>⟨A w' m.2.1,D (listed.setIfInBounds j true) a' w' K (A w' m.2.1) (ready_mono f (Ne.symm e6)) m.1 ?_⟩) J;rw[iv _ _ e6];exact m.2.2
end
def er(P:Program)(ops:Array Oper)(Q:Exit->Act->World->Prop)(p:Nat)(S:World->Prop)(f:Nat)(ds:List Nat)(a:Act)(w:World):Prop:=((cq ops.size ds).getD p false=false->S w)/\q6 P .any ops (NoPanic Q) p S f (cq ops.size ds) a w
def vi(ops:List Oper):List Nat->Option (List Oper)
 |[]=>some []
 |i::r=>match nth ops i,vi ops r with
  |some o,some os=>some (o::os)
  |_,_=>none
def TQ(ops:Array Oper)(i:Nat):Bool:=match nth ops.toList i with
 |some o=>!w8 o.op
 |none=>false
def xS(ops:Array Oper)(p:Nat):List Nat->List Nat->Bool
 |_,[]=>true
 |ds,i::r=>xR ops ds i&&(Nb ops p i ds||TQ ops i)&& !bT p i&&xS ops p (i::ds) r
def A':List Nat->List Nat->List Nat
 |[],ds=>ds
 |i::r,ds=>A' r (i::ds)
section
variable{P:Program}{G:jQ}{ops:Array Oper}{n:b'}{M:List (Nat×Nat×List Value)}{S:World->Prop}{Q:Exit->Act->World->Prop}{a:Act}{w:World}{f p:Nat}{ds:List Nat}
theorem ahr(i:Nat):cq ops.size (i::ds)=(cq ops.size ds).setIfInBounds i true:=rfl
theorem er.wpAny(h:er P ops Q p S f ds a w):Go.wpAny P .any ops (NoPanic Q) f (cq ops.size ds) a w:=V2 f _ a w h.2
theorem Cv(hc:(Region.ready .any ops (cq ops.size ds)).isEmpty=true)(h:Q .normal a w)(c:(cq ops.size ds).getD p false=false->S w):er P ops Q p S f ds a w:=by
 refine⟨c,?_⟩;have b:=List.isEmpty_iff.1 hc;cases f with
 |zero=>exact⟨b,NoPanic.normal h⟩
 |succ f=>exact⟨λ _=>NoPanic.normal h,by rw[b];simp⟩
theorem er.next(c:Nat)(d:World->Prop)(b:(cq ops.size ds).getD p false=true)(h:er P ops Q c d f ds a w):er P ops Q p S f ds a w:=⟨λ e=>absurd (b.symm.trans e) (by simp),V0 f _ a w b h.2⟩
theorem OB(A:oa P G)(B:∀w,S w->h0 w M)(j:S w){e5:List (Nat×Value)}{K:List fu}{D:List (Nat×Nat)}(k:eqs D):∀(is:List Nat){os:List Oper}{m ds:List Nat}{aQ:List (Nat×Value)}{gs:List fu}{l:List (Nat×Nat)}{a:Act},
 (cq ops.size ds).getD p false=false->vi ops.toList is=some os->xS ops p ds is=true->Fr n aQ a->j2 a gs->bM G ops n M os m aQ gs l=some (e5,K,D)->(∀a',Fr n e5 a'->er P ops Q p S f (A' is ds) a' w)->er P ops Q p S (f+is.length) ds a w
 |[],os,m,ds,aQ,gs,l,a,_,b,_,q,_,h,r=>by simp only[vi,aK]at b;subst b;simp only[bM,aK,cY]at h;exact r a (by rw[<-h.1];exact q)
 |i::is,os,m,ds,aQ,gs,l,a,kP,b,E,q,L,h,r=>by
  simp only[vi]at b;split at b
  ·rename_i o N I J;simp only[aK]at b;subst b;rw[cr,g0]at I;simp only[xS,bL,gI]at E;obtain⟨⟨⟨mA,g⟩,F⟩,s⟩:=E;have t:p≠i:=λ e=>by rw[e]at F;simp at F
   obtain⟨d,u,U,fr',V,l',⟨aE,H⟩,O,R,h'⟩:=HM (C:=S) A B q L h k (rT k);have T:(cq ops.size (i::ds)).getD p false=false:=by rw[ahr];simp only[dP,eb,lW (Ne.symm t)]at kP⊢;exact kP
   have next:=OB A B j k is T J s O R h' r
   simp only[xR,bL]at mA;refine⟨λ _=>j,?_⟩;have:=next.2
   rw[show f+(i::is).length=f+is.length+1 by simp[jg]];rw[hZ]at g;rcases g with g |w3;refine alo (v:=u) I (Region.noSelect_spec mA.1.1) t (λ c a w h=>h) (Nc g).1 (Nc g).2.1 (f+is.length) _ a w (Region.free_spec I mA.1.2) kP (Nc g).2.2 (by simpa using mA.2) (H.imp (λ⟨x,y,_⟩=>⟨x,y⟩) id) j ?_;rw[aE];exact this
   ·have z:w8 o.op=false:=by
     unfold TQ at w3;rw[cr,g0,I]at w3;simpa using w3
    refine VZ (v:=u) I (Region.noSelect_spec mA.1.1) t (λ c a w h=>h) (f+is.length) _ a w (Region.free_spec I mA.1.2) (λ _=>j) (by simpa using mA.2) (H.imp (λ⟨x,_,y⟩=>⟨x,λ w _=>y z w⟩) id) ?_;rw[aE];exact this
  ·cases b
theorem YN(is:List Nat)(k:Nat)(ep c:List Nat){os:List Oper}{aQ fr':List (Nat×Value)}{L:List Nat}(d:oa P G)(e:∀w,S w->h0 w M)(g:Fr n aQ a)(b:bT is.length k=true)(kP:(cq ops.size ds).getD p false=false)(hi:vi ops.toList is=some os)(h:xS ops p ds is=true)
 (i:jZ G ops n M os c aQ ep=some (fr',dup L))(j:S w)(next:∀a',Fr n fr' a'->er P ops Q p S f (A' is ds) a' w):er P ops Q p S (f+k) ds a w:=by
 have b:=aZ b
 subst b
 obtain⟨e5,m,I,J⟩:=HN i
 exact OB (gs:=[]) d e j (CX L) is kP hi h g trivial I λ a' l=>next a' (l.sub J)
theorem jW(i:Nat){o:Oper}(hi:ops[i]? =some o)(hc:(Region.ready .any ops (cq ops.size ds)==[i])=true)(e:(cq ops.size ds).getD p false=false->S w)(h:wpList P ops (vZ (er P ops Q p S f (i::ds)) (NoPanic Q)) [o] a w):er P ops Q p S (f+1) ds a w:=by
 have b:=eq_of_beq hc;refine⟨e,⟨λ c=>(by rw[b]at c;cases c),λ j d=>?_⟩⟩;rw[b]at d;have:j=i:=by simpa using d
 subst this;exact Ng hi h
theorem Ou(i j:Nat){o b:Oper}(hi:ops[i]? =some o)(g:ops[j]? =some b)(hc:(Region.ready .any ops (cq ops.size ds)==[i,j])=true)(k:(cq ops.size ds).getD p false=false->S w)(h:wpList P ops (vZ (er P ops Q p S f (i::ds)) (NoPanic Q)) [o] a w)
 (h':wpList P ops (vZ (er P ops Q p S f (j::ds)) (NoPanic Q)) [b] a w):er P ops Q p S (f+1) ds a w:=by
 have c:=eq_of_beq hc
 refine⟨k,⟨λ d=>(by rw[c]at d;cases d),λ q e=>?_⟩⟩
 rw[c]at e
 have:q=i\/q=j:=by simpa using e
 rcases this with rfl |rfl
 ·exact Ng hi h
 ·exact Ng g h'
theorem h9(h:er P ops Q p S f ds a w):wpList P ops (vZ (er P ops Q p S f ds) (NoPanic Q)) [] a w:=h
end
theorem GC(p q:List UInt8):((⟨⟨p⟩⟩:ByteArray)==⟨⟨q⟩⟩)=decide (p=q):=by
 show((⟨p⟩:Array UInt8)==⟨q⟩)=_
 rw[iN];simp
structure iJ (b6:Type) [DecidableEq b6] where
 enc:b6->Value
 desc:TypeDesc
 same:∀a b,Instr.sameNow desc (enc a) (enc b)=some (decide (b=a))
 bits:∀a,Instr.sameBits 10000 (enc a) (enc a)=true
 check:∀(P:Program)(w:World)(e:Bool)(t:TypeId)(a:b6),P.underlying t=some desc->(Instr.checkKey e 10000 t (enc a)).run P w= .ok () w
def afU:iJ Int where
 enc n:=.int .i64 n
 desc:=.int .i64
 same a b:=by simp only[Instr.sameNow,if_true,aK];rw[iN];simp only[beq_iff_eq,decide_eq_true_iff];exact eq_comm
 bits a:=by
  have h:∀n,Instr.sameBits n (.int .i64 a) (.int .i64 a)=true:=λ n=>by cases n<;>simp[Instr.sameBits]
  exact h 10000
 check P w e t a h:=by
  have h':∀n:Nat,(Instr.checkKey e (n+1) t (.int .i64 a)).run P w= .ok () w:=λ n=>by simp[Instr.checkKey,run_underlying h]
  exact h' 9999
def ka:iJ (List UInt8) where
 enc s:=bQ s
 desc:=.string
 same a b:=by
  simp only[Instr.sameNow,aK];have e:decide (a=b)=decide (b=a):=by rw[decide_eq_decide];exact eq_comm
  exact(GC a b).trans e
 bits a:=by
  have h:∀n,Instr.sameBits n (bQ a) (bQ a)=true:=λ n=>by have e:((⟨⟨a⟩⟩:ByteArray)==⟨⟨a⟩⟩)=true:=(GC a a).trans (by simp);cases n<;>(simp only[Instr.sameBits];exact e)
  exact h 10000
 check P w e t a h:=by
  have h':∀n:Nat,(Instr.checkKey e (n+1) t (bQ a)).run P w= .ok () w:=λ n=>by simp[Instr.checkKey,run_underlying h]
  exact h' 9999
section
variable{b6 β:Type} [DecidableEq b6](K:iJ b6)(bM:β->Value)
def Gb(es:List MapEntry)(d:List (b6×β)):Prop:=es.map (λ e=>(e.key,e.val))=d.map (λ p=>(K.enc p.1,bM p.2))
def Oi(w:World)(r:Nat)(d:List (b6×β)):Prop:=∃es clock,w.heap[r]? =some (.map es clock)/\Gb K bM es.toList d/\(es.toList.map (·.born)).Pairwise (·< ·)/\∀e∈es.toList,e.born<clock
def aU.map(r:Nat)(d:List (b6×β)):aU where
 a6:=[r]
 ok w:=Oi K bM w r d
 law w w' h a:=by obtain⟨es,c,I,J⟩:=a;exact⟨es,c,(h r (by simp)).trans I,J⟩
def bc.map(r:Nat)(d:List (b6×β)):bc where
 ok M w:=r∉M/\r<w.heap.size/\Oi K bM w r d
 law M hK w w' a b h:=by obtain⟨I,J,es,c,f,g⟩:=h;exact⟨λ i=>by rcases b r i with e |e;exact I e;omega,dY J a.size,es,c,(a.block r J I).trans f,g⟩
end
section
variable{b6 β:Type} [DecidableEq b6]{K:iJ b6}{bM:β->Value}
variable{P:Program}{o:Oper}{a:Act}{w:World}{x y z:Operand}{t kt y9:TypeId}{r:Nat}{d:List (b6×β)}{k:b6}{v:β}
theorem am'(b:o.op= .makeMap t none):aS P o a w (.map (some w.heap.size)) (w.alloc (.map #[] 0)):=by simp only[aS,execOp,b,Sem.run_bind];rfl
end
def N_(E:List aU):Prop:=∀(i:Nat)(x:aU),E[i]? =some x->x.a6.Nodup/\∀(j:Nat)(y:aU),E[j]? =some y->i≠j->∀k∈x.a6,k∉y.a6
theorem HQ:∀ {E:List aU},(bD E).Nodup->N_ E
 |[],_=>λ i x h=>by simp at h
 |e::E,h=>by
  have h':(e.a6++bD E).Nodup:=by simpa[bD]using h
  rw[ft]at h';obtain⟨I,J,d⟩:=h';have f:=HQ J;intro i x a;cases i with
  |zero=>
   simp only[dX,aK]at a;subst a;refine⟨I,λ j y hy g k b c=>?_⟩;cases j with
   |zero=>exact g rfl
   |succ j=>exact d k b k (hn.2 ⟨y,cU (by simpa using hy),c⟩) rfl
  |succ i=>
   have a:E[i]? =some x:=by simpa using a
   refine⟨(f i x a).1,λ j y hy g k b c=>?_⟩;cases j with
   |zero=>simp only[dX,aK]at hy;subst hy;exact d k c k (hn.2 ⟨x,cU a,b⟩) rfl
   |succ j=>exact(f i x a).2 j y (by simpa using hy) (by omega) k b c
theorem TU:∀ {E:List aU},N_ E->(bD E).Nodup
 |[],_=>by simp[bD]
 |e::E,h=>by
  have f:bD (e::E)=e.a6++bD E:=by simp[bD]
  rw[f,ft];refine⟨(h 0 e rfl).1,TU λ i x c=>⟨(h (i+1) x (by simpa using c)).1,λ j y hy m k d=>(h (i+1) x (by simpa using c)).2 (j+1) y (by simpa using hy) (by omega) k d⟩,λ a g b ag l=>?_⟩;subst l;obtain⟨x,c,d⟩:=hn.1 ag;obtain⟨i,hi,rfl⟩:=je.1 c;exact(h 0 e rfl).2 (i+1) E[i] (by simp[hi]) (by omega) a g d
def xM(E:List aU):List Nat->Option (List aU)
 |[]=>some []
 |i::r=>match nth E i,xM E r with
  |some x,some xs=>some (x::xs)
  |_,_=>none
def DQ:List Nat->Nat->Bool
 |[],_=>false
 |i::r,j=>bT i j||DQ r j
def AG:List Nat->Bool
 |[]=>true
 |i::r=>!DQ r i&&AG r
theorem afn{l:List Nat}{j:Nat}(h:DQ l j=false):j∉l:=by
 induction l with
 |nil=>simp
 |cons i r a=>simp only[DQ,kc]at h;intro b;rcases dc.1 b with rfl |e;simp at h;exact a h.2 e
theorem TK:∀ {l:List Nat},AG l=true->l.Nodup
 |[],_=>by simp
 |i::r,h=>by simp only[AG,bL,gI]at h;exact jr.2 ⟨afn h.1,TK h.2⟩
theorem Fc{E:List aU}:∀ {is:List Nat}{b:List aU},xM E is=some b->∀(m:Nat)(x:aU),b[m]? =some x->∃i:Nat,is[m]? =some i/\E[i]? =some x
 |[],b,h,m,x,a=>by simp only[xM,aK]at h;subst h;simp at a
 |i::r,b,h,m,x,a=>by
  simp only[xM]at h;split at h
  ·rename_i y ys I J;simp only[aK]at h;subst h;cases m with
   |zero=>simp only[dX,aK]at a;subst a;exact⟨i,rfl,by rw[<-cr];exact I⟩
   |succ m=>obtain⟨q,c,d⟩:=Fc J m x (by simpa using a);exact⟨q,by simpa using c,d⟩
  ·cases h
section
variable{W w w':World}{ar X:List Nat}{E:List aU}{D:List bc}
theorem a9.sel(h:a9 W ar X w E D)(is:List Nat){c:List aU}(r:AG is=true)(d:xM E is=some c):a9 W ar X w c D:=by
 have g:∀x∈c,x∈E:=λ x a=>by obtain⟨m,s,rfl⟩:=je.1 a;obtain⟨i,_,hi⟩:=Fc d m _ (bu s);exact cU hi
 have l:∀k∈bD c,k∈bD E:=λ k b=>by obtain⟨x,a,DB⟩:=hn.1 b;exact hn.2 ⟨x,g x a,DB⟩
 have aE:=HQ h.a3;have n:=TK r;refine⟨h.bM,h.fy,λ k b=>h.lt k (l k b),λ x a=>h.ok x (g x a),TU λ m x a=>?_,λ y hy=>y.law _ _ w w (aY.refl _ _) (λ k b=>.inl ?_) (h.rd y hy)⟩;obtain⟨i,hi,o⟩:=Fc d m x a;refine⟨(aE i x o).1,λ f y hy t k b=>?_⟩;obtain⟨j,u,v⟩:=Fc d f y hy;refine(aE i x o).2 j y v (λ e=>?_) k b;subst e;obtain⟨l1,p⟩:=bb.1 hi;obtain⟨q,al⟩:=bb.1 u;rcases Nat.lt_or_gt_of_ne t with bh |bh;exact(jq.1 n m f l1 q bh) (p.trans al.symm);exact(jq.1 n f m q l1 bh) (al.trans p.symm);rcases de.1 b with e |e;exact de.2 (.inl e);exact de.2 (.inr (l k e))
theorem wI(A B:List aU):bD (A++B)=bD A++bD B:=by simp[bD]
theorem a9.into(h:a9 W ar X w E D)(m:Nat):a9 w (bD (E.take m)) (X++bD (E.drop m)) w (E.take m) D:=by
 have b:bD E=bD (E.take m)++bD (E.drop m):=by rw[<-wI,iM]
 have aE:=h.a3;rw[b,ft]at aE;refine⟨aY.refl _ _,λ k a=>?_,λ k a=>⟨(h.lt k (by rw[b];simp[a])).1,.inl a⟩,λ x d=>h.ok x (List.mem_of_mem_take d),aE.1,λ y hy=>y.law _ _ w w (aY.refl _ _) (λ k a=>.inl ?_) (h.rd y hy)⟩;rcases de.1 a with e |e;refine⟨dY (h.fy k e).1 h.bM.size,λ c=>?_⟩;have:=(h.lt k (by rw[b];simp[c])).2;rcases this with al |al;exact(h.fy k e).2 al;have:=(h.fy k e).1;omega;exact⟨(h.lt k (by rw[b];simp[e])).1,λ c=>aE.2.2 k c k e rfl⟩;rw[b];simp only[de]at a⊢;rcases a with(e |e)|e<;>simp[e]
def Gg:List bc->Prop
 |[]=>True
 |y::r=>(∀M hK w w',y.ok M w->y.ok hK w')/\Gg r
theorem Oa:∀ {D:List bc},Gg D->∀y∈D,∀M hK w w',y.ok M w->y.ok hK w'
 |[],_,y,hy=>by simp at hy
 |z::r,h,y,hy=>by rcases dc.1 hy with rfl |e;exact h.1;exact Oa h.2 y e
theorem a9.OH(h:a9 W ar X w E D)(m:Nat){j:List Nat}{oi:List aU}{g:List bc}(k:a9 w (bD (E.take m)) j w' oi g)(l:∀y∈g,y.ok (X++bD (oi++E.drop m)) w'):a9 W ar X w' (oi++E.drop m) (g++D):=by
 have c:bD E=bD (E.take m)++bD (E.drop m):=by rw[<-wI,iM]
 have aE:=h.a3;rw[c,ft]at aE;have i:∀b∈bD (E.take m),b<w.heap.size/\(b∈ar\/W.heap.size<=b):=λ b ag=>h.lt b (by rw[c];simp[ag]);have dg:∀b∈bD (E.drop m),b<w.heap.size/\(b∈ar\/W.heap.size<=b):=λ b ag=>h.lt b (by rw[c];simp[ag]);have f:=k.bM;have n:∀b∈bD oi,b∉bD (E.drop m):=λ b ag d=>by rcases(k.lt b ag).2 with e |e;exact aE.2.2 b e b d rfl;have:=(dg b d).1;omega
 refine⟨h.bM.trans f (λ b ag=>(i b ag).2),h.fy,λ b ag=>?_,λ x o=>?_,?_,λ y hy=>?_⟩;rw[wI]at ag;rcases de.1 ag with e |e;refine⟨(k.lt b e).1,?_⟩;rcases(k.lt b e).2 with al |al;exact(i b al).2;exact .inr (fo h.bM.size al);exact⟨dY (dg b e).1 f.size,(dg b e).2⟩;rcases de.1 o with e |e;exact k.ok x e;refine x.law w w' (λ b ag=>?_) (h.ok x (List.mem_of_mem_drop e));have d:b∈bD (E.drop m):=hn.2 ⟨x,e,ag⟩;exact f.block b (dg b d).1 (λ p=>aE.2.2 b p b d rfl);rw[wI,ft];exact⟨k.a3,aE.2.1,λ a q b ag e=>by subst e;exact n a q ag⟩;rcases de.1 hy with e |e;exact l y e;refine y.law _ _ w w' (f.mono λ b ag=>?_) (λ b ag=>?_) (h.rd y e);rw[c];simp[ag];rw[wI]at ag;rw[c];simp only[de]at ag⊢;rcases ag with ak |ak |ak;simp[ak];rcases(k.lt b ak).2 with al |al;simp[al];exact .inr al;simp[ak]
theorem a9.back(h:a9 W ar X w E D)(m:Nat){oi:List aU}{a:List bc}(k:a9 w (bD (E.take m)) (X++bD (E.drop m)) w' oi a):a9 W ar X w' (oi++E.drop m) (a++D):=h.OH m k λ y hy=>y.law _ _ w' w' (aY.refl _ _) (λ b ag=>.inl (by rw[wI]at ag;simp only[de]at ag⊢;rcases ag with e |e |e<;>simp[e])) (k.rd y hy)
theorem a9.fk(h:a9 W ar X w E D)(m:Nat){b:List Nat}{oi:List aU}{a:List bc}(c:Gg a)(k:a9 w (bD (E.take m)) b w' oi a):a9 W ar X w' (oi++E.drop m) (a++D):=h.OH m k λ y hy=>Oa c y hy _ _ _ _ (k.rd y hy)
end
section
variable{P:Program}{ops:Array Oper}{Q:Exit->Act->World->Prop}{a:Act}{w:World}{rest:List Oper}{o:Oper}{n:b'}{d:Nat}{l:List (Nat×Value)}
 {W:World}{ar X:List Nat}{E:List aU}{D:List bc}
theorem a9.U1(h:a9 W ar X w E D){α:Type}{T:cE α}{xs:List Value}{li:List α}(b:cS T (gL (X++bD E) w) w xs li):a9 W ar X w E (bc.rows T xs li::D):=h.more b
theorem Fb{α:Type}{T:cE α}{t e:TypeId}{x y:Operand}{z:Value}{bytes m c:Nat}{v:Value}{li ml l':List α}{xs cs:List Value}{dr:Addr}(i:Nat)(p:a9 W ar X w E D)(hi:E[i]? =some (aU.row e T.size v li xs))
 (C:P.underlying t=some (.slice e))(F:(P.info? e).map (λ i=>(i.zero,i.size,i.bytes))=some (some z,T.size,bytes))(G:z.cells.size=T.size)(H:0<T.size)
 (I:b2 bytes li ml=some l')(K:ml.length=m)(L:0<bytes)
 (M:cS T (gL (X++bD E) w) w xs li)(hcs:cS T (gL (X++bD E) w) w cs ml)(N:∀j u,cs[j]? =some u->w.cell? (dr.add j)=some u)
 (O:Region.wanted o (yielded ops a.tmps)=true)
 (R:o.op= .call { callee:=.builtin .append,args:=#[x,y],argTypes:=#[t,t] })(S:a.eval x=v)(hy:a.eval y= .slice (some dr) m c)(U:Fr n l a)(aE:o.dst=some d)(V:eM d n=true)
 (k:∀a' A b w',aY v.ownBlock.toList w w'->Fr n ((d,.slice A l'.length b)::l) a'->a9 W ar X w' (E.set i (aU.row e T.size (.slice A l'.length b) l' (xs++cs))) (bc.rows T (xs++cs) l'::D)->wpList P ops Q rest a' w'):wpList P ops Q (o::rest) a w:=by
 obtain⟨Y,Z,SK,qb,oE⟩:=SP F
 obtain⟨IY,rfl⟩:=Cx I
 have i':w.ownsRow 0 e T.size v li.length xs:=p.e i hi
 subst K
 have g:li.length+ml.length<=maxLen:=by have J:=k1 (li.length+ml.length) L;simp only[maxLen];omega
 obtain⟨r,w',eF,J,s,_,cO⟩:=run_append_own_at (P:=P) w 0 t o.type e Y z T.size bytes C Z SK qb oE G H v li.length xs i' dr ml.length c cs (nV T hcs)
  N (vm T hcs) g IY (hh _)
 have B:(aU.row e T.size r (li++ml) (xs++cs)).ok w':=by
  show w'.ownsRow 0 e T.size r (li++ml).length (xs++cs)
  rw[fD];exact J
 obtain⟨A,b,rfl,_⟩:=E8 B
 have lC:aS P o a w (.slice A (li++ml).length b) w':=by simp only[aS,execOp,R,resolve,invoke,builtin,Sem.run_bind,Sem.run_pure,Result.andThen_ok,gu,fA,ib,S,hy,eF]
 have zT:=p.U1 (A2 T hcs M)
 refine mY O lC U aE V λ a' cX=>k a' A b w' (aY.grown s) cX (zT.Fq i hi (aY.grown s) B (aif _) λ q aH=>?_)
 have f:(Value.slice A (li++ml).length b).ownBlock=some q:=by simpa[aU.row]using aH
 rcases cO with ch |ch
 ·left;simpa[aU.row,<-ch]using f
 ·right;rw[ch]at f;injection f with f;subst f;refine⟨da _,?_⟩;rcases J.2 with⟨h,_⟩|⟨g',cap,cur,h,_,eZ,_⟩;rw[h]at ch;simp[Value.ownBlock]at ch
  ·rw[h]at ch;have:g'=w.heap.size:=by simpa[Value.ownBlock]using ch
   subst this;exact(eL.1 eZ).1
theorem Fa{α:Type}{T:cE α}{t e:TypeId}{x y:Operand}{z:Value}{bytes g m c:Nat}{v:Value}{li ml l':List α}{xs cs:List Value}(i j q:Nat)(f:a9 W ar X w E D)(hi:E[i]? =some (aU.row e T.size v li xs))(h:E[j]? =some (aU.c8 g e cs))(p:D[q]? =some (bc.rows T xs li))
 (r:P.underlying t=some (.slice e))(s:(P.info? e).map (λ i=>(i.zero,i.size,i.bytes))=some (some z,T.size,bytes))(B:z.cells.size=T.size)(C:eM 0 T.size=true)
 (F:b2 bytes li ml=some l')(G:ml.length=m)(H:eM 0 bytes=true)(hcs:cS T (gL (X++bD E) w) w cs ml)
 (I:Region.wanted o (yielded ops a.tmps)=true)
 (J:o.op= .call { callee:=.builtin .append,args:=#[x,y],argTypes:=#[t,t] })(K:a.eval x=v)(hy:a.eval y= .slice (some ⟨g,0,none⟩) m c)(L:Fr n l a)(aE:o.dst=some d)(M:eM d n=true)
 (k:∀a' A b ec w',Fr n ((d,.slice A l'.length b)::l) a'->a9 W ar X w' ((E.set i (aU.row e T.size (.slice A l'.length b) l' ec)).eraseIdx j) (bc.rows T ec l'::D)->wpList P ops Q rest a' w'):wpList P ops Q (o::rest) a w:=by
 have ag:=f.e j h
 exact Fb i f hi r s B (bW C) F G (bW H) (f.d q p) hcs (λ j u N=>by rw[iq];simpa using rI ag N) I J K hy L aE M
  λ a' A b w' _ O R=>k a' A b _ w' O (R.CY j)
theorem MI{α:Type}{T:cE α}{t e:TypeId}{x y:Operand}{z:Value}{bytes g m c:Nat}{v:Value}{li ml l':List α}{xs cs:List Value}(i j q:Nat)(f:a9 W ar X w E D)(hi:E[i]? =some (aU.row e T.size v li xs))(h:E[j]? =some (aU.c8 g e cs))(p:D[q]? =some (bc.rows T xs li))
 (r:P.underlying t=some (.slice e))(s:(P.info? e).map (λ i=>(i.zero,i.size,i.bytes))=some (some z,T.size,bytes))(B:z.cells.size=T.size)(C:eM 0 T.size=true)
 (F:b2 bytes li ml=some l')(G:ml.length=m)(H:eM 0 bytes=true)(hcs:cS T (gL (X++bD E) w) w cs ml)
 (I:Region.wanted o (yielded ops a.tmps)=true)
 (J:o.op= .call { callee:=.builtin .append,args:=#[x,y],argTypes:=#[t,t] })(K:a.eval x=v)(hy:a.eval y= .slice (some ⟨g,0,none⟩) m c)(L:Fr n l a)(aE:o.dst=some d)(M:eM d n=true)
 (k:∀a' A b ec w',aY v.ownBlock.toList w w'->Fr n ((d,.slice A l'.length b)::l) a'->a9 W ar X w' ((E.set i (aU.row e T.size (.slice A l'.length b) l' ec)).eraseIdx j) (bc.rows T ec l'::D)->wpList P ops Q rest a' w'):wpList P ops Q (o::rest) a w:=by
 have ag:=f.e j h
 exact Fb i f hi r s B (bW C) F G (bW H) (f.d q p) hcs (λ j u N=>by rw[iq];simpa using rI ag N) I J K hy L aE M
  λ a' A b w' O R S=>k a' A b _ w' O R (S.CY j)
theorem amS{t e:TypeId}{x y:Operand}{v:Value}{sz k:Nat}{xs:List Value}{z:Value}{bytes:Nat}(b:P.underlying t=some (.slice e))(c:(P.info? e).map (λ i=>(i.zero,i.size,i.bytes))=some (some z,sz,bytes))(f:w.ownsRow 0 e sz v k xs)
 (g:o.op= .call { callee:=.builtin .append,args:=#[x,y],argTypes:=#[t,t] })(h:a.eval x=v)(hy:a.eval y= .slice none 0 0):aS P o a w v w:=by
 obtain⟨j,m,q,r,s⟩:=SP c
 have p:=run_append_owned_none (P:=P) (w:=w) 0 t o.type e j sz b m v k xs f
 simp only[aS,execOp,g,resolve,invoke,builtin,Sem.run_bind,Sem.run_pure,Result.andThen_ok,gu,fA,ib,h,hy,p]
theorem akA{α:Type}{T:cE α}{t e:TypeId}{x y:Operand}{z:Value}{bytes c:Nat}{v:Value}{li ml l':List α}{xs:List Value}{h:Option Addr}(i q p:Nat)(f:a9 W ar X w E D)(hi:E[i]? =some (aU.row e T.size v li xs))(Y:D[q]? =some (bc.rows T xs li))(Z:D[p]? =some (bc.of (cM T) [.slice h ml.length c] ml))
 (m:P.underlying t=some (.slice e))(r:(P.info? e).map (λ i=>(i.zero,i.size,i.bytes))=some (some z,T.size,bytes))(N:z.cells.size=T.size)(O:eM 0 T.size=true)
 (s:b2 bytes li ml=some l')(R:eM 0 bytes=true)
 (B:Region.wanted o (yielded ops a.tmps)=true)
 (C:o.op= .call { callee:=.builtin .append,args:=#[x,y],argTypes:=#[t,t] })(F:a.eval x=v)(hy:a.eval y= .slice h ml.length c)(G:Fr n l a)(aE:o.dst=some d)(H:eM d n=true)
 (k:∀a' A b ec w',aY v.ownBlock.toList w w'->Fr n ((d,.slice A l'.length b)::l) a'->a9 W ar X w' (E.set i (aU.row e T.size (.slice A l'.length b) l' ec)) (bc.rows T ec l'::D)->wpList P ops Q rest a' w'):wpList P ops Q (o::rest) a w:=by
 have I:=f.d q Y
 have J:(cM T).rd (gL (X++bD E) w) w [.slice h ml.length c] ml:=f.d p Z
 obtain⟨iF,dm,S,al,aL,bB,ch⟩:=J
 simp only[hN,Value.slice.injEq,and_true,true_and]at S
 obtain⟨rfl,rfl⟩:=S
 by_cases U:ml=[]
 ·subst U;cases h with
  |none=>
   have jz:=bB rfl;subst jz;have i':w.ownsRow 0 e T.size v li.length xs:=f.e i hi;have oM:(aU.row e T.size v li xs).ok w:=f.e i hi;obtain⟨A,b,rfl,_⟩:=E8 oM;obtain⟨_,rfl⟩:=Cx s;refine mY B (amS m r i' C F hy) G aE H λ a' g=>?_;have V:li++[]=li:=iW li;refine k a' A b xs w (aY.refl _ w) (by rw[V];exact g) ?_;rw[V];have aP:E.set i (aU.row e T.size (.slice A li.length b) li xs)=E:=by obtain⟨bh,he⟩:=bb.1 hi;rw[<-he,lv]
   rw[aP];exact f.more I
  |some dr=>exact Fb (cs:=[]) i f hi m r N (bW O) s rfl (bW R) I rfl (λ j u K=>by simp at K) B C F hy G aE H λ a' A b w' L g M=>k a' A b _ w' L g M
 ·obtain⟨cW,bg,cs,eu,hU⟩:=ch U;rw[cW]at hy;exact Fb (cs:=cs) i f hi m r N (bW O) s rfl (bW R) I eu (λ j u K=>by rw[iq];exact hU j u K) B C F hy G aE H λ a' A b w' L g M=>k a' A b _ w' L g M
theorem akz{α:Type}{T:cE α}{t e:TypeId}{x y:Operand}{z:Value}{bytes c:Nat}{v:Value}{li ml l':List α}{xs:List Value}{f:Option Addr}(i q p:Nat)(g:a9 W ar X w E D)(hi:E[i]? =some (aU.row e T.size v li xs))(h:D[q]? =some (bc.rows T xs li))(j:D[p]? =some (bc.of (cM T) [.slice f ml.length c] ml))
 (m:P.underlying t=some (.slice e))(r:(P.info? e).map (λ i=>(i.zero,i.size,i.bytes))=some (some z,T.size,bytes))(s:z.cells.size=T.size)(u:eM 0 T.size=true)
 (B:b2 bytes li ml=some l')(C:eM 0 bytes=true)
 (F:Region.wanted o (yielded ops a.tmps)=true)
 (G:o.op= .call { callee:=.builtin .append,args:=#[x,y],argTypes:=#[t,t] })(H:a.eval x=v)(hy:a.eval y= .slice f ml.length c)(I:Fr n l a)(aE:o.dst=some d)(J:eM d n=true)
 (k:∀a' A b ec w',Fr n ((d,.slice A l'.length b)::l) a'->a9 W ar X w' (E.set i (aU.row e T.size (.slice A l'.length b) l' ec)) (bc.rows T ec l'::D)->wpList P ops Q rest a' w'):wpList P ops Q (o::rest) a w:=
 akA i q p g hi h j m r s u B C F G H hy I aE J λ a' A b ec w' _=>k a' A b ec w'
theorem s7{x:Value}{y:Nat}{code:BoundsCode}{k:IntKind}{i:Int}(b:x= .int k i)(h:0<=i/\i<=y):(Instr.sliceBound x y code).run P w= .ok i.toNat w:=by subst b;simp[Instr.sliceBound,asIntOf,h]
end
section
variable{α:Type}{T:cE α}
theorem Mr{F:Nat->Prop}{w:World}{d':α}{a:List Value}(h':T.rd F w a d'):∀ {li:List α}{xs:List Value}{i:Nat},cS T F w xs li->i<li.length->cS T F w (xs.take (i*T.size)++a++xs.drop (i*T.size+T.size)) (li.set i d')
 |[],_,i,_,hi=>by simp at hi
 |d::r,xs,0,h,_=>by obtain⟨cs,ys,rfl,I,J⟩:=h;have b:=T.len I;refine⟨a,ys,?_,h',J⟩;simp[<-b]
 |d::r,xs,i+1,h,hi=>by
  obtain⟨cs,ys,rfl,I,J⟩:=h;have b:=T.len I;have c:=Mr h' J (i:=i) (by simpa using hi);refine⟨cs,_,?_,I,c⟩;have e:(i+1)*T.size=cs.length+i*T.size:=by rw[iU];omega
  rw[e,ke,hM (by omega),show cs.length+i*T.size-cs.length=i*T.size by omega,List.drop_append,ig (l:=cs) (by omega),
   show cs.length+i*T.size+T.size-cs.length=i*T.size+T.size by omega]
  simp
end
theorem MS{β:Type}{L vs:List β}{p N:Nat}(I:p+vs.length<=N)(J:N<=L.length):(L.take p++vs++L.drop (p+vs.length)).take N=(L.take N).take p++vs++(L.take N).drop (p+vs.length):=by
 have a:(L.take p++vs).length=p+vs.length:=by rw[fD,gf];omega
 rw[ke,hM (by omega),a,List.take_take,lB (by omega),List.drop_take]
section
variable{P:Program}{ops:Array Oper}{Q:Exit->Act->World->Prop}{a:Act}{w:World}{rest:List Oper}{o:Oper}{n:b'}{d:Nat}{l:List (Nat×Value)}
 {W:World}{ar X:List Nat}{E:List aU}{D:List bc}
theorem Q5{xs cs:List Value}{p:Nat}(h:∀j u,cs[j]? =some u->xs[p+j]? =some u):(xs.drop p).take cs.length=cs:=by apply jF;intro j;rw[hG];by_cases b:j<cs.length;rw[lX b,ja,bu b];exact h j _ (bu b);rw[lW b,gV (by omega)]
theorem akD{α:Type}{T:cE α}{t e:TypeId}{x y:Operand}{A:Option Addr}{c kk sz:Nat}{li:List α}{xs cs0 vs:List Value}{z:Int}{R d':α}{v:Value}(i q:Nat)(s:a9 W ar X w E D)(hi:E[i]? =some (aU.row e T.size (.slice A li.length c) li xs))(aH:D[q]? =some (bc.rows T xs li))
 (ah:idx li z=some R)(hcs:T.rd (gL (X++bD E) w) w cs0 R)(S:eg w ⟨c2 A,fp A+z.toNat*T.size,none⟩ cs0)(hw:Region.wanted o (yielded ops a.tmps)=true)
 (ai:v.cells=vs.toArray)(ao:∀w,(Go.sizeOf t).run P w= .ok sz w)(au:bT vs.length sz=true)(I:vs.all (·.oneCell')=true)(B:hX (kk+vs.length) cs0.length=true)
 (JA:T.rd (gL (X++bD E) w) w (lay cs0 kk vs) d')
 (av:o.op= .store t x y)(C:a.eval x= .pointer (some ⟨c2 A,fp A+z.toNat*T.size+kk,none⟩))(hy:a.eval y=v)(aE:o.dst=none)
 (k:∀ec w',aY (Value.slice A li.length c).ownBlock.toList w w'->a9 W ar X w' (E.set i (aU.row e T.size (.slice A li.length c) (li.set z.toNat d') ec)) (bc.rows T ec (li.set z.toNat d')::D)->wpList P ops Q rest a w'):wpList P ops Q (o::rest) a w:=by
 obtain⟨g1,U,B7⟩:=hY ah
 have f:vs.length=sz:=aZ au
 have wZ:kk+vs.length<=cs0.length:=bW B
 have jz:=T.len hcs
 have F:w.ownsRow 0 e T.size (.slice A li.length c) li.length xs:=s.e i hi
 have G:cS T (gL (X++bD E) w) w xs li:=s.d q aH
 rcases F.2 with⟨_,cZ⟩|⟨g,cap,cur,V,_,Y,Z,jA,I4,H⟩
 ·omega
 simp only[Value.slice.injEq,true_and]at V
 obtain⟨rfl,rfl⟩:=V
 have J:c2 (some ⟨g,0,none⟩)=g:=rfl
 have K:fp (some ⟨g,0,none⟩)=0:=rfl
 simp only[J,K,jw]at C S
 have hmul:(z.toNat+1)*T.size<=li.length*T.size:=jd _ U
 have anZ:li.length*T.size<=c*T.size:=jd _ Z
 have an1:(z.toNat+1)*T.size=z.toNat*T.size+T.size:=by rw[iU,Nat.one_mul]
 have oN:xs.length=li.length*T.size:=F.1
 have h:(xs.drop (z.toNat*T.size)).take cs0.length=cs0:=Q5 λ j u aB=>by have:=S j u aB;have p7:j<cs0.length:=(bb.1 aB).1;rw[World.ownsRow.cellAt F (z.toNat*T.size+j) (by omega)]at this;exact this
 have m:=run_storeCells_at P g (z.toNat*T.size+kk) e vs 0 cur w Y (by omega) (λ u hu=>jK.1 I u hu)
 simp only[Nat.add_zero]at m
 obtain⟨p,az⟩:∃p,p=z.toNat*T.size+kk:=⟨_,rfl⟩
 rw[<-az]at m C
 have anU:cur.toList.length=c*T.size:=by simpa using I4
 obtain⟨ec,L⟩:∃ec,ec=xs.take p++vs++xs.drop (p+vs.length):=⟨_,rfl⟩
 have M:ec=xs.take (z.toNat*T.size)++lay cs0 kk vs++xs.drop (z.toNat*T.size+T.size):=by
  rw[L,Ku _ _ _ wZ];have N:xs=xs.take (z.toNat*T.size)++(cs0++xs.drop (z.toNat*T.size+T.size)):=by
   conv=>lhs;rw[<-iM (z.toNat*T.size) xs]
   congr 1;rw[<-iM cs0.length (xs.drop (z.toNat*T.size)),h,List.drop_drop,jz]
  have r:(xs.take (z.toNat*T.size)).length=z.toNat*T.size:=by rw[gf];omega
  conv=>lhs;rw[N]
  rw[ke,hM (by rw[r];omega),r,List.drop_append,ig (l:=xs.take (z.toNat*T.size)) (by rw[r];omega),r,
   show p-z.toNat*T.size=kk by omega,show p+vs.length-z.toNat*T.size=kk+vs.length by omega,List.take_append_of_le_length (by omega),List.drop_append_of_le_length (by omega)]
  simp
 have O:ec.length=li.length*T.size:=by rw[L];simp only[fD,gf,kf];omega
 have oM:(aU.row e T.size (.slice (some ⟨g,0,none⟩) li.length c) (li.set z.toNat d') ec).ok (w.setRow g (cur.toList.take p++vs++cur.toList.drop (p+vs.length)).toArray):=by
  show World.ownsRow _ 0 e T.size _ (li.set z.toNat d').length ec
  rw[lI];refine⟨O,.inr ⟨g,c,(cur.toList.take p++vs++cur.toList.drop (p+vs.length)).toArray,rfl,hh _,?_,Z,jA,?_,?_⟩⟩;simp only[World.setRow,j1,if_true,Y];rfl;simp only[List.size_toArray,fD,gf,kf];omega;rw[List.toList_toArray,L,<-H];exact MS (by omega) (by omega)
 have z_:nd P o a w (w.setRow g (cur.toList.take p++vs++cur.toList.drop (p+vs.length)).toArray):=by simp only[nd,execOp,av,C,hy];simp only[iV,f]at m⊢;have fl:=ai;unfold Value.cells at fl;simp[go_sem,Instr.storeAt,storeVar,ao,fl,f,m]
 have zT:=s.U1 (T:=T) (xs:=ec) (li:=li.set z.toNat d') (by rw[M];exact Mr JA G U)
 have gS:aY (Value.slice (some ⟨g,0,none⟩) li.length c).ownBlock.toList w (w.setRow g (cur.toList.take p++vs++cur.toList.drop (p+vs.length)).toArray):=⟨rfl,rfl,rfl,by simp[World.setRow],λ b _ aI=>by simp only[World.setRow,j1];rw[lW (by simpa[Value.ownBlock,eq_comm]using aI)]⟩
 exact hD hw z_ aE (k ec _ gS (zT.Fq i hi gS oM (by simp[aU.row,Value.ownBlock]) (λ b ag=>.inl (by simpa[aU.row]using ag))))
theorem akE{α:Type}{T:cE α}{t e:TypeId}{x y:Operand}{A:Option Addr}{c kk sz:Nat}{li b:List α}{xs cs0 vs:List Value}{z:Int}{g d':α}{v:Value}(i q:Nat)(h:some (li.set z.toNat d')=some b)(j:a9 W ar X w E D)(hi:E[i]? =some (aU.row e T.size (.slice A li.length c) li xs))(m:D[q]? =some (bc.rows T xs li))
 (p:idx li z=some g)(hcs:T.rd (gL (X++bD E) w) w cs0 g)(r:eg w ⟨c2 A,fp A+z.toNat*T.size,none⟩ cs0)(s:Region.wanted o (yielded ops a.tmps)=true)
 (u:v.cells=vs.toArray)(B:∀w,(Go.sizeOf t).run P w= .ok sz w)(C:bT vs.length sz=true)(I:vs.all (·.oneCell')=true)(f:hX (kk+vs.length) cs0.length=true)
 (F:T.rd (gL (X++bD E) w) w (lay cs0 kk vs) d')
 (G:o.op= .store t x y)(H:a.eval x= .pointer (some ⟨c2 A,fp A+z.toNat*T.size+kk,none⟩))(hy:a.eval y=v)(aE:o.dst=none)
 (k:∀ec w',li.length=b.length->aY (Value.slice A li.length c).ownBlock.toList w w'->a9 W ar X w' (E.set i (aU.row e T.size (.slice A li.length c) b ec)) (bc.rows T ec b::D)->wpList P ops Q rest a w'):wpList P ops Q (o::rest) a w:=by
 obtain rfl:=eR h
 exact akD i q j hi m p hcs r s u B C I f F G H hy aE λ ec w'=>k ec w' (by rw[lI])
theorem akp{A:Option Addr}{m c sz:Nat}{t e:TypeId}{lo hi:Option Value}{i j:Int}(g:P.underlying t=some (.slice e))(k:∀w,(Go.sizeOf e).run P w= .ok sz w)
 (p:(lo=none/\i=0)\/lo=some (.int .i64 i))(q:(hi=none/\j=m)\/hi=some (.int .i64 j))(h:0<=i/\i<=j/\j<=m)(u:m<=c) :
 (Instr.slice t (.slice A m c) lo hi none).run P w= .ok (.slice (if c=i.toNat then A else A.map (·.add (i.toNat*sz))) (j.toNat-i.toNat) (c-i.toNat)) w:=by
 have ag:(Instr.sliceBounds true m c lo hi none).run P w= .ok (i.toNat,j.toNat,c) w:=by have f:∀code,(Instr.sliceBound (.int .i64 j) c code).run P w= .ok j.toNat w:=λ code=>s7 rfl (by omega);have r:∀code,(Instr.sliceBound (.int .i64 i) j.toNat code).run P w= .ok i.toNat w:=λ code=>s7 rfl (by omega);have s:j=m->∀code,(Instr.sliceBound (.int .i64 i) m code).run P w= .ok i.toNat w:=λ e code=>s7 rfl (by omega);rcases p with⟨rfl,rfl⟩|rfl<;>rcases q with⟨rfl,b⟩|rfl;simp[Instr.sliceBounds,b];simp[Instr.sliceBounds,f];simp[Instr.sliceBounds,s b,b];simp[Instr.sliceBounds,f,r]
 simp[Instr.slice,run_underlying g,ag,k]
theorem F0{A:Option Addr}{m c sz:Nat}{t e:TypeId}{x:Operand}{lo hi:Option Operand}{i j:Int}(b:P.underlying t=some (.slice e))(f:∀w,(Go.sizeOf e).run P w= .ok sz w)(g:o.op= .slice t x lo hi none)(k:a.eval x= .slice A m c)
 (p:(lo=none/\i=0)\/∃z,lo=some z/\a.eval z= .int .i64 i)(q:(hi=none/\j=m)\/∃z,hi=some z/\a.eval z= .int .i64 j)(h:0<=i/\i<=j/\j<=m)(r:m<=c) :
 aS P o a w (.slice (if c=i.toNat then A else A.map (·.add (i.toNat*sz))) (j.toNat-i.toNat) (c-i.toNat)) w:=by
 have s:=akp (P:=P) (w:=w) (A:=A) (m:=m) (c:=c) (lo:=lo.map a.eval) (hi:=hi.map a.eval) b f (i:=i) (j:=j)
  (p.imp (λ h=>⟨by rw[h.1];rfl,h.2⟩) (λ⟨z,I,J⟩=>by rw[I,fU,J])) (q.imp (λ h=>⟨by rw[h.1];rfl,h.2⟩) (λ⟨z,I,J⟩=>by rw[I,fU,J])) h r
 simp only[aS,execOp,g,k,Instr.sliceAt,Sem.run_bind,run_underlying b,Result.andThen_ok,iu,s]
 rfl
theorem GV{α:Type}{l r:List α}{i j:Int}(h:cut l i j=some r):(0<=i/\i<=j/\j<=l.length)/\r=(l.take j.toNat).drop i.toNat:=by unfold cut at h;split at h;rename_i b;exact⟨b,by simpa using h.symm⟩;cases h
theorem o9{α:Type}{T:cE α}{F:Nat->Prop}{w:World}:∀ {l:List α}{xs:List Value}(i j:Nat),cS T F w xs l->cS T F w ((xs.take (j*T.size)).drop (i*T.size)) ((l.take j).drop i)
 |[],xs,i,j,h=>by
  have h:xs=[]:=h;subst h;have e:(([]:List α).take j).drop i=[]:=by simp
  rw[e];show List.drop _ (List.take _ _)=[]
  simp
 |d::r,xs,i,0,h=>by
  have e:((d::r).take 0).drop i=[]:=by simp
  rw[e];show List.drop _ (List.take _ _)=[]
  simp
 |d::r,xs,0,j+1,h=>by obtain⟨cs,ys,rfl,I,J⟩:=h;have c:=T.len I;have b:=o9 0 j J;simp only[Nat.zero_mul,kl]at b⊢;rw[jf,show(j+1)*T.size=cs.length+j*T.size by rw[iU];omega,ke,hM (by omega),show cs.length+j*T.size-cs.length=j*T.size by omega];exact⟨cs,_,rfl,I,b⟩
 |d::r,xs,i+1,j+1,h=>by
  obtain⟨cs,ys,rfl,I,J⟩:=h;have c:=T.len I;have b:=o9 i j J
  rw[jf,List.drop_succ_cons,show(j+1)*T.size=cs.length+j*T.size by rw[iU];omega,ke,hM (by omega),show cs.length+j*T.size-cs.length=j*T.size by omega,
   show(i+1)*T.size=cs.length+i*T.size by rw[iU];omega,List.drop_append,ig (l:=cs) (by omega),show cs.length+i*T.size-cs.length=i*T.size by omega,lO]
  exact b
end
section
variable{P:Program}{ops:Array Oper}{Q:Exit->Act->World->Prop}{a:Act}{w:World}{rest:List Oper}{o:Oper}{n:b'}{d:Nat}{l:List (Nat×Value)}
 {W:World}{ar X:List Nat}{E:List aU}{D:List bc}
theorem Fr.iQ(e:Fr n l a)(t:Nat){b c:Bool}(g:dp l t=some (.bool b))(ag:b=c):Fr n ((t,.bool c)::l) a:=
 ⟨e.size,e.defers,λ u v h=>by
  simp only[dp]at h;cases f:bT t u with
  |true=>rw[f]at h;simp only[aK]at h;rw[<-aZ f,<-h,<-ag];exact e.get t _ g
  |false=>rw[f]at h;exact e.get u v h⟩
theorem sQ{t:TypeId}{cs:List Value}(b:Region.wanted o (yielded ops a.tmps)=true)(hy:aS P o a w (.pointer (some ⟨w.heap.size,0,none⟩)) (w.alloc (.cells cs.toArray t)))(c:Fr n l a)(e:a9 W ar X w E D)
 (aE:o.dst=some d)(f:eM d n=true)(k:∀a' g w',aY [] w w'->Fr n ((d,.pointer (some ⟨g,0,none⟩))::l) a'->a9 W ar X w' (aU.c8 g t cs::E) D->wpList P ops Q rest a' w'):wpList P ops Q (o::rest) a w:=
 mY b hy c aE f λ a' h=>k a' _ _ (aY.alloc _ _ _) h (e.new t cs)
theorem ah3{t:TypeId}{cs:List Value}{m:Nat}(b:Region.wanted o (yielded ops a.tmps)=true)(hy:aS P o a w (.slice (some ⟨w.heap.size,0,none⟩) m m) (w.alloc (.cells cs.toArray t)))(c:Fr n l a)(e:a9 W ar X w E D)
 (aE:o.dst=some d)(f:eM d n=true)(k:∀a' g w',aY [] w w'->Fr n ((d,.slice (some ⟨g,0,none⟩) m m)::l) a'->a9 W ar X w' (aU.c8 g t cs::E) D->wpList P ops Q rest a' w'):wpList P ops Q (o::rest) a w:=
 mY b hy c aE f λ a' h=>k a' _ _ (aY.alloc _ _ _) h (e.new t cs)
theorem amU{t e:TypeId}{sz:Nat}(b:P.underlying t=some (.slice e))(c:∀w,(Go.sizeOf e).run P w= .ok sz w)(f:o.op= .buildSlice t 0 (List.toArray [])) :
 aS P o a w (.slice (some ⟨w.heap.size,0,none⟩) 0 0) (w.alloc (.cells (List.toArray []) e)):=by
 simp only[aS,execOp,f,Instr.buildSlice,Sem.run_bind,Sem.run_pure,c,Result.andThen_ok,run_underlying b]
 simp[Instr.fill,newRow,go_sem]
theorem YI{S:World->Prop}{f p:Nat}{ds:List Nat}{v:Value}(i:Nat)(hi:ops[i]? =some o)(b:(xR ops ds i&& !bT p i)=true)(m:Region.wanted o (yielded ops a.tmps)=true)(hy:∀w',aS P o a w' v w')(g:S w)
 (q:Fr n l a)(aE:o.dst=some d)(r:eM d n=true)(k:∀a',Fr n ((d,v)::l) a'->er P ops Q p S f (i::ds) a' w):er P ops Q p S (f+1) ds a w:=by
 simp only[bL,gI]at b
 obtain⟨mA,j⟩:=b
 have s:p≠i:=λ e=>by rw[e]at j;simp at j
 simp only[xR,bL]at mA
 refine⟨λ _=>g,?_⟩
 refine VZ (v:=v) hi (Region.noSelect_spec mA.1.1) s (λ c a w h=>h) f _ a w (Region.free_spec hi mA.1.2) (λ _=>g) (by simpa using mA.2) (.inl ⟨m,λ w _=>hy w⟩) ?_
 rw[aE]
 exact(k _ (q.put r)).2
theorem a9.swap{x y:aU}(h:a9 W ar X w (x::y::E) D):a9 W ar X w (y::x::E) D:=by
 have i:∀k,k∈bD (y::x::E)↔k∈bD (x::y::E):=λ k=>by simp only[bD,iw,de];exact⟨λ h=>by rcases h with h |h |h<;>simp[h],λ h=>by rcases h with h |h |h<;>simp[h]⟩
 refine⟨h.bM,h.fy,λ k g=>h.lt k ((i k).1 g),λ z c=>h.ok z (by simp only[dc]at c⊢;rcases c with h |h |h<;>simp[h]),?_,λ z c=>z.law _ _ w w (aY.refl _ _) (λ k g=>.inl (by
  rcases de.1 g with e |e;exact de.2 (.inl e)
  ·exact de.2 (.inr ((i k).1 e)))) (h.rd z c)⟩
 have aE:=h.a3;have m:bD (x::y::E)=x.a6++(y.a6++bD E):=by simp[bD]
 have al:bD (y::x::E)=y.a6++(x.a6++bD E):=by simp[bD]
 rw[m,ft,ft]at aE;rw[al,ft,ft];obtain⟨p,⟨q,r,s⟩,j⟩:=aE;exact⟨q,⟨p,r,λ a f b ag=>j a f b (by simp[ag])⟩,λ a f b ag=>by
  rcases de.1 ag with e |e;exact λ aL=>j b e a (by simp[f]) aL.symm
  ·exact s a f b e⟩
end
section
variable{P:Program}{o:Oper}{a:Act}{w:World}{xs ys:Array Value}
theorem Qn{d sz:Nat}{f:Go.Field}{l:List Go.Field}{us vs:List Value}{e q:Prop} [Decidable e] [Decidable q](c:(f.name != "_")=true)(g:∀w,(isAgg f.type).run P w= .ok true w)(i:∀w,(Go.sizeOf f.type).run P w= .ok sz w)
 (j:xs.extract f.offset (f.offset+sz)=us.toArray)(hy:ys.extract f.offset (f.offset+sz)=vs.toArray)(k:(Op.equalIn (d+1) f.type (.agg us.toArray) (.agg vs.toArray)).run P w= .ok (decide q) w)
 (h:(Op.eqFields (d+1) xs ys l).run P w= .ok (decide e) w):(Op.eqFields (d+1) xs ys (f::l)).run P w= .ok (decide (q/\e)) w:=by
 have m:f.name≠ "_" :=by simpa using c
 simp only[Op.eqFields,m,if_true,ne_eq,not_false_iff,part,Sem.run_bind,g,i,Result.andThen_ok,j,hy,Sem.run_pure,k]
 by_cases b:q
 ·simp[b,h]
 ·simp[b]
theorem Qo{d:Nat}{t:TypeId}{bU:Array Go.Field}{q:Prop} [Decidable q](b:P.underlying t=some (.struct bU))(e:P.stoodInHeld t=false)(h:(Op.eqFields d xs ys bU.toList).run P w= .ok (decide q) w):(Op.equalIn (d+1) t (.agg xs) (.agg ys)).run P w= .ok (decide q) w:=by
 have c:P.fieldsOf t=bU:=by simp[Program.fieldsOf,b]
 have h':=run_equalIn_struct (P:=P) w d t xs ys (by rw[c];exact b) e;rw[c,h]at h';exact h'
theorem rR{d:Nat}{f:Go.Field}{l:List Go.Field}{m n:List UInt8}{e:Prop} [Decidable e](c:(f.name != "_")=true)(g:P.underlying f.type=some .string)(i:∀w,(isAgg f.type).run P w= .ok false w)
 (j:xs[f.offset]? =some (bQ m))(hy:ys[f.offset]? =some (bQ n))(h:(Op.eqFields (d+1) xs ys l).run P w= .ok (decide e) w):(Op.eqFields (d+1) xs ys (f::l)).run P w= .ok (decide (m=n/\e)) w:=by
 have k:f.name≠ "_" :=by simpa using c
 have heq:(Op.equalIn (d+1) f.type (bQ m) (bQ n)).run P w= .ok (decide (m=n)) w:=by simp only[Op.equalIn,Sem.run_bind,run_underlying g,Result.andThen_ok];rw[<-GC m n];rfl
 simp only[Op.eqFields,k,if_true,ne_eq,not_false_iff,part,Sem.run_bind,i,Result.andThen_ok,j,hy,ie,if_false,Sem.run_pure,heq]
 by_cases b:m=n
 ·subst b;simp[h]
 ·simp[b]
end
section
variable{P:Program}{ops:Array Oper}{Q:Exit->Act->World->Prop}{a:Act}{w:World}{rest:List Oper}{o:Oper}{n:b'}{d:Nat}{l:List (Nat×Value)}
 {W:World}{ar X:List Nat}{E:List aU}{D:List bc}
theorem UP{F:Nat->Prop}{w:World}:∀s:List UInt8,cS Fs F w (s.map λ b=>Value.int .u8 (b.toNat:Int)) s
 |[]=>rfl
 |b::r=>⟨[.int .u8 (b.toNat:Int)],_,rfl,rfl,UP r⟩
end
section
variable{P:Program}{Q:Exit->Act->World->Prop}{a:Act}{w:World}
theorem GK{c:Operand}{x y:Code}{t:Bool}{ρ:Type}{p q:Option ρ}{r:ρ}(hc:a.eval c= .bool t)(h:cond t p q=some r)(b:t=true->p=some r->x.wp P Q a w)(d:t=false->q=some r->y.wp P Q a w):(Code.cond c x y).wp P Q a w:=wp_cond_split hc (λ e=>b e (GQ e h)) (λ e=>d e (GO e h))
end
section
variable{P:Program}{ops:Array Oper}{Q:Exit->Act->World->Prop}{a:Act}{w w0 w':World}{rest:List Oper}{o:Oper}{n:b'}{d:Nat}{l:List (Nat×Value)}
 {W:World}{ar X:List Nat}{E:List aU}{D:List bc}
theorem ang{t:TypeId}{x:Operand}{m:Int}(b:o.op= .unOp .neg t x)(c:a.eval x= .int .i64 m):aS P o a w (.int .i64 (bj (0-m))) w:=by rw[<-ph];simp only[aS,execOp,b,c];simp[go_sem]
theorem a9.Ew(h:a9 W ar X w E D){g:Nat}{t:TypeId}{cs:List Value}{x:aU}(i j:Nat)(hi:E[i]? =some (aU.c8 g t cs))(b:E[j]? =some x)(c:i≠j):g∉x.a6:=λ e=>(HQ h.a3 i _ hi).2 j x b c g (by simp[aU.c8]) e
theorem C4{M:List Nat}{p:Addr}{cs:List Value}(h:aY M w w')(b:p.block∉M)(c:p.block<w.heap.size)(hc:eg w p cs):eg w' p cs:=hc.law (h.block p.block c b)
theorem AJ{t:TypeId}{cs:List Value}{m:Nat}(b:Region.wanted o (yielded ops a.tmps)=true)(hy:aS P o a w (.slice (some ⟨w.heap.size,0,none⟩) m m) (w.alloc (.cells cs.toArray t)))(c:Fr n l a)(e:a9 W ar X w E D)
 (aE:o.dst=some d)(f:eM d n=true)(k:∀a' g w',aY [] w w'->w.heap.size<=g->Fr n ((d,.slice (some ⟨g,0,none⟩) m m)::l) a'->a9 W ar X w' (aU.c8 g t cs::E) D->wpList P ops Q rest a' w'):wpList P ops Q (o::rest) a w:=
 mY b hy c aE f λ a' h=>k a' _ _ (aY.alloc _ _ _) (da _) h (e.new t cs)
end
def mP:List Oper->Bool
 |[]=>true
 |o::r=>(match o.op with
  | .defer _=>false
  |_=>true)&&mP r
theorem Eu:∀ {l:List Oper},mP l=true->∀o∈l,∀c,o.op≠ .defer c
 |[],_,o,a,_=>by simp at a
 |p::r,h,o,a,c=>by simp only[mP,bL]at h;rcases dc.1 a with rfl |e;intro al;rw[al]at h;exact absurd h.1 (by simp);exact Eu h.2 o e c
def h8(ro:Option Nat):Fence:={ Fence.wide with round:=ro }
theorem Ms{ro:Option Nat}{q:Prop}:(h8 ro).depth.isSome=true->q:=λ h=>by simp[h8,Fence.wide]at h
section
variable{P:Program}{ops:Array Oper}{Q:Exit->Act->World->Prop}{K:Act->World->Prop}{a:Act}{w:World}{o:Oper}{ro:Option Nat}{n:Nat}
theorem Lp(aE:∀c,o.op≠ .defer c)(h:o.wp P a w K Q):o.wpIn (h8 ro) n P a w K Q:=by
 unfold Oper.wpIn;refine⟨λ _ _=>trivial,?_⟩;rw[Oper.semAt_eq _ _ _ aE];unfold Oper.wp at h;generalize(execOp a.eval o).run P w=r at *
 cases r with
 |ok x w'=>
  cases x<;>simp only[Oper.upon,Oper.uponIn]at h⊢ <;>first
   |exact h
   |exact⟨Ms,(callsIn_wide (n:=n-1)).2 h⟩
   |exact⟨Ms,λ c cs _=>let⟨v,w',r,s⟩:=h c cs;⟨v,w',r,stepsIn_wide.2 s⟩⟩
 |halt x w'=>cases x<;>simp only[Oper.upon,Oper.uponIn]at h⊢ <;>exact h
theorem D6(b:∀a w,¬Q .outgrown a w):∀ {os:List Oper}{a:Act}{w:World},mP os=true->wpList P ops Q os a w->wpListIn (h8 ro) n P ops Q os a w
 |[],_,_,_,h=>h
 |o::r,a,w,aE,h=>by have c:=aE;simp only[mP,bL]at c;simp only[wpList]at h;simp only[wpListIn];split;rename_i d;rw[lX d]at h;rcases h with h |⟨_,a',w',h⟩;exact Lp (Eu aE o (by simp)) (Oper.wp_mono (λ a w h=>D6 b c.2 h) h);exact absurd h (b _ _);rename_i d;rw[lW d]at h;exact⟨λ _ _=>trivial,D6 b c.2 h⟩
theorem agU(k:Nat){lo:List Oper}(aE:mP (lo.take k)=true)(h:wpList P ops (Exit.then (wpListIn (h8 ro) n P ops Q (lo.drop k)) (λ _ _ _=>False)) (lo.take k) a w):wpListIn (h8 ro) n P ops Q lo a w:=by
 have key:∀(os b:List Oper)(a:Act)(w:World),mP os=true->wpList P ops (Exit.then (wpListIn (h8 ro) n P ops Q b) (λ _ _ _=>False)) os a w->wpListIn (h8 ro) n P ops Q (os++b) a w:=by
  intro os;induction os with
  |nil=>intro b a w _ h;exact h
  |cons o r g=>
   intro b a w aE h;have d:=aE;simp only[mP,bL]at d;simp only[wpList]at h;simp only[iO,wpListIn];split
   ·rename_i f;rw[lX f]at h;rcases h with h |⟨_,a',w',h⟩
    ·have I:=Lp (ro:=ro) (n:=n) (Eu aE o (by simp)) (Oper.wp_mono (λ a w h=>g b a w d.2 h) h);refine⟨I.1,?_⟩;have J:=I.2;revert J;generalize(o.semAt (h8 ro).round a.eval).run P w=i;intro J;cases i with
     |ok x w'=>
      cases x<;>simp only[Oper.uponIn]at J⊢ <;>first
       |exact J
       |exact⟨J.1,CallsIn.mono J.2 (λ e w'' c=>by cases e<;>first |exact c |exact absurd c (by simp[Exit.then,LetsOut]))⟩
       |exact⟨J.1,RoundIn.mono J.2 (λ e w'' c=>by cases e<;>first |exact c |exact absurd c (by simp[Exit.then,LetsOut]))⟩
     |halt x w'=>cases x<;>simp only[Oper.uponIn]at J⊢ <;>first |exact J |exact absurd J (by simp[Exit.then])
    ·exact absurd h (by simp[Exit.then])
   ·rename_i f;rw[lW f]at h;exact⟨λ _ _=>trivial,g b _ _ d.2 h⟩
 have:=key (lo.take k) (lo.drop k) a w aE h;rwa [iM]at this
theorem aie(d:∀a w,¬Q .outgrown a w)(aE:mP ops.toList=true){i:Nat}(h:wpOp P ops Q i K a w):wpOpIn (h8 ro) n P ops Q i K a w:=by
 unfold wpOp at h;unfold wpOpIn;split;rename_i e;rw[e]at h;exact h
 ·rename_i o c;rw[c]at h;have f:o∈ops.toList:=by have:=cU (l:=ops.toList) (i:=i) (a:=o) (by rw[g0];exact c);exact this
  simp only at h;split;rename_i b;rw[lX b]at h;rcases h with h |⟨_,a',w',h⟩;exact Lp (Eu aE o f) h;exact absurd h (d _ _);rename_i b;rw[lW b]at h;exact⟨λ _ _=>trivial,h⟩
theorem Oz(b:∀a w,¬Q .outgrown a w)(aE:mP ops.toList=true):∀ {f:Nat}{ls:Array Bool}{a:Act}{w:World},wpAny P .any ops Q f ls a w->wpAnyIn (h8 ro) n P .any ops Q f ls a w
 |0,_,_,_,h=>h
 |f+1,ls,a,w,h=>⟨h.1,λ i hi=>aie b aE (wpOp_mono (λ a w h=>Oz b aE h) (h.2 i hi))⟩
end
def fj(ro:Option Nat)(n:Nat)(P:Program)(c:Code)(Q:Exit->Act->World->Prop)(a:Act)(w:World):Prop:=(∀a w,¬Q .outgrown a w)->c.wpIn (h8 ro) n P Q a w
section
variable{P:Program}{Q:Exit->Act->World->Prop}{a:Act}{w:World}{ro:Option Nat}{n:Nat}
theorem FC(h:Q .normal a w):fj ro n P .skip Q a w:=λ _=>wpIn_skip h
theorem Nl{id:Nat}(h:Q (.exit id) a w):fj ro n P (.exit id) Q a w:=λ _=>wpIn_exit h
theorem kn{x y:Code}(h:∀K:Act->World->Prop,(∀a w,fj ro n P y Q a w->K a w)->fj ro n P x (Exit.then K Q) a w):fj ro n P (.seq x y) Q a w:=λ b=>wpIn_seq (h _ (λ _ _ h=>h b) b)
theorem Nk{c:Operand}{x y:Code}{t:Bool}(hc:a.eval c= .bool t)(d:t=true->fj ro n P x Q a w)(f:t=false->fj ro n P y Q a w):fj ro n P (.cond c x y) Q a w:=λ b=>wpIn_cond_split hc (λ e=>d e b) (λ e=>f e b)
theorem alv{c:Operand}{x y:Code}{b:Bool}(hc:a.eval c= .bool b)(ag:b=false)(h:fj ro n P y Q a w):fj ro n P (.cond c x y) Q a w:=λ d=>wpIn_cond_false (by rw[hc,ag]) (h d)
theorem Ni{id:Nat}{c:Code}(h:fj ro n P c (Exit.inBlock id Q) a w):fj ro n P (.block id c) Q a w:=λ b=>wpIn_block (h b)
theorem Nj{id:Nat}{c:Code}(b:Act->World->Prop)(d:∀K:Act->World->Prop,(∀a w,b a w->K a w)->fj ro n P c (Exit.inBlock id (Exit.then K Q)) a w)(hy:∀a w,b a w->Q .normal a w):fj ro n P (.block id c) Q a w:=by
 intro f;refine wpIn_block (wpIn_mono (d _ hy f) ?_);intro e a w h;cases e with
 |exit i=>by_cases hi:i=id;simpa[Exit.inBlock,Exit.then,hi]using h;simpa[Exit.inBlock,Exit.then,hi]using h
 |_=>exact h
theorem V5{c:Code}(b:Nat->Act->World->Prop)(k:Nat)(h:b k a w)(e:∀a w,¬b 0 a w)
 (round:∀k a w,b (k+1) a w->∀K:Act->World->Prop,(∀a w,b k a w->K a w)->fj ro n P c (Exit.then K Q) a w):fj ro n P (.loop c) Q a w:=by
 intro f
 refine wpIn_loop (λ a w=>∃n,b n a w) (λ a w=>leastOf (λ n=>b n a w)) ⟨k,h⟩ ?_
 intro a w g
 have I:=(leastOf_spec g).1
 cases d:leastOf (λ n=>b n a w)with
 |zero=>rw[d]at I;exact absurd I (e a w)
 |succ m=>rw[d]at I;exact round m a w I _ (λ a' w' h'=>⟨⟨m,h'⟩,Nat.lt_succ_of_le ((leastOf_spec ⟨m,h'⟩).2 m h')⟩) f
theorem l2{id:Nat}{l:List Oper}(aE:mP l=true)(h:wpList P l.toArray Q l a w):fj ro n P (.region id l.toArray false) Q a w:=λ b=>wpIn_region_lit (D6 b aE h)
theorem V4{id m:Nat}{lo:List Oper}(p:Nat)(S:World->World->Prop)(c:P.follows .mixedOrders=true)(b:bT lo.length m=true)(aE:mP lo=true)(h:∀w',aY [] w w'->er P lo.toArray Q p (S w') m [] a w'):fj ro n P (.region id lo.toArray true) Q a w:=by have b:=aZ b;subst b;intro d;exact wpIn_mono (Q:=NoPanic Q) (wpIn_region_any c (Oz (Q:=NoPanic Q) (λ a w=>d a w) aE (h _ (aY.drew [] w)).wpAny)) NoPanic.imp
theorem alw{id:Nat}{l:List Oper}(h:(∀a w,¬Q .outgrown a w)->wpListIn (h8 ro) n P l.toArray Q l a w):fj ro n P (.region id l.toArray false) Q a w:=λ b=>wpIn_region_lit (h b)
end
def aU.obj(g:Nat)(o:Obj):aU where
 a6:=[g]
 ok w:=w.heap[g]? =some o
 law w w' h a:=(h g (by simp)).trans a
section
variable{W w:World}{ar X:List Nat}{E:List aU}{D:List bc}
theorem abB(w:World)(g:Nat)(o:Obj):aY [g] w (w.putObj g o):=⟨rfl,rfl,rfl,by simp,λ k _ a=>World.putObj_heap_other (by simpa using a)⟩
theorem a9.putObj{g:Nat}{o:Obj}(b:a9 W ar X w E D)(i:Nat)(hi:E[i]? =some (aU.obj g o))(a:Obj):a9 W ar X (w.putObj g a) (E.set i (aU.obj g a)) D:=b.Fq i hi (abB w g a) (by have h:w.heap[g]? =some o:=b.e i hi;exact World.putObj_heap_same (eL.1 h).1) (by simp[aU.obj]) (λ k c=>.inl c)
theorem a9.newObj(b:a9 W ar X w E D)(o:Obj):a9 W ar X (w.alloc o) (aU.obj w.heap.size o::E) D:=b.push _ (aY.alloc _ _ _) (World.alloc_heap_new w o) (λ k a=>by simp[aU.obj]at a;subst a;exact⟨da _,by simp⟩) (by simp[aU.obj])
end
def mark(r:Nat):Deferred:={ target:=.collected r,args:=#[] }
theorem Qg{P:Program}{f:FuncId}{fn:Func}{c:Code}{vs:List Value}{w:World}{R:Ending->World->Prop}{n:Nat}
 (b:P.funcs[f]? =some fn)(ag:fn.body=some c)(d:fn.ntmps=n)(e:hX vs.length n=true)
 (h:∀a,Fr ⟨n,[]⟩ (mi 0 vs) a->c.wp P (bodyPostM Fence.wide 0 P fn R) a w):Calls P f vs.toArray w R:=by
 refine(callsIn_wide (n:=0)).1 (callsIn_of_wp_marks b ag trivial (wpIn_wide.2 ?_))
 rw[d]
 exact h _ (Fr.init vs n e)
section
variable{P:Program}{a:Act}{w:World}{W:World}{ar X:List Nat}{E:List aU}{D:List bc}{fn:Func}{R:Ending->World->Prop}{l:List (Nat×Value)}{n g t u:Nat}{v eD:Value}
theorem Tv(i:Nat)(c:Fr ⟨n,[mark g]⟩ l a)(b:a9 W ar X w E D)(hi:E[i]? =some (aU.obj g (.deferred (some []))))(h:∀w',a9 W ar X w' (E.set i (aU.obj g (.deferred none))) D->∃v,(results fn a.tmps).run P w'= .ok v w'/\R (.returned v) w') :
 bodyPostM Fence.wide 0 P fn R .ret a w:=by
 show LeavesInM Fence.wide 0 P fn a.tmps R a.defers .returning w
 rw[c.defers]
 exact⟨by simp,.inl ⟨g,_,rfl,run_takeDeferred (b.e i hi),h _ (b.putObj i hi _)⟩⟩
theorem ahe(i:Nat)(c:fn.results= #[.tmp t])(b:Fr ⟨n,[mark g]⟩ l a)(d:a9 W ar X w E D)(hi:E[i]? =some (aU.obj g (.deferred (some []))))(e:dp l t=some v)
 (h:∀w',a9 W ar X w' (E.set i (aU.obj g (.deferred none))) D->R (.returned v) w'):bodyPostM Fence.wide 0 P fn R .ret a w:=
 Tv i b d hi λ w' f=>⟨_,results_tmp c _ _ _,by rw[b.get _ _ e];exact h w' f⟩
theorem ahf(i:Nat)(c:fn.results= #[.tmp t,.tmp u])(b:Fr ⟨n,[mark g]⟩ l a)(d:a9 W ar X w E D)(hi:E[i]? =some (aU.obj g (.deferred (some []))))(e:dp l t=some v)(f:dp l u=some eD)
 (h:∀w',a9 W ar X w' (E.set i (aU.obj g (.deferred none))) D->R (.returned (.tuple #[v,eD])) w'):bodyPostM Fence.wide 0 P fn R .ret a w:=
 Tv i b d hi λ w' j=>⟨_,results_tmp2 c _ _ _,by rw[b.get _ _ e,b.get _ _ f];exact h w' j⟩
end
theorem aaL{P:Program}{f:FuncId}{fn:Func}{c:Code}{vs:List Value}{w:World}{R:Ending->World->Prop}{n:Nat}
 (b:P.funcs[f]? =some fn)(ag:fn.body=some c)(d:fn.ntmps=n)(e:hX vs.length n=true)(dg:∀w,¬R .outgrown w)
 (h:∀a,Fr ⟨n,[]⟩ (mi 0 vs) a->fj none 1 P c (bodyPost P fn R) a w):CallsIn (h8 none) 1 P f vs.toArray w R:=by
 refine callsIn_of_wp b ag trivial ?_
 rw[d]
 exact h _ (Fr.init vs n e) (λ a w h=>dg w h)
theorem YT{P:Program}{fn:Func}{R:Ending->World->Prop}{a:Act}{w:World}(h:bodyPost P fn R .ret a w):bodyPost P fn R .normal a w:=h
theorem VR{n:Nat}(h:n<=maxLen):ad.bj ((n:Int)-1)=(n:Int)-1:=by unfold ad.bj;simp only[maxLen]at h;omega
theorem afg{a pre rem:List Int}{x:Int}(h:a=(x::rem).reverse++pre):ad.idx a (rem.length:Int)=some x:=by subst h;unfold ad.idx;rw[lX (by omega)];simp
def Oc(P:Program)(f:FuncId):Prop:=∀(a:List Int->World->Prop)(b:List Int)(A:Option Addr)(c ez L:Nat)(w0:World),
 (∀rem w,a rem w->∃W ar X E,a9 W ar X w E [bc.ho ez [.slice A b.length c],bc.of (cM (fr .i64)) [.slice A b.length c] b]) ->
 (∀x rem w,a (x::rem) w->YieldAt (h8 none) 0 P L #[.int .i64 (rem.length:Int),.int .i64 x] w (λ e w'=>e= .returned (.bool true)/\a rem w')) ->
 a b.reverse w0->CallsIn (h8 none) 1 P f #[.func (.yield L) #[] #[],.pointer (some ⟨ez,0,none⟩)] w0 (λ e w'=>(∃v,e= .returned v)/\a [] w')
section
variable{P:Program}{ops:Array Oper}{Q:Exit->Act->World->Prop}{a:Act}{w:World}{rest:List Oper}{o:Oper}{n:b'}{d L:Nat}{l:List (Nat×Value)}
theorem aku{b:Operand}{xs:List Operand}{e4:Array TypeId}{vs:List Value}(c:o.op= .call { callee:=.value b,args:=xs.toArray,argTypes:=e4 })(e:a.eval b= .func (.yield L) #[] #[])(f:wF a xs vs) :
 (execOp a.eval o).run P w=(Instr.yield L vs.toArray).run P w:=by
 have I:=HP f
 simp only[execOp,c,resolve,gu,I,e]
 simp[Deferred.ofValue,invoke]
theorem ans{b:Operand}{xs:List Operand}{e4:Array TypeId}{vs:List Value}{R:Ending->World->Prop}(f:Region.wanted o (yielded ops a.tmps)=true)(c:o.op= .call { callee:=.value b,args:=xs.toArray,argTypes:=e4 })
 (g:a.eval b= .func (.yield L) #[] #[])(h:wF a xs vs)(hy:YieldAt (h8 none) 0 P L vs.toArray w R)(i:Fr n l a)(aE:o.dst=some d)(j:eM d n=true)
 (k:∀e w',R e w'->∃v,e= .returned v/\∀a',Fr n ((d,v)::l) a'->wpListIn (h8 none) 1 P ops Q rest a' w'):wpListIn (h8 none) 1 P ops Q (o::rest) a w:=by
 refine wpListIn_step λ K m=>?_
 rw[lX f]
 refine⟨λ _ _=>trivial,?_⟩
 obtain⟨fn,tmps,assign,body,I,J⟩:=hy
 rw[Oper.semAt_eq _ _ _ (by rw[c];simp),aku c g h,I]
 refine⟨Ms,RoundIn.mono J ?_⟩
 intro e w' p
 obtain⟨v,rfl,q⟩:=k e w' p
 rw[aE]
 exact m _ _ (q _ (i.put j))
end
section
variable{P:Program}{Q:Exit->Act->World->Prop}{a:Act}{w:World}{W:World}{ar X:List Nat}{E:List aU}{D:List bc}
theorem O4{β:Type}{p S f j n ez c:Nat}{A:Option Addr}{l:List (Nat×Value)}{l1:Int->Int->List (Nat×Value)}{assign body:Code}(q:β->List aU)(k:β->List bc)(d:List Int->β->Prop)(s:List Int)(b0:β)(a7 br:Nat)
 (r5:Oc P p)(Qb:∀args w,(callFunc p args).run P w= .ok (.enter p args) w)
 (t:Fr ⟨n,[]⟩ l a)(ax:dp l S=some (.func (.func p) #[] #[.pointer (some ⟨ez,0,none⟩)]))(JF:eM f n=true)(F:eM j n=true)
 (hm:a9 W ar X w (q b0) (k b0))(aJ:d s.reverse b0)
 (oL:∀b,(k b)[a7]? =some (bc.ho ez [.slice A s.length c]))(kQ:∀b,(k b)[br]? =some (bc.of (cM (fr .i64)) [.slice A s.length c] s))
 (a2:∀L i x w a' (K:Act->World->Prop),Fr ⟨n,[]⟩ ((j,.int .i64 x)::(f,.int .i64 i)::l) a'->(∀r,Fr ⟨n,[]⟩ (l1 i x) r->K r w)->fj (some L) 0 P assign (Exit.then K (λ _ _ _=>False)) a' w)
 (ag:∀L g hb T U b i x rem w a' (K:Exit->Act->World->Prop),d (x::rem) b->Fr ⟨n,[]⟩ (l1 i x) a'->a9 W ar X w (aU.obj g hb::aU.obj T U::q b) (k b) ->
  (∀u r w',d rem u->a9 W ar X w' (aU.obj g hb::aU.obj T U::q u) (k u)->K .normal r w')->fj (some L) 0 P body K a' w)
 (G:∀g b a' w',d [] b->Fr ⟨n,[mark g]⟩ l a'->a9 W ar X w' (aU.obj g (.deferred (some []))::q b) (k b)->Q .normal a' w') :
 (Code.rangeFunc (.tmp S) #[f,j] assign body).wp P Q a w:=by
 refine(wpIn_wide (n:=2)).1 (wpIn_rangeFunc λ fn _=>?_)
 obtain⟨rec,m⟩:∃rec:LoopState->Loop,rec=λ H=>{ state:=H,pending:=none,fn,tmps:=a.tmps,params:=#[f,j],assign,body,defers:=w.heap.size }:=⟨_,rfl⟩
 obtain⟨o,V⟩:∃o,(w.alloc (.deferred (some []))).alloc (.loop (rec .ready))=o:=⟨_,rfl⟩
 have J:a9 W ar X o (aU.obj (w.heap.size+1) (.loop (rec .ready))::aU.obj w.heap.size (.deferred (some []))::q b0) (k b0):=by have:=(hm.newObj (.deferred (some []))).newObj (.loop (rec .ready));rw[V]at this;simpa using this
 refine⟨w.heap.size+1,[mark w.heap.size],o,{ target:=.fn (.func p) #[.pointer (some ⟨ez,0,none⟩)],args:=#[.func (.yield (w.heap.size+1)) #[] #[]] },o,p,
  #[.func (.yield (w.heap.size+1)) #[] #[],.pointer (some ⟨ez,0,none⟩)],o,?_,?_,λ _ _=>trivial,?_,λ _=>by decide,?_⟩
 ·rw[<-V,m];exact run_enterLoop_outer _ _ _ _ _
 ·have zE:=t.g ax;simp only[resolve,zE];simp[go_sem]
 ·simp[invoke,go_sem,Qb]
 ·refine CallsIn.mono (r5 (λ rem w'=>∃b,d rem b/\a9 W ar X w' (aU.obj (w.heap.size+1) (.loop (rec .ready))::aU.obj w.heap.size (.deferred (some []))::q b) (k b)) s A c ez (w.heap.size+1) o ?_ ?_ ⟨b0,aJ,J⟩) ?_
  ·rintro rem w' ⟨b,_,C⟩
   exact⟨_,_,_,_,C.less λ y hy=>by
    simp only[dc,hx,or_false]at hy;rcases hy with rfl |rfl;exact cU (oL b)
    ·exact cU (kQ b)⟩
  ·rintro x rem w' ⟨b,M,C⟩;have Y:w'.heap[w.heap.size+1]? =some (.loop (rec .ready)):=C.e 0 rfl;have hy:=run_yield (P:=P) (args:=#[.int .i64 (rem.length:Int),.int .i64 x]) Y (by rw[m];rfl);rw[m]at hy;refine⟨fn,_,assign,body,hy,roundIn_of_wpIn trivial ?_⟩
   have Sb:Fr ⟨n,[]⟩ ((j,.int .i64 x)::(f,.int .i64 (rem.length:Int))::l) ⟨((#[f,j]:Array Tmp).zip #[Value.int .i64 (rem.length:Int),.int .i64 x]).foldl (λ tmps (x:Tmp×Value)=>tmps.setIfInBounds x.1 x.2) a.tmps,[]⟩:=by
    have I:=(t.put (v:=.int .i64 (rem.length:Int)) JF).put (v:=.int .i64 x) F;have e:((#[f,j]:Array Tmp).zip #[Value.int .i64 (rem.length:Int),.int .i64 x]).foldl (λ tmps (x:Tmp×Value)=>tmps.setIfInBounds x.1 x.2) a.tmps=((a.put (some f) (.int .i64 (rem.length:Int))).put (some j) (.int .i64 x)).tmps:=by simp[Act.put]
    refine⟨?_,rfl,?_⟩;simp only[e];exact I.size;simp only[e];exact I.get
   refine a2 (w.heap.size+1) _ _ w' _ _ Sb ?_ (λ a w h=>h);intro r N;have zT:=C.putObj 0 rfl (.loop { rec .ready with state:=.busy });refine⟨_,run_beginRound Y (by rw[m]),?_⟩;refine ag (w.heap.size+1) _ _ _ _ b _ x rem _ r _ M N zT ?_ (λ a w h=>h);intro u eP O mz z;have R:O.heap[w.heap.size+1]? =some (.loop { rec .ready with state:=.busy }):=z.e 0 rfl;refine⟨_,_,run_endRound none R,rfl,u,mz,?_⟩;have B:=z.putObj 0 rfl (.loop (rec .ready));rw[m]at B⊢;exact B
  ·rintro e O ⟨⟨v,rfl⟩,b,M,z⟩;have R:O.heap[w.heap.size+1]? =some (.loop (rec .ready)):=z.e 0 rfl;have Z:=run_endLoop (P:=P) R (by rw[m];simp);rw[m]at Z;refine⟨none,_,Z,?_⟩;have B:=z.putObj 0 rfl (.loop { rec .ready with state:=.exhausted });rw[m]at B;refine G w.heap.size b _ _ M ⟨t.size,?_,t.get⟩ (B.drop (List.sublist_cons_self _ _));show[mark w.heap.size]++a.defers=[mark w.heap.size]
   rw[t.defers];rfl
end
def bc.ak0:bc:=⟨λ _ _=>True,λ _ _ _ _ _ _ _=>trivial⟩
def bc.T2{α:Type}(o:Option α)(f:α->bc):bc:=match o with
 |none=>bc.ak0
 |some x=>f x
section
variable{P:Program}{ops:Array Oper}{Q:Exit->Act->World->Prop}{a:Act}{w:World}{rest:List Oper}{o:Oper}{n:b'}{d:Nat}{l:List (Nat×Value)}
 {W:World}{ar X:List Nat}{E:List aU}{D:List bc}
theorem a9.none(h:a9 W ar X w E D){α:Type}(f:α->bc):a9 W ar X w E (bc.T2 (Option.none:Option α) f::D):=h.more (y:=bc.T2 (Option.none:Option α) f) trivial
theorem amY{t e:TypeId}{sz:Nat}{x:Operand}{lo hi:Option Operand}(b:P.underlying t=some (.slice e))(c:∀w,(Go.sizeOf e).run P w= .ok sz w)(f:o.op= .slice t x lo hi none)(g:a.eval x= .slice none 0 0)
 (k:(lo=none/\(0 :Int)=0)\/∃z,lo=some z/\a.eval z= .int .i64 0)(m:(hi=none/\(0 :Int)=(0 :Nat))\/∃z,hi=some z/\a.eval z= .int .i64 0):aS P o a w (.slice none 0 0) w:=by
 have h:=F0 (P:=P) (w:=w) b c f g k m (i:=0) (j:=0) ⟨lb _,lb _,by omega⟩ (da 0)
 simpa using h
theorem amX{t e:TypeId}{A:Option Addr}{m c:Nat}{x:Operand}(b:P.underlying t=some (.slice e))(f:o.op= .call { callee:=.builtin .cap,args:=#[x],argTypes:=#[t] })(g:a.eval x= .slice A m c):aS P o a w (.int .i64 c) w:=by simp[aS,execOp,f,resolve,invoke,builtin,Builtin.cap_,g,run_underlying b,goInt]
theorem anm{t t':TypeId}{x y:Operand}{k:IntKind}{m:Int}{n:Nat}(c:hX n 64=true)(e:o.op= .binOp .shr t x y t')(f:a.eval x= .int .u64 m)(hy:a.eval y= .int k (n:Int)):aS P o a w (.int .u64 (Fg m n)) w:=by have b:=bW c;unfold Fg;simp only[aS,execOp,e,f,hy];simp[go_sem,b]
end
section
variable{P:Program}{W w w':World}{ar X:List Nat}{E:List aU}{D:List bc}{n:b'}{l:List (Nat×Value)}{a:Act}{o:Oper}{ops:Array Oper}{rest:List Oper}{Q:Exit->Act->World->Prop}{d:Nat}
theorem akq{A:Option Addr}{m c sz:Nat}{t e:TypeId}{j:Int}(b:P.underlying t=some (.slice e))(f:∀w,(Go.sizeOf e).run P w= .ok sz w)(h:0<=j/\j<=c) :
 (Instr.slice t (.slice A m c) none (some (.int .i64 j)) (some (.int .i64 j))).run P w= .ok (.slice (if j.toNat=0 then A else A.map (·.add (0*sz))) j.toNat j.toNat) w:=by
 have g:∀code,(Instr.sliceBound (.int .i64 j) c code).run P w= .ok j.toNat w:=λ code=>s7 rfl (by omega)
 have i:∀code,(Instr.sliceBound (.int .i64 j) j.toNat code).run P w= .ok j.toNat w:=λ code=>s7 rfl (by omega)
 have ag:(Instr.sliceBounds true m c none (some (.int .i64 j)) (some (.int .i64 j))).run P w= .ok (0,j.toNat,j.toNat) w:=by simp[Instr.sliceBounds,g,i]
 simp[Instr.slice,run_underlying b,ag,f]
end
end aA
namespace Go.Value
abbrev q{α:Type}(A:Option Addr)(c:Nat)(l:List α):Value:=.slice A l.length c
end Go.Value
namespace aA
open Go Go.RowKit ad
abbrev im:=Option Addr
abbrev oc:=List Value
abbrev yk:=List Int
theorem wn{ops:Array Oper}{a:Act}{o:Oper}(b:o.guard=none:=by rfl):Region.wanted o (yielded ops a.tmps)=true:=xW b
section
variable{W w:World}{ar X:List Nat}{E jn:List aU}{D fh:List bc}{n:b'}{l l' new aQ e5:List (Nat×Value)}{a:Act}
theorem Fr.cut(b:Fr n l a)(h:wz l (l'.map (·.1))=some l':=by kernel_rfl):Fr n l' a:=b.sub (GU h)
def xL(D:List bc):List Nat->Option (List bc)
 |[]=>some []
 |i::r=>match nth D i,xL D r with
  |some y,some ys=>some (y::ys)
  |_,_=>none
theorem U9:∀ {is:List Nat}{fh:List bc},xL D is=some fh->EJ D fh
 |[],fh,h=>by simp only[xL,aK]at h;subst h;trivial
 |i::r,fh,h=>by simp only[xL]at h;split at h;rename_i y ys I J;simp only[aK]at h;subst h;exact⟨⟨i,by rw[<-cr];exact I⟩,U9 J⟩;cases h
theorem a9.eI(h:a9 W ar X w E D)(is:List Nat)(e:xL D is=some fh:=by kernel_rfl):a9 W ar X w E fh:=h.pick (U9 e)
theorem a9.o'(h:a9 W ar X w E D)(dw is:List Nat)(b:AG dw=true:=by kernel_rfl)(al:xM E dw=some jn:=by kernel_rfl)(e:xL D is=some fh:=by kernel_rfl):a9 W ar X w jn fh:=(h.sel dw b al).eI is e
theorem cf{α:Type}{a b:α}(h:some a=some b):a=b:=eR h
theorem os{α:Type}{a b:α}(h:some a=some b):b=a:=(eR h).symm
def l_:List (Nat×Value)->List (Nat×Value)->List (Nat×Value)
 |[],r=>r
 |x::l,r=>x::l_ l r
def pZ:List (Nat×Value)->Nat->Bool
 |[],_=>false
 |p::r,j=>bT p.1 j||pZ r j
def AP:List (Nat×Value)->List (Nat×Value)->List (Nat×Value)
 |_,[]=>[]
 |new,p::r=>match pZ new p.1 with
  |true=>AP new r
  |false=>p::AP (p::new) r
def kA(new aQ:List (Nat×Value)):List (Nat×Value):=l_ new (AP new aQ)
theorem Tr{t:Nat}{r:List (Nat×Value)}:∀ {l:List (Nat×Value)},dp (l_ l r) t=cond (pZ l t) (dp l t) (dp r t)
 |[]=>by simp[l_,pZ]
 |p::l=>by
  simp only[l_,dp,pZ];cases bT p.1 t with
  |true=>simp
  |false=>simp only[Bool.false_or];exact Tr
theorem KE{t:Nat}:∀ {r new:List (Nat×Value)},pZ new t=false->dp (AP new r) t=dp r t
 |[],_,_=>rfl
 |p::r,new,h=>by
  simp only[AP,dp];cases ag:bT p.1 t with
  |true=>have:p.1=t:=aZ ag;rw[this,h];simp only[dp,this,Nat.beq_refl]
  |false=>
   cases pZ new p.1 with
   |true=>simp only;exact KE h
   |false=>simp only[dp,ag];exact KE (by simp only[pZ,ag,Bool.false_or];exact h)
theorem Fr.CR(c:Fr n (kA new aQ) a):Fr n (l_ new aQ) a:=⟨c.size,c.defers,λ t v b=>c.get t v (by
 unfold kA;rw[Tr]at b⊢;cases d:pZ new t with
 |true=>rw[d]at b;exact b
 |false=>rw[d]at b;rw[KE d];exact b)⟩
def C6(G:jQ)(ops:Array Oper)(n:Nat)(M:List (Nat×Nat×List Value))(is b:List Nat)(aQ:List (Nat×Value))(ep:List Nat):Option (List (Nat×Value)×List (Nat×Nat)):=
 match vi ops.toList is with
 |some os=>jZ G ops n M os b aQ ep
 |none=>none
theorem abC{G:jQ}{ops:Array Oper}{n:Nat}{M:List (Nat×Nat×List Value)}{is b:List Nat}{aQ:List (Nat×Value)}{ep:List Nat}{r:List (Nat×Value)×List (Nat×Nat)}(h:C6 G ops n M is b aQ ep=some r):∃os,vi ops.toList is=some os/\jZ G ops n M os b aQ ep=some r:=by unfold C6 at h;split at h;rename_i os I;exact⟨os,I,h⟩;cases h
end
end aA
namespace ad
structure Kind where
 Kind:Int
 ap:List UInt8
 deriving DecidableEq
structure Handler where
 From:Int
 To:Int
 dJ:Int
 ap:List UInt8
 deriving DecidableEq
structure Method where
 Name:List UInt8
 Static:Bool
 b9:List Kind
 Returns:Kind
 gh:Int
 gg:Int
 Code:List UInt8
 cj:List Handler
structure Field where
 Name:List UInt8
 Kind:Kind
 deriving DecidableEq
structure ap where
 Name:List UInt8
 b_:List UInt8
 Fields:List Field
 a1:List Method
structure a4 where
 l:List ap
 bC:List ((List UInt8)×Int)
 cL:List Int
structure Target where
 ap:Int
 Method:Int
 deriving DecidableEq
structure c4 where
 gz:List ap
 eh:List Int
 Fields:List (List Field)
 Names:List (List (List UInt8))
 eE:List (List Target)
structure pw where
 dJ:Int
 Op:Int
 A:Int
 B:Int
 deriving DecidableEq
structure State where
 Comes:Bool
 gg:List Kind
 gh:List Kind
structure vW where
 Err:Int
 dJ:Int
 deriving DecidableEq
structure M9 where
 xR:List Kind
 aiA:List Kind
structure M_ where
 k:c4
open Go
def vA:aA.cE Kind where
 size:=2
 rd _ _ cs d:=cs=[.int .i64 d.Kind,aA.bQ d.ap]
 len h:=by subst h;rfl
 one h v a:=by subst h;simp only[dc,hx,or_false]at a;rcases a with rfl |rfl<;>rfl
 law _ h:=h
def vz:aA.cE Handler where
 size:=4
 rd _ _ cs d:=cs=[.int .i64 d.From,.int .i64 d.To,.int .i64 d.dJ,aA.bQ d.ap]
 len h:=by subst h;rfl
 one h v a:=by subst h;simp only[dc,hx,or_false]at a;rcases a with rfl |rfl |rfl |rfl<;>rfl
 law _ h:=h
def mZ:aA.cE Method where
 size:=9
 rd F w cs d:=∃a b c e,cs=[aA.bQ d.Name,.bool d.Static,.slice a d.b9.length b,.int .i64 d.Returns.Kind,aA.bQ d.Returns.ap,.int .i64 d.gh,.int .i64 d.gg,aA.bQ d.Code,.slice c d.cj.length e]/\(aA.cM ad.vA).rd F w [.slice a d.b9.length b] d.b9/\(aA.cM ad.vz).rd F w [.slice c d.cj.length e] d.cj
 len h:=by obtain⟨a,b,c,e,f,_⟩:=h;subst f;rfl
 one h v g:=by obtain⟨a,b,c,e,f,_⟩:=h;subst f;simp only[dc,hx,or_false]at g;rcases g with rfl |rfl |rfl |rfl |rfl |rfl |rfl |rfl |rfl<;>rfl
 law i h:=by obtain⟨a,b,c,e,f,I,J⟩:=h;exact⟨a,b,c,e,f,(aA.cM ad.vA).law i I,(aA.cM ad.vz).law i J⟩
def jj:aA.cE Field where
 size:=3
 rd _ _ cs d:=cs=[aA.bQ d.Name,.int .i64 d.Kind.Kind,aA.bQ d.Kind.ap]
 len h:=by subst h;rfl
 one h v a:=by subst h;simp only[dc,hx,or_false]at a;rcases a with rfl |rfl |rfl<;>rfl
 law _ h:=h
def ji:aA.cE ap where
 size:=4
 rd F w cs d:=∃a b c e,cs=[aA.bQ d.Name,aA.bQ d.b_,.slice a d.Fields.length b,.slice c d.a1.length e]/\(aA.cM ad.jj).rd F w [.slice a d.Fields.length b] d.Fields/\(aA.cM ad.mZ).rd F w [.slice c d.a1.length e] d.a1
 len h:=by obtain⟨a,b,c,e,f,_⟩:=h;subst f;rfl
 one h v g:=by obtain⟨a,b,c,e,f,_⟩:=h;subst f;simp only[dc,hx,or_false]at g;rcases g with rfl |rfl |rfl |rfl<;>rfl
 law i h:=by obtain⟨a,b,c,e,f,I,J⟩:=h;exact⟨a,b,c,e,f,(aA.cM ad.jj).law i I,(aA.cM ad.mZ).law i J⟩
def m0:aA.cE Target where
 size:=2
 rd _ _ cs d:=cs=[.int .i64 d.ap,.int .i64 d.Method]
 len h:=by subst h;rfl
 one h v a:=by subst h;simp only[dc,hx,or_false]at a;rcases a with rfl |rfl<;>rfl
 law _ h:=h
end ad
namespace Go.Value
abbrev cy(g:Nat):Value:=.pointer (some ⟨g,0,none⟩)
abbrev i(n:Int):Value:=.int .i64 n
end Go.Value
namespace Go.Proofs.YtifhjkbiiekamaaDoor
open Go Go.RowKit
abbrev b4{α:Type}(T:aA.cE α)(A:Option Addr)(c:Nat)(l:List α):aA.bc:=aA.bc.of (aA.cM T) [.slice A l.length c] l
def nq:aA.jQ:=⟨[(3,.i .i64),(4,.b),(5,.i .u8),(9,.s),(22,.b4),(24,.b4),(25,.b4),(26,.b4),(27,.b4),(30,.i .i64),(34,.b4),(35,.b4),(38,.b4),(41,.b4),(76,.b4),(77,.b4),(78,.b4),(156,.b4)],[(29,0,0),(29,1,1),(29,2,2),(29,3,3),(29,4,4),(37,0,0),(37,1,1),(37,2,2),(37,3,3),(40,0,0),(40,1,1),(43,0,0),(43,1,1),(43,2,2),(43,3,3),(43,4,5),(43,5,6),(43,6,7),(43,7,8),(74,0,0),(74,1,1),(74,2,2),(94,0,0),(94,1,1),(107,0,0),(107,1,1),(107,2,2),(107,3,3)],[(3,none),(4,none),(5,none),(9,none),(22,none),(24,none),(25,none),(26,none),(27,none),(29,some 5),(34,none),(35,none),(37,some 4),(38,none),(40,some 2),(41,none),(43,some 9),(70,none),(72,none),(75,none),(77,none),(78,none),(94,some 3),(107,some 4),(116,some 2)]⟩
theorem nr:aA.oa Tryd.prog nq:=⟨⟨Tryd.underlying3,Tryd.underlying4,Tryd.underlying5,Tryd.underlying9,⟨_,Tryd.underlying22⟩,⟨_,Tryd.underlying24⟩,⟨_,Tryd.underlying25⟩,⟨_,Tryd.underlying26⟩,⟨_,Tryd.underlying27⟩,Tryd.underlying30,⟨_,Tryd.underlying34⟩,⟨_,Tryd.underlying35⟩,⟨_,Tryd.underlying38⟩,⟨_,Tryd.underlying41⟩,⟨_,Tryd.underlying76⟩,⟨_,Tryd.underlying77⟩,⟨_,Tryd.underlying78⟩,⟨_,Tryd.underlying156⟩,trivial⟩,⟨aA.fw Tryd.underlying29 rfl rfl Tryd.sizeOf22 rfl,aA.fw Tryd.underlying29 rfl rfl Tryd.sizeOf24 rfl,aA.fw Tryd.underlying29 rfl rfl Tryd.sizeOf25 rfl,aA.fw Tryd.underlying29 rfl rfl Tryd.sizeOf26 rfl,aA.fw Tryd.underlying29 rfl rfl Tryd.sizeOf27 rfl,aA.fw Tryd.underlying37 rfl rfl Tryd.sizeOf9 rfl,aA.fw Tryd.underlying37 rfl rfl Tryd.sizeOf9 rfl,aA.fw Tryd.underlying37 rfl rfl Tryd.sizeOf34 rfl,aA.fw Tryd.underlying37 rfl rfl Tryd.sizeOf35 rfl,aA.fw Tryd.underlying40 rfl rfl Tryd.sizeOf3 rfl,aA.fw Tryd.underlying40 rfl rfl Tryd.sizeOf9 rfl,aA.fw Tryd.underlying43 rfl rfl Tryd.sizeOf9 rfl,aA.fw Tryd.underlying43 rfl rfl Tryd.sizeOf4 rfl,aA.fw Tryd.underlying43 rfl rfl Tryd.sizeOf38 rfl,aA.fw Tryd.underlying43 rfl rfl Tryd.sizeOf40 rfl,aA.fw Tryd.underlying43 rfl rfl Tryd.sizeOf3 rfl,aA.fw Tryd.underlying43 rfl rfl Tryd.sizeOf3 rfl,aA.fw Tryd.underlying43 rfl rfl Tryd.sizeOf9 rfl,aA.fw Tryd.underlying43 rfl rfl Tryd.sizeOf41 rfl,aA.fw Tryd.underlying74 rfl rfl Tryd.sizeOf22 rfl,aA.fw Tryd.underlying74 rfl rfl Tryd.sizeOf72 rfl,aA.fw Tryd.underlying74 rfl rfl Tryd.sizeOf24 rfl,aA.fw Tryd.underlying94 rfl rfl Tryd.sizeOf9 rfl,aA.fw Tryd.underlying94 rfl rfl Tryd.sizeOf40 rfl,aA.fw Tryd.underlying107 rfl rfl Tryd.sizeOf3 rfl,aA.fw Tryd.underlying107 rfl rfl Tryd.sizeOf3 rfl,aA.fw Tryd.underlying107 rfl rfl Tryd.sizeOf3 rfl,aA.fw Tryd.underlying107 rfl rfl Tryd.sizeOf9 rfl,trivial⟩,⟨Tryd.isAgg3,Tryd.isAgg4,Tryd.isAgg5,Tryd.isAgg9,Tryd.isAgg22,Tryd.isAgg24,Tryd.isAgg25,Tryd.isAgg26,Tryd.isAgg27,⟨Tryd.isAgg29,Tryd.sizeOf29⟩,Tryd.isAgg34,Tryd.isAgg35,⟨Tryd.isAgg37,Tryd.sizeOf37⟩,Tryd.isAgg38,⟨Tryd.isAgg40,Tryd.sizeOf40⟩,Tryd.isAgg41,⟨Tryd.isAgg43,Tryd.sizeOf43⟩,Tryd.isAgg70,Tryd.isAgg72,Tryd.isAgg75,Tryd.isAgg77,Tryd.isAgg78,⟨Tryd.isAgg94,Tryd.sizeOf94⟩,⟨Tryd.isAgg107,Tryd.sizeOf107⟩,⟨Tryd.isAgg116,Tryd.sizeOf116⟩,trivial⟩⟩
theorem afp:(Tryd.prog.info? 3).map (λ i=>(i.zero,i.size,i.bytes))=some (some (.int .i64 0),1,8):=by kernel_rfl
theorem J2:(Tryd.prog.info? 9).map (λ i=>(i.zero,i.size,i.bytes))=some (some (aA.bQ []),1,16):=by kernel_rfl
theorem afq:(Tryd.prog.info? 94).map (λ i=>(i.zero,i.size,i.bytes))=some (some (.agg #[aA.bQ [],.int .i64 0,aA.bQ []]),3,40):=by kernel_rfl
theorem J1:(Tryd.prog.info? 116).map (λ i=>(i.zero,i.size,i.bytes))=some (some (.agg #[.int .i64 0,.int .i64 0]),2,16):=by kernel_rfl
theorem aip:∀w,(aA.placesOf Tryd.prog 116).run Tryd.prog w= .ok #[(0,1),(1,1)] w:=λ w=>by kernel_rfl
theorem aaY{o:Oper}{a:Act}{w:World}{t':TypeId}{x y:Operand}{X Y:ad.Kind}(b:o.op= .binOp .eql 40 x y t')(c:a.eval x= .agg #[.int .i64 X.Kind,aA.bQ X.ap])(hy:a.eval y= .agg #[.int .i64 Y.Kind,aA.bQ Y.ap]):aA.aS Tryd.prog o a w (.bool (decide (X=Y))) w:=by
 have aE:decide (X=Y)=decide (X.Kind=Y.Kind/\X.ap=Y.ap/\True):=by rcases X with⟨_,_⟩;rcases Y with⟨_,_⟩;simp
 rw[aE];exact aA.x8 Tryd.underlying40 (by kernel_rfl) (by kernel_rfl) (aA.fX rfl Tryd.underlying3 Tryd.isAgg3 rfl rfl (aA.rR rfl Tryd.underlying9 Tryd.isAgg9 rfl rfl (by simp[aA.kC]))) b c hy
theorem aa4{o:Oper}{a:Act}{w:World}{t':TypeId}{x y:Operand}{X Y:ad.Kind}(b:o.op= .binOp .neq 40 x y t')(c:a.eval x= .agg #[.int .i64 X.Kind,aA.bQ X.ap])(hy:a.eval y= .agg #[.int .i64 Y.Kind,aA.bQ Y.ap]):aA.aS Tryd.prog o a w (.bool (!decide (X=Y))) w:=by
 have aE:decide (X=Y)=decide (X.Kind=Y.Kind/\X.ap=Y.ap/\True):=by rcases X with⟨_,_⟩;rcases Y with⟨_,_⟩;simp
 rw[aE];exact aA.x9 Tryd.underlying40 (by kernel_rfl) (by kernel_rfl) (aA.fX rfl Tryd.underlying3 Tryd.isAgg3 rfl rfl (aA.rR rfl Tryd.underlying9 Tryd.isAgg9 rfl rfl (by simp[aA.kC]))) b c hy
theorem aaV{o:Oper}{a:Act}{w:World}{t':TypeId}{x y:Operand}{X Y:ad.Field}(b:o.op= .binOp .eql 94 x y t')(c:a.eval x= .agg #[aA.bQ X.Name,.int .i64 X.Kind.Kind,aA.bQ X.Kind.ap])(hy:a.eval y= .agg #[aA.bQ Y.Name,.int .i64 Y.Kind.Kind,aA.bQ Y.Kind.ap]):aA.aS Tryd.prog o a w (.bool (decide (X=Y))) w:=by
 have aE:decide (X=Y)=decide (X.Name=Y.Name/\(X.Kind.Kind=Y.Kind.Kind/\X.Kind.ap=Y.Kind.ap/\True)/\True):=by rcases X with⟨_,⟨_,_⟩⟩;rcases Y with⟨_,⟨_,_⟩⟩;simp
 rw[aE];exact aA.x8 Tryd.underlying94 (by kernel_rfl) (by kernel_rfl) (aA.rR rfl Tryd.underlying9 Tryd.isAgg9 rfl rfl (aA.Qn (us:=[.int .i64 X.Kind.Kind,aA.bQ X.Kind.ap]) (vs:=[.int .i64 Y.Kind.Kind,aA.bQ Y.Kind.ap]) (q:=X.Kind.Kind=Y.Kind.Kind/\X.Kind.ap=Y.Kind.ap/\True) rfl Tryd.isAgg40 Tryd.sizeOf40 rfl rfl (aA.Qo Tryd.underlying40 (by kernel_rfl) (aA.fX rfl Tryd.underlying3 Tryd.isAgg3 rfl rfl (aA.rR rfl Tryd.underlying9 Tryd.isAgg9 rfl rfl (by simp[aA.kC])))) (by simp[aA.kC]))) b c hy
theorem aa1{o:Oper}{a:Act}{w:World}{t':TypeId}{x y:Operand}{X Y:ad.Field}(b:o.op= .binOp .neq 94 x y t')(c:a.eval x= .agg #[aA.bQ X.Name,.int .i64 X.Kind.Kind,aA.bQ X.Kind.ap])(hy:a.eval y= .agg #[aA.bQ Y.Name,.int .i64 Y.Kind.Kind,aA.bQ Y.Kind.ap]):aA.aS Tryd.prog o a w (.bool (!decide (X=Y))) w:=by
 have aE:decide (X=Y)=decide (X.Name=Y.Name/\(X.Kind.Kind=Y.Kind.Kind/\X.Kind.ap=Y.Kind.ap/\True)/\True):=by rcases X with⟨_,⟨_,_⟩⟩;rcases Y with⟨_,⟨_,_⟩⟩;simp
 rw[aE];exact aA.x9 Tryd.underlying94 (by kernel_rfl) (by kernel_rfl) (aA.rR rfl Tryd.underlying9 Tryd.isAgg9 rfl rfl (aA.Qn (us:=[.int .i64 X.Kind.Kind,aA.bQ X.Kind.ap]) (vs:=[.int .i64 Y.Kind.Kind,aA.bQ Y.Kind.ap]) (q:=X.Kind.Kind=Y.Kind.Kind/\X.Kind.ap=Y.Kind.ap/\True) rfl Tryd.isAgg40 Tryd.sizeOf40 rfl rfl (aA.Qo Tryd.underlying40 (by kernel_rfl) (aA.fX rfl Tryd.underlying3 Tryd.isAgg3 rfl rfl (aA.rR rfl Tryd.underlying9 Tryd.isAgg9 rfl rfl (by simp[aA.kC])))) (by simp[aA.kC]))) b c hy
theorem aaZ{o:Oper}{a:Act}{w:World}{t':TypeId}{x y:Operand}{X Y:ad.Target}(b:o.op= .binOp .eql 116 x y t')(c:a.eval x= .agg #[.int .i64 X.ap,.int .i64 X.Method])(hy:a.eval y= .agg #[.int .i64 Y.ap,.int .i64 Y.Method]):aA.aS Tryd.prog o a w (.bool (decide (X=Y))) w:=by
 have aE:decide (X=Y)=decide (X.ap=Y.ap/\X.Method=Y.Method/\True):=by rcases X with⟨_,_⟩;rcases Y with⟨_,_⟩;simp
 rw[aE];exact aA.x8 Tryd.underlying116 (by kernel_rfl) (by kernel_rfl) (aA.fX rfl Tryd.underlying3 Tryd.isAgg3 rfl rfl (aA.fX rfl Tryd.underlying3 Tryd.isAgg3 rfl rfl (by simp[aA.kC]))) b c hy
theorem aa5{o:Oper}{a:Act}{w:World}{t':TypeId}{x y:Operand}{X Y:ad.Target}(b:o.op= .binOp .neq 116 x y t')(c:a.eval x= .agg #[.int .i64 X.ap,.int .i64 X.Method])(hy:a.eval y= .agg #[.int .i64 Y.ap,.int .i64 Y.Method]):aA.aS Tryd.prog o a w (.bool (!decide (X=Y))) w:=by
 have aE:decide (X=Y)=decide (X.ap=Y.ap/\X.Method=Y.Method/\True):=by rcases X with⟨_,_⟩;rcases Y with⟨_,_⟩;simp
 rw[aE];exact aA.x9 Tryd.underlying116 (by kernel_rfl) (by kernel_rfl) (aA.fX rfl Tryd.underlying3 Tryd.isAgg3 rfl rfl (aA.fX rfl Tryd.underlying3 Tryd.isAgg3 rfl rfl (by simp[aA.kC]))) b c hy
section
open aA
variable{n:b'}{aQ:List (Nat×Value)}{w:World}{a:Act}
theorem aiR(k:Nat)(c:List Nat){ops:Array Oper}{C:World->Prop}{d:Act->Prop}{b:List Oper}{M:List (Nat×Nat×List Value)}(fr':List (Nat×Value))(L:List Nat)(e:∀w,C w->h0 w M)(f:Fr n aQ a)
 (next:∀a',Fr n fr' a'->wpQuiet Tryd.prog ops C d (b.drop k) a')(g:jZ nq ops n M (b.take k) c aQ (fr'.map (·.1))=some (fr',dup L):=by kernel_rfl):wpQuiet Tryd.prog ops C d b a:=aiQ k _ c nr e f g next
theorem rg(b:List Nat){id:Nat}{lo:List Oper}{Q:Exit->Act->World->Prop}{M:List (Nat×Nat×List Value)}(fr':List (Nat×Value))(L:List Nat)(c:h0 w M)(d:Fr n aQ a)
 (next:∀a',Fr n fr' a'->Q .normal a' w)(e:jZ nq lo.toArray n M lo b aQ (fr'.map (·.1))=some (fr',dup L):=by kernel_rfl):(Code.region id lo.toArray false).wp Tryd.prog Q a w:=by
 refine mf (hg lo.length _ b nr c d (by rw[kg];exact e) λ a' f=>?_)
 rw[List.drop_length]
 exact next a' f
theorem Fi(b:List Nat){id:Nat}{lo:List Oper}{c:Code}{Q:Exit->Act->World->Prop}(fr':List (Nat×Value))(d:Fr n aQ a)
 (next:∀a',Fr n fr' a'->c.wp Tryd.prog Q a' w)(e:jZ nq lo.toArray n [] lo b aQ (fr'.map (·.1))=some (fr',dup []):=by kernel_rfl):(Code.seq (.region id lo.toArray false) c).wp Tryd.prog Q a w:=wp_seq_k λ _ f=>rg b fr' [] gv d (λ a' g=>f _ _ (next a' g)) e
theorem jY(k:Nat)(d:List Nat){ops:Array Oper}{Q:Exit->Act->World->Prop}{b:List Oper}(c:List (Nat×Value))(e:Fr n aQ a)
 (next:∀a',Fr n (l_ c aQ) a'->wpList Tryd.prog ops Q (b.drop k) a' w)(f:jZ nq ops n [] (b.take k) d aQ ((kA c aQ).map (·.1))=some (kA c aQ,dup []):=by kernel_rfl):wpList Tryd.prog ops Q b a w:=hg k _ d nr gv e f λ a' h=>next a' h.CR
theorem ou(k:Nat)(d:List Nat){ops:Array Oper}{Q:Exit->Act->World->Prop}{b:List Oper}{M:List (Nat×Nat×List Value)}(c:List (Nat×Value))(L:List Nat)(e:h0 w M)(f:Fr n aQ a)
 (next:∀a',Fr n (l_ c aQ) a'->wpList Tryd.prog ops Q (b.drop k) a' w)(g:jZ nq ops n M (b.take k) d aQ ((kA c aQ).map (·.1))=some (kA c aQ,dup L):=by kernel_rfl):wpList Tryd.prog ops Q b a w:=hg k _ d nr e f g λ a' h=>next a' h.CR
theorem Py(c:List Nat){id:Nat}{lo:List Oper}{Q:Exit->Act->World->Prop}{M:List (Nat×Nat×List Value)}(b:List (Nat×Value))(L:List Nat)(d:h0 w M)(e:Fr n aQ a)
 (next:∀a',Fr n (l_ b aQ) a'->Q .normal a' w)(f:jZ nq lo.toArray n M lo c aQ ((kA b aQ).map (·.1))=some (kA b aQ,dup L):=by kernel_rfl):(Code.region id lo.toArray false).wp Tryd.prog Q a w:=rg c _ L d e (λ a' h=>next a' h.CR) f
theorem ZN(c:List Nat){id:Nat}{lo:List Oper}{Q:Exit->Act->World->Prop}(b:List (Nat×Value))(d:Fr n aQ a)
 (next:∀a',Fr n (l_ b aQ) a'->Q .normal a' w)(e:jZ nq lo.toArray n [] lo c aQ ((kA b aQ).map (·.1))=some (kA b aQ,dup []):=by kernel_rfl):(Code.region id lo.toArray false).wp Tryd.prog Q a w:=Py c b [] gv d next e
theorem ub(d:List Nat){id:Nat}{lo:List Oper}{c:Code}{Q:Exit->Act->World->Prop}(b:List (Nat×Value))(e:Fr n aQ a)
 (next:∀a',Fr n (l_ b aQ) a'->c.wp Tryd.prog Q a' w)(f:jZ nq lo.toArray n [] lo d aQ ((kA b aQ).map (·.1))=some (kA b aQ,dup []):=by kernel_rfl):(Code.seq (.region id lo.toArray false) c).wp Tryd.prog Q a w:=wp_seq_k λ _ g=>Py d b [] gv e (λ a' h=>g _ _ (next a' h)) f
variable{ops:Array Oper}{Q:Exit->Act->World->Prop}{S:World->Prop}{f p:Nat}{ds:List Nat}{M:List (Nat×Nat×List Value)}
theorem cF(is:List Nat)(k:Nat)(b:List Nat)(fr':List (Nat×Value))(L:List Nat)(c:∀w,S w->h0 w M)(d:Fr n aQ a)(e:S w)(next:∀a',Fr n fr' a'->er Tryd.prog ops Q p S f (A' is ds) a' w)
 (g:bT is.length k=true:=by kernel_rfl)(kP:(cq ops.size ds).getD p false=false:=by kernel_rfl)(h:xS ops p ds is=true:=by kernel_rfl)(i:C6 nq ops n M is b aQ (fr'.map (·.1))=some (fr',dup L):=by kernel_rfl):er Tryd.prog ops Q p S (f+k) ds a w:=by
 obtain⟨os,I,J⟩:=abC i
 exact YN is k _ b nr c d g kP I h J e next
theorem dr(is:List Nat)(k:Nat)(c:List Nat)(b:List (Nat×Value))(L:List Nat)(d:∀w,S w->h0 w M)(e:Fr n aQ a)(g:S w)(next:∀a',Fr n (l_ b aQ) a'->er Tryd.prog ops Q p S f (A' is ds) a' w)
 (i:bT is.length k=true:=by kernel_rfl)(kP:(cq ops.size ds).getD p false=false:=by kernel_rfl)(j:xS ops p ds is=true:=by kernel_rfl)(l:C6 nq ops n M is c aQ ((kA b aQ).map (·.1))=some (kA b aQ,dup L):=by kernel_rfl):er Tryd.prog ops Q p S (f+k) ds a w:=
 cF is k c _ L d e g (λ a' h=>next a' h.CR) i kP j l
end
theorem wv:Tryd.prog.cellsOf 3=1:=by kernel_rfl
theorem Zz:Tryd.prog.cellsOf 4=1:=by kernel_rfl
theorem ua:Tryd.prog.cellsOf 9=1:=by kernel_rfl
theorem Zw:Tryd.prog.cellsOf 34=1:=by kernel_rfl
theorem Zx:Tryd.prog.cellsOf 35=1:=by kernel_rfl
theorem Pn:Tryd.prog.cellsOf 37=4:=by kernel_rfl
theorem Zy:Tryd.prog.cellsOf 38=1:=by kernel_rfl
theorem y4:Tryd.prog.cellsOf 40=2:=by kernel_rfl
theorem ZA:Tryd.prog.cellsOf 41=1:=by kernel_rfl
theorem Po:Tryd.prog.cellsOf 43=9:=by kernel_rfl
theorem Pp:Tryd.prog.cellsOf 94=3:=by kernel_rfl
theorem Pm:Tryd.prog.cellsOf 107=4:=by kernel_rfl
theorem Y3:Tryd.prog.bytesOf 37=80:=by kernel_rfl
theorem Y4:Tryd.prog.bytesOf 40=24:=by kernel_rfl
theorem Y5:Tryd.prog.bytesOf 43=128:=by kernel_rfl
theorem Y6:Tryd.prog.bytesOf 94=40:=by kernel_rfl
theorem Y2:Tryd.prog.bytesOf 107=40:=by kernel_rfl
theorem agN{l:List Value}(h:l.length=2):∃cF a,l=[cF,a]:=match l,h with|[cF,a],_=>⟨cF,a,rfl⟩
theorem agO{l:List Value}(h:l.length=3):∃cF a b,l=[cF,a,b]:=match l,h with|[cF,a,b],_=>⟨cF,a,b,rfl⟩
theorem Tn{l:List Value}(h:l.length=4):∃cF a b c,l=[cF,a,b,c]:=match l,h with|[cF,a,b,c],_=>⟨cF,a,b,c,rfl⟩
theorem agP{l:List Value}(h:l.length=9):∃cF a b c d e f g i,l=[cF,a,b,c,d,e,f,g,i]:=match l,h with|[cF,a,b,c,d,e,f,g,i],_=>⟨cF,a,b,c,d,e,f,g,i,rfl⟩
section
variable{H:Type}{enc:TypeId×Value->H}{N:Nat}
def ry(N:Nat)(d:ad.Kind):Prop:=aA.ru d.Kind/\d.ap.length<=N
theorem xG:aA.jo Tryd.prog enc N 40 ad.vA (ry N):=by intro W n cs x h d e;obtain⟨u,a,c⟩:=aA.ox Tryd.underlying40 h d e;replace a:=a.trans y4;obtain⟨cF,b,rfl⟩:=agN a;obtain⟨v,f,g,w0⟩:=aA.hS c 0 rfl rfl rfl wv (r:=[cF]) rfl;obtain⟨i,j,k⟩:=(aA.xH Tryd.underlying3) W _ _ _ f g w0;have l:[cF]=_:=j;obtain rfl:cF=_:=(gW l).1;obtain⟨w,I,m,o⟩:=aA.hS c 1 rfl rfl rfl ua (r:=[b]) rfl;obtain⟨p,q,s⟩:=(aA.vn Tryd.underlying9) W _ _ _ I m o;have t:[b]=_:=q;obtain rfl:b=_:=(gW t).1;exact⟨⟨i,p⟩,rfl,⟨k,s⟩⟩
def Gh(N:Nat)(d:ad.Field):Prop:=d.Name.length<=N/\ry N d.Kind
theorem ajS:aA.jo Tryd.prog enc N 94 ad.jj (Gh N):=by intro W n cs x h f g;obtain⟨v,a,b⟩:=aA.ox Tryd.underlying94 h f g;replace a:=a.trans Pp;obtain⟨cF,c,d,rfl⟩:=agO a;obtain⟨w,i,j,w0⟩:=aA.hS b 0 rfl rfl rfl ua (r:=[cF]) rfl;obtain⟨k,l,m⟩:=(aA.vn Tryd.underlying9) W _ _ _ i j w0;have o:[cF]=_:=l;obtain rfl:cF=_:=(gW o).1;obtain⟨y,I,p,q⟩:=aA.hS b 1 rfl rfl rfl y4 (r:=[c,d]) rfl;obtain⟨s,t,u⟩:=xG W _ _ _ I p q;have e:[c,d]=_:=t;simp only[hN,and_true]at e;obtain⟨rfl,rfl⟩:=e;exact⟨⟨k,s⟩,rfl,⟨m,u⟩⟩
theorem ajX:aA.jo Tryd.prog enc N 34 (aA.cM ad.jj) (λ l=>l.length*40<=N/\∀a∈l,Gh N a):=by have h:=aA.A6 (enc:=enc) (N:=N) Tryd.underlying34 Pp (by decide) ajS;rw[Y6]at h;exact h
theorem ajZ:aA.jo Tryd.prog enc N 38 (aA.cM ad.vA) (λ l=>l.length*24<=N/\∀a∈l,ry N a):=by have h:=aA.A6 (enc:=enc) (N:=N) Tryd.underlying38 y4 (by decide) xG;rw[Y4]at h;exact h
def Gi(N:Nat)(d:ad.Handler):Prop:=aA.ru d.From/\aA.ru d.To/\aA.ru d.dJ/\d.ap.length<=N
theorem ajT:aA.jo Tryd.prog enc N 107 ad.vz (Gi N):=by intro W n cs x h f g;obtain⟨K,b,a⟩:=aA.ox Tryd.underlying107 h f g;replace b:=b.trans Pm;obtain⟨cF,c,d,e,rfl⟩:=Tn b;obtain⟨L,i,j,w0⟩:=aA.hS a 0 rfl rfl rfl wv (r:=[cF]) rfl;obtain⟨k,l,m⟩:=(aA.xH Tryd.underlying3) W _ _ _ i j w0;have o:[cF]=_:=l;obtain rfl:cF=_:=(gW o).1;obtain⟨M,I,p,q⟩:=aA.hS a 1 rfl rfl rfl wv (r:=[c]) rfl;obtain⟨s,t,u⟩:=(aA.xH Tryd.underlying3) W _ _ _ I p q;have v:[c]=_:=t;obtain rfl:c=_:=(gW v).1;obtain⟨O,J,w,y⟩:=aA.hS a 2 rfl rfl rfl wv (r:=[d]) rfl;obtain⟨z,A,B⟩:=(aA.xH Tryd.underlying3) W _ _ _ J w y;have al:[d]=_:=A;obtain rfl:d=_:=(gW al).1;obtain⟨P,C,D,E⟩:=aA.hS a 3 rfl rfl rfl ua (r:=[e]) rfl;obtain⟨F,gG,G⟩:=(aA.vn Tryd.underlying9) W _ _ _ C D E;have aL:[e]=_:=gG;obtain rfl:e=_:=(gW aL).1;exact⟨⟨k,s,z,F⟩,rfl,⟨m,u,B,G⟩⟩
theorem aj0:aA.jo Tryd.prog enc N 41 (aA.cM ad.vz) (λ l=>l.length*40<=N/\∀a∈l,Gi N a):=by have h:=aA.A6 (enc:=enc) (N:=N) Tryd.underlying41 Pm (by decide) ajT;rw[Y2]at h;exact h
def Cp(N:Nat)(d:ad.Method):Prop:=d.Name.length<=N/\True/\(d.b9.length*24<=N/\∀a∈d.b9,ry N a)/\ry N d.Returns/\aA.ru d.gh/\aA.ru d.gg/\d.Code.length<=N/\(d.cj.length*40<=N/\∀a∈d.cj,Gi N a)
theorem ajU:aA.jo Tryd.prog enc N 43 ad.mZ (Cp N):=by intro W n cs x h y z;obtain⟨fm,b,a⟩:=aA.ox Tryd.underlying43 h y z;replace b:=b.trans Po;obtain⟨cF,c,q,s,t,d,e,f,u,rfl⟩:=agP b;obtain⟨x6,A,B,w0⟩:=aA.hS a 0 rfl rfl rfl ua (r:=[cF]) rfl;obtain⟨C,D,E⟩:=(aA.vn Tryd.underlying9) W _ _ _ A B w0;have F:[cF]=_:=D;obtain rfl:cF=_:=(gW F).1;obtain⟨cx,I,G,K⟩:=aA.hS a 1 rfl rfl rfl Zz (r:=[c]) rfl;obtain⟨L,M,O⟩:=(aA.ajV Tryd.underlying4) W _ _ _ I G K;have P:[c]=_:=M;obtain rfl:c=_:=(gW P).1;obtain⟨l5,J,Q,R⟩:=aA.hS a 2 rfl rfl rfl Zy (r:=[q]) rfl;obtain⟨S,v,T⟩:=(ajZ) W _ _ _ J Q R;obtain⟨U,V,al⟩:=aA.Bf v;obtain rfl:q=_:=(gW al).1;obtain⟨rc,X,Y,Z⟩:=aA.hS a 3 rfl rfl rfl y4 (r:=[s,t]) rfl;obtain⟨d3,gG,bN⟩:=xG W _ _ _ X Y Z;have aL:[s,t]=_:=gG;simp only[hN,and_true]at aL;obtain⟨rfl,rfl⟩:=aL;obtain⟨FX,a5,hd,M'⟩:=aA.hS a 4 rfl rfl rfl wv (r:=[d]) rfl;obtain⟨d4,qU,cw⟩:=(aA.xH Tryd.underlying3) W _ _ _ a5 hd M';have bB:[d]=_:=qU;obtain rfl:d=_:=(gW bB).1;obtain⟨aou,cO,sW,g⟩:=aA.hS a 5 rfl rfl rfl wv (r:=[e]) rfl;obtain⟨d5,i,jc⟩:=(aA.xH Tryd.underlying3) W _ _ _ cO sW g;have ch:[e]=_:=i;obtain rfl:e=_:=(gW ch).1;obtain⟨aov,gQ,j,k⟩:=aA.hS a 6 rfl rfl rfl ua (r:=[f]) rfl;obtain⟨d6,l,oO⟩:=(aA.vn Tryd.underlying9) W _ _ _ gQ j k;have fH:[f]=_:=l;obtain rfl:f=_:=(gW fH).1;obtain⟨aow,jx,m,o⟩:=aA.hS a 7 rfl rfl rfl ZA (r:=[u]) rfl;obtain⟨d7,w,p⟩:=(aj0) W _ _ _ jx m o;obtain⟨W9,Y8,lp⟩:=aA.Bf w;obtain rfl:u=_:=(gW lp).1;exact⟨⟨C,L,S,d3,d4,d5,d6,d7⟩,⟨U,V,W9,Y8,rfl,v,w⟩,⟨E,O,T,bN,cw,jc,oO,p⟩⟩
theorem ajY:aA.jo Tryd.prog enc N 35 (aA.cM ad.mZ) (λ l=>l.length*128<=N/\∀a∈l,Cp N a):=by have h:=aA.A6 (enc:=enc) (N:=N) Tryd.underlying35 Po (by decide) ajU;rw[Y5]at h;exact h
def ym(N:Nat)(d:ad.ap):Prop:=d.Name.length<=N/\d.b_.length<=N/\(d.Fields.length*40<=N/\∀a∈d.Fields,Gh N a)/\(d.a1.length*128<=N/\∀a∈d.a1,Cp N a)
theorem ajR:aA.jo Tryd.prog enc N 37 ad.ji (ym N):=by intro W n cs x h g i;obtain⟨O,b,a⟩:=aA.ox Tryd.underlying37 h g i;replace b:=b.trans Pn;obtain⟨cF,c,d,e,rfl⟩:=Tn b;obtain⟨P,j,k,w0⟩:=aA.hS a 0 rfl rfl rfl ua (r:=[cF]) rfl;obtain⟨l,m,o⟩:=(aA.vn Tryd.underlying9) W _ _ _ j k w0;have p:[cF]=_:=m;obtain rfl:cF=_:=(gW p).1;obtain⟨Q,I,q,s⟩:=aA.hS a 1 rfl rfl rfl ua (r:=[c]) rfl;obtain⟨t,u,v⟩:=(aA.vn Tryd.underlying9) W _ _ _ I q s;have w:[c]=_:=u;obtain rfl:c=_:=(gW w).1;obtain⟨R,J,y,z⟩:=aA.hS a 2 rfl rfl rfl Zw (r:=[d]) rfl;obtain⟨A,f,B⟩:=(ajX) W _ _ _ J y z;obtain⟨C,D,al⟩:=aA.Bf f;obtain rfl:d=_:=(gW al).1;obtain⟨S,E,F,G⟩:=aA.hS a 3 rfl rfl rfl Zx (r:=[e]) rfl;obtain⟨K,gG,L⟩:=(ajY) W _ _ _ E F G;obtain⟨M,lk,aL⟩:=aA.Bf gG;obtain rfl:e=_:=(gW aL).1;exact⟨⟨l,t,A,K⟩,⟨C,D,M,lk,rfl,f,gG⟩,⟨o,v,B,L⟩⟩
theorem ajW:aA.jo Tryd.prog enc N 22 (aA.cM ad.ji) (λ l=>l.length*80<=N/\∀a∈l,ym N a):=by have h:=aA.A6 (enc:=enc) (N:=N) Tryd.underlying22 Pn (by decide) ajR;rw[Y3]at h;exact h
end
end Go.Proofs.YtifhjkbiiekamaaDoor
namespace a8
open Go Go.RowKit aA ad
inductive aD (El:Nat->Type):Type
 |p (v:Value)
 |b (i o:Nat)
 |x (t:Nat) (d:El t) (o:Nat)
 |s (t:Nat) (l:List (El t))
 |q (t:Nat) (l:List (El t))
 |r (i g:Nat)
 |v (i g:Nat) (lo hi:Int)
 |e (i g k t:Nat) (j:Int) (d:El t) (o:Nat)
 |w (i g o:Nat)
 |m (i:Nat)
 |n (kt vt:Nat) (d:List (El kt×El vt))
 |f (fn:Fn) (cs:List (aD El))
 |h (fn:Fn) (us:List (aD El))
 |a (l:List (aD El))
 |u (l:List (aD El))
 |i (t:Nat) (y:aD El)
 |pp (i g sz:Nat) (dw:List Int)
 |s0 (i g sz:Nat) (q:Int)
inductive ay (El:Nat->Type):Type
 |c (ty:Nat) (cs:List (aD El))
 |r (t g k:Nat) (l:List (El t))
 |k (t sz g:Nat) (cs:List (aD El))
 |z (t g k:Nat) (l:List (El t))
 |m (kt vt:Nat) (d:List (El kt×El vt))
 |o (Lj:Obj)
 |no (g:Nat)
structure gB (b6:Type) where
 dec:DecidableEq b6
 mE: @iJ b6 dec
structure bz (El:Nat->Type) (t:Nat) where
 ty:cE (El t)
 agg:Bool
 cs:El t->List (aD El)
 fx:List (aD El)->Option (El t)
 eq:Option (El t->El t->Bool)
 key:Option (gB (El t))
 tU:Option (Σ e:Nat,El t->List (El e))
structure bA where
 El:Nat->Type
 es:List (Σ t,bz El t)
def ak5{α:Type}:cE α where
 size:=0
 rd _ _ _ _:=False
 len h:=h.elim
 one h:=h.elim
 law _ h:=h
def bz.no{El:Nat->Type}{t:Nat}:bz El t:=⟨ak5,true,λ _=>[],λ _=>none,none,none,none⟩
def gm{El:Nat->Type}:List (Σ t,bz El t)->(t:Nat)->bz El t
 |[],_=>bz.no
 |e::r,t=>match kO e.1 t with
  |isTrue h=>h▸e.2
  |isFalse _=>gm r t
def bA.e(T:bA)(t:Nat):bz T.El t:=gm T.es t
def bA.ty(T:bA)(t:Nat):cE (T.El t):=(T.e t).ty
def bI{El:Nat->Type}:Option (ay El)->Nat
 |some (.r _ g _ _)=>g
 |some (.k _ _ g _)=>g
 |some (.z _ g _ _)=>g
 |some (.no g)=>g
 |_=>0
def ff{El:Nat->Type}:Option (ay El)->Nat
 |some (.r _ _ k _)=>k
 |some (.z _ _ k _)=>k
 |_=>0
def nW{El:Nat->Type}:Option (ay El)->Option (Σ t,List (El t))
 |some (.r t _ _ l)=>some ⟨t,l⟩
 |some (.z t _ _ l)=>some ⟨t,l⟩
 |_=>none
def hB(T:bA):Option (ay T.El)->Nat
 |some (.r t _ _ _)=>(T.ty t).size
 |some (.k _ sz _ _)=>sz
 |some (.z t _ _ _)=>(T.ty t).size
 |_=>0
def kX:Value->Prop
 | .slice _ _ _=>True
 |_=>False
def qi:Value->Prop
 | .pointer (some _)=>True
 |_=>False
def sT(agg:Bool)(xs:List Value):Value:=match agg with
 |true=>.agg ⟨xs⟩
 |false=>xs.headD undef
section
variable(T:bA)(F:Nat->Prop)(w:World)
def tN(t:Nat)(d:T.El t)(v:Value):Prop:=∃xs,(T.ty t).rd F w xs d/\v=sT (T.e t).agg xs
def gK{kt vt:Nat}(K:gB (T.El kt)):List MapEntry->List (T.El kt×T.El vt)->Prop
 |[],[]=>True
 |e::es,p::d=>e.key= @iJ.enc _ K.dec K.mE p.1/\tN T F w vt p.2 e.val/\gK K es d
 |_,_=>False
def rv(kt vt r:Nat)(d:List (T.El kt×T.El vt)):Prop:=∃K,(T.e kt).key=some K/\∃es clock,w.heap[r]? =some (.map es clock)/\gK T F w K es.toList d/\(es.toList.map (·.born)).Pairwise (·< ·)/\∀e∈es.toList,e.born<clock
end
section
variable{T:bA}{F F':Nat->Prop}{w w':World}
theorem gK.law(a:∀k,F k->F' k/\w'.heap[k]? =w.heap[k]?){kt vt:Nat}{K:gB (T.El kt)}:∀ {es:List MapEntry}{d:List (T.El kt×T.El vt)},gK T F w K es d->gK T F' w' K es d
 |[],[],_=>trivial
 |[],_::_,h=>h.elim
 |_::_,[],h=>h.elim
 |e::es,p::d,h=>by obtain⟨I,⟨xs,J,b⟩,c⟩:=h;exact⟨I,⟨xs,(T.ty vt).law a J,b⟩,gK.law a c⟩
theorem rv.law(a:∀k,F k->F' k/\w'.heap[k]? =w.heap[k]?){kt vt r:Nat}{d:List (T.El kt×T.El vt)}(b:w'.heap[r]? =w.heap[r]?)(h:rv T F w kt vt r d):rv T F' w' kt vt r d:=by obtain⟨K,I,es,dA,J,c,e⟩:=h;exact⟨K,I,es,dA,b.trans J,c.law a,e⟩
end
def px{El:Nat->Type}(ρ:List Value)(bl:List (ay El))(i g sz:Nat)(q:Int)(v:Value):Prop:=qi v/\∃h,ρ[i]? =some h/\g<=bI bl[i]? /\(g=bI bl[i]? ->∃A n c,h= .slice A n c/\0<=q/\q<n/\v= .pointer (some ⟨c2 A,q.toNat*sz,none⟩))
def py{El:Nat->Type}(ρ:List Value)(bl:List (ay El))(i g sz:Nat):List Int->List Value->Prop
 |[],vs=>vs=[]
 |q::r,vs=>∃u us,vs=u::us/\px ρ bl i g sz q u/\py ρ bl i g sz r us
section
variable(T:bA)(F:Nat->Prop)(w:World)(ρ:List Value)(bl:List (ay T.El))
mutual
def aq:aD T.El->Value->Prop
 | .p u,v=>v=u
 | .b i o,v=>∃g,ρ[i]? =some (.pointer (some ⟨g,0,none⟩))/\v= .pointer (some ⟨g,o,none⟩)
 | .x t d o,v=>∃a q cs,v= .pointer (some ⟨a,q+o,none⟩)/\F a/\(T.ty t).rd F w cs d/\eg w ⟨a,q,none⟩ cs
 | .s t l,v=>(cM (T.ty t)).rd F w [v] l
 | .q t l,v=>(cM (T.ty t)).rd F w [v] l/\∃A,v= .slice A l.length l.length
 | .r i g,v=>kX v/\∃h,ρ[i]? =some h/\g<=bI bl[i]? /\(g=bI bl[i]? ->v=h)
 | .v i g lo hi,v=>kX v/\∃h,ρ[i]? =some h/\g<=bI bl[i]? /\(g=bI bl[i]? ->∃A n c B,h= .slice A n c/\0<=lo/\lo<=hi/\hi<=n/\v= .slice B (hi.toNat-lo.toNat) (c-lo.toNat)/\(lo=0 ->B=A)/\(lo<hi->B=A.map (·.add (lo.toNat*hB T bl[i]?))))
 | .e i g k t j d o,v=>qi v/\∃h,ρ[i]? =some h/\g<=bI bl[i]? /\(g=bI bl[i]? ->(∃A n c,h= .slice A n c/\0<=j/\j<n/\v= .pointer (some ⟨c2 A,j.toNat*hB T bl[i]? +o,none⟩))/\k<=ff bl[i]? /\(k=ff bl[i]? ->∃l,nW bl[i]? =some ⟨t,l⟩/\idx l j=some d))
 | .w i g o,v=>qi v/\∃h,ρ[i]? =some h/\g<=bI bl[i]? /\(g=bI bl[i]? ->∃A n c,h= .slice A n c/\0<n/\v= .pointer (some ⟨c2 A,o,none⟩))
 | .m i,v=>∃r,ρ[i]? =some (.map (some r))/\v= .map (some r)
 | .n kt vt d,v=>∃r,v= .map (some r)/\F r/\rv T F w kt vt r d
 | .f fn cs,v=>∃vs,v= .func fn #[] ⟨vs⟩/\aR cs vs
 | .h fn us,v=>∃vs,v= .func fn ⟨vs⟩ #[]/\aR us vs
 | .a l,v=>∃vs,v= .agg ⟨vs⟩/\aR l vs
 | .u l,v=>∃vs,v= .tuple ⟨vs⟩/\aR l vs
 | .i t y,v=>∃u,v= .iface t u/\aq y u
 | .pp i g sz dw,v=>∃A c,v= .slice A dw.length c/\dw.length<=c/\(A=none->c=0)/\(dw≠[]->A=some ⟨c2 A,fp A,none⟩/\F (c2 A)/\∃xs,py ρ bl i g sz dw xs/\eg w ⟨c2 A,fp A,none⟩ xs)
 | .s0 i g sz q,v=>∃a o u,v= .pointer (some ⟨a,o,none⟩)/\F a/\px ρ bl i g sz q u/\eg w ⟨a,o,none⟩ [u]
def aR:List (aD T.El)->List Value->Prop
 |[],vs=>vs=[]
 |y::r,vs=>∃u us,vs=u::us/\aq y u/\aR r us
end
end
structure jS (T:bA) (ρ ρ':List Value) (bl bl':List (ay T.El)):Prop where
 at_:∀(i:Nat)(h:Value),ρ[i]? =some h->∃h',ρ'[i]? =some h'/\(¬kX h->h'=h)/\bI bl[i]? <=bI bl'[i]? /\(bI bl'[i]? =bI bl[i]? ->h'=h/\hB T bl'[i]? =hB T bl[i]? /\ff bl[i]? <=ff bl'[i]? /\(ff bl'[i]? =ff bl[i]? ->nW bl'[i]? =nW bl[i]?))
theorem jS.refl{T:bA}{ρ:List Value}{bl:List (ay T.El)}:jS T ρ ρ bl bl:=⟨λ i h hi=>⟨h,hi,λ _=>rfl,da _,λ _=>⟨rfl,rfl,da _,λ _=>rfl⟩⟩⟩
theorem jS.trans{T:bA}{ρ ρ' g:List Value}{bl bl' d:List (ay T.El)}(h:jS T ρ ρ' bl bl')(k:jS T ρ' g bl' d):jS T ρ g bl d:=⟨λ i v hi=>by
 obtain⟨l,I,J,m,b⟩:=h.at_ i v hi;obtain⟨f,n,o,p,c⟩:=k.at_ i l I;refine⟨f,n,λ j=>?_,fo m p,λ e=>?_⟩;have a:=J j;rw[o (by rw[a];exact j),a]
 ·have a:bI bl'[i]? =bI bl[i]? :=by omega
  have al:bI d[i]? =bI bl'[i]? :=by omega
  refine⟨(c al).1.trans (b a).1,(c al).2.1.trans (b a).2.1,fo (b a).2.2.1 (c al).2.2.1,λ aL=>?_⟩;have q:=(b a).2.2.1;have r:=(c al).2.2.1;exact((c al).2.2.2 (by omega)).trans ((b a).2.2.2 (by omega))⟩
section
variable{T:bA}{F F':Nat->Prop}{w w':World}{ρ ρ':List Value}{bl bl':List (ay T.El)}
theorem px.later{i g sz:Nat}{q:Int}{v:Value}(a:jS T ρ ρ' bl bl')(h:px ρ bl i g sz q v):px ρ' bl' i g sz q v:=by
 obtain⟨b,u,I,J,c⟩:=h;obtain⟨d,f,_,j,k⟩:=a.at_ i _ I;refine⟨b,d,f,fo J j,λ e=>?_⟩;have l:bI bl'[i]? =bI bl[i]? :=by omega
 rw[(k l).1];exact c (by omega)
theorem py.imp{El b:Nat->Type}{bl:List (ay El)}{bl':List (ay b)}{i g a g' sz:Nat}(hi:∀q v,px ρ bl i g sz q v->px ρ' bl' a g' sz q v):∀ {dw:List Int}{xs:List Value},py ρ bl i g sz dw xs->py ρ' bl' a g' sz dw xs
 |[],_,h=>h
 |q::r,xs,h=>by obtain⟨u,us,rfl,I,J⟩:=h;exact⟨u,us,rfl,hi _ _ I,py.imp hi J⟩
theorem py.at_{i g sz:Nat}:∀ {dw:List Int}{xs:List Value}{m:Nat}{q:Int},py ρ bl i g sz dw xs->dw[m]? =some q->∃u,xs[m]? =some u/\px ρ bl i g sz q u
 |[],_,m,q,_,a=>by simp at a
 |p::r,xs,0,q,h,a=>by obtain⟨u,us,rfl,I,J⟩:=h;simp only[dX,aK]at a;subst a;exact⟨u,rfl,I⟩
 |p::r,xs,m+1,q,h,a=>by obtain⟨u,us,rfl,I,J⟩:=h;simpa using py.at_ J (by simpa using a)
mutual
theorem aq.later(b:∀k,F k->F' k/\w'.heap[k]? =w.heap[k]?)(f:jS T ρ ρ' bl bl'):∀(y:aD T.El){v:Value},aq T F w ρ bl y v->aq T F' w' ρ' bl' y v
 | .p _,_,h=>by simpa only[aq]using h
 | .b i o,v,h=>by simp only[aq]at h⊢;obtain⟨g,I,J⟩:=h;obtain⟨h',m,C,_⟩:=f.at_ i _ I;exact⟨g,by rw[m,C (by simp[kX])],J⟩
 | .x t d o,v,h=>by simp only[aq]at h⊢;obtain⟨a,q,cs,I,J,p,D⟩:=h;exact⟨a,q,cs,I,(b a J).1,(T.ty t).law b p,D.law (b a J).2⟩
 | .s t l,v,h=>by simp only[aq]at h⊢;exact(cM (T.ty t)).law b h
 | .q t l,v,h=>by simp only[aq]at h⊢;exact⟨(cM (T.ty t)).law b h.1,h.2⟩
 | .r i g,v,h=>by
   simp only[aq]at h⊢;obtain⟨z,u,I,J,p⟩:=h;obtain⟨B,m,_,x,s⟩:=f.at_ i _ I;refine⟨z,B,m,fo J x,λ e=>?_⟩;have n:bI bl'[i]? =bI bl[i]? :=by omega
   rw[(s n).1];exact p (by omega)
 | .v i g lo hi,v,h=>by
   simp only[aq]at h⊢;obtain⟨z,u,I,J,p⟩:=h;obtain⟨B,m,_,x,s⟩:=f.at_ i _ I;refine⟨z,B,m,fo J x,λ e=>?_⟩;have n:bI bl'[i]? =bI bl[i]? :=by omega
   rw[(s n).1,(s n).2.1];exact p (by omega)
 | .e i g k t j d o,v,h=>by
   simp only[aq]at h⊢;obtain⟨z,u,I,J,p⟩:=h;obtain⟨B,m,_,x,s⟩:=f.at_ i _ I;refine⟨z,B,m,fo J x,λ e=>?_⟩;have n:bI bl'[i]? =bI bl[i]? :=by omega
   obtain⟨E,G,H,K⟩:=s n;obtain⟨L,M,gG⟩:=p (by omega);rw[E,G];refine⟨L,fo M H,λ e=>?_⟩;rw[K (by omega)];exact gG (by omega)
 | .w i g o,v,h=>by
   simp only[aq]at h⊢;obtain⟨z,u,I,J,p⟩:=h;obtain⟨B,m,_,x,s⟩:=f.at_ i _ I;refine⟨z,B,m,fo J x,λ e=>?_⟩;have n:bI bl'[i]? =bI bl[i]? :=by omega
   rw[(s n).1];exact p (by omega)
 | .m i,v,h=>by simp only[aq]at h⊢;obtain⟨g,I,J⟩:=h;obtain⟨h',m,C,_⟩:=f.at_ i _ I;exact⟨g,by rw[m,C (by simp[kX])],J⟩
 | .n kt vt d,v,h=>by simp only[aq]at h⊢;obtain⟨r,I,J,p⟩:=h;exact⟨r,I,(b r J).1,p.law b (b r J).2⟩
 | .f fn cs,v,h=>by simp only[aq]at h⊢;obtain⟨vs,I,J⟩:=h;exact⟨vs,I,aR.later b f cs J⟩
 | .h fn us,v,h=>by simp only[aq]at h⊢;obtain⟨vs,I,J⟩:=h;exact⟨vs,I,aR.later b f us J⟩
 | .a l,v,h=>by simp only[aq]at h⊢;obtain⟨vs,I,J⟩:=h;exact⟨vs,I,aR.later b f l J⟩
 | .u l,v,h=>by simp only[aq]at h⊢;obtain⟨vs,I,J⟩:=h;exact⟨vs,I,aR.later b f l J⟩
 | .i t y,v,h=>by simp only[aq]at h⊢;obtain⟨u,I,J⟩:=h;exact⟨u,I,aq.later b f y J⟩
 | .pp i g sz dw,v,h=>by simp only[aq]at h⊢;obtain⟨A,c,n,al,aL,bB⟩:=h;refine⟨A,c,n,al,aL,λ N=>?_⟩;obtain⟨m,C,xs,x,s⟩:=bB N;exact⟨m,(b _ C).1,xs,x.imp λ q v=>px.later f,s.law (b _ C).2⟩
 | .s0 i g sz q,v,h=>by simp only[aq]at h⊢;obtain⟨a,o,u,n,al,aL,bB⟩:=h;exact⟨a,o,u,n,(b _ al).1,aL.later f,bB.law (b _ al).2⟩
theorem aR.later(a:∀k,F k->F' k/\w'.heap[k]? =w.heap[k]?)(b:jS T ρ ρ' bl bl'):∀(l:List (aD T.El)){vs:List Value},aR T F w ρ bl l vs->aR T F' w' ρ' bl' l vs
 |[],_,h=>by simpa only[aR]using h
 |y::r,vs,h=>by simp only[aR]at h⊢;obtain⟨u,us,I,J,c⟩:=h;exact⟨u,us,I,aq.later a b y J,aR.later a b r c⟩
end
theorem aR.len:∀ {l:List (aD T.El)}{vs:List Value},aR T F w ρ bl l vs->vs.length=l.length
 |[],_,h=>by simp only[aR]at h;subst h;rfl
 |y::r,vs,h=>by simp only[aR]at h;obtain⟨u,us,rfl,_,a⟩:=h;simp[aR.len a]
theorem aR.at_:∀ {l:List (aD T.El)}{vs:List Value}{i:Nat}{y:aD T.El},aR T F w ρ bl l vs->l[i]? =some y->∃v,vs[i]? =some v/\aq T F w ρ bl y v
 |[],_,i,y,_,hi=>by simp at hi
 |z::r,vs,0,y,h,hi=>by simp only[aR]at h;obtain⟨u,us,rfl,J,_⟩:=h;simp only[dX,aK]at hi;subst hi;exact⟨u,rfl,J⟩
 |z::r,vs,i+1,y,h,hi=>by simp only[aR]at h;obtain⟨u,us,rfl,_,a⟩:=h;simpa using aR.at_ a (by simpa using hi)
theorem aR.b2:∀ {l l':List (aD T.El)}{vs a:List Value},aR T F w ρ bl l vs->aR T F w ρ bl l' a->aR T F w ρ bl (l++l') (vs++a)
 |[],_,_,_,h,h'=>by simp only[aR]at h;subst h;exact h'
 |y::r,l',vs,a,h,h'=>by simp only[aR]at h;obtain⟨u,us,rfl,J,b⟩:=h;simp only[iO,aR];exact⟨u,us++a,rfl,J,aR.b2 b h'⟩
theorem aR.drop:∀ {l:List (aD T.El)}{vs:List Value}(n:Nat),aR T F w ρ bl l vs->aR T F w ρ bl (l.drop n) (vs.drop n)
 |l,vs,0,h=>by simpa using h
 |[],vs,n+1,h=>by simp only[aR]at h;subst h;simp[aR]
 |y::r,vs,n+1,h=>by simp only[aR]at h;obtain⟨u,us,rfl,J,a⟩:=h;simpa using aR.drop n a
theorem aR.take:∀ {l:List (aD T.El)}{vs:List Value}(n:Nat),aR T F w ρ bl l vs->aR T F w ρ bl (l.take n) (vs.take n)
 |l,vs,0,h=>by simp[aR]
 |[],vs,n+1,h=>by simp only[aR]at h;subst h;simp[aR]
 |y::r,vs,n+1,h=>by simp only[aR]at h;obtain⟨u,us,rfl,J,a⟩:=h;simp only[jf,aR];exact⟨u,us.take n,rfl,J,aR.take n a⟩
end
end a8
