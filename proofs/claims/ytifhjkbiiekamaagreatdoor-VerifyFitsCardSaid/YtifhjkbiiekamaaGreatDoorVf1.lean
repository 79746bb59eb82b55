/- Part 1 of the proof that is ended in the last text: small logic, what the functions compute, walks, plain laws. -/
import Derived.WalkKit
import Derived.Deep.LoopGhost
import Derived.Deep.Quiet
import Derived.Maps.AppendAt
import Derived.KernelRfl
import Derived.Deep.RegionHeld3
import Derived.Laws.StructEq
import Derived.Carry
import Derived.ChangeSame
import Derived.OpenShut
import Derived.Deep.Slices
import Derived.Deep.Fields
import Derived.ChangeMaps5
import Derived.Lib.LaidTab
import Derived.OrdersHeld
import Derived.MapKept
import Derived.Laws.OwnMore
import Derived.Laws.IdiomStrings
import Derived.RangeFuncRecord
import Derived.RangeFuncSeq
import Derived.RangeFuncIn
import Derived.RangeFuncLeaves
import Derived.OrdersIn
import Derived.TacticsIn
import Derived.Deep.OwnRows
import Derived.Lib.AppendZeros
import Derived.ArgAppend
import Derived.Test.YtifhjkbiiekamaaGreatDoorChecked
open Array renaming getD_eq_getD_getElem?->df,getElem?_eq_getElem->iH,getElem?_eq_none->hA,getElem?_eq_some_iff->ee,getElem?_modify->j0,getElem?_setIfInBounds->d_,getElem?_toList->g5,setIfInBounds_comm->ij
open Bool renaming and_eq_true->bM,eq_false_iff->gA,eq_iff_iff->io,false_eq_true->hT,false_or->k9,not_eq_true'->gx,or_eq_false_iff->ke,or_eq_true->h1
open Int renaming eq_ofNat_of_zero_le->jQ,le_refl->k2
open List renaming all_eq_true->jX,append_assoc->ja,append_nil->jb,cons.inj->gr,cons.injEq->hH,cons_append->iQ,drop_of_length_le->h7,drop_zero->kv,eq_nil_of_length_eq_zero->g9,ext_getElem?->jO,flatMap_cons->ik,getElem?_append->lq,getElem?_append_right->eW,getElem?_cons_zero->dm,getElem?_drop->je,getElem?_eq_getElem->bx,getElem?_eq_none->gM,getElem?_eq_some_iff->bg,getElem?_map->kc,getElem?_take->ht,length_append->fz,length_cons->dp,length_drop->kp,length_map->jc,length_range->jL,length_set->lv,length_take->fM,map_cons->eZ,map_nil->h6,map_toArray->gg,mem_append->de,mem_append_left->lr,mem_append_right->lm,mem_cons->cU,mem_cons_of_mem->fD,mem_flatMap->hn,mem_iff_getElem->jk,mem_map->kg,mem_of_getElem?->bR,nodup_append->fL,nodup_cons->jC,not_mem_nil->hl,pairwise_iff_getElem->jw,range->fe,replicate->f_,set_getElem_self->lp,take_append->kj,take_append_drop->iJ,take_length->jY,take_of_length_le->hF,take_succ_cons->jn
open Nat renaming add_assoc->jo,add_mul->iW,beq->b2,ble->hR,blt->eh,decEq->kJ,eq_of_beq_eq_true->a8,le_mul_of_pos_right->kY,le_of_ble_eq_true->b_,le_refl->cS,le_trans->eY,lt_of_lt_of_le->dr,lt_or_ge->gw,lt_succ_self->kA,min_eq_left->lu,mul_le_mul_right->jf,zero_add->jJ,zero_le->g_
open Option renaming bind_some->ae,map_none->ie,map_some->fC,some.inj->eG,some.injEq->aM
open Prod renaming mk.injEq->cv
noncomputable section
theorem ly{p : Prop} [Decidable p](h : p) : decide p=true:=_root_.decide_eq_true h
theorem lA{p : Prop} [Decidable p](h : ¬p) : decide p=false:=_root_.decide_eq_false h
theorem lG{c : Prop}{_ : Decidable c}(h : ¬c){α : Sort _}{t e : α} : ite c t e=e:=_root_.if_neg h
theorem lH{c : Prop}{_ : Decidable c}(h : c){α : Sort _}{t e : α} : ite c t e=t:=_root_.if_pos h
theorem lI{α : Sort _}(a b : α) : cond true a b=a:=rfl
theorem lJ{α : Sort _}(a b : α) : cond false a b=b:=rfl
namespace ad
def bj(n:Int):Int:=(n+9223372036854775808)%18446744073709551616-9223372036854775808
def an8(n:Int):Int:=n%18446744073709551616
def Mz(a b:Int):Int:=bj ((BitVec.ofInt 64 a|||BitVec.ofInt 64 b).toNat:Int)
def HO(a b:Int):Int:=bj ((BitVec.ofInt 64 a&&&BitVec.ofInt 64 b).toNat:Int)
def Gs(a:Int)(n:Nat):Int:=bj (a*2^n)
def Gt(a:Int)(n:Nat):Int:=a / 2^n
def xB(n:Int):UInt8:=UInt8.ofNat (n%256).toNat
def idx{α:Type}(l:List α)(i:Int):Option α:=if 0<=i then l[i.toNat]? else none
def BE(b:Bool):Option Unit:=if b then some ()else none
def cc{α:Type}(bytes:Nat)(l m:List α):Option (List α):=if(l.length+m.length)*bytes<=140737488355328 then some (l++m)else none
def bytesOf(s:List UInt8):Option (List UInt8):=if s.length<=140737488355328 then some s else none
def L2{α:Type}(z:α)(bytes:Nat)(n:Int):Option (List α):=if 0<=n/\bytes*n.toNat<=140737488355328 then some (f_ n.toNat z)else none
def HP{α:Type}(z:α)(bytes:Nat)(n:Int):Option (List α):=if 0<n/\bytes*n.toNat<=140737488355328 then some (f_ n.toNat z)else none
def cut{α:Type}(l:List α)(i j:Int):Option (List α):=if 0<=i/\i<=j/\j<=l.length then some ((l.take j.toNat).drop i.toNat)else none
theorem H4{α:Type}{b:Bool}{x y:Option α}{r:α}(ag:b=true)(h:cond b x y=some r):x=some r:=by subst ag;exact h
theorem H3{α:Type}{b:Bool}{x y:Option α}{r:α}(ag:b=false)(h:cond b x y=some r):y=some r:=by subst ag;exact h
theorem fR{α β:Type}{o:Option α}{f:α->Option β}{r:β}(h:o.bind f=some r):∃x,o=some x/\f x=some r:=by
 cases o with
 |none=>cases h
 |some x=>exact⟨x,rfl,h⟩
theorem il{α:Type}{l:List α}{i:Int}{d:α}(h:idx l i=some d):0<=i/\i.toNat<l.length/\l[i.toNat]? =some d:=by unfold idx at h;split at h;rename_i a;exact⟨a,(bg.1 h).1,h⟩;cases h
theorem Dz{α:Type}{bytes:Nat}{l m r:List α}(h:cc bytes l m=some r):(l.length+m.length)*bytes<=140737488355328/\r=l++m:=by unfold cc at h;split at h;rename_i a;exact⟨a,by simpa using h.symm⟩;cases h
theorem ajC{α:Type}{z:α}{bytes:Nat}{n:Int}{r:List α}(h:L2 z bytes n=some r):0<=n/\bytes*n.toNat<=140737488355328/\r=f_ n.toNat z:=by unfold L2 at h;split at h;rename_i a;exact⟨a.1,a.2,by simpa using h.symm⟩;cases h
theorem aa0{α:Type}{z:α}{bytes:Nat}{n:Int}{r:List α}(h:HP z bytes n=some r):0<n/\bytes*n.toNat<=140737488355328/\r=f_ n.toNat z:=by unfold HP at h;split at h;rename_i a;exact⟨a.1,a.2,by simpa using h.symm⟩;cases h
theorem Mn{b:Bool}{u:Unit}(h:BE b=some u):b=true:=by unfold BE at h;split at h;assumption;cases h
theorem aa3(n:Int):((xB n).toNat:Int)=n%256:=by unfold xB;have a:0<=n%256:=Int.emod_nonneg _ (by omega);have I:n%256<256:=Int.emod_lt_of_pos _ (by omega);simp only[UInt8.toNat_ofNat'];omega
def join{cj α:Type}(k:cj)(b:cj->Option α):Option α:=b k
section
variable{cj β:Type} [DecidableEq cj]
def e2:List (cj×β)->cj->Option β
 |[],_=>none
 |p::r,k=>if p.1=k then some p.2 else e2 r k
def la:List (cj×β)->cj->β->List (cj×β)
 |[],k,v=>[(k,v)]
 |p::r,k,v=>if p.1=k then(k,v)::r else p::la r k v
def l7:List (cj×β)->cj->Option Nat
 |[],_=>none
 |p::r,k=>if p.1=k then some 0 else(l7 r k).map (·+1)
end
inductive Way (ρ α:Type)
 |go (a:α)
 |out (r:ρ)
def cO{ρ α:Type}(x:Option (Way ρ α))(k:α->Option ρ):Option ρ:=match x with
 |none=>none
 |some (.go a)=>k a
 |some (.out r)=>some r
def c5{ρ α β:Type}(x:Option (Way ρ α))(k:α->Option (Way ρ β)):Option (Way ρ β):=match x with
 |none=>none
 |some (.go a)=>k a
 |some (.out r)=>some (.out r)
def Qt{ρ α:Type}(k:α->Option ρ):Way ρ α->Option ρ
 | .go a=>k a
 | .out r=>some r
theorem ana{ρ α:Type}{x:Option (Way ρ α)}{k:α->Option ρ}{r:ρ}(h:cO x k=some r):∃y,x=some y/\Qt k y=some r:=by
 cases x with
 |none=>cases h
 |some y=>cases y<;>exact⟨_,rfl,h⟩
@[simp] theorem y0 {ρ α:Type} (a:α) (k:α->Option ρ):cO (some (.go a)) k=k a:=rfl
@[simp] theorem arH {ρ α:Type} (r:ρ) (k:α->Option ρ):cO (some (.out r)) k=some r:=rfl
@[simp] theorem lh {ρ α β:Type} (a:α) (k:α->Option (Way ρ β)):c5 (some (.go a)) k=k a:=rfl
@[simp] theorem arG {ρ α β:Type} (r:ρ) (k:α->Option (Way ρ β)):c5 (some (.out r)) k=some (.out r):=rfl
end ad
namespace aw
open Go Go.RowKit
def dz:List (Nat×Value)->Nat->Option Value
 |[],_=>none
 |p::r,t=>match b2 p.1 t with
  |true=>some p.2
  |false=>dz r t
structure cm where
 n:Nat
 ds:List Deferred
instance:Coe cm Nat:=⟨cm.n⟩
structure Fr (n:cm) (l:List (Nat×Value)) (a:Act):Prop where
 size:a.tmps.size=n.n
 defers:a.defers=n.ds
 get:∀t v,dz l t=some v->a.tmps.getD t undef=v
theorem Fr.g{n:cm}{l:List (Nat×Value)}{a:Act}{t:Nat}{v:Value}(b:Fr n l a)(h:dz l t=some v):a.eval (.tmp t)=v:=b.get t v h
theorem Fr.put{n:cm}{d:Nat}{l:List (Nat×Value)}{a:Act}{v:Value}(b:Fr n l a)(aC:eh d n=true):Fr n ((d,v)::l) (a.put (some d) v):=by
 have c:d<n:=b_ aC;refine⟨by simpa[Act.put]using b.size,b.defers,λ t u h=>?_⟩;have ap:=b.size;simp only[dz]at h;cases ag:b2 d t with
 |true=>rw[ag]at h;simp only[aM]at h;have e:d=t:=a8 ag;subst e;subst h;simp[Act.put,ap,c]
 |false=>
  rw[ag]at h;have e:d≠t:=by intro e;subst e;simp at ag
  have:=b.get t u h;simp only[Act.put,df]at this⊢;rw[d_,lG e];exact this
def Cr(l:List (Nat×Value)):List (Nat×Value)->Prop
 |[]=>True
 |p::r=>dz l p.1=some p.2/\Cr l r
theorem ai_{l l':List (Nat×Value)}(h:Cr l l'):∀t v,dz l' t=some v->dz l t=some v:=by
 induction l' with
 |nil=>intro t v a;simp[dz]at a
 |cons p r b=>
  intro t v a;simp only[dz]at a;cases ag:b2 p.1 t with
  |true=>rw[ag]at a;have e:p.1=t:=a8 ag;simp only[aM]at a;rw[<-e,<-a];exact h.1
  |false=>rw[ag]at a;exact b h.2 t v a
theorem Fr.sub{n:cm}{l l':List (Nat×Value)}{a:Act}(b:Fr n l a)(h:Cr l l'):Fr n l' a:=⟨b.size,b.defers,λ t v c=>b.get t v (ai_ h t v c)⟩
def mH:Nat->List Value->List (Nat×Value)
 |_,[]=>[]
 |k,v::r=>(k,v)::mH (k+1) r
theorem ai9(vs:List Value):∀k t v,dz (mH k vs) t=some v->k<=t/\vs[t-k]? =some v:=by
 induction vs with
 |nil=>intro k t v h;simp[mH,dz]at h
 |cons u r a=>
  intro k t v h;simp only[mH,dz]at h;cases ag:b2 k t with
  |true=>rw[ag]at h;have e:k=t:=a8 ag;subst e;simpa using h
  |false=>
   rw[ag]at h;have e:k≠t:=by intro e;subst e;simp at ag
   obtain⟨I,J⟩:=a (k+1) t v h;refine⟨by omega,?_⟩;have:t-k=(t- (k+1))+1:=by omega
   rw[this];simpa using J
theorem Fr.init(vs:List Value)(n:Nat)(h:hR vs.length n=true):Fr ⟨n,[]⟩ (mH 0 vs) { tmps:=vs.toArray++Array.replicate (n-vs.toArray.size) undef,defers:=[] }:=by
 have c:vs.length<=n:=by simpa using h
 refine⟨by simp;omega,rfl,λ t v d=>?_⟩;obtain⟨_,J⟩:=ai9 vs 0 t v d;have a:t<vs.length:=by rcases gw t vs.length with h |h;exact h;rw[gM (by simpa using h)]at J;cases J
 have b:vs[t]? =some v:=by simpa using J
 rw[df];rw[bx a,aM]at b;simp[Array.getElem?_append,a,b]
theorem enter{P:Program}{f:FuncId}{fn:Func}{c:Code}{vs:List Value}{w:World}{R:Ending->World->Prop}{n:Nat}
 (b:P.funcs[f]? =some fn)(ag:fn.body=some c)(d:fn.ntmps=n)(e:hR vs.length n=true)
 (h:∀a,Fr ⟨n,[]⟩ (mH 0 vs) a->c.wp P (bodyPost P fn R) a w):Calls P f vs.toArray w R:=by
 refine calls_of_wp b ag ?_
 rw[d]
 exact h _ (Fr.init vs n e)
structure a1 (M:List Nat) (w w':World):Prop where
 os:w'.os=w.os
 tape:w'.tape=w.tape
 output:w'.output=w.output
 size:w.heap.size<=w'.heap.size
 block:∀k,k<w.heap.size->k∉M->w'.heap[k]? =w.heap[k]?
theorem a1.refl(M:List Nat)(w:World):a1 M w w:=⟨rfl,rfl,rfl,cS _,λ _ _ _=>rfl⟩
theorem a1.trans{M hV:List Nat}{a b c:World}(h:a1 M a b)(k:a1 hV b c)(f:∀x∈hV,x∈M\/a.heap.size<=x):a1 M a c:=⟨k.os.trans h.os,k.tape.trans h.tape,k.output.trans h.output,eY h.size k.size,λ i hi d=>(k.block i (dr hi h.size) (λ g=>by rcases f i g with e |e;exact d e;omega)).trans (h.block i hi d)⟩
theorem a1.drew(M:List Nat)(w:World):a1 M w w.drew:=⟨rfl,rfl,rfl,cS _,λ _ _ _=>rfl⟩
theorem a1.alloc(M:List Nat)(w:World)(o:Obj):a1 M w (w.alloc o):=⟨rfl,rfl,rfl,by simp,λ k a _=>Below.heap_alloc _ _ _ a⟩
theorem a1.set(w:World)(a:Addr)(u:Value):a1 [a.block] w (w.setCell a u):=⟨rfl,rfl,rfl,by simp[World.setCell],λ k _ b=>Below.heap_setCell _ _ _ _ (by simpa using b)⟩
theorem a1.mono{M hV:List Nat}{a b:World}(h:a1 M a b)(c:∀x∈M,x∈hV):a1 hV a b:=⟨h.os,h.tape,h.output,h.size,λ k d e=>h.block k d (λ f=>e (c k f))⟩
theorem a1.grown{w w':World}{row:Option Nat}(h:w.grownBy w' row):a1 row.toList w w':=⟨h.os,h.tape,h.output,h.size,λ k a b=>h.block k a (λ e=>b (by rw[<-e];simp))⟩
theorem a1.below{w w':World}(h:a1 [] w w'):Below w.heap.size w w':=⟨h.os,h.tape,h.output,h.size,λ k a=>h.block k a (by simp)⟩
structure aX where
 a_:List Nat
 ok:World->Prop
 law:∀w w',(∀k∈a_,w'.heap[k]? =w.heap[k]?)->ok w->ok w'
structure bh where
 ok:List Nat->World->Prop
 law:∀M hV w w',a1 M w w'->(∀k∈hV,k∈M\/w.heap.size<=k)->ok M w->ok hV w'
def bG(E:List aX):List Nat:=E.flatMap aX.a_
structure bd (W:World) (au X:List Nat) (w:World) (E:List aX) (D:List bh):Prop where
 bO:a1 au W w
 fI:∀k∈X,k<W.heap.size/\k∉au
 lt:∀k∈bG E,k<w.heap.size/\(k∈au\/W.heap.size<=k)
 ok:∀x∈E,x.ok w
 a6:(bG E).Nodup
 rd:∀y∈D,y.ok (X++bG E) w
section
variable{W w w':World}{au X:List Nat}{E:List aX}{D:List bh}
theorem bd.start(au X:List Nat)(w:World)(E:List aX)(D:List bh)(a:∀k∈X,k<w.heap.size/\k∉au)(b:∀k∈bG E,k<w.heap.size/\k∈au)(d:∀x∈E,x.ok w)(e:(bG E).Nodup)(f:∀y∈D,y.ok (X++bG E) w) :
 bd w au X w E D:=⟨a1.refl _ _,a,λ k c=>⟨(b k c).1,.inl (b k c).2⟩,d,e,f⟩
theorem bd.ez(h:bd W au X w E D)(b:a1 [] w w'):bd W au X w' E D:=
 ⟨h.bO.trans b (by simp),h.fI,λ k a=>⟨dr (h.lt k a).1 b.size,(h.lt k a).2⟩,
  λ x c=>x.law w w' (λ k a=>b.block k (h.lt k (hn.2 ⟨x,c,a⟩)).1 (by simp)) (h.ok x c),h.a6,
  λ y hy=>y.law (X++bG E) _ w w' (b.mono (by simp)) (λ k a=>.inl a) (h.rd y hy)⟩
theorem bd.drew(h:bd W au X w E D):bd W au X w.drew E D:=h.ez (a1.drew _ _)
theorem bd.push(h:bd W au X w E D)(x:aX)(f:a1 [] w w')(i:x.ok w')(c:∀k∈x.a_,w.heap.size<=k/\k<w'.heap.size)(j:x.a_.Nodup):bd W au X w' (x::E) D:=by
 have I:=h.ez f;refine⟨I.bO,h.fI,λ k d=>?_,λ y hy=>?_,?_,λ y hy=>?_⟩;rcases de.1 (by simpa[bG]using d:k∈x.a_++bG E)with e |e;exact⟨(c k e).2,.inr (eY h.bO.size (c k e).1)⟩;exact I.lt k e;rcases cU.1 hy with rfl |e;exact i;exact I.ok y e
 ·have:bG (x::E)=x.a_++bG E:=by simp[bG]
  rw[this,fL];refine⟨j,h.a6,λ a l b ag e=>?_⟩;subst e;have:=(c a l).1;have:=(h.lt a ag).1;omega
 ·refine y.law (X++bG E) _ w w' (f.mono (by simp)) (λ k d=>?_) (h.rd y hy);have g:k∈X++(x.a_++bG E):=by simpa[bG]using d
  simp only[de]at g;rcases g with e |e |e;exact .inl (by simp[e]);exact .inr (c k e).1;exact .inl (by simp[e])
theorem bd.drop(h:bd W au X w E D){b:List aX}(ap:List.Sublist b E):bd W au X w b D:=by
 have c:List.Sublist (bG b) (bG E):=by
  unfold bG;clear h;induction ap with
  |slnil=>simp
  |cons a _ d=>simpa using d.trans (List.sublist_append_right _ _)
  |cons_cons a _ d=>simpa using List.Sublist.append_left d a.a_
 exact⟨h.bO,h.fI,λ k f=>h.lt k (c.subset f),λ x g=>h.ok x (ap.subset g),h.a6.sublist c,
  λ y hy=>y.law (X++bG E) _ w w (a1.refl _ _) (λ k f=>.inl (by rcases de.1 f with e |e;exact de.2 (.inl e);exact de.2 (.inr (c.subset e)))) (h.rd y hy)⟩
theorem bd.rJ(h:bd W au X w E D){A B:List aX}{x d:aX}(v:E=A++x::B)(f:a1 x.a_ w w')(C:d.ok w')(F:d.a_.Nodup)
 (i:∀k∈d.a_,k∈x.a_\/(w.heap.size<=k/\k<w'.heap.size)):bd W au X w' (A++d::B) D:=by
 subst v
 have c:bG (A++x::B)=bG A++(x.a_++bG B):=by simp[bG]
 have al:bG (A++d::B)=bG A++(d.a_++bG B):=by simp[bG]
 have o:=h.a6
 rw[c,fL,fL]at o
 obtain⟨j,⟨G,l,p⟩,m⟩:=o
 have n:∀k∈x.a_,k<w.heap.size/\(k∈au\/W.heap.size<=k):=λ k ah=>h.lt k (by rw[c];simp[ah])
 refine⟨h.bO.trans f (λ k ah=>(n k ah).2),h.fI,λ k ah=>?_,λ y hy=>?_,?_,λ y hy=>?_⟩
 ·rw[al]at ah;simp only[de]at ah;rcases ah with ah |ah |ah;have:=h.lt k (by rw[c];simp[ah]);exact⟨dr this.1 f.size,this.2⟩;rcases i k ah with e |e;exact⟨dr (n k e).1 f.size,(n k e).2⟩;exact⟨e.2,.inr (eY h.bO.size e.1)⟩;have:=h.lt k (by rw[c];simp[ah]);exact⟨dr this.1 f.size,this.2⟩
 ·have q:∀z,z∈A\/z∈B->z.ok w':=λ z r=>by
   have s:z∈A++x::B:=by rcases r with e |e<;>simp[e]
   refine z.law w w' (λ k ah=>f.block k (h.lt k (hn.2 ⟨z,s,ah⟩)).1 (λ t=>?_)) (h.ok z s);rcases r with e |e
   ·exact m k (hn.2 ⟨z,e,ah⟩) k (by simp[t]) rfl
   ·exact p k t k (hn.2 ⟨z,e,ah⟩) rfl
  simp only[de,cU]at hy;rcases hy with hy |rfl |hy
  ·exact q y (.inl hy)
  ·exact C
  ·exact q y (.inr hy)
 ·rw[al,fL,fL];have u:∀k∈d.a_,∀b,(b∈bG A\/b∈bG B)->k≠b:=λ k ah b ag e=>by subst e;rcases i k ah with e |e;rcases ag with ag |ag;exact m k ag k (by simp[e]) rfl;exact p k e k ag rfl;have:=(h.lt k (by rw[c];rcases ag with ag |ag<;>simp[ag])).1;omega
  exact⟨j,⟨F,l,λ a g b ag=>u a g b (.inr ag)⟩,λ a g b ag=>by
   rcases de.1 ag with ag |ag;exact λ e=>u b ag a (.inl g) e.symm
   ·exact m a g b (by simp[ag])⟩
 ·refine y.law (X++bG (A++x::B)) _ w w' (f.mono (λ k ah=>by rw[c];simp[ah])) (λ k ah=>?_) (h.rd y hy);rw[al]at ah;simp only[de]at ah;rcases ah with ah |ah |ah |ah;exact .inl (by simp[ah]);exact .inl (by rw[c];simp[ah]);rcases i k ah with e |e;exact .inl (by rw[c];simp[e]);exact .inr e.1;exact .inl (by rw[c];simp[ah])
theorem bd.more(h:bd W au X w E D){y:bh}(hy:y.ok (X++bG E) w):bd W au X w E (y::D):=⟨h.bO,h.fI,h.lt,h.ok,h.a6,λ z a=>by rcases cU.1 a with rfl |e;exact hy;exact h.rd z e⟩
theorem bd.less(h:bd W au X w E D){a:List bh}(ap:∀y∈a,y∈D):bd W au X w E a:=⟨h.bO,h.fI,h.lt,h.ok,h.a6,λ y hy=>h.rd y (ap y hy)⟩
theorem bd.e(h:bd W au X w E D)(i:Nat){x:aX}(hi:E[i]? =some x):x.ok w:=h.ok x (bR hi)
theorem bd.d(h:bd W au X w E D)(i:Nat){y:bh}(hi:D[i]? =some y):y.ok (X++bG E) w:=h.rd y (bR hi)
theorem bh.less{y:bh}{M hV:List Nat}(h:y.ok M w)(a:∀k∈hV,k∈M):y.ok hV w:=y.law M hV w w (a1.refl _ _) (λ k b=>.inl (a k b)) h
theorem bd.GA(h:bd W au X w E D)(i:Nat){x a:aX}(hi:E[i]? =some x)(b:a1 x.a_ w w')(c:a.ok w')(d:a.a_.Nodup)
 (e:∀k∈a.a_,k∈x.a_\/(w.heap.size<=k/\k<w'.heap.size)):bd W au X w' (E.set i a) D:=by
 obtain⟨f,rfl⟩:=bg.1 hi
 have g:E=E.take i++E[i]::E.drop (i+1):=by simp
 have:=h.rJ g b c d e
 rwa [List.set_eq_take_append_cons_drop,lH f]
end
open Go Go.RowKit ad
abbrev bW(l:List UInt8):Value:=.string ⟨⟨l⟩⟩
structure cR (α:Type) where
 size:Nat
 rd:(Nat->Prop)->World->List Value->α->Prop
 len:∀ {F w cs d},rd F w cs d->cs.length=size
 one:∀ {F w cs d},rd F w cs d->∀v∈cs,v.oneCell'=true
 law:∀ {F F' w w' cs d},(∀k,F k->F' k/\w'.heap[k]? =w.heap[k]?)->rd F w cs d->rd F' w' cs d
def gT(M:List Nat)(w:World):Nat->Prop:=λ k=>k∉M/\k<w.heap.size
def bh.of{α:Type}(T:cR α)(cs:List Value)(d:α):bh where
 ok M w:=T.rd (gT M w) w cs d
 law M hV w w' b c h:=T.law (λ k a=>⟨⟨λ f=>by rcases c k f with e |e;exact a.1 e;exact absurd a.2 (by omega),dr a.2 b.size⟩,b.block k a.2 a.1⟩) h
def eT(k:IntKind):cR Int where
 size:=1
 rd _ _ cs d:=cs=[.int k d]
 len h:=by subst h;rfl
 one h v a:=by subst h;simp at a;subst a;rfl
 law _ h:=h
def GB:cR UInt8 where
 size:=1
 rd _ _ cs d:=cs=[.int .u8 (d.toNat:Int)]
 len h:=by subst h;rfl
 one h v a:=by subst h;simp at a;subst a;rfl
 law _ h:=h
def anC:cR Bool where
 size:=1
 rd _ _ cs d:=cs=[.bool d]
 len h:=by subst h;rfl
 one h v a:=by subst h;simp at a;subst a;rfl
 law _ h:=h
def hN:cR (List UInt8) where
 size:=1
 rd _ _ cs d:=cs=[bW d]
 len h:=by subst h;rfl
 one h v a:=by subst h;simp at a;subst a;rfl
 law _ h:=h
section
variable{α:Type}(T:cR α)
def c'(F:Nat->Prop)(w:World):List Value->List α->Prop
 |xs,[]=>xs=[]
 |xs,d::r=>∃cs ys,xs=cs++ys/\T.rd F w cs d/\c' F w ys r
theorem oo{F:Nat->Prop}{w:World}:∀ {l:List α}{xs:List Value},c' T F w xs l->xs.length=l.length*T.size
 |[],xs,h=>by simp only[c']at h;subst h;simp
 |d::r,xs,h=>by obtain⟨cs,ys,rfl,I,J⟩:=h;rw[fz,T.len I,oo J,dp,iW];omega
theorem wL{F:Nat->Prop}{w:World}:∀ {l:List α}{xs:List Value},c' T F w xs l->∀v∈xs,v.oneCell'=true
 |[],xs,h=>by simp only[c']at h;subst h;simp
 |d::r,xs,h=>by obtain⟨cs,ys,rfl,I,J⟩:=h;intro v a;rcases de.1 a with e |e;exact T.one I v e;exact wL J v e
theorem kz{F F':Nat->Prop}{w w':World}(a:∀k,F k->F' k/\w'.heap[k]? =w.heap[k]?):∀ {l:List α}{xs:List Value},c' T F w xs l->c' T F' w' xs l
 |[],xs,h=>h
 |d::r,xs,h=>by obtain⟨cs,ys,rfl,I,J⟩:=h;exact⟨cs,ys,rfl,T.law a I,kz a J⟩
theorem VX{F:Nat->Prop}{w:World}{d:α}{cs:List Value}(aC:T.rd F w cs d):∀ {l:List α}{xs:List Value},c' T F w xs l->c' T F w (xs++cs) (l++[d])
 |[],xs,h=>by simp only[c']at h;subst h;exact⟨cs,[],by simp,aC,rfl⟩
 |e::r,xs,h=>by obtain⟨c,ys,rfl,I,J⟩:=h;exact⟨c,ys++cs,by simp,I,VX aC J⟩
theorem B0{F:Nat->Prop}{w:World}{l':List α}{a:List Value}(h':c' T F w a l'):∀ {l:List α}{xs:List Value},c' T F w xs l->c' T F w (xs++a) (l++l')
 |[],xs,h=>by simp only[c']at h;subst h;simpa using h'
 |e::r,xs,h=>by obtain⟨c,ys,rfl,I,J⟩:=h;exact⟨c,ys++a,by simp,I,B0 h' J⟩
theorem yR{F:Nat->Prop}{w:World}:∀ {l:List α}{xs:List Value}{i:Nat}{d:α},c' T F w xs l->l[i]? =some d ->
 ∃cs,T.rd F w cs d/\∀j u,cs[j]? =some u->xs[i*T.size+j]? =some u
 |[],_,i,d,_,hi=>by simp at hi
 |e::r,xs,0,d,h,hi=>by
  obtain⟨cs,ys,rfl,I,_⟩:=h;simp only[dm,aM]at hi;subst hi;refine⟨cs,I,λ j u a=>?_⟩;have f:j<cs.length:=by rcases gw j cs.length with h |h;exact h;rw[gM h]at a;cases a
  simpa[lq,f]using a
 |e::r,xs,i+1,d,h,hi=>by
  obtain⟨cs,ys,rfl,I,J⟩:=h;obtain⟨c,hc,a⟩:=yR (i:=i) J (by simpa using hi);refine⟨c,hc,λ j u g=>?_⟩;have b:=T.len I;have k:(i+1)*T.size+j=cs.length+(i*T.size+j):=by rw[iW];omega
  rw[k,eW (by omega)];simpa using a j u g
def ev(w:World)(a:Addr)(xs:List Value):Prop:=∀j u,xs[j]? =some u->w.cell? ⟨a.block,a.off+j,none⟩=some u
theorem ev.law{w w':World}{a:Addr}{xs:List Value}(h:ev w a xs)(ag:w'.heap[a.block]? =w.heap[a.block]?):ev w' a xs:=λ j u b=>(World.cell?_of_block (a:=⟨a.block,a.off+j,none⟩) ag).trans (h j u b)
def dh(A:Option Addr):Nat:=(A.getD ⟨0,0,none⟩).block
def fA(A:Option Addr):Nat:=(A.getD ⟨0,0,none⟩).off
def bX:cR (List α) where
 size:=1
 rd F w cs l:=∃A c,cs=[.slice A l.length c]/\l.length<=c/\c<=maxLen/\(A=none->c=0)/\
  (l≠[]->A=some ⟨dh A,fA A,none⟩/\F (dh A)/\∃xs,c' T F w xs l/\ev w ⟨dh A,fA A,none⟩ xs)
 len h:=by obtain⟨A,c,rfl,_⟩:=h;rfl
 one h v b:=by obtain⟨A,c,rfl,_⟩:=h;simp at b;subst b;rfl
 law a h:=by obtain⟨A,c,I,d,e,f,g⟩:=h;refine⟨A,c,I,d,e,f,λ i=>?_⟩;obtain⟨j,al,xs,aN,bI⟩:=g i;exact⟨j,(a _ al).1,xs,kz T a aN,bI.law (a _ al).2⟩
theorem jU{F:Nat->Prop}{w:World}{v:Value}{l:List α}(h:(bX T).rd F w [v] l):∃A c,v= .slice A l.length c:=by obtain⟨A,c,I,_⟩:=h;exact⟨A,c,by simpa using I⟩
theorem wO{F:Nat->Prop}{w:World}{A:Option Addr}{n c:Nat}{l:List α}{i:Int}{d:α}(h:(bX T).rd F w [.slice A n c] l)(hi:idx l i=some d) :
 A=some ⟨dh A,fA A,none⟩/\(0<=i/\i<n)/\∃cs,T.rd F w cs d/\ev w ⟨dh A,fA A+i.toNat*T.size,none⟩ cs:=by
 obtain⟨b,I,J⟩:=il hi
 obtain⟨p,q,a,aN,bI,b',eD⟩:=h
 simp only[hH,Value.slice.injEq,and_true]at a
 obtain⟨rfl,rfl,rfl⟩:=a
 obtain⟨e,r,xs,f,g⟩:=eD (λ k=>by rw[k]at I;simp at I)
 obtain⟨cs,hc,m⟩:=yR T f J
 refine⟨e,⟨b,by omega⟩,cs,hc,λ j u o=>?_⟩
 have:=g (i.toNat*T.size+j) u (m j u o)
 simpa[jo]using this
end
def aX.dl(g:Nat)(t:TypeId)(cs:List Value):aX where
 a_:=[g]
 ok w:=w.heap[g]? =some (.cells cs.toArray t (0,0))
 law w w' h a:=(h g (by simp)).trans a
def aX.row{α:Type}(e:TypeId)(size:Nat)(v:Value)(l:List α)(xs:List Value):aX where
 a_:=v.ownBlock.toList
 ok w:=w.ownsRow 0 e size v l.length xs
 law w w' h b:=by refine⟨b.1,?_⟩;rcases b.2 with c |⟨g,cap,cur,rfl,ag,d,a⟩;exact .inl c;exact .inr ⟨g,cap,cur,rfl,ag,(h g (by simp[Value.ownBlock])).trans d,a⟩
def bh.rows{α:Type}(T:cR α)(xs:List Value)(l:List α):bh where
 ok M w:=c' T (gT M w) w xs l
 law M hV w w' b c h:=kz T (λ k a=>⟨⟨λ d=>by rcases c k d with e |e;exact a.1 e;exact absurd a.2 (by omega),dr a.2 b.size⟩,b.block k a.2 a.1⟩) h
theorem Gk{α:Type}{w:World}{e:TypeId}{size:Nat}{v:Value}{l:List α}{xs:List Value}(h:(aX.row e size v l xs).ok w):∃A c,v= .slice A l.length c/\l.length<=c/\c<=maxLen/\(A=none->c=0)/\(A≠none->A=some ⟨dh A,0,none⟩):=by have h':w.ownsRow 0 e size v l.length xs:=h;rcases h'.2 with⟨rfl,a⟩|⟨g,cap,cur,rfl,_,_,I,J,_⟩;exact⟨none,0,by rw[a],by omega,g_ _,λ _=>rfl,λ h=>absurd rfl h⟩;exact⟨some ⟨g,0,none⟩,cap,rfl,I,J,(λ h=>by cases h),λ _=>rfl⟩
theorem amL{α:Type}{T:cR α}{M:List Nat}{w:World}{e:TypeId}{A:Option Addr}{n c:Nat}{l:List α}{xs:List Value}(h:(aX.row e T.size (.slice A n c) l xs).ok w)(d:(bh.rows T xs l).ok M w)
 (f:∀k∈(Value.slice A n c).ownBlock.toList,k∉M):(bh.of (bX T) [.slice A n c] l).ok M w:=by
 have h':w.ownsRow 0 e T.size (.slice A n c) l.length xs:=h
 have i:c' T (gT M w) w xs l:=d
 show(bX T).rd (gT M w) w _ l
 rcases h'.2 with⟨I,m⟩|⟨g,cap,cur,I,_,o,a,p,ap,s⟩
 ·have q:l=[]:=g9 m;simp only[Value.slice.injEq]at I;obtain⟨rfl,rfl,rfl⟩:=I;subst q;exact⟨none,0,rfl,by simp,g_ _,λ _=>rfl,λ h=>absurd rfl h⟩
 ·simp only[Value.slice.injEq]at I;obtain⟨rfl,rfl,rfl⟩:=I;refine⟨_,_,rfl,a,p,(λ h=>by cases h),λ _=>⟨rfl,⟨f g (by simp[Value.ownBlock]),(ee.1 o).1⟩,xs,i,λ j u r=>?_⟩⟩;have b:=h'.cells (g:=g) rfl j u r
  simpa[Addr.add,dh,fA]using(by
   have e:(⟨g,0,none⟩:Addr).add j=⟨g,0+j,none⟩:=by unfold Addr.add;split<;>simp_all
   rw[e]at b;exact b:w.cell? ⟨g,0+j,none⟩=some u)
theorem sk{w:World}{g:Nat}{t:TypeId}{cs:List Value}(h:(aX.dl g t cs).ok w){j:Nat}{v:Value}(a:cs[j]? =some v):w.cell? ⟨g,j,none⟩=some v:=by have h':w.heap[g]? =some (.cells cs.toArray t (0,0)):=h;simp[World.cell?,h',a]
theorem zU{w:World}{g:Nat}{t:TypeId}{cs:List Value}(h:(aX.dl g t cs).ok w):g<w.heap.size:=by have h':w.heap[g]? =some (.cells cs.toArray t (0,0)):=h;exact(ee.1 h').1
theorem aa8(w:World)(t:TypeId)(cs:List Value):(aX.dl w.heap.size t cs).ok (w.alloc (.cells cs.toArray t)):=heap_alloc_new w _
def bh.hB(g:Nat)(cs:List Value):bh where
 ok M w:=g∉M/\g<w.heap.size/\ev w ⟨g,0,none⟩ cs
 law M hV w w' a b h:=⟨λ c=>by rcases b g c with e |e;exact h.1 e;exact absurd h.2.1 (by omega),dr h.2.1 a.size,h.2.2.law (a.block g h.2.1 h.1)⟩
theorem nk{α:Type}{T:cR α}{F:Nat->Prop}{w:World}{cs:List Value}{l:List α}(h:(bX T).rd F w cs l):∃A c,cs=[.slice A l.length c]:=by obtain⟨A,c,I,_⟩:=h;exact⟨A,c,I⟩
theorem amK{α:Type}{T:cR α}{M:List Nat}{w:World}{e:TypeId}{A:Option Addr}{n c:Nat}{l:List α}{xs:List Value}{i:Int}{d:α}(h:(aX.row e T.size (.slice A n c) l xs).ok w)(f:(bh.rows T xs l).ok M w)(hi:idx l i=some d) :
 A=some ⟨dh A,fA A,none⟩/\(0<=i/\i<n)/\∃cs,T.rd (gT M w) w cs d/\ev w ⟨dh A,fA A+i.toNat*T.size,none⟩ cs:=by
 obtain⟨k,I,J⟩:=il hi
 have h':w.ownsRow 0 e T.size (.slice A n c) l.length xs:=h
 have m:c' T (gT M w) w xs l:=f
 rcases h'.2 with⟨a,q⟩|⟨g,cap,cur,a,_,r,_⟩
 ·omega
 ·simp only[Value.slice.injEq]at a;obtain⟨rfl,rfl,rfl⟩:=a;obtain⟨cs,hc,o⟩:=yR T m J;refine⟨rfl,⟨k,by omega⟩,cs,hc,λ j u p=>?_⟩;have b:=h'.cells (g:=g) rfl _ u (o j u p);have al:(⟨g,0,none⟩:Addr).add (i.toNat*T.size+j)=⟨g,0+(i.toNat*T.size+j),none⟩:=by unfold Addr.add;split<;>simp_all
  rw[al]at b;show w.cell? ⟨g,0+i.toNat*T.size+j,none⟩=some u
  rw[jo];exact b
theorem Uu(p q:List UInt8):(p==q)=decide (p=q):=by rw[io];simp
section
variable{P:Program}{o:Oper}{a:Act}{w:World}
abbrev aS(P:Program)(o:Oper)(a:Act)(w:World)(v:Value)(w':World):Prop:=(execOp a.eval o).run P w= .ok (.value v) w'
abbrev nF(P:Program)(o:Oper)(a:Act)(w:World)(w':World):Prop:=(execOp a.eval o).run P w= .ok .skip w'
theorem Hj{x:Operand}{v:Value}(b:o.op= .move x)(c:a.eval x=v):aS P o a w v w:=by simp only[aS,execOp,b,c];rfl
theorem Hf{x:Operand}{v:Value}(b:o.op= .assign x)(c:a.eval x=v):aS P o a w v w:=by simp only[aS,execOp,b,c];rfl
theorem Hl{c x y:Operand}{v:Value}(b:o.op= .pick c x y)(hc:a.eval c= .bool true)(d:a.eval x=v):aS P o a w v w:=by simp only[aS,execOp,b,hc,d];rfl
theorem Hk{c x y:Operand}{v:Value}(b:o.op= .pick c x y)(hc:a.eval c= .bool false)(hy:a.eval y=v):aS P o a w v w:=by simp only[aS,execOp,b,hc,hy];rfl
section
variable{x y:Operand}{t t':TypeId}{k:IntKind}{m n:Int}
theorem ap4(b:o.op= .binOp .add t x y t')(c:a.eval x= .int k m)(hy:a.eval y= .int k n):aS P o a w (.int k (k.wrap (m+n))) w:=by simp only[aS,execOp,b,c,hy];simp[go_sem]
theorem aqB(b:o.op= .binOp .sub t x y t')(c:a.eval x= .int k m)(hy:a.eval y= .int k n):aS P o a w (.int k (k.wrap (m-n))) w:=by simp only[aS,execOp,b,c,hy];simp[go_sem]
theorem aqp(b:o.op= .binOp .mul t x y t')(c:a.eval x= .int k m)(hy:a.eval y= .int k n):aS P o a w (.int k (k.wrap (m*n))) w:=by simp only[aS,execOp,b,c,hy];simp[go_sem]
theorem aqy(b:o.op= .binOp .quo t x y t')(c:a.eval x= .int k m)(hy:a.eval y= .int k n)(d:n≠0):aS P o a w (.int k (k.wrap (m.tdiv n))) w:=by simp only[aS,execOp,b,c,hy];simp[go_sem,d]
theorem aqn(b:o.op= .binOp .lss t x y t')(c:a.eval x= .int k m)(hy:a.eval y= .int k n):aS P o a w (.bool (decide (m<n))) w:=by simp only[aS,execOp,b,c,hy];simp[go_sem]
theorem aqm(b:o.op= .binOp .leq t x y t')(c:a.eval x= .int k m)(hy:a.eval y= .int k n):aS P o a w (.bool (decide (m<=n))) w:=by simp only[aS,execOp,b,c,hy];simp[go_sem]
theorem aqh(b:o.op= .binOp .gtr t x y t')(c:a.eval x= .int k m)(hy:a.eval y= .int k n):aS P o a w (.bool (decide (n<m))) w:=by simp only[aS,execOp,b,c,hy];simp[go_sem]
theorem aqg(b:o.op= .binOp .geq t x y t')(c:a.eval x= .int k m)(hy:a.eval y= .int k n):aS P o a w (.bool (decide (n<=m))) w:=by simp only[aS,execOp,b,c,hy];simp[go_sem]
theorem aqe(b:P.underlying t=some (.int k))(c:o.op= .binOp .eql t x y t')(d:a.eval x= .int k m)(hy:a.eval y= .int k n):aS P o a w (.bool (decide (m=n))) w:=by have:=run_underlying (P:=P) b;simp only[aS,execOp,c,d,hy];simp[go_sem,this];rfl
theorem aqs(b:P.underlying t=some (.int k))(c:o.op= .binOp .neq t x y t')(d:a.eval x= .int k m)(hy:a.eval y= .int k n):aS P o a w (.bool (!decide (m=n))) w:=by have:=run_underlying (P:=P) b;simp only[aS,execOp,c,d,hy];simp[go_sem,this];rfl
end
section
variable{x y:Operand}{t t':TypeId}{p q:Bool}
theorem amZ(b:P.underlying t=some .bool)(p q:Bool)(w:World):(binOp .eql t (.bool p) (.bool q)).run P w= .ok (.bool (p==q)) w:=by
 have h:∀d:Nat,(Op.equalIn (d+1) t (.bool p) (.bool q)).run P w= .ok (p==q) w:=λ d=>by simp[Op.equalIn,run_underlying b]
 simp only[binOp];simp[Op.equal,Op.maxDepth,h 9999]
theorem am0(b:P.underlying t=some .bool)(p q:Bool)(w:World):(binOp .neq t (.bool p) (.bool q)).run P w= .ok (.bool (!(p==q))) w:=by
 have h:∀d:Nat,(Op.equalIn (d+1) t (.bool p) (.bool q)).run P w= .ok (p==q) w:=λ d=>by simp[Op.equalIn,run_underlying b]
 simp only[binOp];simp[Op.equal,Op.maxDepth,h 9999]
theorem aqd(b:P.underlying t=some .bool)(c:o.op= .binOp .eql t x y t')(d:a.eval x= .bool p)(hy:a.eval y= .bool q):aS P o a w (.bool (p==q)) w:=by simp only[aS,execOp,c,d,hy];simp[go_sem,amZ b]
theorem aqr(b:P.underlying t=some .bool)(c:o.op= .binOp .neq t x y t')(d:a.eval x= .bool p)(hy:a.eval y= .bool q):aS P o a w (.bool (!(p==q))) w:=by simp only[aS,execOp,c,d,hy];simp[go_sem,am0 b]
theorem X7(b:o.op= .unOp .not t x)(c:a.eval x= .bool p):aS P o a w (.bool (!p)) w:=by simp only[aS,execOp,b,c];simp[go_sem]
end
section
variable{x y:Operand}{t t':TypeId}{p q:List UInt8}
theorem aqf(b:P.underlying t=some .string)(c:o.op= .binOp .eql t x y t')(d:a.eval x=bW p)(hy:a.eval y=bW q):aS P o a w (.bool (decide (p=q))) w:=by have:=run_underlying (P:=P) b;simp only[aS,execOp,c,d,hy];simp[go_sem,this];exact Uu p q
theorem aqt(b:P.underlying t=some .string)(c:o.op= .binOp .neq t x y t')(d:a.eval x=bW p)(hy:a.eval y=bW q):aS P o a w (.bool (!decide (p=q))) w:=by have:=run_underlying (P:=P) b;simp only[aS,execOp,c,d,hy];simp[go_sem,this];exact Uu p q
theorem X3{b:TypeId}(c:P.underlying b=some .string)(d:o.op= .call { callee:=.builtin .len,args:=#[x],argTypes:=#[b] })(e:a.eval x=bW p):aS P o a w (.int .i64 p.length) w:=by simp only[aS,execOp,d,resolve,invoke,gg,eZ,h6,e];simp[go_sem,Builtin.len_,run_underlying c,goInt]
theorem X2{b:TypeId}{A:Option Addr}{n c:Nat}{e:TypeId}(d:P.underlying b=some (.slice e))(f:o.op= .call { callee:=.builtin .len,args:=#[x],argTypes:=#[b] })(g:a.eval x= .slice A n c):aS P o a w (.int .i64 n) w:=by simp only[aS,execOp,f,resolve,invoke,gg,eZ,h6,g];simp[go_sem,Builtin.len_,run_underlying d,goInt]
theorem aqk{i:Nat}{b:UInt8}(c:P.underlying t=some .string)(d:o.op= .index t x y)(f:a.eval x=bW p)(hy:a.eval y= .int .i64 i)(ag:p[i]? =some b):aS P o a w (.int .u8 b.toNat) w:=by
 simp only[aS,execOp,d,f,hy];obtain⟨I,J⟩:=bg.1 ag;have e:(⟨⟨p⟩⟩:ByteArray)[i]? =some b:=by
  show(if h:i<_ then some _ else none)=_
  rw[dif_pos (show i<(⟨⟨p⟩⟩:ByteArray).size from I)];exact congrArg some J
 simp[go_sem,Instr.index,run_underlying c,e]
theorem O8{k k':IntKind}{n:Int}(b:P.underlying t=some (.int k))(c:P.underlying t'=some (.int k'))(d:o.op= .convert t t' x)(e:a.eval x= .int k n):aS P o a w (.int k' (k'.wrap n)) w:=by simp only[aS,execOp,d,e];simp[go_sem,convert,run_underlying b,run_underlying c]
end
end
theorem pR(n:Int):IntKind.i64.wrap n=bj n:=by rw[IntKind.wrap_i64];rfl
theorem WJ(n:Int):IntKind.u8.wrap n=((xB n).toNat:Int):=by rw[aa3,IntKind.wrap_u8]
section
variable{P:Program}{o:Oper}{a:Act}{w:World}{x y:Operand}{t t':TypeId}{m n:Int}
theorem ap5(b:o.op= .binOp .add t x y t')(c:a.eval x= .int .i64 m)(hy:a.eval y= .int .i64 n):aS P o a w (.int .i64 (bj (m+n))) w:=by rw[<-pR];exact ap4 b c hy
theorem aqC(b:o.op= .binOp .sub t x y t')(c:a.eval x= .int .i64 m)(hy:a.eval y= .int .i64 n):aS P o a w (.int .i64 (bj (m-n))) w:=by rw[<-pR];exact aqB b c hy
theorem aqq(b:o.op= .binOp .mul t x y t')(c:a.eval x= .int .i64 m)(hy:a.eval y= .int .i64 n):aS P o a w (.int .i64 (bj (m*n))) w:=by rw[<-pR];exact aqp b c hy
theorem X9(c:o.op= .binOp .rem t x y t')(d:a.eval x= .int .i64 m)(hy:a.eval y= .int .i64 n)(b:(!decide (n=0))=true):aS P o a w (.int .i64 (m.tmod n)) w:=by
 have b:n≠0:=by simpa using b
 simp only[aS,execOp,c,d,hy];simp[go_sem,b]
theorem X8(b:o.op= .binOp .quo t x y t')(c:a.eval x= .int .i64 m)(hy:a.eval y= .int .i64 n)(d:(!decide (n=0))=true):aS P o a w (.int .i64 (bj (m.tdiv n))) w:=by rw[<-pR];exact aqy b c hy (by simpa using d)
theorem ap_(b:P.underlying t=some (.int .i64))(c:P.underlying t'=some (.int .i64))(d:o.op= .convert t t' x)(e:a.eval x= .int .i64 m):aS P o a w (.int .i64 (bj m)) w:=by have h:=O8 (P:=P) (w:=w) b c d e;rwa [pR]at h
theorem ap'(b:P.underlying t=some (.int .i64))(c:P.underlying t'=some (.int .u8))(d:o.op= .convert t t' x)(e:a.eval x= .int .i64 m):aS P o a w (.int .u8 ((xB m).toNat:Int)) w:=by have h:=O8 (P:=P) (w:=w) b c d e;rwa [WJ]at h
theorem DT(a:Act)(v:Value):a.eval (.const v)=v:=rfl
theorem Rn(a:Act)(g:Nat):a.eval (.global g)= .pointer (some ⟨g,0,none⟩):=rfl
theorem C7{vs:List Value}{i:Nat}{v:Value}(b:o.op= .extract x i)(c:a.eval x= .tuple vs.toArray)(d:vs[i]? =some v):aS P o a w v w:=by simp only[aS,execOp,b,c];simp[go_sem,Instr.extract,d]
theorem X6{p:Addr}(b:o.op= .nilCheck x)(c:a.eval x= .pointer (some p)):aS P o a w (.pointer (some p)) w:=by simp only[aS,execOp,b,c];rfl
end
theorem iF(b o n:Nat):(⟨b,o,none⟩:Addr).add n=⟨b,o+n,none⟩:=by unfold Addr.add;split<;>simp_all
section
variable{P:Program}{o:Oper}{a:Act}{w:World}{x y:Operand}{t e s:TypeId}
theorem aql{i:Int}{b:UInt8}{p:List UInt8}(c:P.underlying t=some .string)(d:o.op= .index t x y)(f:a.eval x=bW p)(hy:a.eval y= .int .i64 i)(ag:idx p i=some b):aS P o a w (.int .u8 b.toNat) w:=by obtain⟨g,I,J⟩:=il ag;obtain⟨n,rfl⟩:=jQ g;exact aqk c d f hy (by simpa using J)
theorem nu{A:Option Addr}{n c sz:Nat}{i:Int}(d:P.underlying t=some (.slice e))(ap:∀w,(Go.sizeOf e).run P w= .ok sz w)
 (f:o.op= .indexAddr t x y)(b:a.eval x= .slice A n c)(hy:a.eval y= .int .i64 i)(g:A=some ⟨dh A,fA A,none⟩)(hi:0<=i/\i<n) :
 aS P o a w (.pointer (some ⟨dh A,fA A+i.toNat*sz,none⟩)) w:=by
 obtain⟨h,I⟩:=hi
 obtain⟨k,rfl⟩:=jQ h
 have j:k<n:=by omega
 rw[g]at b
 simp only[aS,execOp,f,b,hy]
 simp[go_sem,Instr.indexAt,run_underlying d,j,ap,iF]
theorem X0{b3:Array Field}{f:Field}{j b p sz:Nat}(c:P.underlying s=some (.struct b3))(d:b3[j]? =some f)(ap:∀w,(Go.sizeOf f.type).run P w= .ok sz w)(g:b2 sz 0=false)
 (h:o.op= .fieldAddr s x j)(i:a.eval x= .pointer (some ⟨b,p,none⟩)):aS P o a w (.pointer (some ⟨b,p+f.offset,none⟩)) w:=by
 have k:sz≠0:=by intro e;subst e;simp at g
 simp only[aS,execOp,h,i]
 simp[go_sem,Instr.fieldAt,run_underlying c,d,fieldPlace,ap,k,iF]
theorem O9{b p:Nat}{v:Value}(c:∀w,(isAgg t).run P w= .ok false w)(d:o.op= .load t x)(f:a.eval x= .pointer (some ⟨b,p,none⟩))(hc:w.cell? ⟨b,p,none⟩=some v):aS P o a w v w:=by simp only[aS,execOp,d,f];simp[go_sem,Instr.loadAt,loadVar,c,hc]
theorem X4{b p sz:Nat}{cs:List Value}(c:∀w,(isAgg t).run P w= .ok true w)(ap:∀w,(Go.sizeOf t).run P w= .ok sz w)(d:cs.length=sz)(f:o.op= .load t x)
 (g:a.eval x= .pointer (some ⟨b,p,none⟩))(hc:ev w ⟨b,p,none⟩ cs):aS P o a w (.agg cs.toArray) w:=by
 have h:=run_loadCells_list (P:=P) w ⟨b,p,none⟩ cs (λ j u i=>by rw[iF];exact hc j u i)
 rw[d]at h
 unfold loadCells at h
 simp only[aS,execOp,f,g]
 simp[go_sem,Instr.loadAt,loadVar,c,ap,h]
theorem Hg{v:Value}{cs:List Value}(c:v.cells=cs.toArray)(d:o.op= .box t x)(f:a.eval x=v):aS P o a w (.pointer (some ⟨w.heap.size,0,none⟩)) (w.alloc (.cells cs.toArray t)):=by have b:=c;unfold Value.cells at b;simp only[aS,execOp,d,f];simp[go_sem,Instr.box,newVar,newRow,b]
theorem rV{z:Value}{cs:List Value}(c:∀w,(zeroValue t).run P w= .ok z w)(d:z.cells=cs.toArray)(f:o.op= .alloc t):aS P o a w (.pointer (some ⟨w.heap.size,0,none⟩)) (w.alloc (.cells cs.toArray t)):=by have b:=d;unfold Value.cells at b;simp only[aS,execOp,f];simp[go_sem,Instr.alloc,newVar,newRow,c,b]
end
def lay:List Value->Nat->List Value->List Value
 |l,0,cs=>cs++l.drop cs.length
 |[],_+1,_=>[]
 |u::l,n+1,cs=>u::lay l n cs
theorem LG:∀(l:List Value)(n:Nat)(cs:List Value),n+cs.length<=l.length->lay l n cs=l.take n++cs++l.drop (n+cs.length)
 |l,0,cs,_=>by simp[lay]
 |[],n+1,cs,h=>by simp at h
 |u::l,n+1,cs,h=>by
  have:=LG l n cs (by simp at h;omega);simp only[lay,this,jn,iQ];have e:n+1+cs.length=(n+cs.length)+1:=by omega
  rw[e,List.drop_succ_cons]
section
variable{P:Program}{o:Oper}{a:Act}{w:World}{x y:Operand}{t e s:TypeId}
theorem O_{g p sz:Nat}{tb:TypeId}{cs vs:List Value}{v:Value}(j:v.cells=vs.toArray)(ap:∀w,(Go.sizeOf t).run P w= .ok sz w)(l:b2 vs.length sz=true)(I:vs.all (·.oneCell')=true)
 (c:hR (p+vs.length) cs.length=true)(ag:(aX.dl g tb cs).ok w)(m:o.op= .store t x y)(n:a.eval x= .pointer (some ⟨g,p,none⟩))(hy:a.eval y=v) :
 ∃w',nF P o a w w'/\a1 [g] w w'/\(aX.dl g tb (lay cs p vs)).ok w':=by
 have d:w.heap[g]? =some (.cells cs.toArray tb (0,0)):=ag
 have b:vs.length=sz:=a8 l
 have f:p+vs.length<=cs.length:=b_ c
 have h:=run_storeCells_at P g p tb vs 0 cs.toArray w d (by simpa using f) (λ u q=>jX.1 I u q)
 simp only[Nat.add_zero]at h
 refine⟨w.setRow g (lay cs p vs).toArray,?_,?_,?_⟩
 ·simp only[nF,execOp,m,n,hy];rw[LG _ _ _ f];simp only[ja,b]at h;have i:=j;unfold Value.cells at i;simp[go_sem,Instr.storeAt,storeVar,ap,i,b,h]
 ·refine⟨rfl,rfl,rfl,by simp[World.setRow],λ k _ r=>?_⟩;simp only[World.setRow,j0];rw[lG (by simpa[eq_comm]using r)]
 ·show(w.setRow g _).heap[g]? =_
  simp[World.setRow,j0,d]
end
section
variable{P:Program}{o:Oper}{a:Act}{w:World}{x y:Operand}{t e:TypeId}
def D8(a:Act):List (Nat×Operand)->List (Nat×Value)->Prop
 |[],[]=>True
 |(i,x)::xs,(j,v)::vs=>(a.eval x=v/\i=j)/\D8 a xs vs
 |_,_=>False
theorem I5:∀ {xs:List (Nat×Operand)}{vs:List (Nat×Value)},D8 a xs vs->xs.map (λ p=>(p.1,a.eval p.2))=vs
 |[],[],_=>rfl
 |(i,x)::xs,(j,v)::vs,h=>by obtain⟨⟨I,rfl⟩,J⟩:=h;rw[eZ,I5 J,I]
def placesOf(P:Program)(t:TypeId):Sem (Array (Nat×Nat)):=(match P.underlying t with|some (.struct b3)=>b3 |_=>#[]).mapM λ(f:Field)=>do pure (f.offset,<-Go.sizeOf f.type)
theorem ap8{z:Value}{b3:Array Field}{b:Array (Nat×Nat)}{xs:List (Nat×Operand)}{vs:List (Nat×Value)}{cs:List Value}(f:∀w,(zeroValue t).run P w= .ok z w)(c:P.underlying t=some (.struct b3))
 (g:∀w,(placesOf P t).run P w= .ok b w)(h:o.op= .build t xs.toArray)(j:D8 a xs vs)(k:Instr.fill (λ i=>b[i]?) z.cells vs=some cs.toArray):aS P o a w (.agg cs.toArray) w:=by
 have d:=g w
 simp only[placesOf,c]at d
 have I:=I5 j
 simp only[aS,execOp,h,Instr.build,Sem.run_bind,f,Result.andThen_ok,run_underlying c,d,gg]
 have e:(xs.map λ(i,x)=>(i,a.eval x))=vs:=I
 simp only[e,k]
 rfl
theorem zl{z:Value}{sz n:Nat}{xs:List (Nat×Operand)}{vs:List (Nat×Value)}{cs:List Value}(d:P.underlying t=some (.slice e))(ap:∀w,(Go.sizeOf e).run P w= .ok sz w)(f:∀w,(zeroValue e).run P w= .ok z w)
 (b:hR (n*sz) 16777216=true)(c:b2 (n*sz) 0=false)(g:o.op= .buildSlice t n xs.toArray)(h:D8 a xs vs)
 (j:Instr.fill (λ i=>some (i*sz,sz)) ((Array.range (n*sz)).map (z.cells[·%z.cells.size]!)) vs=some cs.toArray) :
 aS P o a w (.slice (some ⟨w.heap.size,0,none⟩) n n) (w.alloc (.cells cs.toArray e)):=by
 have I:=I5 h
 have k:(xs.map λ(i,x)=>(i,a.eval x))=vs:=I
 have J: ¬(n*sz>2^24):=by have:=b_ b;omega
 have l:n*sz≠0:=by intro m;rw[m]at c;simp at c
 simp only[aS,execOp,g,Instr.buildSlice,Sem.run_bind,Sem.run_pure,ap,f,Result.andThen_ok,run_underlying d,gg,k,lG J,lG l,j]
 rfl
theorem aqv{t':TypeId}{m n:Int}(b:o.op= .binOp .or t x y t')(c:a.eval x= .int .i64 m)(hy:a.eval y= .int .i64 n):aS P o a w (.int .i64 (Mz m n)) w:=by unfold Mz;rw[<-pR];simp only[aS,execOp,b,c,hy];rfl
theorem ap6{t':TypeId}{m n:Int}(b:o.op= .binOp .and t x y t')(c:a.eval x= .int .i64 m)(hy:a.eval y= .int .i64 n):aS P o a w (.int .i64 (HO m n)) w:=by unfold HO;rw[<-pR];simp only[aS,execOp,b,c,hy];rfl
theorem aqz{t':TypeId}{k:IntKind}{m:Int}{n:Nat}(c:hR n 64=true)(d:o.op= .binOp .shl t x y t')(f:a.eval x= .int .i64 m)(hy:a.eval y= .int k (n:Int)):aS P o a w (.int .i64 (Gs m n)) w:=by have b:=b_ c;unfold Gs;rw[<-pR];simp only[aS,execOp,d,f,hy];simp[go_sem,b]
end
section
variable{P:Program}{ops:Array Oper}{Q:Exit->Act->World->Prop}{a:Act}{w w':World}{rest:List Oper}{o:Oper}{n:cm}{d:Nat}{l:List (Nat×Value)}{v:Value}
theorem y_(b:o.guard=none):Region.wanted o (yielded ops a.tmps)=true:=by simp[Region.wanted,b]
theorem nn(b:Region.wanted o (yielded ops a.tmps)=true)(hy:aS P o a w v w')(c:Fr n l a)(aC:o.dst=some d)(e:eh d n=true)(k:∀a',Fr n ((d,v)::l) a'->wpList P ops Q rest a' w'):wpList P ops Q (o::rest) a w:=by
 refine wpList_step λ K f=>?_;rw[lH b];unfold Oper.wp;rw[show(execOp a.eval o).run P w=_ from hy];show K (a.put o.dst v) w'
 rw[aC];exact f _ _ (k _ (c.put e))
theorem hM(b:Region.wanted o (yielded ops a.tmps)=true)(hy:nF P o a w w')(aC:o.dst=none)(k:wpList P ops Q rest a w'):wpList P ops Q (o::rest) a w:=by
 refine wpList_step λ K c=>?_;rw[lH b];unfold Oper.wp;rw[show(execOp a.eval o).run P w=_ from hy];show K (a.put o.dst undef) w'
 rw[aC];exact c _ _ k
theorem anX{j a6:Nat}{b:Bool}(c:Fr n l a)(e:o.guard=some (j,b))(f:(ops[j]?).bind (·.dst)=some a6)(g:dz l a6=some (.bool b))(i:eh a6 n=true):Region.wanted o (yielded ops a.tmps)=true:=by
 have k:a6<n:=b_ i;have h:=c.get a6 _ g;have ap:=c.size;have J:a.tmps[a6]? =some (.bool b):=by rw[iH (by omega)];simpa[df,ap,k]using h
 simp[Region.wanted,e,yielded,f,J]
theorem anW{j a6:Nat}{b c:Bool}(e:Fr n l a)(f:o.guard=some (j,b))(g:(ops[j]?).bind (·.dst)=some a6)(i:dz l a6=some (.bool c))(k:(c==b)=false)(m:eh a6 n=true):Region.wanted o (yielded ops a.tmps)=false:=by
 have p:a6<n:=b_ m;have h:=e.get a6 _ i;have ap:=e.size;have J:a.tmps[a6]? =some (.bool c):=by rw[iH (by omega)];simpa[df,ap,p]using h
 simpa[Region.wanted,f,yielded,g,J]using k
theorem anY{j a6:Nat}{b:Bool}(c:Fr n l a)(e:o.guard=some (j,b))(f:(ops[j]?).bind (·.dst)=some a6)(g:dz l a6=some undef)(i:eh a6 n=true):Region.wanted o (yielded ops a.tmps)=false:=by
 have k:a6<n:=b_ i;have h:=c.get a6 _ g;have ap:=c.size;have J:a.tmps[a6]? =some undef:=by rw[iH (by omega)];simpa[df,ap,k]using h
 simp[Region.wanted,e,yielded,f,J,undef]
theorem eS(b:Region.wanted o (yielded ops a.tmps)=false)(c:Fr n l a)(aC:o.dst=some d)(e:eh d n=true)(k:∀a',Fr n ((d,undef)::l) a'->wpList P ops Q rest a' w):wpList P ops Q (o::rest) a w:=by refine wpList_step λ K f=>?_;rw[lG (by simp[b]),aC];exact f _ _ (k _ (c.put e))
def xU(a:Act):List Operand->List Value->Prop
 |[],[]=>True
 |x::xs,v::vs=>a.eval x=v/\xU a xs vs
 |_,_=>False
theorem I6:∀ {xs:List Operand}{vs:List Value},xU a xs vs->xs.map a.eval=vs
 |[],[],_=>rfl
 |x::xs,v::vs,h=>by rw[eZ,h.1,I6 h.2]
theorem an3{f:FuncId}{xs:List Operand}{b:Array TypeId}{vs:List Value}{R:Ending->World->Prop}{K:Act->World->Prop}
 (c:o.op= .call { callee:=.value (.func f),args:=xs.toArray,argTypes:=b })(g:∀args w,(callFunc f args).run P w= .ok (.enter f args) w)
 (h:xU a xs vs)(hc:Calls P f vs.toArray w R)(k:∀e w',R e w'->∃v,e= .returned v/\K (a.put o.dst v) w'):o.wp P a w K Q:=by
 unfold Oper.wp
 have e:(execOp a.eval o).run P w= .ok (.enter f vs.toArray) w:=by have I:=I6 h;simp only[execOp,c,resolve,gg,I];simp[go_sem,Act.eval,Deferred.ofValue,invoke,g]
 rw[e]
 exact hc.mono λ e w' i=>by obtain⟨v,rfl,j⟩:=k e w' i;exact j
theorem Cc{f:FuncId}{xs:List Operand}{b:Array TypeId}{vs:List Value}{R:Ending->World->Prop}(c:Region.wanted o (yielded ops a.tmps)=true)
 (g:o.op= .call { callee:=.value (.func f),args:=xs.toArray,argTypes:=b })(h:∀args w,(callFunc f args).run P w= .ok (.enter f args) w)
 (i:xU a xs vs)(hc:Calls P f vs.toArray w R)(j:Fr n l a)(aC:o.dst=some d)(m:eh d n=true)
 (k:∀e w',R e w'->∃v,e= .returned v/\∀a',Fr n ((d,v)::l) a'->wpList P ops Q rest a' w'):wpList P ops Q (o::rest) a w:=by
 refine wpList_step λ K p=>?_
 rw[lH c]
 refine an3 g h i hc λ e w' q=>?_
 obtain⟨v,r,s⟩:=k e w' q
 rw[aC]
 exact⟨v,r,p _ _ (s _ (j.put m))⟩
end
section
variable{P:Program}{Q:Exit->Act->World->Prop}{a:Act}{w:World}
theorem Qh{c:Code}(b:Nat->Act->World->Prop)(k:Nat)(h:b k a w)(e:∀a w,¬b 0 a w)
 (round:∀k a w,b (k+1) a w->∀K:Act->World->Prop,(∀a w,b k a w->K a w)->c.wp P (Exit.then K Q) a w):(Code.loop c).wp P Q a w:=
 wp_loop_ghost b k h λ m a w d=>by
  cases m with
  |zero=>exact absurd d (e a w)
  |succ m=>exact round m a w d _ λ a' w' h'=>⟨m,kA m,h'⟩
theorem al6{fn:Func}{R:Ending->World->Prop}{n:Nat}{l:List (Nat×Value)}(b:fn.results= #[])(c:Fr ⟨n,[]⟩ l a)(h:R (.returned (.tuple #[])) w):bodyPost P fn R .ret a w:=⟨c.defers,_,results_none b _ _ _,h⟩
theorem F8{fn:Func}{R:Ending->World->Prop}{n:Nat}{t:Nat}{l:List (Nat×Value)}{v:Value}(c:fn.results= #[.tmp t])(b:Fr ⟨n,[]⟩ l a)(d:dz l t=some v)(h:R (.returned v) w):bodyPost P fn R .ret a w:=⟨b.defers,_,results_tmp c _ _ _,by rw[b.get _ _ d];exact h⟩
def NJ(P:Program)(a:Act)(w:World):ResultVar->Value->Prop
 | .tmp t,v=>a.tmps.getD t undef=v
 | .cell dD ty,v=>∃b p,a.tmps.getD dD undef= .pointer (some ⟨b,p,none⟩)/\
  ((∃cs:List Value,(∀w,(isAgg ty).run P w= .ok true w)/\(∀w,(Go.sizeOf ty).run P w= .ok cs.length w)/\ev w ⟨b,p,none⟩ cs/\v= .agg cs.toArray)\/
   ((∀w,(isAgg ty).run P w= .ok false w)/\w.cell? ⟨b,p,none⟩=some v))
def Gh(P:Program)(a:Act)(w:World):List ResultVar->List Value->Prop
 |[],[]=>True
 |r::rs,v::vs=>NJ P a w r v/\Gh P a w rs vs
 |_,_=>False
def pack:List Value->Value
 |[v]=>v
 |vs=>.tuple vs.toArray
def Gg(a:Act):ResultVar->Sem Value
 | .tmp t=>pure (a.tmps.getD t undef)
 | .cell dD t=>do loadVar t (<-asAddr (a.tmps.getD dD undef))
theorem am1{r:ResultVar}{v:Value}(h:NJ P a w r v):(Gg a r).run P w= .ok v w:=by
 cases r with
 |tmp t=>exact congrArg (λ x=>Result.ok x w) h
 |cell dD ty=>obtain⟨b,p,I,J⟩:=h;simp only[Gg,I];rcases J with⟨cs,c,ap,hc,rfl⟩|⟨c,hc⟩;have d:=run_loadCells_list (P:=P) w ⟨b,p,none⟩ cs (λ j u e=>by rw[iF];exact hc j u e);unfold loadCells at d;simp[go_sem,loadVar,asAddr,c,ap,d];simp[go_sem,loadVar,asAddr,c,hc]
theorem Wh:∀ {rs:List ResultVar}{vs:List Value},Gh P a w rs vs->(rs.mapM (Gg a)).run P w= .ok vs w
 |[],[],_=>rfl
 |r::rs,v::vs,h=>by have I:=am1 h.1;have J:=Wh h.2;rw[List.mapM_cons];simp only[Sem.run_bind,I,J,Result.andThen_ok];rfl
theorem NA{fn:Func}{R:Ending->World->Prop}{n:Nat}{l:List (Nat×Value)}{rs:List ResultVar}{vs:List Value}(b:fn.results=rs.toArray)(c:Fr ⟨n,[]⟩ l a)(d:Gh P a w rs vs)
 (h:R (.returned (pack vs)) w):bodyPost P fn R .ret a w:=by
 refine⟨c.defers,pack vs,?_,h⟩
 have I:=Wh d
 unfold results
 have e:(λ x=>match x with| .tmp t=>pure (a.tmps.getD t undef)| .cell dD t=>do loadVar t (<-asAddr (a.tmps.getD dD undef)):ResultVar->Sem Value)=Gg a:=by funext x;cases x<;>rfl
 rw[b,List.mapM_toArray]
 simp only[Sem.run_bind]
 show Result.andThen (((List.toArray <$> rs.mapM (λ x=>match x with| .tmp t=>pure (a.tmps.getD t undef)| .cell dD t=>do loadVar t (<-asAddr (a.tmps.getD dD undef)):ResultVar->Sem Value))).run P w) _=_
 rw[e,map_eq_pure_bind,Sem.run_bind,I]
 match vs with
 |[]=>rfl
 |[v]=>rfl
 |v::u::r=>rfl
end
section
variable{P:Program}{ops:Array Oper}{Q:Exit->Act->World->Prop}{a:Act}{w:World}{rest:List Oper}{o:Oper}{n:cm}{d:Nat}{l:List (Nat×Value)}
 {W:World}{au X:List Nat}{E:List aX}{D:List bh}
theorem bd.new(c:bd W au X w E D)(t:TypeId)(cs:List Value):bd W au X (w.alloc (.cells cs.toArray t)) (aX.dl w.heap.size t cs::E) D:=c.push _ (a1.alloc _ _ _) (aa8 w t cs) (λ k b=>by simp[aX.dl]at b;subst b;exact⟨cS _,by simp⟩) (by simp[aX.dl])
theorem rI{g p sz:Nat}{t tb:TypeId}{x y:Operand}{cs vs:List Value}{v:Value}(i:Nat)(c:bd W au X w E D)(hi:E[i]? =some (aX.dl g tb cs))(e:Region.wanted o (yielded ops a.tmps)=true)
 (f:v.cells=vs.toArray)(ap:∀w,(Go.sizeOf t).run P w= .ok sz w)(h:b2 vs.length sz=true)(I:vs.all (·.oneCell')=true)(b:hR (p+vs.length) cs.length=true)
 (j:o.op= .store t x y)(m:a.eval x= .pointer (some ⟨g,p,none⟩))(hy:a.eval y=v)(aC:o.dst=none)
 (k:∀w',bd W au X w' (E.set i (aX.dl g tb (lay cs p vs))) D->wpList P ops Q rest a w'):wpList P ops Q (o::rest) a w:=by
 obtain⟨w',I,J,q⟩:=O_ f ap h I b (c.e i hi) j m hy
 exact hM e I aC (k w' (c.GA i hi J q (by simp[aX.dl]) (λ k r=>.inl r)))
theorem bd.FC{α:Type}(b:bd W au X w E D)(e:TypeId)(size:Nat):bd W au X w (aX.row e size (.slice none 0 0) ([]:List α) []::E) D:=b.push _ (a1.refl _ _) (World.ownsRow_nil w 0 e size) (λ k c=>by simp[aX.row,Value.ownBlock]at c) (by simp[aX.row,Value.ownBlock])
theorem aks(o:Option Nat):o.toList.Nodup:=by cases o<;>simp
theorem T2{e:TypeId}{z:Value}{sz bytes:Nat}(h:(P.info? e).map (λ i=>(i.zero,i.size,i.bytes))=some (some z,sz,bytes)):∃i,P.info? e=some i/\i.zero=some z/\i.size=sz/\i.bytes=bytes:=by
 cases hi:P.info? e with
 |none=>rw[hi]at h;cases h
 |some i=>rw[hi]at h;simp only[fC,aM,cv]at h;exact⟨i,rfl,h.1,h.2.1,h.2.2⟩
end
section
variable{P:Program}{ops:Array Oper}{C:World->Prop}{nA:Act->Prop}{a:Act}{w:World}{rest:List Oper}{o:Oper}{n:cm}{d:Nat}{l:List (Nat×Value)}{v:Value}
theorem qs(b:Region.wanted o (yielded ops a.tmps)=false)(c:Fr n l a)(aC:o.dst=some d)(e:eh d n=true)(k:∀a',Fr n ((d,undef)::l) a'->wpQuiet P ops C nA rest a'):wpQuiet P ops C nA (o::rest) a:=by unfold wpQuiet;rw[lG (by simp[b]),aC];exact k _ (c.put e)
theorem abx{id:Nat}{Q:Exit->Act->World->Prop}{l:List Oper}(b:P.follows .mixedOrders=true)(c:Region.lexB .any l.toArray=true)
 (h:wpQuiet P l.toArray (λ w'=>a1 [] w w') (λ a=>∀w',a1 [] w w'->Q .normal a w') l a):(Code.region id l.toArray true).wp P Q a w:=
 wp_region_quiet (C:=λ w'=>a1 [] w w') b c (a1.drew [] w) (by refine Eq.mp ?_ h;rw[List.toList_toArray])|>λ h=>wp_mono h (λ e a w q=>q)
end
theorem adY{w w':World}{p:Addr}{v:Value}(h:a1 [] w w')(hc:w.cell? p=some v):w'.cell? p=some v:=(World.cell?_of_block (h.block p.block (World.block_lt_of_cell? w p hc) (by simp))).trans hc
theorem xT{w w':World}{p:Addr}{cs:List Value}(h:a1 [] w w')(hc:ev w p cs):ev w' p cs:=λ j u a=>adY h (hc j u a)
section
variable{P:Program}{Q:Exit->Act->World->Prop}{K:Act->World->Prop}{a:Act}{w:World}
theorem rU{i:Nat}(h:Q (.exit i) a w):Exit.then K Q (.exit i) a w:=h
theorem C1{i:Nat}(h:Q .normal a w):Exit.inBlock i Q (.exit i) a w:=by simpa[Exit.inBlock]using h
theorem G6(h:Q .ret a w):Exit.then K Q .ret a w:=h
theorem XU{i:Nat}(h:Q .ret a w):Exit.inBlock i Q .ret a w:=h
theorem Qd{id:Nat}{c:Code}(b:Act->World->Prop)(d:∀K:Act->World->Prop,(∀a w,b a w->K a w)->c.wp P (Exit.inBlock id (Exit.then K Q)) a w)(hy:∀a w,b a w->Q .normal a w):(Code.block id c).wp P Q a w:=by
 refine wp_block (wp_mono (d _ hy) ?_);intro e a w h;cases e with
 |exit i=>by_cases hi:i=id;simpa[Exit.inBlock,Exit.then,hi]using h;simpa[Exit.inBlock,Exit.then,hi]using h
 |_=>exact h
theorem mE{id:Nat}{l:List Oper}(h:wpList P l.toArray Q l a w):(Code.region id l.toArray false).wp P Q a w:=wp_region_lit h
end
section
variable{W w:World}{au X:List Nat}{E:List aX}{D:List bh}
def FV(D:List bh):List bh->Prop
 |[]=>True
 |y::r=>(∃i:Nat,D[i]? =some y)/\FV D r
theorem Vr{D:List bh}:∀ {a:List bh},FV D a->∀y∈a,y∈D
 |[],_,y,hy=>by simp at hy
 |z::r,h,y,hy=>by rcases cU.1 hy with rfl |e;obtain⟨i,hi⟩:=h.1;exact bR hi;exact Vr h.2 y e
theorem bd.pick(h:bd W au X w E D){a:List bh}(ap:FV D a):bd W au X w E a:=h.less (Vr ap)
theorem bd.DY(h:bd W au X w E D)(i:Nat):bd W au X w (E.eraseIdx i) D:=h.drop (List.eraseIdx_sublist E i)
theorem bd.freeze{α:Type}{T:cR α}{e:TypeId}{A:Option Addr}{n c:Nat}{l:List α}{xs:List Value}(h:bd W au X w E D)(i j:Nat)(hi:E[i]? =some (aX.row e T.size (.slice A n c) l xs))(b:D[j]? =some (bh.rows T xs l)) :
 bd W au X w (E.eraseIdx i) (bh.of (bX T) [.slice A n c] l::D):=by
 have I:=h.DY i
 refine I.more (amL (h.e i hi) (I.d j b) ?_)
 intro k a d
 rcases de.1 d with ak |ak
 ·have f:=h.fI k ak;rcases(h.lt k (hn.2 ⟨_,bR hi,a⟩)).2 with al |al;exact f.2 al;omega
 ·obtain⟨o,g⟩:=bg.1 hi;have m:E=E.take i++E[i]::E.drop (i+1):=by simp
  have aC:=h.a6;rw[m,g]at aC;have al:bG (E.take i++aX.row e T.size (.slice A n c) l xs::E.drop (i+1))=bG (E.take i)++((aX.row e T.size (.slice A n c) l xs).a_++bG (E.drop (i+1))):=by simp[bG]
  rw[al,fL,fL]at aC;rw[List.eraseIdx_eq_take_drop_succ]at ak;rcases de.1 (by simpa[bG]using ak:k∈bG (E.take i)++bG (E.drop (i+1)))with aN |aN;exact aC.2.2 k aN k (de.2 (.inl a)) rfl;exact aC.2.1.2.2 k a k aN rfl
theorem bd.Ss{g:Nat}{t:TypeId}{cs:List Value}(h:bd W au X w E D)(i:Nat)(hi:E[i]? =some (aX.dl g t cs)):bd W au X w (E.eraseIdx i) (bh.hB g cs::D):=by
 have I:=h.DY i;refine I.more ⟨?_,zU (h.e i hi),λ j u b=>?_⟩
 ·intro c;have a:g∈(aX.dl g t cs).a_:=by simp[aX.dl]
  rcases de.1 c with ak |ak;have d:=h.fI g ak;rcases(h.lt g (hn.2 ⟨_,bR hi,a⟩)).2 with al |al;exact d.2 al;omega
  ·obtain⟨k,e⟩:=bg.1 hi;have f:E=E.take i++E[i]::E.drop (i+1):=by simp
   have aC:=h.a6;rw[f,e]at aC;have al:bG (E.take i++aX.dl g t cs::E.drop (i+1))=bG (E.take i)++((aX.dl g t cs).a_++bG (E.drop (i+1))):=by simp[bG]
   rw[al,fL,fL]at aC;rw[List.eraseIdx_eq_take_drop_succ]at ak;rcases de.1 (by simpa[bG]using ak:g∈bG (E.take i)++bG (E.drop (i+1)))with aN |aN;exact aC.2.2 g aN g (de.2 (.inl a)) rfl;exact aC.2.1.2.2 g a g aN rfl
 ·have:=sk (h.e i hi) b;simpa using this
end
def cG(n:Nat):List Nat->Array Bool
 |[]=>Array.replicate n false
 |i::d=>(cG n d).setIfInBounds i true
def xm(K:Act->World->Prop)(Q:Exit->Act->World->Prop):Exit->Act->World->Prop
 | .normal,a,w=>K a w
 |e,a,w=>Q e a w
section
variable{P:Program}{ops:Array Oper}{Q:Exit->Act->World->Prop}{a:Act}{w:World}{o:Oper}{n:cm}{f d i:Nat}{ds:List Nat}{l:List (Nat×Value)}{v:Value}
def y4(ops:Array Oper)(ds:List Nat)(i:Nat):Bool:=Region.noSelect ops&&Region.free .any ops (cG ops.size ds) i&&(Region.ready .any ops (cG ops.size ds)).contains i
theorem an2{K:Act->World->Prop}{Q:Exit->Act->World->Prop}(h:o.wp P a w K (xm K Q)):o.wp P a w K Q:=by
 unfold Oper.wp at *
 generalize(execOp a.eval o).run P w=r at *
 cases r with
 |ok n w'=>
  cases n<;>simp only[Oper.upon]at h⊢ <;>
   first
    |exact h
    |exact Calls.mono h (λ e w'' b=>by cases e<;>first |exact b |exact b)
 |halt x w'=>cases x<;>simp only[Oper.upon]at h⊢ <;>exact h
theorem Ov{K:Act->World->Prop}(hi:ops[i]? =some o)(h:wpList P ops (xm K (NoPanic Q)) [o] a w):wpOp P ops (NoPanic Q) i K a w:=by unfold wpOp;simp only[hi];unfold wpList at h;split at h;rename_i b;rw[lH b];rcases h with h |⟨I,J⟩;exact .inl (an2 h);exact .inr ⟨I,J.elim λ a h=>h.elim λ w h=>⟨a,w,h⟩⟩;rename_i b;rw[lG b];exact h
end
section
variable{P:Program}{o:Oper}{a:Act}{w:World}{t t':TypeId}{x y:Operand}{b3:Array Go.Field}{xs ys:Array Value}{b:Bool}
theorem zm(c:P.underlying t=some (.struct b3))(e:P.stoodInHeld t=false)(f:P.eqGuardType P.depth t=false)
 (g:(Op.eqFields 9999 xs ys b3.toList).run P w= .ok b w)(i:o.op= .binOp .eql t x y t')(j:a.eval x= .agg xs)(hy:a.eval y= .agg ys):aS P o a w (.bool b) w:=by
 have d:P.fieldsOf t=b3:=by simp[Program.fieldsOf,c]
 have h:=run_equalIn_struct (P:=P) w 9999 t xs ys (by rw[d];exact c) e
 rw[d,g]at h
 have h:(Op.equalIn 10000 t (Value.agg xs) (Value.agg ys)).run P w= .ok b w:=h
 simp only[aS,execOp,i,j,hy]
 simp[go_sem,Op.equal,Op.maxDepth,h,run_eqGuard_agg w _ _ _ _ _ _ f]
theorem zn(c:P.underlying t=some (.struct b3))(e:P.stoodInHeld t=false)(f:P.eqGuardType P.depth t=false)
 (g:(Op.eqFields 9999 xs ys b3.toList).run P w= .ok b w)(i:o.op= .binOp .neq t x y t')(j:a.eval x= .agg xs)(hy:a.eval y= .agg ys):aS P o a w (.bool (!b)) w:=by
 have d:P.fieldsOf t=b3:=by simp[Program.fieldsOf,c]
 have h:=run_equalIn_struct (P:=P) w 9999 t xs ys (by rw[d];exact c) e
 rw[d,g]at h
 have h:(Op.equalIn 10000 t (Value.agg xs) (Value.agg ys)).run P w= .ok b w:=h
 simp only[aS,execOp,i,j,hy]
 simp[go_sem,Op.equal,Op.maxDepth,h,run_eqGuard_agg w _ _ _ _ _ _ f]
theorem kN{d:Nat}:(Op.eqFields d xs ys []).run P w= .ok true w:=rfl
theorem gj{d:Nat}{f:Go.Field}{l:List Go.Field}{k:IntKind}{m n:Int}{e:Prop} [Decidable e](g:(f.name != "_")=true)(i:P.underlying f.type=some (.int k))(j:∀w,(isAgg f.type).run P w= .ok false w)
 (p:xs[f.offset]? =some (.int k m))(hy:ys[f.offset]? =some (.int k n))(h:(Op.eqFields (d+1) xs ys l).run P w= .ok (decide e) w):(Op.eqFields (d+1) xs ys (f::l)).run P w= .ok (decide (m=n/\e)) w:=by
 have q:f.name≠ "_" :=by simpa using g
 simp only[Op.eqFields,q,if_true,ne_eq,not_false_iff,part,Sem.run_bind,j,Result.andThen_ok,p,hy,hT,if_false,Sem.run_pure,run_equalIn_int w d f.type k k m n i]
 by_cases c:m=n
 ·subst c;simp[h]
 ·simp[c,show(m==n)=false from by simpa using c]
end
open Go Go.RowKit Go.ChangeShapes Go.WideShapes Go.Deep ad
section
variable{H:Type}{enc:TypeId×Value->H}{P:Program}
theorem Ql(e:laidOutB P=true){W f:World}{hs:Nat->Bool}:∀ {b:List TypeId}{vs:List Value}{ds:List (DataW H)}{ps:List MemPlace},DataW.TrodAll enc P W 0 (λ _=>true) true b vs ds ps ->
 (b.all λ t=>P.readableRec t&&eh t P.types.size)=true->(∀p∈ps,W.sameAt f p)->(∀p∈ps,hs p.block=true)->DataW.TrodAll enc P f 0 hs true b vs ds ps
 |[],vs,ds,ps,h,_,_,_=>by obtain⟨rfl,rfl,rfl⟩:=trodAll_nil h;exact trodAll_mk0
 |t::b,vs,ds,ps,h,c,ap,g=>by
  obtain⟨v,k,d,i,p,q,rfl,rfl,rfl,j,I⟩:=trodAll_cons h;simp only[List.all_cons,bM]at c
  exact trodAll_cons_mk (WideElems.Trod_stays e c.1.1 (b_ c.1.2) j (λ x a=>ap x (lr _ a)) (λ x a=>g x (lr _ a)))
   (Ql e I c.2 (λ x a=>ap x (lm _ a)) (λ x a=>g x (lm _ a)))
theorem akE{f:Func}{s:ChangeSpec}{W c:World}{args:Array Value}{ds gs:List (DataW H)}{before:List MemPlace}{tb:TypeId}
 (e:DataW.Whole enc P f.params.toList s.vars false W args.toList ds gs before)(y:laidOutB P=true)(z:(f.params.toList.all λ t=>P.readableRec t&&eh t P.types.size)=true)
 (l:s.vars=[])(g:s.fn H ds= { results:=[.lit (.bool true)],args:=ds })(ag:P.underlying tb=some .bool)(m:f.resultTypes= #[tb])(A:a1 [] W c) :
 s.post enc P f false true false false W args (.bool true) c:=by
 have h:=A.below
 have i:∀p∈before,p.block<W.heap.size:=λ p j=>e.lt p j
 have k:=e
 obtain⟨p,q,B,n,o,C,D⟩:=e
 rw[l]at n
 obtain⟨rfl,rfl⟩:=trodVars_none n
 simp only[jb]at o
 subst o
 have d:∀x∈before,(λ b=>decide (b<W.heap.size)) x.block=true:=λ x a=>by simpa using i x a
 have r:∀hs:Nat->Bool,(∀x∈before,hs x.block=true)->DataW.TrodAll enc P c 0 hs true f.params.toList args.toList ds before:=λ hs E=>Ql y B z (λ x a=>h.same (i x a)) E
 have u:∀(b:Nat)(hs:Nat->Bool)(aC:Bool),DataW.TrodAll enc P c b hs aC f.resultTypes.toList ((Value.bool true).resultList f.resultTypes.size) [.lit (.bool true)] []:=λ b hs aC=>by rw[m];exact trodAll_cons_mk (p:=[]) (shut_bool ag true) trodAll_mk0
 have v:∀hs:Nat->Bool,DataW.TrodVars enc P c hs s.vars [] []:=λ hs=>by rw[l];rfl
 refine⟨ds,[],before,[],before,[],k,?_,?_,?_,World.keptBut_mono (λ x a=>⟨a,Or.inr (by simpa using a)⟩) (h.frame (·∈before)),λ _=>?_⟩
 ·simp only[jb,g];exact u _ _ _
 ·simp only[jb,g];exact r _ d
 ·simp only[jb,g];exact v _
 ·refine⟨ok_one m rfl (okWide_bool_mk ag true),_,_,([]++before)++[],⟨[]++before,[],trodAll_append (r (λ _=>true) (λ _ _=>rfl)) (u _ _ _),v _,rfl,?_,?_⟩,?_⟩
  ·intro b off j;have w:MemPlace.cell b off∈before:=by simpa using j
   rw[h.frozen (i _ w)];exact C b off w
  ·intro F;simpa using D F
  ·intro x a _;simpa using a
theorem Wg{α:Type}{T:cR α}{F:Nat->Prop}{W:World}{b o:Nat}{R:α->Prop}:∀m:Nat,(∀i,i<m->∃cs d,ev W ⟨b,o+i*T.size,none⟩ cs/\T.rd F W cs d/\R d) ->
 ∃(l:List α)(xs:List Value),l.length=m/\c' T F W xs l/\ev W ⟨b,o,none⟩ xs/\∀d∈l,R d
 |0,_=>⟨[],[],rfl,rfl,λ j u a=>by simp at a,λ d aC=>by cases aC⟩
 |m+1,h=>by obtain⟨l,xs,I,J,f,g⟩:=Wg m (λ i hi=>h i (by omega));obtain⟨cs,d,k,n,p⟩:=h m (by omega);refine⟨l++[d],xs++cs,by simp[I],VX (T:=T) n J,λ j u a=>?_,λ e q=>?_⟩;have c:=oo (T:=T) J;rcases gw j xs.length with r |x9;exact f j u (by simpa[lq,r]using a);rw[eW x9]at a;have:=k (j-xs.length) u a;rw[c,I]at this;rw[show o+j=o+m*T.size+(j-m*T.size) by rw[c,I]at x9;omega];simpa using this;rcases de.1 q with ak |ak;exact g e ak;simp at ak;subst ak;exact p
end
def gJ{H:Type}(P:Program)(enc:TypeId×Value->H)(N:Nat)(t:TypeId){α:Type}(T:cR α)(R:α->Prop):Prop:=∀(W:World)(n:Nat)(cs:List Value)(x:DataW H×List MemPlace),DataW.trod enc P W 0 (λ _=>true) true n t cs=some x->(∀p∈x.2,p.block<W.heap.size)->(∀m∈x.1.weights P t,m<=N)->∃d,T.rd (gT [] W) W cs d/\R d
def mw(n:Int):Prop:=-9223372036854775808<=n/\n<=9223372036854775807
section
variable{H:Type}{enc:TypeId×Value->H}{P:Program}{N:Nat}{t e:TypeId}
theorem tT(a:P.underlying t=some .string):gJ P enc N t hN (λ s=>s.length<=N):=by intro W n cs x h _ b;obtain⟨s,rfl,rfl,_⟩:=DataW.trod_string a h;exact⟨s.data.toList,rfl,b _ (by simp[DataW.weights])⟩
theorem rC(a:P.underlying t=some (.int .i64)):gJ P enc N t (eT .i64) mw:=by intro W n cs x h _ _;obtain⟨z,rfl,_,b⟩:=DataW.trod_int a h;exact⟨z,rfl,by simpa[mw,Lit.wf,IntKind.min,IntKind.max,IntKind.signed,IntKind.bits]using b⟩
theorem amo(a:P.underlying t=some .bool):gJ P enc N t anC (λ _=>True):=by intro W n cs x h _ _;obtain⟨b,rfl,_⟩:=DataW.trod_bool a h;exact⟨b,rfl,trivial⟩
theorem UG{d:DataW H}{m:Nat}(a:m∈d.weights P e):∀ {l:List (DataW H)},d∈l->m∈DataW.weightsAll P e l
 |[],h=>by cases h
 |x::r,h=>by simp only[DataW.weightsAll,de];rcases cU.1 h with rfl |h;exact .inl a;exact .inr (UG a h)
theorem oq{α:Type}{T:cR α}{R:α->Prop}(q:P.underlying t=some (.slice e))(Q:P.cellsOf e=T.size)(v:eh 0 T.size=true)(S:gJ P enc N e T R):gJ P enc N t (bX T) (λ l=>l.length*P.bytesOf e<=N/\∀d∈l,R d):=by
 have v:0<T.size:=b_ v;intro W n cs x h w y;rcases open_slice q h with⟨rfl,rfl⟩|⟨a,c,cap,m,U,D,r,rfl,_,V,z,X,A,hi⟩;exact⟨[],⟨none,0,rfl,cS _,g_ _,λ _=>rfl,λ h=>absurd rfl h⟩,by simp,λ d aC=>by cases aC⟩
 ·have Y:m=cap:=by simpa using X
  subst Y;have B:x.2=MemPlace.row a (m*P.cellsOf e)++(fe m).flatMap r:=congrArg Prod.snd A;have C:x.1= .slice ((fe c).map D) ((fe (m-c)).map λ j=>D (c+j)):=congrArg Prod.fst A;have Z:(c+(m-c))*P.bytesOf e<=N:=by refine y _ ?_;rw[C];simp only[DataW.weights,q,jc,jL];exact List.mem_cons_self
  have f:c*P.bytesOf e<=N:=eY (jf _ (Nat.le_add_right _ _)) Z;by_cases aK:c=0;subst aK;exact⟨[],⟨some a,m,rfl,by simp,z,λ h=>(by cases h),λ h=>absurd rfl h⟩,by simp,λ d aC=>by cases aC⟩
  ·have E:∀i,i<c->∃cs d,(∀j u,cs[j]? =some u->W.cell? (a.add (i*T.size+j))=some u)/\cs.length=T.size/\T.rd (gT [] W) W cs d/\R d:=λ i s=>by
    have G:i<m:=by omega
    obtain⟨K,hc,qR⟩:=hi i G;obtain⟨d,aC,dt⟩:=S W U K _ qR (λ p KT=>w p (by
     rw[B,de];exact .inr (hn.2 ⟨i,by simpa using G,KT⟩))) (λ k ah=>y k (by
     rw[C];simp only[DataW.weights,q,cU,de];exact .inr (.inl (UG ah (kg.2 ⟨i,by simpa using s,rfl⟩)))))
    rw[Q]at hc;obtain⟨_,L,Ar⟩:=World.cells?_some hc;refine⟨K,d,λ j u g=>?_,L,aC,dt⟩;have qK:j<T.size:=by rw[<-L];exact(bg.1 g).1
    have:=Ar j qK;rw[g,Go.Deep.add_add]at this;exact this
   have M:a.spot=none:=by obtain⟨cs,d,I,J,_⟩:=E 0 (by omega);have:=I 0 _ (bx (by omega));unfold World.cell? at this;split at this;split at this;cases this;rename_i ap;simpa[Addr.add]using ap;cases this
   obtain⟨ab,O,aqV⟩:=a;simp only at M;subst M;obtain⟨l,xs,I,J,ax,a5⟩:=Wg (T:=T) (F:=gT [] W) (W:=W) (b:=ab) (o:=O) (R:=R) c (λ i s=>by obtain⟨cs,d,cX,_,gK,nK⟩:=E i s;exact⟨cs,d,λ j u g=>by have:=cX j u g;rw[iF]at this;simpa[jo]using this,gK,nK⟩)
   subst I;refine⟨l,⟨_,m,rfl,V,z,λ h=>(by cases h),λ _=>⟨rfl,⟨by simp,?_⟩,xs,J,ax⟩⟩,f,a5⟩;have h4:MemPlace.cell ab O∈x.2:=by rw[B,de];left;have:0<m*P.cellsOf e:=Nat.mul_pos (by omega) (by omega);simp only[MemPlace.row,kg,List.mem_range];exact⟨0,this,by simp⟩
   exact w _ h4
theorem UH{m:Nat}:∀ {a:List TypeId}{l:List (DataW H)}{j:Nat}{u:TypeId}{d:DataW H},a[j]? =some u->l[j]? =some d->m∈d.weights P u->m∈DataW.weightsEach P a l
 |[],_,j,_,_,h,_,_=>by simp at h
 |_::_,[],j,_,_,_,h,_=>by simp at h
 |t::a,x::l,0,u,d,I,J,b=>by simp only[dm,aM]at I J;subst I;subst J;simp only[DataW.weightsEach,de];exact .inl b
 |t::a,x::l,j+1,u,d,I,J,b=>by simp only[DataW.weightsEach,de];exact .inr (UH (j:=j) (by simpa using I) (by simpa using J) b)
theorem mJ{b3:Array Go.Field}{W:World}{n:Nat}{cs:List Value}{x:DataW H×List MemPlace}(c:P.underlying t=some (.struct b3))(h:DataW.trod enc P W 0 (λ _=>true) true n t cs=some x)(i:∀p∈x.2,p.block<W.heap.size)(k:∀m∈x.1.weights P t,m<=N) :
 ∃a,cs.length=P.cellsOf t/\∀(j:Nat)(f:Go.Field),b3[j]? =some f->∃y,DataW.trod enc P W 0 (λ _=>true) true a f.type ((cs.drop f.offset).take (P.cellsOf f.type))=some y/\(∀p∈y.2,p.block<W.heap.size)/\(∀m∈y.1.weights P f.type,m<=N):=by
 obtain⟨ys,a,_,g,l,o,q⟩:=DataW.trod_struct c h
 refine⟨a,l,λ j f b=>?_⟩
 have v:j<b3.size:=(ee.1 b).1
 have hy:ys[j]? =some (ys[j]'(by omega)):=bx _
 refine⟨ys[j]'(by omega),by rw[q j f b,hy],λ p r=>i p ?_,λ m s=>k m ?_⟩
 ·rw[g];exact hn.2 ⟨_,List.getElem_mem _,r⟩
 ·rw[g];simp only[DataW.weights,c];refine UH (j:=j) (u:=f.type) (d:=(ys[j]'(by omega)).1) ?_ ?_ s;rw[kc,g5,b];rfl;rw[kc,hy];rfl
theorem fT{b3:Array Go.Field}{W:World}{a:Nat}{cs:List Value}(d:∀(j:Nat)(f:Go.Field),b3[j]? =some f->∃y,DataW.trod enc P W 0 (λ _=>true) true a f.type ((cs.drop f.offset).take (P.cellsOf f.type))=some y/\(∀p∈y.2,p.block<W.heap.size)/\(∀m∈y.1.weights P f.type,m<=N))
 (j:Nat){f:Go.Field}(g:b3[j]? =some f){t off k:Nat}(b:f.type=t)(h:f.offset=off)(i:P.cellsOf t=k){r:List Value}(l:(cs.drop off).take k=r):∃y,DataW.trod enc P W 0 (λ _=>true) true a t r=some y/\(∀p∈y.2,p.block<W.heap.size)/\(∀m∈y.1.weights P t,m<=N):=by
 obtain⟨y,I,J,c⟩:=d j f g
 rw[b,h]at I
 rw[b]at c
 rw[i,l]at I
 exact⟨y,I,J,c⟩
theorem HM{v:Array Value}{l:List Value}(h:(Value.agg v).cells.toList=l):v=l.toArray:=by have h:v.toList=l:=h;rw[<-h]
theorem HR{α:Type}{T:cR α}{R:α->Prop}{W:World}{v:Value}{d:DataW H}{ps:List MemPlace}(a:gJ P enc N t T R)(h:DataW.Trod enc P W 0 (λ _=>true) true t v d ps)(b:∀p∈ps,p.block<W.heap.size)(c:∀m∈d.weights P t,m<=N):∃d',T.rd (gT [] W) W v.cells.toList d'/\R d':=by obtain⟨n,f⟩:=h;exact a W n _ _ f b c
end
inductive kF
 |i (k:IntKind)
 |b
 |s
 |cd
def kF.ok(P:Program)(t:TypeId):kF->Prop
 | .i k=>P.underlying t=some (.int k)
 | .b=>P.underlying t=some .bool
 | .s=>P.underlying t=some .string
 | .cd=>∃e,P.underlying t=some (.slice e)
structure j1 where
 ln:List (Nat×kF)
 mJ:List (Nat×Nat×Nat)
 Cd:List (Nat×Option Nat)
def Oc(P:Program):List (Nat×kF)->Prop
 |[]=>True
 |p::r=>p.2.ok P p.1/\Oc P r
def Hx(P:Program)(s j off:Nat):Prop:=∃b3 f sz,P.underlying s=some (.struct b3)/\b3[j]? =some f/\f.offset=off/\sz≠0/\∀w,(Go.sizeOf f.type).run P w= .ok sz w
def Ja(P:Program):List (Nat×Nat×Nat)->Prop
 |[]=>True
 |p::r=>Hx P p.1 p.2.1 p.2.2/\Ja P r
def PG(P:Program)(t:Nat):Option Nat->Prop
 |none=>∀w,(isAgg t).run P w= .ok false w
 |some n=>(∀w,(isAgg t).run P w= .ok true w)/\∀w,(Go.sizeOf t).run P w= .ok n w
def NW(P:Program):List (Nat×Option Nat)->Prop
 |[]=>True
 |p::r=>PG P p.1 p.2/\NW P r
structure oG (P:Program) (G:j1):Prop where
 ln:Oc P G.ln
 mJ:Ja P G.mJ
 Cd:NW P G.Cd
theorem fG{P:Program}{s j off sz:Nat}{b3:Array Go.Field}{f:Go.Field}(h:P.underlying s=some (.struct b3))(a:b3[j]? =some f)(b:f.offset=off)(ap:∀w,(Go.sizeOf f.type).run P w= .ok sz w)(c:b2 sz 0=false):Hx P s j off:=⟨b3,f,sz,h,a,b,(λ e=>by subst e;simp at c),ap⟩
def l6{β:Type}:List (Nat×β)->Nat->Option β
 |[],_=>none
 |p::r,t=>match b2 p.1 t with
  |true=>some p.2
  |false=>l6 r t
def Bu:List (Nat×Nat×Nat)->Nat->Nat->Option Nat
 |[],_,_=>none
 |p::r,s,j=>match b2 p.1 s&&b2 p.2.1 j with
  |true=>some p.2.2
  |false=>Bu r s j
theorem wV{P:Program}{l:List (Nat×kF)}(h:Oc P l){t:Nat}{k:kF}(a:l6 l t=some k):k.ok P t:=by
 induction l with
 |nil=>simp[l6]at a
 |cons p r b=>
  simp only[l6]at a;cases ag:b2 p.1 t with
  |true=>rw[ag]at a;simp only[aM]at a;rw[<-a8 ag,<-a];exact h.1
  |false=>rw[ag]at a;exact b h.2 a
theorem Wp{P:Program}{l:List (Nat×Option Nat)}(h:NW P l){t:Nat}{k:Option Nat}(a:l6 l t=some k):PG P t k:=by
 induction l with
 |nil=>simp[l6]at a
 |cons p r b=>
  simp only[l6]at a;cases ag:b2 p.1 t with
  |true=>rw[ag]at a;simp only[aM]at a;rw[<-a8 ag,<-a];exact h.1
  |false=>rw[ag]at a;exact b h.2 a
theorem ad7{P:Program}{l:List (Nat×Nat×Nat)}(h:Ja P l){s j off:Nat}(a:Bu l s j=some off):Hx P s j off:=by
 induction l with
 |nil=>simp[Bu]at a
 |cons p r b=>
  simp only[Bu]at a;cases ag:b2 p.1 s&&b2 p.2.1 j with
  |true=>rw[ag]at a;simp only[aM]at a;simp only[bM]at ag;rw[<-a8 ag.1,<-a8 ag.2,<-a];exact h.1
  |false=>rw[ag]at a;exact b h.2 a
def h8(w:World):List (Nat×Nat×List Value)->Prop
 |[]=>True
 |m::r=>ev w ⟨m.1,m.2.1,none⟩ m.2.2/\h8 w r
theorem gz{w:World}:h8 w []:=trivial
theorem fW{w:World}{b p:Nat}{cs:List Value}{M:List (Nat×Nat×List Value)}(h:ev w ⟨b,p,none⟩ cs)(k:h8 w M):h8 w ((b,p,cs)::M):=⟨h,k⟩
theorem UF{w:World}{M:List (Nat×Nat×List Value)}(h:h8 w M){i b p:Nat}{cs:List Value}(hi:M[i]? =some (b,p,cs)):ev w ⟨b,p,none⟩ cs:=by
 induction M generalizing i with
 |nil=>simp at hi
 |cons m r a=>
  cases i with
  |zero=>simp only[dm,aM]at hi;subst hi;exact h.1
  |succ i=>exact a h.2 (by simpa using hi)
theorem iX{w:World}{g:Nat}{t:TypeId}{cs:List Value}(h:(aX.dl g t cs).ok w):ev w ⟨g,0,none⟩ cs:=λ j u a=>by have:=sk h a;simpa using this
structure fE where
 t:Nat
 j:Nat
 want:Bool
 v:Value
def wM:List (Nat×Value)->Nat->List (Nat×Value)
 |[],_=>[]
 |p::r,d=>match b2 p.1 d with
  |true=>wM r d
  |false=>p::wM r d
def ou:List fE->Nat->List fE
 |[],_=>[]
 |p::r,d=>match b2 p.t d||b2 p.j d with
  |true=>ou r d
  |false=>p::ou r d
def vA:List (Nat×Bool)->Nat->Bool->Bool
 |[],_,_=>false
 |p::r,j,b=>(b2 p.1 j&&(p.2==b))||vA r j b
def Bv:List fE->List (Nat×Bool)->Nat->Option Value
 |[],_,_=>none
 |p::r,cur,t=>match b2 p.t t&&vA cur p.j p.want with
  |true=>some p.v
  |false=>Bv r cur t
def kd(a:Act):List fE->Prop
 |[]=>True
 |p::r=>(a.tmps.getD p.j undef= .bool p.want->a.tmps.getD p.t undef=p.v)/\kd a r
def hX(a:Act):List (Nat×Bool)->Prop
 |[]=>True
 |p::r=>a.tmps.getD p.1 undef= .bool p.2/\hX a r
theorem S_{a:Act}{cur:List (Nat×Bool)}(h:hX a cur){j:Nat}{b:Bool}(aW:vA cur j b=true):a.tmps.getD j undef= .bool b:=by
 induction cur with
 |nil=>simp[vA]at aW
 |cons p r c=>simp only[vA,h1,bM,beq_iff_eq]at aW;rcases aW with⟨I,J⟩|aW;rw[<-a8 I,<-J];exact h.1;exact c h.2 aW
theorem ai'{a:Act}{gs:List fE}(h:kd a gs){cur:List (Nat×Bool)}(hc:hX a cur){t:Nat}{v:Value}(b:Bv gs cur t=some v):a.tmps.getD t undef=v:=by
 induction gs with
 |nil=>simp[Bv]at b
 |cons p r c=>
  simp only[Bv]at b;cases ag:b2 p.t t&&vA cur p.j p.want with
  |true=>rw[ag]at b;simp only[aM]at b;simp only[bM]at ag;rw[<-a8 ag.1,<-b];exact h.1 (S_ hc ag.2)
  |false=>rw[ag]at b;exact c h.2 b
def gN(aQ:List (Nat×Value))(gs:List fE)(cur:List (Nat×Bool)):Operand->Option Value
 | .const v=>some v
 | .global g=>some (.pointer (some ⟨g,0,none⟩))
 | .tmp t=>match dz aQ t with
   |some v=>some v
   |none=>Bv gs cur t
 | .func _=>none
theorem FL{n:cm}{aQ:List (Nat×Value)}{gs:List fE}{cur:List (Nat×Bool)}{a:Act}(c:Fr n aQ a)(d:kd a gs)(hc:hX a cur){x:Operand}{v:Value}(h:gN aQ gs cur x=some v):a.eval x=v:=by
 cases x with
 |const u=>simp only[gN,aM]at h;rw[<-h];rfl
 |global g=>simp only[gN,aM]at h;rw[<-h];rfl
 |func f=>simp[gN]at h
 |tmp t=>
  simp only[gN]at h;cases b:dz aQ t with
  |some u=>rw[b]at h;simp only[aM]at h;rw[<-h];exact c.g b
  |none=>rw[b]at h;exact ai' d hc h
def yH(aQ:List (Nat×Value))(gs:List fE)(cur:List (Nat×Bool)):List Operand->Option (List Value)
 |[]=>some []
 |x::r=>match gN aQ gs cur x,yH aQ gs cur r with
  |some v,some vs=>some (v::vs)
  |_,_=>none
theorem My{n:cm}{aQ:List (Nat×Value)}{gs:List fE}{cur:List (Nat×Bool)}{a:Act}(b:Fr n aQ a)(c:kd a gs)(hc:hX a cur):∀ {xs:List Operand}{vs:List Value},yH aQ gs cur xs=some vs->xs.map a.eval=vs
 |[],vs,h=>by simp only[yH,aM]at h;subst h;rfl
 |x::r,vs,h=>by simp only[yH]at h;split at h;rename_i v us I J;simp only[aM]at h;subst h;rw[eZ,FL b c hc I,My b c hc J];cases h
def Bf:Operand->Bool
 | .const (.int _ n)=>n !=0
 |_=>false
def ko:IntKind->IntKind->Bool
 | .i64,.i64 | .u8,.u8 | .i32,.i32 | .u64,.u64 | .u32,.u32 | .u16,.u16 | .i16,.i16 | .i8,.i8=>true
 |_,_=>false
theorem l2{j k:IntKind}(h:ko j k=true):j=k:=by cases j<;>cases k<;>simp_all [ko]
def jH(k:IntKind):Bool:=ko k .i64
theorem jI{k:IntKind}(h:jH k=true):k= .i64:=l2 h
def P2(a:Option kF)(fX:Bool)(op:BinOp)(j k:IntKind)(m n:Int):Option Value:=
 match op with
 | .add=>match jH j&&jH k with|true=>some (.int .i64 (bj (m+n)))|false=>none
 | .sub=>match jH j&&jH k with|true=>some (.int .i64 (bj (m-n)))|false=>none
 | .mul=>match jH j&&jH k with|true=>some (.int .i64 (bj (m*n)))|false=>none
 | .quo=>match jH j&&jH k&&fX with|true=>some (.int .i64 (bj (m.tdiv n)))|false=>none
 | .rem=>match jH j&&jH k&&fX with|true=>some (.int .i64 (m.tmod n))|false=>none
 | .or=>match jH j&&jH k with|true=>some (.int .i64 (Mz m n))|false=>none
 | .and=>match jH j&&jH k with|true=>some (.int .i64 (HO m n))|false=>none
 | .lss=>match ko j k with|true=>some (.bool (decide (m<n)))|false=>none
 | .leq=>match ko j k with|true=>some (.bool (decide (m<=n)))|false=>none
 | .gtr=>match ko j k with|true=>some (.bool (decide (n<m)))|false=>none
 | .geq=>match ko j k with|true=>some (.bool (decide (n<=m)))|false=>none
 | .eql=>match a with
   |some (.i i)=>match ko i j&&ko j k with|true=>some (.bool (decide (m=n)))|false=>none
   |_=>none
 | .neq=>match a with
   |some (.i i)=>match ko i j&&ko j k with|true=>some (.bool (!decide (m=n)))|false=>none
   |_=>none
 |_=>none
def P3(a:Option kF)(op:BinOp)(p q:List UInt8):Option Value:=
 match op,a with
 | .eql,some .s=>some (.bool (decide (p=q)))
 | .neq,some .s=>some (.bool (!decide (p=q)))
 |_,_=>none
def P1(a:Option kF)(op:BinOp)(p q:Bool):Option Value:=
 match op,a with
 | .eql,some .b=>some (.bool (p==q))
 | .neq,some .b=>some (.bool (!(p==q)))
 |_,_=>none
def bin(a:Option kF)(fX:Bool)(op:BinOp):Value->Value->Option Value
 | .int j m,.int k n=>P2 a fX op j k m n
 | .string ⟨⟨p⟩⟩,.string ⟨⟨q⟩⟩=>P3 a op p q
 | .bool p,.bool q=>P1 a op p q
 |_,_=>none
section
variable{P:Program}{o:Oper}{a:Act}{w:World}{x y:Operand}{t t':TypeId}
theorem P4{g:Option kF}(d:∀k,g=some k->k.ok P t){fX:Bool}(l:fX=true->∀k n,a.eval y= .int k n->n≠0){op:BinOp}{u v r:Value}(h:bin g fX op u v=some r)(b:o.op= .binOp op t x y t')(c:a.eval x=u)(hy:a.eval y=v):aS P o a w r w:=by
 unfold bin at h;split at h
 ·rename_i j m k n;unfold P2 at h;split at h
  case h_1=>
   split at h
   ·rename_i ag;simp only[bM]at ag;obtain⟨I,J⟩:=ag;have I:=jI I;have J:=jI J;subst I;subst J;simp only[aM]at h;subst h;exact ap5 b c hy
   ·cases h
  case h_2=>
   split at h
   ·rename_i ag;simp only[bM]at ag;obtain⟨I,J⟩:=ag;have I:=jI I;have J:=jI J;subst I;subst J;simp only[aM]at h;subst h;exact aqC b c hy
   ·cases h
  case h_3=>
   split at h
   ·rename_i ag;simp only[bM]at ag;obtain⟨I,J⟩:=ag;have I:=jI I;have J:=jI J;subst I;subst J;simp only[aM]at h;subst h;exact aqq b c hy
   ·cases h
  case h_4=>
   split at h
   ·rename_i ag;simp only[bM]at ag;obtain⟨⟨I,J⟩,e⟩:=ag;have I:=jI I;have J:=jI J;subst I;subst J;simp only[aM]at h;subst h;have f:=l e _ _ hy;exact X8 b c hy (by rw[gx,decide_eq_false_iff_not];exact f)
   ·cases h
  case h_5=>
   split at h
   ·rename_i ag;simp only[bM]at ag;obtain⟨⟨I,J⟩,e⟩:=ag;have I:=jI I;have J:=jI J;subst I;subst J;simp only[aM]at h;subst h;have f:=l e _ _ hy;exact X9 b c hy (by rw[gx,decide_eq_false_iff_not];exact f)
   ·cases h
  case h_6=>
   split at h
   ·rename_i ag;simp only[bM]at ag;obtain⟨I,J⟩:=ag;have I:=jI I;have J:=jI J;subst I;subst J;simp only[aM]at h;subst h;exact aqv b c hy
   ·cases h
  case h_7=>
   split at h
   ·rename_i ag;simp only[bM]at ag;obtain⟨I,J⟩:=ag;have I:=jI I;have J:=jI J;subst I;subst J;simp only[aM]at h;subst h;exact ap6 b c hy
   ·cases h
  case h_8=>
   split at h
   ·rename_i ag;have ag:=l2 ag;subst ag;simp only[aM]at h;subst h;exact aqn b c hy
   ·cases h
  case h_9=>
   split at h
   ·rename_i ag;have ag:=l2 ag;subst ag;simp only[aM]at h;subst h;exact aqm b c hy
   ·cases h
  case h_10=>
   split at h
   ·rename_i ag;have ag:=l2 ag;subst ag;simp only[aM]at h;subst h;exact aqh b c hy
   ·cases h
  case h_11=>
   split at h
   ·rename_i ag;have ag:=l2 ag;subst ag;simp only[aM]at h;subst h;exact aqg b c hy
   ·cases h
  case h_12=>
   split at h
   ·rename_i i;have hi:=d _ rfl;split at h;rename_i ag;simp only[bM]at ag;have I:=l2 ag.1;have J:=l2 ag.2;subst I;subst J;simp only[aM]at h;subst h;exact aqe hi b c hy;cases h
   ·cases h
  case h_13=>
   split at h
   ·rename_i i;have hi:=d _ rfl;split at h;rename_i ag;simp only[bM]at ag;have I:=l2 ag.1;have J:=l2 ag.2;subst I;subst J;simp only[aM]at h;subst h;exact aqs hi b c hy;cases h
   ·cases h
  case h_14=>cases h
 ·rename_i p q;unfold P3 at h;split at h;simp only[aM]at h;subst h;exact aqf (d _ rfl) b c hy;simp only[aM]at h;subst h;exact aqt (d _ rfl) b c hy;cases h
 ·rename_i p q;unfold P1 at h;split at h;simp only[aM]at h;subst h;exact aqd (d _ rfl) b c hy;simp only[aM]at h;subst h;exact aqr (d _ rfl) b c hy;cases h
 ·cases h
end
def nth{α:Type}:List α->Nat->Option α
 |[],_=>none
 |x::_,0=>some x
 |_::r,i+1=>nth r i
theorem cH{α:Type}:∀(l:List α)(i:Nat),nth l i=l[i]?
 |[],i=>by simp[nth]
 |x::r,0=>rfl
 |x::r,i+1=>by simp[nth,cH r i]
def Li:Operand->Bool
 | .const (.bool b)=>b
 |_=>false
def Lf:Operand->Bool
 | .const (.bool b)=>!b
 |_=>false
def FU(x y:Operand)(b:Bool):Value->Value->Option Value
 | .bool p,.bool q=>match Li x with
   |true=>some (.bool (b||q))
   |false=>match Lf y with
    |true=>some (.bool (b&&p))
    |false=>some (.bool (cond b p q))
 | .int j m,.int k n=>match ko j k with
   |true=>some (.int j (cond b m n))
   |false=>none
 | .string ⟨⟨p⟩⟩,.string ⟨⟨q⟩⟩=>some (bW (cond b p q))
 |_,_=>none
theorem ahN{a:Act}{x:Operand}(h:Li x=true):a.eval x= .bool true:=by unfold Li at h;split at h;subst h;rfl;cases h
theorem ahK{a:Act}{x:Operand}(h:Lf x=true):a.eval x= .bool false:=by
 unfold Lf at h;split at h
 ·rename_i b;have:b=false:=by simpa using h
  subst this;rfl
 ·cases h
theorem Vp{a:Act}{x y:Operand}{b:Bool}{u v r:Value}(h:FU x y b u v=some r)(c:b=true->a.eval x=u)(hy:b=false->a.eval y=v):(if b then a.eval x else a.eval y)=r:=by
 unfold FU at h;split at h
 ·rename_i p q;split at h
  ·rename_i d;simp only[aM]at h;subst h;cases b with
   |true=>rw[lH rfl,ahN d];rfl
   |false=>rw[lG (by simp),hy rfl];rfl
  ·split at h
   ·rename_i e;simp only[aM]at h;subst h;cases b with
    |true=>rw[lH rfl,c rfl];rfl
    |false=>rw[lG (by simp),ahK e];rfl
   ·simp only[aM]at h;subst h;cases b with
    |true=>rw[lH rfl,c rfl];rfl
    |false=>rw[lG (by simp),hy rfl];rfl
 ·split at h
  ·rename_i f;have:=l2 f;subst this;simp only[aM]at h;subst h;cases b with
   |true=>rw[lH rfl,c rfl];rfl
   |false=>rw[lG (by simp),hy rfl];rfl
  ·cases h
 ·simp only[aM]at h;subst h;cases b with
  |true=>rw[lH rfl,c rfl];rfl
  |false=>rw[lG (by simp),hy rfl];rfl
 ·cases h
abbrev Out:=Value×List Nat×List (Nat×Nat)
def jl(ap:List Nat)(v:Value):Option Out:=some (v,ap,[])
def xR(G:j1)(M:List (Nat×Nat×List Value))(t m a:Nat)(ap:List Nat)(c cM:Nat):Option Out:=
 match nth M m,l6 G.Cd t with
 |some (b,off,cs),some none=>match nth cs a with
  |some v=>some (v,ap,[(c,b),(cM,off+a)])
  |none=>none
 |some (b,off,cs),some (some n)=>match hR (a+n) cs.length with
  |true=>some (.agg ((cs.drop a).take n).toArray,ap,[(c,b),(cM,off+a)])
  |false=>none
 |_,_=>none
def R5(G:j1)(s d:Nat)(ap:List Nat):Value->Option Out
 | .int k m=>match jH k,l6 G.ln s,l6 G.ln d with
   |true,some (.i .i64),some (.i .i64)=>jl ap (.int .i64 (bj m))
   |true,some (.i .i64),some (.i .u8)=>jl ap (.int .u8 ((xB m).toNat:Int))
   |_,_,_=>none
 |_=>none
def R7(G:j1)(t:Nat)(ap:List Nat):Value->Option Out
 | .string ⟨⟨p⟩⟩=>match l6 G.ln t with
   |some .s=>jl ap (.int .i64 (p.length:Int))
   |_=>none
 | .slice _ n _=>match l6 G.ln t with
   |some .cd=>jl ap (.int .i64 (n:Int))
   |_=>none
 |_=>none
def R9(aQ:List (Nat×Value))(gs:List fE)(cur:List (Nat×Bool))(c x y:Operand):List Nat->Option Out
 |0::ap=>match c with
  | .tmp a=>match gN aQ gs cur (.tmp a),gN aQ gs ((a,true)::cur) x,gN aQ gs ((a,false)::cur) y with
    |some (.bool b),some u,some v=>match FU x y b u v with
     |some r=>jl ap r
     |none=>none
    |_,_,_=>none
  |_=>none
 |_::ap=>match gN aQ gs cur c with
  |some (.bool b)=>match b with
   |true=>match gN aQ gs cur x with|some v=>jl ap v |none=>none
   |false=>match gN aQ gs cur y with|some v=>jl ap v |none=>none
  |_=>none
 |[]=>none
def qp(G:j1)(M:List (Nat×Nat×List Value))(ap:List Nat)(aQ:List (Nat×Value))(gs:List fE)(cur:List (Nat×Bool)):Op->Option Out
 | .move x=>match gN aQ gs cur x with|some v=>jl ap v |none=>none
 | .assign x=>match gN aQ gs cur x with|some v=>jl ap v |none=>none
 | .pick c x y=>R9 aQ gs cur c x y ap
 | .binOp op t x y _=>match gN aQ gs cur x,gN aQ gs cur y with
   |some u,some v=>match bin (l6 G.ln t) (Bf y) op u v with
    |some r=>jl ap r
    |none=>none
   |_,_=>none
 | .unOp .not _ x=>match gN aQ gs cur x with
   |some (.bool p)=>jl ap (.bool (!p))
   |_=>none
 | .convert s d x=>match gN aQ gs cur x with
   |some v=>R5 G s d ap v
   |none=>none
 | .load t x=>match gN aQ gs cur x,ap with
   |some (.pointer (some ⟨e,cM,none⟩)),m::a::f=>xR G M t m a f e cM
   |_,_=>none
 | .fieldAddr s x j=>match gN aQ gs cur x,Bu G.mJ s j with
   |some (.pointer (some ⟨b,p,none⟩)),some off=>jl ap (.pointer (some ⟨b,p+off,none⟩))
   |_,_=>none
 | .nilCheck x=>match gN aQ gs cur x with
   |some (.pointer (some p))=>jl ap (.pointer (some p))
   |_=>none
 | .extract x i=>match gN aQ gs cur x with
   |some (.tuple ⟨vs⟩)=>match nth vs i with
    |some v=>jl ap v
    |none=>none
   |_=>none
 | .makeFunc fn ⟨xs⟩ ⟨ys⟩=>match yH aQ gs cur xs,yH aQ gs cur ys with
   |some us,some vs=>jl ap (.func fn us.toArray vs.toArray)
   |_,_=>none
 | .call ⟨.builtin .len,⟨[x]⟩,⟨[t]⟩⟩=>match gN aQ gs cur x with
   |some v=>R7 G t ap v
   |none=>none
 |_=>none
theorem kn{ap a:List Nat}{u v:Value}{l:List (Nat×Nat)}(h:jl ap u=some (v,a,l)):u=v:=by simp only[jl,aM,cv]at h;exact h.1
def eqs:List (Nat×Nat)->Prop
 |[]=>True
 |p::r=>p.1=p.2/\eqs r
section
variable{P:Program}{G:j1}{M:List (Nat×Nat×List Value)}{w:World}{a:Act}{o:Oper}
theorem R4{n:cm}{aQ:List (Nat×Value)}{gs:List fE}{cur:List (Nat×Bool)}{ap X:List Nat}{v:Value}{l:List (Nat×Nat)}(q:oG P G)(R:h8 w M)(D:Fr n aQ a)(E:kd a gs)(hc:hX a cur)
 {op:Op}(g:o.op=op)(h:qp G M ap aQ gs cur op=some (v,X,l))(S:eqs l):aS P o a w v w:=by
 have opn:∀ {x:Operand}{u:Value},gN aQ gs cur x=some u->a.eval x=u:=λ z=>FL D E hc z
 unfold qp at h
 split at h
 ·split at h;rename_i z;rw[<-kn h];exact Hj g (opn z);cases h
 ·split at h;rename_i z;rw[<-kn h];exact Hf g (opn z);cases h
 ·rename_i c x y;unfold R9 at h;split at h
  ·split at h
   ·rename_i N;split at h
    ·rename_i b u T I J A;split at h
     ·rename_i r O;rw[<-kn h];have K:a.eval (.tmp N)= .bool b:=opn I;have z:b=true->a.eval x=u:=λ ag=>FL D E (show hX a ((N,true)::cur) from⟨by subst ag;exact K,hc⟩) J;have hy:b=false->a.eval y=T:=λ ag=>FL D E (show hX a ((N,false)::cur) from⟨by subst ag;exact K,hc⟩) A;have U:=Vp (a:=a) O z hy;cases b with
      |true=>exact Hl g K (by simpa using U)
      |false=>exact Hk g K (by simpa using U)
     ·cases h
    ·cases h
   ·cases h
  ·split at h;rename_i b I;split at h;split at h;rename_i u J;rw[<-kn h];exact Hl g (opn I) (opn J);cases h;split at h;rename_i u J;rw[<-kn h];exact Hk g (opn I) (opn J);cases h;cases h
  ·cases h
 ·rename_i op t x y t';split at h;rename_i u T I J;split at h;rename_i r O;rw[<-kn h];refine P4 (λ k Y=>wV q.ln Y) (λ L k n V=>?_) O g (opn I) (opn J);unfold Bf at L;split at L;rename_i k' W;have:a.eval (.const (.int k' W))= .int k' W:=rfl;rw[this]at V;injection V with _ e;subst e;simpa using L;cases L;cases h;cases h
 ·rename_i x;split at h;rename_i p I;rw[<-kn h];exact X7 g (opn I);cases h
 ·rename_i s d x;split at h;rename_i u I;unfold R5 at h;split at h;rename_i k m;split at h;rename_i J A C;have:=jI J;subst this;rw[<-kn h];exact ap_ (wV q.ln A) (wV q.ln C) g (opn I);rename_i J A C;have:=jI J;subst this;rw[<-kn h];exact ap' (wV q.ln A) (wV q.ln C) g (opn I);cases h;cases h;cases h
 ·rename_i t x;split at h;rename_i BN cM m F eM I;have z:=opn I;unfold xR at h;split at h;rename_i b off cs J A;split at h;rename_i u C;simp only[aM,cv]at h;obtain⟨rfl,_,rfl⟩:=h;obtain⟨B,al,_⟩:=S;simp only at B al;subst B;subst al;rw[cH]at J C;exact O9 (Wp q.Cd A) g z (UF R J F u C);cases h;rename_i b off cs k J A;split at h;rename_i ag;simp only[aM,cv]at h;obtain⟨rfl,_,rfl⟩:=h;obtain⟨B,al,_⟩:=S;simp only at B al;subst B;subst al;rw[cH]at J;have ap:=Wp q.Cd A;have Z:=b_ ag;refine X4 ap.1 ap.2 (by simp;omega) g z (λ j u H=>?_);have jd:=UF R J;rw[ht]at H;split at H;rw[je]at H;have:=jd (F+j) u H;simpa[jo]using this;cases H;cases h;cases h;cases h
 ·rename_i s x j;split at h;rename_i b p off I J;rw[<-kn h];obtain⟨b3,f,sz,dc,bp,fj,h0,Q⟩:=ad7 q.mJ J;rw[<-fj];exact X0 dc bp Q (by cases aK:b2 sz 0 with|false=>rfl |true=>exact absurd (a8 aK) h0) g (opn I);cases h
 ·rename_i x;split at h;rename_i p I;rw[<-kn h];exact X6 g (opn I);cases h
 ·rename_i x i;split at h;rename_i vs I;split at h;rename_i u J;rw[<-kn h];rw[cH]at J;exact C7 (vs:=vs) g (opn I) J;cases h;cases h
 ·rename_i fn xs ys;split at h;rename_i us vs I J;rw[<-kn h];have B:=My D E hc I;have al:=My D E hc J;simp only[aS,execOp,g,Instr.makeFunc];rw[show(Array.map a.eval ⟨xs⟩)=us.toArray by rw[<-B];simp,show(Array.map a.eval ⟨ys⟩)=vs.toArray by rw[<-al];simp];rfl;cases h
 ·rename_i x t;split at h;rename_i u I;unfold R7 at h;split at h;split at h;rename_i J;rw[<-kn h];exact X3 (wV q.ln J) g (opn I);cases h;split at h;rename_i J;rw[<-kn h];obtain⟨e,he⟩:=wV q.ln J;exact X2 he g (opn I);cases h;cases h;cases h
 ·cases h
end
def Ah(ops:Array Oper)(j:Nat):Option Nat:=match nth ops.toList j with
 |some o=>o.dst
 |none=>none
theorem SU{ops:Array Oper}{j a6:Nat}(h:Ah ops j=some a6):(ops[j]?).bind (·.dst)=some a6:=by unfold Ah at h;rw[cH,g5]at h;split at h;rename_i o a;rw[a];exact h;cases h
abbrev aaK:=List (Nat×Value)×List fE×List (Nat×Nat)
def bO(G:j1)(ops:Array Oper)(n:Nat)(M:List (Nat×Nat×List Value)):List Oper->List Nat->List (Nat×Value)->List fE->List (Nat×Nat)->Option aaK
 |[],_,aQ,gs,l=>some (aQ,gs,l)
 |o::a,ap,aQ,gs,l=>match o.dst with
  |none=>none
  |some d=>match eh d n with
   |false=>none
   |true=>match o.guard with
    |none=>match qp G M ap aQ gs [] o.op with
     |some (v,c,l')=>bO G ops n M a c ((d,v)::aQ) (ou gs d) (l'++l)
     |none=>none
    |some (j,want)=>match Ah ops j with
     |none=>none
     |some a6=>match eh a6 n with
      |false=>none
      |true=>match ap with
       |0::c=>match b2 a6 d with
        |true=>none
        |false=>match qp G M c aQ gs [(a6,want)] o.op with
         |some (v,e,l')=>bO G ops n M a e (wM aQ d) (⟨d,a6,want,v⟩::ou gs d) (l'++l)
         |none=>none
       |_::c=>match dz aQ a6 with
        |some (.bool b)=>match b==want with
         |true=>match qp G M c aQ gs [] o.op with
          |some (v,e,l')=>bO G ops n M a e ((d,v)::aQ) (ou gs d) (l'++l)
          |none=>none
         |false=>bO G ops n M a c ((d,undef)::aQ) (ou gs d) l
        |some (.tuple ⟨[]⟩)=>bO G ops n M a c ((d,undef)::aQ) (ou gs d) l
        |_=>none
       |[]=>none
def xN(aQ:List (Nat×Value)):List Nat->Option (List (Nat×Value))
 |[]=>some []
 |t::r=>match dz aQ t,xN aQ r with
  |some v,some vs=>some ((t,v)::vs)
  |_,_=>none
def dup(l:List Nat):List (Nat×Nat):=l.map λ x=>(x,x)
def ka(G:j1)(ops:Array Oper)(n:Nat)(M:List (Nat×Nat×List Value))(os:List Oper)(ap:List Nat)(aQ:List (Nat×Value))(ez:List Nat):Option (List (Nat×Value)×List (Nat×Nat)):=
 match bO G ops n M os ap aQ [] []with
 |some (fr',_,l)=>match xN fr' ez with
  |some k=>some (k,l)
  |none=>none
 |none=>none
theorem DX:∀l:List Nat,eqs (dup l)
 |[]=>trivial
 |x::r=>⟨rfl,DX r⟩
theorem sx:∀ {l l':List (Nat×Nat)},eqs (l++l')->eqs l/\eqs l'
 |[],_,h=>⟨trivial,h⟩
 |_::_,_,h=>⟨⟨h.1,(sx h.2).1⟩,(sx h.2).2⟩
theorem H6{aQ:List (Nat×Value)}:∀ {ez:List Nat}{k:List (Nat×Value)},xN aQ ez=some k->Cr aQ k
 |[],k,h=>by simp only[xN,aM]at h;subst h;trivial
 |t::r,k,h=>by simp only[xN]at h;split at h;rename_i v vs I J;simp only[aM]at h;subst h;exact⟨I,H6 J⟩;cases h
theorem akL{a:Act}{n:cm}{d:Nat}{v:Value}(ap:a.tmps.size=n)(aC:eh d n=true):(a.put (some d) v).tmps.getD d undef=v:=by have b:d<n:=b_ aC;simp[Act.put,ap,b]
theorem F2{a:Act}{d t:Nat}{v:Value}(h:t≠d):(a.put (some d) v).tmps.getD t undef=a.tmps.getD t undef:=by simp only[Act.put,df];rw[d_,lG (λ e=>h e.symm)]
theorem sB{a:Act}{d:Nat}{v:Value}:∀ {gs:List fE},kd a gs->kd (a.put (some d) v) (ou gs d)
 |[],_=>trivial
 |p::r,h=>by
  simp only[ou];cases ag:b2 p.t d||b2 p.j d with
  |true=>exact sB h.2
  |false=>
   simp only[ke]at ag;have I:p.t≠d:=λ e=>by rw[e]at ag;simp at ag
   have J:p.j≠d:=λ e=>by rw[e]at ag;simp at ag
   refine⟨?_,sB h.2⟩;rw[F2 I,F2 J];exact h.1
theorem LR{d t:Nat}{v:Value}:∀ {aQ:List (Nat×Value)},dz (wM aQ d) t=some v->t≠d/\dz aQ t=some v
 |[],h=>by simp[wM,dz]at h
 |p::r,h=>by
  simp only[wM]at h;cases ag:b2 p.1 d with
  |true=>
   rw[ag]at h;obtain⟨I,J⟩:=LR h;refine⟨I,?_⟩;have e:=a8 ag;simp only[dz];cases hc:b2 p.1 t with
   |true=>exact absurd ((a8 hc).symm.trans e) I
   |false=>exact J
  |false=>
   rw[ag]at h;simp only[dz]at h⊢;cases hc:b2 p.1 t with
   |true=>rw[hc]at h;refine⟨λ e=>?_,h⟩;rw[a8 hc,e]at ag;simp at ag
   |false=>rw[hc]at h;exact LR h
theorem Fr.Gi{n:cm}{d:Nat}{aQ:List (Nat×Value)}{a:Act}{v:Value}(b:Fr n aQ a):Fr n (wM aQ d) (a.put (some d) v):=⟨by simpa[Act.put]using b.size,b.defers,λ t u h=>by obtain⟨I,J⟩:=LR h;rw[F2 I];exact b.get t u J⟩
def yl:Op->Bool
 | .load _ _=>true
 |_=>false
theorem ady{G:j1}{M:List (Nat×Nat×List Value)}{ap:List Nat}{aQ:List (Nat×Value)}{gs:List fE}{cur:List (Nat×Bool)}{op:Op}(h:yl op=false):qp G M ap aQ gs cur op=qp G [] ap aQ gs cur op:=by
 cases op with
 |load t x=>simp[yl]at h
 |unOp u t x=>cases u<;>rfl
 |call c=>unfold qp;split<;>first |rfl |(rename_i e;cases e;done)|(rename_i e;cases e;rfl)
 |_=>rfl
theorem IC{P:Program}{G:j1}{M:List (Nat×Nat×List Value)}{C:World->Prop}{a:Act}{o:Oper}{n:cm}{aQ:List (Nat×Value)}{gs:List fE}{cur:List (Nat×Bool)}{ap f:List Nat}{v:Value}{l:List (Nat×Nat)}(b:oG P G)(g:∀w,C w->h8 w M)(c:Fr n aQ a)(d:kd a gs)(hc:hX a cur)
 (h:qp G M ap aQ gs cur o.op=some (v,f,l))(e:eqs l):(∀w,C w->aS P o a w v w)/\(yl o.op=false->∀w,aS P o a w v w):=
 ⟨λ w i=>R4 b (g w i) c d hc rfl h e,λ j w=>R4 b (M:=[]) trivial c d hc rfl (by rw[<-ady j];exact h) e⟩
theorem W7{ops:Array Oper}{o:Oper}{a:Act}{n:cm}{l:List (Nat×Value)}{j a6:Nat}{want:Bool}(c:Fr n l a)(d:o.guard=some (j,want))(e:(ops[j]?).bind (·.dst)=some a6)(f:eh a6 n=true) :
 Region.wanted o (yielded ops a.tmps)=true↔a.tmps.getD a6 undef= .bool want:=by
 have g:a6<n:=b_ f
 have ap:=c.size
 have J:a.tmps[a6]? =some (a.tmps.getD a6 undef):=by rw[iH (by omega)];simp[df,ap,g]
 simp only[Region.wanted,d,yielded,e,ae,J,beq_iff_eq]
 constructor
 ·intro h;split at h;rename_i b ag;simp only[aM]at h ag;rw[ag,h];cases h
 ·intro h;rw[h]
def aaR(P:Program)(ops:Array Oper)(C:World->Prop)(o:Oper)(d:Nat)(a:Act)(u:Value):Prop:=o.dst=some d/\((Region.wanted o (yielded ops a.tmps)=true/\(∀w,C w->aS P o a w u w)/\(yl o.op=false->∀w,aS P o a w u w))\/(Region.wanted o (yielded ops a.tmps)=false/\u=undef))
section
variable{P:Program}{G:j1}{ops:Array Oper}{n:cm}{M:List (Nat×Nat×List Value)}{C:World->Prop}
theorem I3(y:oG P G)(z:∀w,C w->h8 w M){o:Oper}{g:List Oper}{ap:List Nat}{aQ:List (Nat×Value)}{gs:List fE}{l s:List (Nat×Nat)}{fi:List (Nat×Value)}{A:List fE}{a:Act}
 (c:Fr n aQ a)(f:kd a gs)(h:bO G ops n M (o::g) ap aQ gs l=some (fi,A,s))(L:eqs s)
 (B:∀ {os:List Oper}{ap:List Nat}{aQ:List (Nat×Value)}{gs:List fE}{l:List (Nat×Nat)},bO G ops n M os ap aQ gs l=some (fi,A,s)->eqs l) :
 ∃d u i fr' E l',aaR P ops C o d a u/\Fr n fr' (a.put (some d) u)/\kd (a.put (some d) u) E/\bO G ops n M g i fr' E l'=some (fi,A,s):=by
 rw[bO]at h
 split at h
 ·cases h
 ·rename_i d aC;split at h;cases h
  ·rename_i m;split at h;rename_i k;split at h;rename_i v i l' I;have p:=(sx (B h)).1;exact⟨d,v,i,_,_,_,⟨aC,.inl ⟨y_ k,IC (cur:=[]) y z c f trivial I p⟩⟩,c.put m,sB f,h⟩;cases h
   ·rename_i j want k;split at h;cases h
    ·rename_i a6 H;have vF:=SU H;split at h;cases h
     ·rename_i AV;split at h
      ·rename_i i;split at h;cases h
       ·rename_i F;split at h
        ·rename_i v t l' I;have p:=(sx (B h)).1;have J:a6≠d:=λ e=>by rw[e]at F;simp at F
         by_cases x:a.tmps.getD a6 undef= .bool want;refine⟨d,v,t,_,_,_,⟨aC,.inl ⟨(W7 c k vF AV).2 x,IC (cur:=[(a6,want)]) y z c f ⟨x,trivial⟩ I p⟩⟩,c.Gi,(show kd (a.put (some d) v) (⟨d,a6,want,v⟩::ou gs d) from⟨λ _=>akL c.size m,sB f⟩),h⟩;refine⟨d,undef,t,_,_,_,⟨aC,.inr ⟨by rw[gA];exact λ K=>x ((W7 c k vF AV).1 K),rfl⟩⟩,c.Gi,(show kd (a.put (some d) undef) (⟨d,a6,want,v⟩::ou gs d) from⟨λ D=>?_,sB f⟩),h⟩;simp only at D;rw[F2 J]at D;exact absurd D x
        ·cases h
      ·rename_i q i N;split at h
       ·rename_i b ag;split at h
        ·rename_i r;have r:b=want:=by simpa using r
         subst r;split at h;rename_i v t l' I;have p:=(sx (B h)).1;exact⟨d,v,t,_,_,_,⟨aC,.inl ⟨anX c k vF ag AV,IC (cur:=[]) y z c f trivial I p⟩⟩,c.put m,sB f,h⟩;cases h
        ·rename_i r;exact⟨d,undef,i,_,_,_,⟨aC,.inr ⟨anW c k vF ag r AV,rfl⟩⟩,c.put m,sB f,h⟩
       ·rename_i ag;exact⟨d,undef,i,_,_,_,⟨aC,.inr ⟨anY c k vF ag AV,rfl⟩⟩,c.put m,sB f,h⟩
       ·cases h
      ·cases h
theorem sy{fi:List (Nat×Value)}{d:List fE}{b:List (Nat×Nat)}(a:eqs b):∀ {os:List Oper}{ap:List Nat}{aQ:List (Nat×Value)}{gs:List fE}{l:List (Nat×Nat)},bO G ops n M os ap aQ gs l=some (fi,d,b)->eqs l
 |[],ap,aQ,gs,l,h=>by simp only[bO,aM,cv]at h;rw[h.2.2];exact a
 |o::c,ap,aQ,gs,l,h=>by rw[bO]at h;split at h;cases h;split at h;cases h;split at h;split at h;exact(sx (sy a h)).2;cases h;split at h;cases h;split at h;cases h;split at h;split at h;cases h;split at h;exact(sx (sy a h)).2;cases h;split at h;split at h;split at h;exact(sx (sy a h)).2;cases h;exact sy a h;exact sy a h;cases h;cases h
theorem Ws{w:World}{Q:Exit->Act->World->Prop}(j:oG P G)(m:h8 w M){fi:List (Nat×Value)}{r:List fE}{p:List (Nat×Nat)}(g:eqs p):∀(k:Nat){b:List Oper}{ap:List Nat}{aQ:List (Nat×Value)}{gs:List fE}{l:List (Nat×Nat)}{a:Act},
 Fr n aQ a->kd a gs->bO G ops n M (b.take k) ap aQ gs l=some (fi,r,p)->(∀a',Fr n fi a'->wpList P ops Q (b.drop k) a' w)->wpList P ops Q b a w
 |0,b,ap,aQ,gs,l,a,c,_,h,f=>by simp only[List.take_zero,bO,aM,cv]at h;have:=f a (by rw[<-h.1];exact c);simpa using this
 |k+1,[],ap,aQ,gs,l,a,c,_,h,f=>by simp only[List.take_nil,bO,aM,cv]at h;have:=f a (by rw[<-h.1];exact c);simpa using this
 |k+1,o::b,ap,aQ,gs,l,a,c,s,h,f=>by
  rw[jn]at h;obtain⟨d,u,x,fr',y,l',⟨aC,t⟩,v,e9,h'⟩:=I3 (C:=λ w'=>w'=w) j (λ w' e=>by subst e;exact m) c s h g (sy g);have next:=Ws j m g k v e9 h' (by simpa using f)
  refine wpList_step λ K q=>?_;rcases t with⟨i,hy,_⟩|⟨i,rfl⟩
  ·rw[lH i];unfold Oper.wp;rw[show(execOp a.eval o).run P w=_ from hy w rfl];show K (a.put o.dst u) w
   rw[aC];exact q _ _ next
  ·rw[lG (by simp[i]),aC];exact q _ _ next
theorem VI{i:Act->Prop}(j:oG P G)(m:∀w,C w->h8 w M){fi:List (Nat×Value)}{q:List fE}{p:List (Nat×Nat)}(f:eqs p):∀(k:Nat){b:List Oper}{ap:List Nat}{aQ:List (Nat×Value)}{gs:List fE}{l:List (Nat×Nat)}{a:Act},
 Fr n aQ a->kd a gs->bO G ops n M (b.take k) ap aQ gs l=some (fi,q,p)->(∀a',Fr n fi a'->wpQuiet P ops C i (b.drop k) a')->wpQuiet P ops C i b a
 |0,b,ap,aQ,gs,l,a,c,_,h,e=>by simp only[List.take_zero,bO,aM,cv]at h;have:=e a (by rw[<-h.1];exact c);simpa using this
 |k+1,[],ap,aQ,gs,l,a,c,_,h,e=>by simp only[List.take_nil,bO,aM,cv]at h;have:=e a (by rw[<-h.1];exact c);simpa using this
 |k+1,o::b,ap,aQ,gs,l,a,c,r,h,e=>by
  rw[jn]at h;obtain⟨d,u,v,fr',x,l',⟨aC,s⟩,t,e9,h'⟩:=I3 (C:=C) j m c r h f (sy f);have next:=VI j m f k t e9 h' (by simpa using e)
  unfold wpQuiet;rcases s with⟨g,hy,_⟩|⟨g,rfl⟩;rw[lH g];refine⟨u,λ w hc=>?_,?_⟩;unfold Oper.quietAt;rw[show(execOp a.eval o).run P w=_ from hy w hc];exact⟨rfl,rfl⟩;rw[aC];exact next
  ·rw[lG (by simp[g]),aC];exact next
theorem I4{os:List Oper}{ap:List Nat}{aQ:List (Nat×Value)}{ez:List Nat}{k:List (Nat×Value)}{L:List (Nat×Nat)}(h:ka G ops n M os ap aQ ez=some (k,L)):∃fi a,bO G ops n M os ap aQ [] []=some (fi,a,L)/\Cr fi k:=by unfold ka at h;split at h;rename_i fr' b l I;split at h;rename_i k' J;simp only[aM,cv]at h;obtain⟨rfl,rfl⟩:=h;exact⟨fr',b,I,H6 J⟩;cases h;cases h
theorem hs(k:Nat)(ez ap:List Nat){w:World}{Q:Exit->Act->World->Prop}{b:List Oper}{aQ fr':List (Nat×Value)}{L:List Nat}{a:Act}(c:oG P G)(d:h8 w M)(e:Fr n aQ a)(f:ka G ops n M (b.take k) ap aQ ez=some (fr',dup L))
 (next:∀a',Fr n fr' a'->wpList P ops Q (b.drop k) a' w):wpList P ops Q b a w:=by
 obtain⟨fi,h,I,J⟩:=I4 f
 exact Ws (gs:=[]) c d (DX L) k e trivial I λ a' g=>next a' (g.sub J)
theorem ak9(k:Nat)(ez ap:List Nat){c:Act->Prop}{b:List Oper}{aQ fr':List (Nat×Value)}{L:List Nat}{a:Act}(d:oG P G)(e:∀w,C w->h8 w M)(f:Fr n aQ a)(g:ka G ops n M (b.take k) ap aQ ez=some (fr',dup L))
 (next:∀a',Fr n fr' a'->wpQuiet P ops C c (b.drop k) a'):wpQuiet P ops C c b a:=by
 obtain⟨fi,i,I,J⟩:=I4 g
 exact VI (gs:=[]) d e (DX L) k f trivial I λ a' h=>next a' (h.sub J)
end
def eE:List Nat->Nat->Bool
 |[],_=>false
 |i::r,j=>b2 i j||eE r j
section
variable{P:Program}{ops:Array Oper}{Q:Exit->Act->World->Prop}{md:Region.Mode}{S:World->Prop}{p:Nat}
def rN(P:Program)(md:Region.Mode)(ops:Array Oper)(Q:Exit->Act->World->Prop)(p:Nat)(S:World->Prop):Nat->Array Bool->Act->World->Prop
 |0,listed,a,w=>Region.ready md ops listed=[]/\Q .normal a w
 |bu+1,listed,a,w=>
  (Region.ready md ops listed=[]->Q .normal a w)/\
  ∀i∈Region.ready md ops listed,wpOp P ops Q i (λ a' w'=>((listed.setIfInBounds i true).getD p false=false->S w')/\rN P md ops Q p S bu (listed.setIfInBounds i true) a' w') a w
theorem Xg:∀(bu:Nat)(listed:Array Bool)(a:Act)(w:World),rN P md ops Q p S bu listed a w->wpAny P md ops Q bu listed a w
 |0,_,_,_,h=>h
 |bu+1,_,_,_,h=>⟨h.1,λ i hi=>wpOp_mono (λ a' w' h'=>Xg bu _ a' w' h'.2) (h.2 i hi)⟩
theorem Wo{a:Array Bool}{i p:Nat}(h:a.getD p false=true):(a.setIfInBounds i true).getD p false=true:=by simp only[df,d_]at h⊢;split;rename_i e;subst e;split;rfl;rename_i b;rw[hA (by omega)]at h;cases h;exact h
theorem Xd{oi:Nat}{c:World->Prop}:∀(bu:Nat)(listed:Array Bool)(a:Act)(w:World),listed.getD p false=true->rN P md ops Q oi c bu listed a w->rN P md ops Q p S bu listed a w
 |0,_,_,_,_,h=>h
 |bu+1,_,_,_,b,h=>⟨h.1,λ i hi=>wpOp_mono (λ a' w' h'=>⟨λ d=>absurd ((Wo b).symm.trans d) (by simp),Xd bu _ a' w' (Wo b) h'.2⟩) (h.2 i hi)⟩
def kK:List Oper->Nat->Nat->List Nat->List Nat
 |[],_,_,acc=>acc
 |o::r,k,i,acc=>kK r (k+1) i (match o.after.toList.any λ e=>Region.binds .any e&&(b2 e.on i||eE acc e.on)with|true=>k::acc |false=>acc)
theorem lZ{l:List Nat}{j:Nat}(h:eE l j=true):j∈l:=by
 induction l with
 |nil=>simp[eE]at h
 |cons i r a=>simp only[eE,h1]at h;rcases h with h |h;rw[a8 h];simp;exact fD _ (a h)
def xg(ops:Array Oper)(i:Nat)(U:List Nat):Prop:=∀u∈U,∃o,ops[u]? =some o/\∃e∈o.after,Region.binds .any e=true/\(e.on=i\/e.on∈U)
theorem H'{ops:Array Oper}{i:Nat}:∀ {l:List Oper}{k:Nat}{acc:List Nat},(∀m o,l[m]? =some o->ops[k+m]? =some o)->xg ops i acc->xg ops i (kK l k i acc)
 |[],_,_,_,h=>h
 |o::r,k,acc,c,h=>by rw[kK];refine H' (λ m a d=>by have:=c (m+1) a (by simpa using d);rwa [show k+(m+1)=k+1+m by omega]at this) ?_;split;rename_i ag;intro u hu;rcases cU.1 hu with rfl |hu;simp only[List.any_eq_true,bM,h1]at ag;obtain⟨e,b,I,J⟩:=ag;refine⟨o,by simpa using c 0 o rfl,e,by simpa using b,I,?_⟩;rcases J with J |J;exact .inl (a8 J);exact .inr (fD _ (lZ J));obtain⟨a,f,e,b,I,J⟩:=h u hu;exact⟨a,f,e,b,I,J.imp id (fD _)⟩;exact h
def Oo(ops:Array Oper)(p i:Nat)(ds:List Nat):Bool:=(match nth ops.toList p with
 |none=>true
 |some _=>eE (kK ops.toList 0 i []) p)&&(kK ops.toList 0 i []).all λ u=>!(cG ops.size ds).getD u false
theorem Oq{ops:Array Oper}{p i:Nat}{ds:List Nat}(h:Oo ops p i ds=true):xg ops i (kK ops.toList 0 i [])/\(ops[p]? =none\/p∈kK ops.toList 0 i [])/\∀u∈kK ops.toList 0 i [],(cG ops.size ds).getD u false=false:=by unfold Oo at h;rw[bM]at h;refine⟨H' (λ m o b=>by simpa using b) (λ u a=>by simp at a),?_,λ u a=>?_⟩;have I:=h.1;rw[cH,g5]at I;split at I;rename_i c;exact .inl c;exact .inr (lZ I);have:=jX.1 h.2 u a;simpa using this
theorem an0{i:Nat}{cr:Oper}{v:Value}(hi:ops[i]? =some cr)(A:∀(j:Nat)(o:Oper) cs b,ops[j]? =some o->o.op≠ .select cs b)(O:p≠i)
 (R:∀c a w,Q (.panic c) (a.put cr.dst v) w->Q (.panic c) a w){U:List Nat}(T:xg ops i U)(y:ops[p]? =none\/p∈U) :
 ∀(m:Nat)(listed:Array Bool)(a:Act)(w:World),
  (∀j f,ops[j]? =some f->j≠i->listed.getD j true=false->(∀e∈f.after,Region.binds .any e=true->e.on≠i)->cr.apart ops f=true) ->
  listed.getD p false=false->(∀u∈U,listed.getD u false=false)->i∈Region.ready .any ops listed->YieldsIf P ops S cr v a->S w ->
  rN P .any ops Q p S m (listed.setIfInBounds i true) (a.put cr.dst v) w->rN P .any ops Q p S (m+1) listed a w:=by
 intro m
 induction m with
 |zero=>intro listed a w _ _ _ g hy n H;refine⟨λ h=>(by rw[h]at g;cases g),λ j s=>?_⟩;by_cases d:j=i;subst d;exact hy.wpOp hi n ⟨λ _=>n,H⟩;have:=ready_mono s d;rw[H.1]at this;cases this
 |succ m V=>
  intro listed a w B t q g hy n H;refine⟨λ h=>(by rw[h]at g;cases g),λ j s=>?_⟩;by_cases d:j=i;subst d;exact hy.wpOp hi n ⟨λ _=>n,H⟩
  ·have I:=H.2 j (ready_mono s d);obtain⟨C,f,r,D⟩:=mem_ready.1 s;have E:∀e∈f.after,Region.binds .any e=true->e.on≠i:=λ e x ag heq=>by have I:=D e x ag;have F:=(mem_ready.1 g).1;rw[heq]at I;rcases gw i listed.size with h' |h';simp[h']at F I;rw[F]at I;cases I;simp[hA h']at I
   have G:j∉U:=λ W=>by obtain⟨c1,z,e,x,ag,J⟩:=T j W;rw[r]at z;simp only[aM]at z;subst z;rcases J with J |J;exact E e x ag J;have l:=D e x ag;rw[q _ J]at l;cases l
   have K:j≠p:=λ e=>by subst e;rcases y with h |h;rw[r]at h;cases h;exact G h
   have X:∀u∈U,(listed.setIfInBounds j true).getD u false=false:=λ u L=>by have:=q u L;have Y:j≠u:=λ e=>G (e▸L);simp only[df,d_,lG Y]at this⊢;exact this
   have Z:(listed.setIfInBounds j true).getD p false=false:=by simp only[df,d_,lG K]at t⊢;exact t
   have M:((listed.setIfInBounds i true).setIfInBounds j true).getD p false=false:=by simp only[df,d_,lG K,lG (Ne.symm O)]at t⊢;exact t
   have J:=wpOp_putIf r (B j f r d C E) (λ cs b=>A i cr cs b hi) (λ cs b=>A j f cs b r) R hy I
   have Av:∀k ok,ops[k]? =some ok->k≠i->(listed.setIfInBounds j true).getD k true=false ->
    (∀e∈ok.after,Region.binds .any e=true->e.on≠i)->cr.apart ops ok=true:=λ k ok ah AM q ji=>by
    refine B k ok ah AM ?_ ji
    by_cases N:j=k
    ·subst N;exact C
    ·rw[getD_set_ne true N]at q;exact q
   refine wpOp_mono (λ a' w' l=>⟨λ _=>l.2.1 M,V (listed.setIfInBounds j true) a' w' Av Z X (ready_mono g (Ne.symm d)) l.1 (l.2.1 M) ?_⟩) J;rw[ij _ _ d];exact l.2.2
theorem Xc{i:Nat}{cr:Oper}{v:Value}(hi:ops[i]? =some cr)(u:∀(j:Nat)(o:Oper) cs b,ops[j]? =some o->o.op≠ .select cs b)(D:p≠i)
 (E:∀c a w,Q (.panic c) (a.put cr.dst v) w->Q (.panic c) a w) :
 ∀(l:Nat)(listed:Array Bool)(a:Act)(w:World),
  (∀j f,ops[j]? =some f->j≠i->listed.getD j true=false->(∀e∈f.after,Region.binds .any e=true->e.on≠i)->cr.apart ops f=true) ->
  (listed.getD p false=false->S w)->i∈Region.ready .any ops listed->YieldsIf P ops (λ _=>True) cr v a ->
  rN P .any ops Q p S l (listed.setIfInBounds i true) (a.put cr.dst v) w->rN P .any ops Q p S (l+1) listed a w:=by
 have q:∀(r:Array Bool)(b:Bool),(r.setIfInBounds i true).getD p b=r.getD p b:=λ r b=>by simp only[df,d_,lG (Ne.symm D)]
 intro l
 induction l with
 |zero=>intro listed a w _ s g hy H;refine⟨λ h=>(by rw[h]at g;cases g),λ j m=>?_⟩;by_cases d:j=i;subst d;exact hy.wpOp hi trivial ⟨λ h=>s (by rwa [q]at h),H⟩;have:=ready_mono m d;rw[H.1]at this;cases this
 |succ l F=>
  intro listed a w x s g hy H;refine⟨λ h=>(by rw[h]at g;cases g),λ j m=>?_⟩;by_cases d:j=i;subst d;exact hy.wpOp hi trivial ⟨λ h=>s (by rwa [q]at h),H⟩
  ·have I:=H.2 j (ready_mono m d);obtain⟨y,f,t,G⟩:=mem_ready.1 m;have K:∀e∈f.after,Region.binds .any e=true->e.on≠i:=λ e L ag heq=>by have I:=G e L ag;have z:=(mem_ready.1 g).1;rw[heq]at I;rcases gw i listed.size with h' |h';simp[h']at z I;rw[z]at I;cases I;simp[hA h']at I
   have J:=wpOp_putIf t (x j f t d y K) (λ cs b=>u i cr cs b hi) (λ cs b=>u j f cs b t) E hy I
   have M:∀k ok,ops[k]? =some ok->k≠i->(listed.setIfInBounds j true).getD k true=false ->
    (∀e∈ok.after,Region.binds .any e=true->e.on≠i)->cr.apart ops ok=true:=λ k ok N O A R=>by
    refine x k ok N O ?_ R
    by_cases B:j=k
    ·subst B;exact y
    ·rw[getD_set_ne true B]at A;exact A
   have C:∀w',(((listed.setIfInBounds i true).setIfInBounds j true).getD p false=false->S w')->(listed.setIfInBounds j true).getD p false=false->S w':=λ w' T U=>T (by rw[ij _ _ (Ne.symm d),q];exact U);refine wpOp_mono (λ a' w' n=>⟨C w' n.2.1,F (listed.setIfInBounds j true) a' w' M (C w' n.2.1) (ready_mono g (Ne.symm d)) n.1 ?_⟩) J;rw[ij _ _ d];exact n.2.2
end
def eC(P:Program)(ops:Array Oper)(Q:Exit->Act->World->Prop)(p:Nat)(S:World->Prop)(f:Nat)(ds:List Nat)(a:Act)(w:World):Prop:=((cG ops.size ds).getD p false=false->S w)/\rN P .any ops (NoPanic Q) p S f (cG ops.size ds) a w
def wH(ops:List Oper):List Nat->Option (List Oper)
 |[]=>some []
 |i::r=>match nth ops i,wH ops r with
  |some o,some os=>some (o::os)
  |_,_=>none
def U2(ops:Array Oper)(i:Nat):Bool:=match nth ops.toList i with
 |some o=>!yl o.op
 |none=>false
def y5(ops:Array Oper)(p:Nat):List Nat->List Nat->Bool
 |_,[]=>true
 |ds,i::r=>y4 ops ds i&&(Oo ops p i ds||U2 ops i)&& !b2 p i&&y5 ops p (i::ds) r
def B9:List Nat->List Nat->List Nat
 |[],ds=>ds
 |i::r,ds=>B9 r (i::ds)
section
variable{P:Program}{G:j1}{ops:Array Oper}{n:cm}{M:List (Nat×Nat×List Value)}{S:World->Prop}{Q:Exit->Act->World->Prop}{a:Act}{w:World}{f p:Nat}{ds:List Nat}
theorem ajB(i:Nat):cG ops.size (i::ds)=(cG ops.size ds).setIfInBounds i true:=rfl
theorem eC.wpAny(h:eC P ops Q p S f ds a w):Go.wpAny P .any ops (NoPanic Q) f (cG ops.size ds) a w:=Xg f _ a w h.2
theorem Dx(hc:(Region.ready .any ops (cG ops.size ds)).isEmpty=true)(h:Q .normal a w)(c:(cG ops.size ds).getD p false=false->S w):eC P ops Q p S f ds a w:=by
 refine⟨c,?_⟩;have b:=List.isEmpty_iff.1 hc;cases f with
 |zero=>exact⟨b,NoPanic.normal h⟩
 |succ f=>exact⟨λ _=>NoPanic.normal h,by rw[b];simp⟩
theorem eC.next(oi:Nat)(c:World->Prop)(b:(cG ops.size ds).getD p false=true)(h:eC P ops Q oi c f ds a w):eC P ops Q p S f ds a w:=⟨λ d=>absurd (b.symm.trans d) (by simp),Xd f _ a w b h.2⟩
theorem PR(B:oG P G)(D:∀w,S w->h8 w M)(k:S w){fi:List (Nat×Value)}{L:List fE}{E:List (Nat×Nat)}(m:eqs E):∀(is:List Nat){os:List Oper}{ap ds:List Nat}{aQ:List (Nat×Value)}{gs:List fE}{l:List (Nat×Nat)}{a:Act},
 (cG ops.size ds).getD p false=false->wH ops.toList is=some os->y5 ops p ds is=true->Fr n aQ a->kd a gs->bO G ops n M os ap aQ gs l=some (fi,L,E)->(∀a',Fr n fi a'->eC P ops Q p S f (B9 is ds) a' w)->eC P ops Q p S (f+is.length) ds a w
 |[],os,ap,ds,aQ,gs,l,a,_,b,_,q,_,h,r=>by simp only[wH,aM]at b;subst b;simp only[bO,aM,cv]at h;exact r a (by rw[<-h.1];exact q)
 |i::is,os,ap,ds,aQ,gs,l,a,s,b,F,q,N,h,r=>by
  simp only[wH]at b;split at b
  ·rename_i o O I J;simp only[aM]at b;subst b;rw[cH,g5]at I;simp only[y5,bM,gx]at F;obtain⟨⟨⟨g,j⟩,H⟩,t⟩:=F;have z:p≠i:=λ e=>by rw[e]at H;simp at H
   obtain⟨d,u,U,fr',V,l',⟨aC,K⟩,R,e9,h'⟩:=I3 (C:=S) B D q N h m (sy m);have T:(cG ops.size (i::ds)).getD p false=false:=by rw[ajB];simp only[df,d_,lG (Ne.symm z)]at s⊢;exact s
   have next:=PR B D k m is T J t R e9 h' r
   simp only[y4,bM]at g;refine⟨λ _=>k,?_⟩;have:=next.2
   rw[show f+(i::is).length=f+is.length+1 by simp[jo]];rw[h1]at j;rcases j with j |yf;refine an0 (v:=u) I (Region.noSelect_spec g.1.1) z (λ c a w h=>h) (Oq j).1 (Oq j).2.1 (f+is.length) _ a w (Region.free_spec I g.1.2) s (Oq j).2.2 (by simpa using g.2) (K.imp (λ⟨x,y,_⟩=>⟨x,y⟩) id) k ?_;rw[aC];exact this
   ·have A:yl o.op=false:=by
     unfold U2 at yf;rw[cH,g5,I]at yf;simpa using yf
    refine Xc (v:=u) I (Region.noSelect_spec g.1.1) z (λ c a w h=>h) (f+is.length) _ a w (Region.free_spec I g.1.2) (λ _=>k) (by simpa using g.2) (K.imp (λ⟨x,_,y⟩=>⟨x,λ w _=>y A w⟩) id) ?_;rw[aC];exact this
  ·cases b
theorem aaY(is:List Nat)(k:Nat)(ez ap:List Nat){os:List Oper}{aQ fr':List (Nat×Value)}{L:List Nat}(c:oG P G)(d:∀w,S w->h8 w M)(e:Fr n aQ a)(b:b2 is.length k=true)(g:(cG ops.size ds).getD p false=false)(hi:wH ops.toList is=some os)(h:y5 ops p ds is=true)
 (i:ka G ops n M os ap aQ ez=some (fr',dup L))(j:S w)(next:∀a',Fr n fr' a'->eC P ops Q p S f (B9 is ds) a' w):eC P ops Q p S (f+k) ds a w:=by
 have b:=a8 b
 subst b
 obtain⟨fi,m,I,J⟩:=I4 i
 exact PR (gs:=[]) c d j (DX L) is g hi h e trivial I λ a' l=>next a' (l.sub J)
theorem j7(i:Nat){o:Oper}(hi:ops[i]? =some o)(hc:(Region.ready .any ops (cG ops.size ds)==[i])=true)(e:(cG ops.size ds).getD p false=false->S w)(h:wpList P ops (xm (eC P ops Q p S f (i::ds)) (NoPanic Q)) [o] a w):eC P ops Q p S (f+1) ds a w:=by
 have b:=eq_of_beq hc;refine⟨e,⟨λ c=>(by rw[b]at c;cases c),λ j d=>?_⟩⟩;rw[b]at d;have:j=i:=by simpa using d
 subst this;exact Ov hi h
theorem PJ(i j:Nat){o b:Oper}(hi:ops[i]? =some o)(g:ops[j]? =some b)(hc:(Region.ready .any ops (cG ops.size ds)==[i,j])=true)(k:(cG ops.size ds).getD p false=false->S w)(h:wpList P ops (xm (eC P ops Q p S f (i::ds)) (NoPanic Q)) [o] a w)
 (h':wpList P ops (xm (eC P ops Q p S f (j::ds)) (NoPanic Q)) [b] a w):eC P ops Q p S (f+1) ds a w:=by
 have c:=eq_of_beq hc
 refine⟨k,⟨λ d=>(by rw[c]at d;cases d),λ q e=>?_⟩⟩
 rw[c]at e
 have:q=i\/q=j:=by simpa using e
 rcases this with rfl |rfl
 ·exact Ov hi h
 ·exact Ov g h'
theorem ii(h:eC P ops Q p S f ds a w):wpList P ops (xm (eC P ops Q p S f ds) (NoPanic Q)) [] a w:=h
end
theorem HS(p q:List UInt8):((⟨⟨p⟩⟩:ByteArray)==⟨⟨q⟩⟩)=decide (p=q):=by
 show((⟨p⟩:Array UInt8)==⟨q⟩)=_
 rw[io];simp
structure iU (cj:Type) [DecidableEq cj] where
 enc:cj->Value
 desc:TypeDesc
 same:∀a b,Instr.sameNow desc (enc a) (enc b)=some (decide (b=a))
 bits:∀a,Instr.sameBits 10000 (enc a) (enc a)=true
 check:∀(P:Program)(w:World)(e:Bool)(t:TypeId)(a:cj),P.underlying t=some desc->(Instr.checkKey e 10000 t (enc a)).run P w= .ok () w
def ah7:iU Int where
 enc n:=.int .i64 n
 desc:=.int .i64
 same a b:=by simp only[Instr.sameNow,if_true,aM];rw[io];simp only[beq_iff_eq,decide_eq_true_iff];exact eq_comm
 bits a:=by
  have h:∀n,Instr.sameBits n (.int .i64 a) (.int .i64 a)=true:=λ n=>by cases n<;>simp[Instr.sameBits]
  exact h 10000
 check P w e t a h:=by
  have h':∀n:Nat,(Instr.checkKey e (n+1) t (.int .i64 a)).run P w= .ok () w:=λ n=>by simp[Instr.checkKey,run_underlying h]
  exact h' 9999
def kq:iU (List UInt8) where
 enc s:=bW s
 desc:=.string
 same a b:=by
  simp only[Instr.sameNow,aM];have e:decide (a=b)=decide (b=a):=by rw[decide_eq_decide];exact eq_comm
  exact(HS a b).trans e
 bits a:=by
  have h:∀n,Instr.sameBits n (bW a) (bW a)=true:=λ n=>by have e:((⟨⟨a⟩⟩:ByteArray)==⟨⟨a⟩⟩)=true:=(HS a a).trans (by simp);cases n<;>(simp only[Instr.sameBits];exact e)
  exact h 10000
 check P w e t a h:=by
  have h':∀n:Nat,(Instr.checkKey e (n+1) t (bW a)).run P w= .ok () w:=λ n=>by simp[Instr.checkKey,run_underlying h]
  exact h' 9999
section
variable{cj β:Type} [DecidableEq cj](K:iU cj)(bO:β->Value)
def Hu(es:List MapEntry)(d:List (cj×β)):Prop:=es.map (λ e=>(e.key,e.val))=d.map (λ p=>(K.enc p.1,bO p.2))
def PC(w:World)(r:Nat)(d:List (cj×β)):Prop:=∃es clock,w.heap[r]? =some (.map es clock)/\Hu K bO es.toList d/\(es.toList.map (·.born)).Pairwise (·< ·)/\∀e∈es.toList,e.born<clock
def aX.map(r:Nat)(d:List (cj×β)):aX where
 a_:=[r]
 ok w:=PC K bO w r d
 law w w' h a:=by obtain⟨es,c,I,J⟩:=a;exact⟨es,c,(h r (by simp)).trans I,J⟩
def bh.map(r:Nat)(d:List (cj×β)):bh where
 ok M w:=r∉M/\r<w.heap.size/\PC K bO w r d
 law M hV w w' a b h:=by obtain⟨I,J,es,c,f,g⟩:=h;exact⟨λ i=>by rcases b r i with e |e;exact I e;omega,dr J a.size,es,c,(a.block r J I).trans f,g⟩
end
section
variable{cj β:Type} [DecidableEq cj]{K:iU cj}{bO:β->Value}
variable{P:Program}{o:Oper}{a:Act}{w:World}{x y z:Operand}{t kt z5:TypeId}{r:Nat}{d:List (cj×β)}{k:cj}{v:β}
theorem aqo(b:o.op= .makeMap t none):aS P o a w (.map (some w.heap.size)) (w.alloc (.map #[] 0)):=by simp only[aS,execOp,b,Sem.run_bind];rfl
end
def Pv(E:List aX):Prop:=∀(i:Nat)(x:aX),E[i]? =some x->x.a_.Nodup/\∀(j:Nat)(y:aX),E[j]? =some y->i≠j->∀k∈x.a_,k∉y.a_
theorem I7:∀ {E:List aX},(bG E).Nodup->Pv E
 |[],_=>λ i x h=>by simp at h
 |e::E,h=>by
  have h':(e.a_++bG E).Nodup:=by simpa[bG]using h
  rw[fL]at h';obtain⟨I,J,d⟩:=h';have f:=I7 J;intro i x a;cases i with
  |zero=>
   simp only[dm,aM]at a;subst a;refine⟨I,λ j y hy g k b c=>?_⟩;cases j with
   |zero=>exact g rfl
   |succ j=>exact d k b k (hn.2 ⟨y,bR (by simpa using hy),c⟩) rfl
  |succ i=>
   have a:E[i]? =some x:=by simpa using a
   refine⟨(f i x a).1,λ j y hy g k b c=>?_⟩;cases j with
   |zero=>simp only[dm,aM]at hy;subst hy;exact d k c k (hn.2 ⟨x,bR a,b⟩) rfl
   |succ j=>exact(f i x a).2 j y (by simpa using hy) (by omega) k b c
theorem U6:∀ {E:List aX},Pv E->(bG E).Nodup
 |[],_=>by simp[bG]
 |e::E,h=>by
  have f:bG (e::E)=e.a_++bG E:=by simp[bG]
  rw[f,fL];refine⟨(h 0 e rfl).1,U6 λ i x c=>⟨(h (i+1) x (by simpa using c)).1,λ j y hy m k d=>(h (i+1) x (by simpa using c)).2 (j+1) y (by simpa using hy) (by omega) k d⟩,λ a g b ag l=>?_⟩;subst l;obtain⟨x,c,d⟩:=hn.1 ag;obtain⟨i,hi,rfl⟩:=jk.1 c;exact(h 0 e rfl).2 (i+1) E[i] (by simp[hi]) (by omega) a g d
def yZ(E:List aX):List Nat->Option (List aX)
 |[]=>some []
 |i::r=>match nth E i,yZ E r with
  |some x,some xs=>some (x::xs)
  |_,_=>none
def ET:List Nat->Nat->Bool
 |[],_=>false
 |i::r,j=>b2 i j||ET r j
def BC:List Nat->Bool
 |[]=>true
 |i::r=>!ET r i&&BC r
theorem ahD{l:List Nat}{j:Nat}(h:ET l j=false):j∉l:=by
 induction l with
 |nil=>simp
 |cons i r a=>simp only[ET,ke]at h;intro b;rcases cU.1 b with rfl |e;simp at h;exact a h.2 e
theorem UX:∀ {l:List Nat},BC l=true->l.Nodup
 |[],_=>by simp
 |i::r,h=>by simp only[BC,bM,gx]at h;exact jC.2 ⟨ahD h.1,UX h.2⟩
theorem Gr{E:List aX}:∀ {is:List Nat}{b:List aX},yZ E is=some b->∀(m:Nat)(x:aX),b[m]? =some x->∃i:Nat,is[m]? =some i/\E[i]? =some x
 |[],b,h,m,x,a=>by simp only[yZ,aM]at h;subst h;simp at a
 |i::r,b,h,m,x,a=>by
  simp only[yZ]at h;split at h
  ·rename_i y ys I J;simp only[aM]at h;subst h;cases m with
   |zero=>simp only[dm,aM]at a;subst a;exact⟨i,rfl,by rw[<-cH];exact I⟩
   |succ m=>obtain⟨q,c,d⟩:=Gr J m x (by simpa using a);exact⟨q,by simpa using c,d⟩
  ·cases h
section
variable{W w w':World}{au X:List Nat}{E:List aX}{D:List bh}
theorem bd.sel(h:bd W au X w E D)(is:List Nat){c:List aX}(q:BC is=true)(ap:yZ E is=some c):bd W au X w c D:=by
 have f:∀x∈c,x∈E:=λ x a=>by obtain⟨m,r,rfl⟩:=jk.1 a;obtain⟨i,_,hi⟩:=Gr ap m _ (bx r);exact bR hi
 have g:∀k∈bG c,k∈bG E:=λ k b=>by obtain⟨x,a,s⟩:=hn.1 b;exact hn.2 ⟨x,f x a,s⟩
 have aC:=I7 h.a6;have l:=UX q;refine⟨h.bO,h.fI,λ k b=>h.lt k (g k b),λ x a=>h.ok x (f x a),U6 λ m x a=>?_,λ y hy=>y.law _ _ w w (a1.refl _ _) (λ k b=>.inl ?_) (h.rd y hy)⟩;obtain⟨i,hi,n⟩:=Gr ap m x a;refine⟨(aC i x n).1,λ d y hy t k b=>?_⟩;obtain⟨j,u,v⟩:=Gr ap d y hy;refine(aC i x n).2 j y v (λ e=>?_) k b;subst e;obtain⟨l1,o⟩:=bg.1 hi;obtain⟨p,al⟩:=bg.1 u;rcases Nat.lt_or_gt_of_ne t with bk |bk;exact(jw.1 l m d l1 p bk) (o.trans al.symm);exact(jw.1 l d m p l1 bk) (al.trans o.symm);rcases de.1 b with e |e;exact de.2 (.inl e);exact de.2 (.inr (g k e))
theorem xX(A B:List aX):bG (A++B)=bG A++bG B:=by simp[bG]
theorem bd.into(h:bd W au X w E D)(m:Nat):bd w (bG (E.take m)) (X++bG (E.drop m)) w (E.take m) D:=by
 have b:bG E=bG (E.take m)++bG (E.drop m):=by rw[<-xX,iJ]
 have aC:=h.a6;rw[b,fL]at aC;refine⟨a1.refl _ _,λ k a=>?_,λ k a=>⟨(h.lt k (by rw[b];simp[a])).1,.inl a⟩,λ x d=>h.ok x (List.mem_of_mem_take d),aC.1,λ y hy=>y.law _ _ w w (a1.refl _ _) (λ k a=>.inl ?_) (h.rd y hy)⟩;rcases de.1 a with e |e;refine⟨dr (h.fI k e).1 h.bO.size,λ c=>?_⟩;have:=(h.lt k (by rw[b];simp[c])).2;rcases this with al |al;exact(h.fI k e).2 al;have:=(h.fI k e).1;omega;exact⟨(h.lt k (by rw[b];simp[e])).1,λ c=>aC.2.2 k c k e rfl⟩;rw[b];simp only[de]at a⊢;rcases a with(e |e)|e<;>simp[e]
def Hy:List bh->Prop
 |[]=>True
 |y::r=>(∀M hV w w',y.ok M w->y.ok hV w')/\Hy r
theorem Pw:∀ {D:List bh},Hy D->∀y∈D,∀M hV w w',y.ok M w->y.ok hV w'
 |[],_,y,hy=>by simp at hy
 |z::r,h,y,hy=>by rcases cU.1 hy with rfl |e;exact h.1;exact Pw h.2 y e
theorem bd.PW(h:bd W au X w E D)(m:Nat){n:List Nat}{f:List aX}{j:List bh}(k:bd w (bG (E.take m)) n w' f j)(o:∀y∈j,y.ok (X++bG (f++E.drop m)) w'):bd W au X w' (f++E.drop m) (j++D):=by
 have c:bG E=bG (E.take m)++bG (E.drop m):=by rw[<-xX,iJ]
 have aC:=h.a6;rw[c,fL]at aC;have l:∀b∈bG (E.take m),b<w.heap.size/\(b∈au\/W.heap.size<=b):=λ b ag=>h.lt b (by rw[c];simp[ag]);have g:∀b∈bG (E.drop m),b<w.heap.size/\(b∈au\/W.heap.size<=b):=λ b ag=>h.lt b (by rw[c];simp[ag]);have i:=k.bO;have p:∀b∈bG f,b∉bG (E.drop m):=λ b ag d=>by rcases(k.lt b ag).2 with e |e;exact aC.2.2 b e b d rfl;have:=(g b d).1;omega
 refine⟨h.bO.trans i (λ b ag=>(l b ag).2),h.fI,λ b ag=>?_,λ x q=>?_,?_,λ y hy=>?_⟩;rw[xX]at ag;rcases de.1 ag with e |e;refine⟨(k.lt b e).1,?_⟩;rcases(k.lt b e).2 with al |al;exact(l b al).2;exact .inr (eY h.bO.size al);exact⟨dr (g b e).1 i.size,(g b e).2⟩;rcases de.1 q with e |e;exact k.ok x e;refine x.law w w' (λ b ag=>?_) (h.ok x (List.mem_of_mem_drop e));have d:b∈bG (E.drop m):=hn.2 ⟨x,e,ag⟩;exact i.block b (g b d).1 (λ r=>aC.2.2 b r b d rfl);rw[xX,fL];exact⟨k.a6,aC.2.1,λ a s b ag e=>by subst e;exact p a s ag⟩;rcases de.1 hy with e |e;exact o y e;refine y.law _ _ w w' (i.mono λ b ag=>?_) (λ b ag=>?_) (h.rd y e);rw[c];simp[ag];rw[xX]at ag;rw[c];simp only[de]at ag⊢;rcases ag with ak |ak |ak;simp[ak];rcases(k.lt b ak).2 with al |al;simp[al];exact .inr al;simp[ak]
theorem bd.back(h:bd W au X w E D)(m:Nat){a:List aX}{c:List bh}(k:bd w (bG (E.take m)) (X++bG (E.drop m)) w' a c):bd W au X w' (a++E.drop m) (c++D):=h.PW m k λ y hy=>y.law _ _ w' w' (a1.refl _ _) (λ b ag=>.inl (by rw[xX]at ag;simp only[de]at ag⊢;rcases ag with e |e |e<;>simp[e])) (k.rd y hy)
theorem bd.fx(h:bd W au X w E D)(m:Nat){c:List Nat}{b:List aX}{a:List bh}(d:Hy a)(k:bd w (bG (E.take m)) c w' b a):bd W au X w' (b++E.drop m) (a++D):=h.PW m k λ y hy=>Pw d y hy _ _ _ _ (k.rd y hy)
end
section
variable{P:Program}{ops:Array Oper}{Q:Exit->Act->World->Prop}{a:Act}{w:World}{rest:List Oper}{o:Oper}{n:cm}{d:Nat}{l:List (Nat×Value)}
 {W:World}{au X:List Nat}{E:List aX}{D:List bh}
theorem bd.Wd(h:bd W au X w E D){α:Type}{T:cR α}{xs:List Value}{li:List α}(b:c' T (gT (X++bG E) w) w xs li):bd W au X w E (bh.rows T xs li::D):=h.more b
theorem Gq{α:Type}{T:cR α}{t e:TypeId}{x y:Operand}{z:Value}{bytes m c:Nat}{v:Value}{li ml l':List α}{xs cs:List Value}{dD:Addr}(i:Nat)(p:bd W au X w E D)(hi:E[i]? =some (aX.row e T.size v li xs))
 (C:P.underlying t=some (.slice e))(F:(P.info? e).map (λ i=>(i.zero,i.size,i.bytes))=some (some z,T.size,bytes))(G:z.cells.size=T.size)(H:0<T.size)
 (I:cc bytes li ml=some l')(K:ml.length=m)(L:0<bytes)
 (M:c' T (gT (X++bG E) w) w xs li)(hcs:c' T (gT (X++bG E) w) w cs ml)(N:∀j u,cs[j]? =some u->w.cell? (dD.add j)=some u)
 (O:Region.wanted o (yielded ops a.tmps)=true)
 (R:o.op= .call { callee:=.builtin .append,args:=#[x,y],argTypes:=#[t,t] })(S:a.eval x=v)(hy:a.eval y= .slice (some dD) m c)(U:Fr n l a)(aC:o.dst=some d)(V:eh d n=true)
 (k:∀a' A b w',a1 v.ownBlock.toList w w'->Fr n ((d,.slice A l'.length b)::l) a'->bd W au X w' (E.set i (aX.row e T.size (.slice A l'.length b) l' (xs++cs))) (bh.rows T (xs++cs) l'::D)->wpList P ops Q rest a' w'):wpList P ops Q (o::rest) a w:=by
 obtain⟨Y,Z,TY,qQ,o7⟩:=T2 F
 obtain⟨J9,rfl⟩:=Dz I
 have jj:w.ownsRow 0 e T.size v li.length xs:=p.e i hi
 subst K
 have g:li.length+ml.length<=maxLen:=by have J:=kY (li.length+ml.length) L;simp only[maxLen];omega
 obtain⟨r,w',eP,J,s,_,cZ⟩:=run_append_own_at (P:=P) w 0 t o.type e Y z T.size bytes C Z TY qQ o7 G H v li.length xs jj dD ml.length c cs (oo T hcs)
  N (wL T hcs) g J9 (g_ _)
 have B:(aX.row e T.size r (li++ml) (xs++cs)).ok w':=by
  show w'.ownsRow 0 e T.size r (li++ml).length (xs++cs)
  rw[fz];exact J
 obtain⟨A,b,rfl,_⟩:=Gk B
 have lX:aS P o a w (.slice A (li++ml).length b) w':=by simp only[aS,execOp,R,resolve,invoke,builtin,Sem.run_bind,Sem.run_pure,Result.andThen_ok,gg,eZ,h6,S,hy,eP]
 have AP:=p.Wd (B0 T hcs M)
 refine nn O lX U aC V λ a' dd=>k a' A b w' (a1.grown s) dd (AP.GA i hi (a1.grown s) B (aks _) λ q aI=>?_)
 have f:(Value.slice A (li++ml).length b).ownBlock=some q:=by simpa[aX.row]using aI
 rcases cZ with b' |b'
 ·left;simpa[aX.row,<-b']using f
 ·right;rw[b']at f;injection f with f;subst f;refine⟨cS _,?_⟩;rcases J.2 with⟨h,_⟩|⟨g',cap,cur,h,_,e9,_⟩;rw[h]at b';simp[Value.ownBlock]at b'
  ·rw[h]at b';have:g'=w.heap.size:=by simpa[Value.ownBlock]using b'
   subst this;exact(ee.1 e9).1
theorem Gp{α:Type}{T:cR α}{t e:TypeId}{x y:Operand}{z:Value}{bytes g m c:Nat}{v:Value}{li ml l':List α}{xs cs:List Value}(i j q:Nat)(f:bd W au X w E D)(hi:E[i]? =some (aX.row e T.size v li xs))(p:E[j]? =some (aX.dl g e cs))(r:D[q]? =some (bh.rows T xs li))
 (s:P.underlying t=some (.slice e))(B:(P.info? e).map (λ i=>(i.zero,i.size,i.bytes))=some (some z,T.size,bytes))(C:z.cells.size=T.size)(F:eh 0 T.size=true)
 (G:cc bytes li ml=some l')(H:ml.length=m)(I:eh 0 bytes=true)(hcs:c' T (gT (X++bG E) w) w cs ml)
 (J:Region.wanted o (yielded ops a.tmps)=true)
 (K:o.op= .call { callee:=.builtin .append,args:=#[x,y],argTypes:=#[t,t] })(L:a.eval x=v)(hy:a.eval y= .slice (some ⟨g,0,none⟩) m c)(M:Fr n l a)(aC:o.dst=some d)(N:eh d n=true)
 (k:∀a' A b h w',Fr n ((d,.slice A l'.length b)::l) a'->bd W au X w' ((E.set i (aX.row e T.size (.slice A l'.length b) l' h)).eraseIdx j) (bh.rows T h l'::D)->wpList P ops Q rest a' w'):wpList P ops Q (o::rest) a w:=by
 have ag:=f.e j p
 exact Gq i f hi s B C (b_ F) G H (b_ I) (f.d q r) hcs (λ j u O=>by rw[iF];simpa using sk ag O) J K L hy M aC N
  λ a' A b w' _ R S=>k a' A b _ w' R (S.DY j)
theorem NT{α:Type}{T:cR α}{t e:TypeId}{x y:Operand}{z:Value}{bytes g m c:Nat}{v:Value}{li ml l':List α}{xs cs:List Value}(i j q:Nat)(f:bd W au X w E D)(hi:E[i]? =some (aX.row e T.size v li xs))(p:E[j]? =some (aX.dl g e cs))(r:D[q]? =some (bh.rows T xs li))
 (s:P.underlying t=some (.slice e))(B:(P.info? e).map (λ i=>(i.zero,i.size,i.bytes))=some (some z,T.size,bytes))(C:z.cells.size=T.size)(F:eh 0 T.size=true)
 (G:cc bytes li ml=some l')(H:ml.length=m)(I:eh 0 bytes=true)(hcs:c' T (gT (X++bG E) w) w cs ml)
 (J:Region.wanted o (yielded ops a.tmps)=true)
 (K:o.op= .call { callee:=.builtin .append,args:=#[x,y],argTypes:=#[t,t] })(L:a.eval x=v)(hy:a.eval y= .slice (some ⟨g,0,none⟩) m c)(M:Fr n l a)(aC:o.dst=some d)(N:eh d n=true)
 (k:∀a' A b h w',a1 v.ownBlock.toList w w'->Fr n ((d,.slice A l'.length b)::l) a'->bd W au X w' ((E.set i (aX.row e T.size (.slice A l'.length b) l' h)).eraseIdx j) (bh.rows T h l'::D)->wpList P ops Q rest a' w'):wpList P ops Q (o::rest) a w:=by
 have ag:=f.e j p
 exact Gq i f hi s B C (b_ F) G H (b_ I) (f.d q r) hcs (λ j u O=>by rw[iF];simpa using sk ag O) J K L hy M aC N
  λ a' A b w' R S U=>k a' A b _ w' R S (U.DY j)
theorem ap7{t e:TypeId}{x y:Operand}{v:Value}{sz k:Nat}{xs:List Value}{z:Value}{bytes:Nat}(b:P.underlying t=some (.slice e))(c:(P.info? e).map (λ i=>(i.zero,i.size,i.bytes))=some (some z,sz,bytes))(f:w.ownsRow 0 e sz v k xs)
 (g:o.op= .call { callee:=.builtin .append,args:=#[x,y],argTypes:=#[t,t] })(h:a.eval x=v)(hy:a.eval y= .slice none 0 0):aS P o a w v w:=by
 obtain⟨j,m,q,r,s⟩:=T2 c
 have p:=run_append_owned_none (P:=P) (w:=w) 0 t o.type e j sz b m v k xs f
 simp only[aS,execOp,g,resolve,invoke,builtin,Sem.run_bind,Sem.run_pure,Result.andThen_ok,gg,eZ,h6,h,hy,p]
theorem am'{α:Type}{T:cR α}{t e:TypeId}{x y:Operand}{z:Value}{bytes c:Nat}{v:Value}{li ml l':List α}{xs:List Value}{h:Option Addr}(i q p:Nat)(f:bd W au X w E D)(hi:E[i]? =some (aX.row e T.size v li xs))(Z:D[q]? =some (bh.rows T xs li))(aB:D[p]? =some (bh.of (bX T) [.slice h ml.length c] ml))
 (m:P.underlying t=some (.slice e))(r:(P.info? e).map (λ i=>(i.zero,i.size,i.bytes))=some (some z,T.size,bytes))(N:z.cells.size=T.size)(O:eh 0 T.size=true)
 (s:cc bytes li ml=some l')(R:eh 0 bytes=true)
 (B:Region.wanted o (yielded ops a.tmps)=true)
 (C:o.op= .call { callee:=.builtin .append,args:=#[x,y],argTypes:=#[t,t] })(F:a.eval x=v)(hy:a.eval y= .slice h ml.length c)(G:Fr n l a)(aC:o.dst=some d)(H:eh d n=true)
 (k:∀a' A b S w',a1 v.ownBlock.toList w w'->Fr n ((d,.slice A l'.length b)::l) a'->bd W au X w' (E.set i (aX.row e T.size (.slice A l'.length b) l' S)) (bh.rows T S l'::D)->wpList P ops Q rest a' w'):wpList P ops Q (o::rest) a w:=by
 have I:=f.d q Z
 have J:(bX T).rd (gT (X++bG E) w) w [.slice h ml.length c] ml:=f.d p aB
 obtain⟨gd,cX,U,al,aN,bI,b'⟩:=J
 simp only[hH,Value.slice.injEq,and_true,true_and]at U
 obtain⟨rfl,rfl⟩:=U
 by_cases V:ml=[]
 ·subst V;cases h with
  |none=>
   have jF:=bI rfl;subst jF;have jj:w.ownsRow 0 e T.size v li.length xs:=f.e i hi;have pd:(aX.row e T.size v li xs).ok w:=f.e i hi;obtain⟨A,b,rfl,_⟩:=Gk pd;obtain⟨_,rfl⟩:=Dz s;refine nn B (ap7 m r jj C F hy) G aC H λ a' g=>?_;have Y:li++[]=li:=jb li;refine k a' A b xs w (a1.refl _ w) (by rw[Y];exact g) ?_;rw[Y];have aP:E.set i (aX.row e T.size (.slice A li.length b) li xs)=E:=by obtain⟨bk,he⟩:=bg.1 hi;rw[<-he,lp]
   rw[aP];exact f.more I
  |some dD=>exact Gq (cs:=[]) i f hi m r N (b_ O) s rfl (b_ R) I rfl (λ j u K=>by simp at K) B C F hy G aC H λ a' A b w' L g M=>k a' A b _ w' L g M
 ·obtain⟨dc,bp,cs,fj,h0⟩:=b' V;rw[dc]at hy;exact Gq (cs:=cs) i f hi m r N (b_ O) s rfl (b_ R) I fj (λ j u K=>by rw[iF];exact h0 j u K) B C F hy G aC H λ a' A b w' L g M=>k a' A b _ w' L g M
theorem am_{α:Type}{T:cR α}{t e:TypeId}{x y:Operand}{z:Value}{bytes c:Nat}{v:Value}{li ml l':List α}{xs:List Value}{g:Option Addr}(i q p:Nat)(h:bd W au X w E D)(hi:E[i]? =some (aX.row e T.size v li xs))(j:D[q]? =some (bh.rows T xs li))(m:D[p]? =some (bh.of (bX T) [.slice g ml.length c] ml))
 (r:P.underlying t=some (.slice e))(s:(P.info? e).map (λ i=>(i.zero,i.size,i.bytes))=some (some z,T.size,bytes))(u:z.cells.size=T.size)(B:eh 0 T.size=true)
 (C:cc bytes li ml=some l')(F:eh 0 bytes=true)
 (G:Region.wanted o (yielded ops a.tmps)=true)
 (H:o.op= .call { callee:=.builtin .append,args:=#[x,y],argTypes:=#[t,t] })(I:a.eval x=v)(hy:a.eval y= .slice g ml.length c)(J:Fr n l a)(aC:o.dst=some d)(K:eh d n=true)
 (k:∀a' A b f w',Fr n ((d,.slice A l'.length b)::l) a'->bd W au X w' (E.set i (aX.row e T.size (.slice A l'.length b) l' f)) (bh.rows T f l'::D)->wpList P ops Q rest a' w'):wpList P ops Q (o::rest) a w:=
 am' i q p h hi j m r s u B C F G H I hy J aC K λ a' A b f w' _=>k a' A b f w'
theorem tW{x:Value}{y:Nat}{code:BoundsCode}{k:IntKind}{i:Int}(b:x= .int k i)(h:0<=i/\i<=y):(Instr.sliceBound x y code).run P w= .ok i.toNat w:=by subst b;simp[Instr.sliceBound,asIntOf,h]
end
section
variable{α:Type}{T:cR α}
theorem NB{F:Nat->Prop}{w:World}{d':α}{a:List Value}(h':T.rd F w a d'):∀ {li:List α}{xs:List Value}{i:Nat},c' T F w xs li->i<li.length->c' T F w (xs.take (i*T.size)++a++xs.drop (i*T.size+T.size)) (li.set i d')
 |[],_,i,_,hi=>by simp at hi
 |d::r,xs,0,h,_=>by obtain⟨cs,ys,rfl,I,J⟩:=h;have b:=T.len I;refine⟨a,ys,?_,h',J⟩;simp[<-b]
 |d::r,xs,i+1,h,hi=>by
  obtain⟨cs,ys,rfl,I,J⟩:=h;have b:=T.len I;have c:=NB h' J (i:=i) (by simpa using hi);refine⟨cs,_,?_,I,c⟩;have e:(i+1)*T.size=cs.length+i*T.size:=by rw[iW];omega
  rw[e,kj,hF (by omega),show cs.length+i*T.size-cs.length=i*T.size by omega,List.drop_append,h7 (l:=cs) (by omega),
   show cs.length+i*T.size+T.size-cs.length=i*T.size+T.size by omega]
  simp
end
theorem N3{β:Type}{L vs:List β}{p N:Nat}(I:p+vs.length<=N)(J:N<=L.length):(L.take p++vs++L.drop (p+vs.length)).take N=(L.take N).take p++vs++(L.take N).drop (p+vs.length):=by
 have a:(L.take p++vs).length=p+vs.length:=by rw[fz,fM];omega
 rw[kj,hF (by omega),a,List.take_take,lu (by omega),List.drop_take]
section
variable{P:Program}{ops:Array Oper}{Q:Exit->Act->World->Prop}{a:Act}{w:World}{rest:List Oper}{o:Oper}{n:cm}{d:Nat}{l:List (Nat×Value)}
 {W:World}{au X:List Nat}{E:List aX}{D:List bh}
theorem Sc{xs cs:List Value}{p:Nat}(h:∀j u,cs[j]? =some u->xs[p+j]? =some u):(xs.drop p).take cs.length=cs:=by apply jO;intro j;rw[ht];by_cases b:j<cs.length;rw[lH b,je,bx b];exact h j _ (bx b);rw[lG b,gM (by omega)]
theorem anc{α:Type}{T:cR α}{t e:TypeId}{x y:Operand}{A:Option Addr}{c kk sz:Nat}{li:List α}{xs cs0 vs:List Value}{z:Int}{R d':α}{v:Value}(i q:Nat)(s:bd W au X w E D)(hi:E[i]? =some (aX.row e T.size (.slice A li.length c) li xs))(aI:D[q]? =some (bh.rows T xs li))
 (aj:idx li z=some R)(hcs:T.rd (gT (X++bG E) w) w cs0 R)(S:ev w ⟨dh A,fA A+z.toNat*T.size,none⟩ cs0)(hw:Region.wanted o (yielded ops a.tmps)=true)
 (ai:v.cells=vs.toArray)(ap:∀w,(Go.sizeOf t).run P w= .ok sz w)(aq:b2 vs.length sz=true)(I:vs.all (·.oneCell')=true)(B:hR (kk+vs.length) cs0.length=true)
 (KL:T.rd (gT (X++bG E) w) w (lay cs0 kk vs) d')
 (av:o.op= .store t x y)(C:a.eval x= .pointer (some ⟨dh A,fA A+z.toNat*T.size+kk,none⟩))(hy:a.eval y=v)(aC:o.dst=none)
 (k:∀f w',a1 (Value.slice A li.length c).ownBlock.toList w w'->bd W au X w' (E.set i (aX.row e T.size (.slice A li.length c) (li.set z.toNat d') f)) (bh.rows T f (li.set z.toNat d')::D)->wpList P ops Q rest a w'):wpList P ops Q (o::rest) a w:=by
 obtain⟨ha,U,C9⟩:=il aj
 have h:vs.length=sz:=a8 aq
 have yb:kk+vs.length<=cs0.length:=b_ B
 have jF:=T.len hcs
 have F:w.ownsRow 0 e T.size (.slice A li.length c) li.length xs:=s.e i hi
 have G:c' T (gT (X++bG E) w) w xs li:=s.d q aI
 rcases F.2 with⟨_,cY⟩|⟨g,cap,cur,V,_,Y,Z,jG,Kd,H⟩
 ·omega
 simp only[Value.slice.injEq,true_and]at V
 obtain⟨rfl,rfl⟩:=V
 have J:dh (some ⟨g,0,none⟩)=g:=rfl
 have K:fA (some ⟨g,0,none⟩)=0:=rfl
 simp only[J,K,jJ]at C S
 have hmul:(z.toNat+1)*T.size<=li.length*T.size:=jf _ U
 have arl:li.length*T.size<=c*T.size:=jf _ Z
 have arn:(z.toNat+1)*T.size=z.toNat*T.size+T.size:=by rw[iW,Nat.one_mul]
 have pg:xs.length=li.length*T.size:=F.1
 have m:(xs.drop (z.toNat*T.size)).take cs0.length=cs0:=Sc λ j u aA=>by have:=S j u aA;have qK:j<cs0.length:=(bg.1 aA).1;rw[World.ownsRow.cellAt F (z.toNat*T.size+j) (by omega)]at this;exact this
 have fl:=run_storeCells_at P g (z.toNat*T.size+kk) e vs 0 cur w Y (by omega) (λ u hu=>jX.1 I u hu)
 simp only[Nat.add_zero]at fl
 obtain⟨p,aB⟩:∃p,p=z.toNat*T.size+kk:=⟨_,rfl⟩
 rw[<-aB]at fl C
 have arf:cur.toList.length=c*T.size:=by simpa using Kd
 obtain⟨f,L⟩:∃f,f=xs.take p++vs++xs.drop (p+vs.length):=⟨_,rfl⟩
 have M:f=xs.take (z.toNat*T.size)++lay cs0 kk vs++xs.drop (z.toNat*T.size+T.size):=by
  rw[L,LG _ _ _ yb];have N:xs=xs.take (z.toNat*T.size)++(cs0++xs.drop (z.toNat*T.size+T.size)):=by
   conv=>lhs;rw[<-iJ (z.toNat*T.size) xs]
   congr 1;rw[<-iJ cs0.length (xs.drop (z.toNat*T.size)),m,List.drop_drop,jF]
  have r:(xs.take (z.toNat*T.size)).length=z.toNat*T.size:=by rw[fM];omega
  conv=>lhs;rw[N]
  rw[kj,hF (by rw[r];omega),r,List.drop_append,h7 (l:=xs.take (z.toNat*T.size)) (by rw[r];omega),r,
   show p-z.toNat*T.size=kk by omega,show p+vs.length-z.toNat*T.size=kk+vs.length by omega,List.take_append_of_le_length (by omega),List.drop_append_of_le_length (by omega)]
  simp
 have O:f.length=li.length*T.size:=by rw[L];simp only[fz,fM,kp];omega
 have pd:(aX.row e T.size (.slice (some ⟨g,0,none⟩) li.length c) (li.set z.toNat d') f).ok (w.setRow g (cur.toList.take p++vs++cur.toList.drop (p+vs.length)).toArray):=by
  show World.ownsRow _ 0 e T.size _ (li.set z.toNat d').length f
  rw[lv];refine⟨O,.inr ⟨g,c,(cur.toList.take p++vs++cur.toList.drop (p+vs.length)).toArray,rfl,g_ _,?_,Z,jG,?_,?_⟩⟩;simp only[World.setRow,j0,if_true,Y];rfl;simp only[List.size_toArray,fz,fM,kp];omega;rw[List.toList_toArray,L,<-H];exact N3 (by omega) (by omega)
 have A8:nF P o a w (w.setRow g (cur.toList.take p++vs++cur.toList.drop (p+vs.length)).toArray):=by simp only[nF,execOp,av,C,hy];simp only[ja,h]at fl⊢;have fy:=ai;unfold Value.cells at fy;simp[go_sem,Instr.storeAt,storeVar,ap,fy,h,fl]
 have AP:=s.Wd (T:=T) (xs:=f) (li:=li.set z.toNat d') (by rw[M];exact NB KL G U)
 have g1:a1 (Value.slice (some ⟨g,0,none⟩) li.length c).ownBlock.toList w (w.setRow g (cur.toList.take p++vs++cur.toList.drop (p+vs.length)).toArray):=⟨rfl,rfl,rfl,by simp[World.setRow],λ b _ aL=>by simp only[World.setRow,j0];rw[lG (by simpa[Value.ownBlock,eq_comm]using aL)]⟩
 exact hM hw A8 aC (k f _ g1 (AP.GA i hi g1 pd (by simp[aX.row,Value.ownBlock]) (λ b ag=>.inl (by simpa[aX.row]using ag))))
theorem ane{α:Type}{T:cR α}{t e:TypeId}{x y:Operand}{A:Option Addr}{c kk sz:Nat}{li b:List α}{xs cs0 vs:List Value}{z:Int}{h d':α}{v:Value}(i q:Nat)(j:some (li.set z.toNat d')=some b)(m:bd W au X w E D)(hi:E[i]? =some (aX.row e T.size (.slice A li.length c) li xs))(p:D[q]? =some (bh.rows T xs li))
 (r:idx li z=some h)(hcs:T.rd (gT (X++bG E) w) w cs0 h)(s:ev w ⟨dh A,fA A+z.toNat*T.size,none⟩ cs0)(u:Region.wanted o (yielded ops a.tmps)=true)
 (B:v.cells=vs.toArray)(ap:∀w,(Go.sizeOf t).run P w= .ok sz w)(C:b2 vs.length sz=true)(I:vs.all (·.oneCell')=true)(g:hR (kk+vs.length) cs0.length=true)
 (F:T.rd (gT (X++bG E) w) w (lay cs0 kk vs) d')
 (G:o.op= .store t x y)(H:a.eval x= .pointer (some ⟨dh A,fA A+z.toNat*T.size+kk,none⟩))(hy:a.eval y=v)(aC:o.dst=none)
 (k:∀f w',li.length=b.length->a1 (Value.slice A li.length c).ownBlock.toList w w'->bd W au X w' (E.set i (aX.row e T.size (.slice A li.length c) b f)) (bh.rows T f b::D)->wpList P ops Q rest a w'):wpList P ops Q (o::rest) a w:=by
 obtain rfl:=eG j
 exact anc i q m hi p r hcs s u B ap C I g F G H hy aC λ f w'=>k f w' (by rw[lv])
theorem amX{A:Option Addr}{m c sz:Nat}{t e:TypeId}{lo hi:Option Value}{i j:Int}(g:P.underlying t=some (.slice e))(ap:∀w,(Go.sizeOf e).run P w= .ok sz w)
 (k:(lo=none/\i=0)\/lo=some (.int .i64 i))(p:(hi=none/\j=m)\/hi=some (.int .i64 j))(h:0<=i/\i<=j/\j<=m)(s:m<=c) :
 (Instr.slice t (.slice A m c) lo hi none).run P w= .ok (.slice (if c=i.toNat then A else A.map (·.add (i.toNat*sz))) (j.toNat-i.toNat) (c-i.toNat)) w:=by
 have ag:(Instr.sliceBounds true m c lo hi none).run P w= .ok (i.toNat,j.toNat,c) w:=by have f:∀code,(Instr.sliceBound (.int .i64 j) c code).run P w= .ok j.toNat w:=λ code=>tW rfl (by omega);have q:∀code,(Instr.sliceBound (.int .i64 i) j.toNat code).run P w= .ok i.toNat w:=λ code=>tW rfl (by omega);have r:j=m->∀code,(Instr.sliceBound (.int .i64 i) m code).run P w= .ok i.toNat w:=λ e code=>tW rfl (by omega);rcases k with⟨rfl,rfl⟩|rfl<;>rcases p with⟨rfl,b⟩|rfl;simp[Instr.sliceBounds,b];simp[Instr.sliceBounds,f];simp[Instr.sliceBounds,r b,b];simp[Instr.sliceBounds,f,q]
 simp[Instr.slice,run_underlying g,ag,ap]
theorem Hh{A:Option Addr}{m c sz:Nat}{t e:TypeId}{x:Operand}{lo hi:Option Operand}{i j:Int}(b:P.underlying t=some (.slice e))(ap:∀w,(Go.sizeOf e).run P w= .ok sz w)(f:o.op= .slice t x lo hi none)(g:a.eval x= .slice A m c)
 (k:(lo=none/\i=0)\/∃z,lo=some z/\a.eval z= .int .i64 i)(p:(hi=none/\j=m)\/∃z,hi=some z/\a.eval z= .int .i64 j)(h:0<=i/\i<=j/\j<=m)(q:m<=c) :
 aS P o a w (.slice (if c=i.toNat then A else A.map (·.add (i.toNat*sz))) (j.toNat-i.toNat) (c-i.toNat)) w:=by
 have r:=amX (P:=P) (w:=w) (A:=A) (m:=m) (c:=c) (lo:=lo.map a.eval) (hi:=hi.map a.eval) b ap (i:=i) (j:=j)
  (k.imp (λ h=>⟨by rw[h.1];rfl,h.2⟩) (λ⟨z,I,J⟩=>by rw[I,fC,J])) (p.imp (λ h=>⟨by rw[h.1];rfl,h.2⟩) (λ⟨z,I,J⟩=>by rw[I,fC,J])) h q
 simp only[aS,execOp,f,g,Instr.sliceAt,Sem.run_bind,run_underlying b,Result.andThen_ok,ie,r]
 rfl
theorem H7{α:Type}{l r:List α}{i j:Int}(h:cut l i j=some r):(0<=i/\i<=j/\j<=l.length)/\r=(l.take j.toNat).drop i.toNat:=by unfold cut at h;split at h;rename_i b;exact⟨b,by simpa using h.symm⟩;cases h
theorem pI{α:Type}{T:cR α}{F:Nat->Prop}{w:World}:∀ {l:List α}{xs:List Value}(i j:Nat),c' T F w xs l->c' T F w ((xs.take (j*T.size)).drop (i*T.size)) ((l.take j).drop i)
 |[],xs,i,j,h=>by
  have h:xs=[]:=h;subst h;have e:(([]:List α).take j).drop i=[]:=by simp
  rw[e];show List.drop _ (List.take _ _)=[]
  simp
 |d::r,xs,i,0,h=>by
  have e:((d::r).take 0).drop i=[]:=by simp
  rw[e];show List.drop _ (List.take _ _)=[]
  simp
 |d::r,xs,0,j+1,h=>by obtain⟨cs,ys,rfl,I,J⟩:=h;have c:=T.len I;have b:=pI 0 j J;simp only[Nat.zero_mul,kv]at b⊢;rw[jn,show(j+1)*T.size=cs.length+j*T.size by rw[iW];omega,kj,hF (by omega),show cs.length+j*T.size-cs.length=j*T.size by omega];exact⟨cs,_,rfl,I,b⟩
 |d::r,xs,i+1,j+1,h=>by
  obtain⟨cs,ys,rfl,I,J⟩:=h;have c:=T.len I;have b:=pI i j J
  rw[jn,List.drop_succ_cons,show(j+1)*T.size=cs.length+j*T.size by rw[iW];omega,kj,hF (by omega),show cs.length+j*T.size-cs.length=j*T.size by omega,
   show(i+1)*T.size=cs.length+i*T.size by rw[iW];omega,List.drop_append,h7 (l:=cs) (by omega),show cs.length+i*T.size-cs.length=i*T.size by omega,List.nil_append]
  exact b
end
section
variable{P:Program}{ops:Array Oper}{Q:Exit->Act->World->Prop}{a:Act}{w:World}{rest:List Oper}{o:Oper}{n:cm}{d:Nat}{l:List (Nat×Value)}
 {W:World}{au X:List Nat}{E:List aX}{D:List bh}
theorem Fr.iY(e:Fr n l a)(t:Nat){b c:Bool}(g:dz l t=some (.bool b))(ag:b=c):Fr n ((t,.bool c)::l) a:=
 ⟨e.size,e.defers,λ u v h=>by
  simp only[dz]at h;cases f:b2 t u with
  |true=>rw[f]at h;simp only[aM]at h;rw[<-a8 f,<-h,<-ag];exact e.get t _ g
  |false=>rw[f]at h;exact e.get u v h⟩
theorem tH{t:TypeId}{cs:List Value}(b:Region.wanted o (yielded ops a.tmps)=true)(hy:aS P o a w (.pointer (some ⟨w.heap.size,0,none⟩)) (w.alloc (.cells cs.toArray t)))(c:Fr n l a)(e:bd W au X w E D)
 (aC:o.dst=some d)(f:eh d n=true)(k:∀a' g w',a1 [] w w'->Fr n ((d,.pointer (some ⟨g,0,none⟩))::l) a'->bd W au X w' (aX.dl g t cs::E) D->wpList P ops Q rest a' w'):wpList P ops Q (o::rest) a w:=
 nn b hy c aC f λ a' h=>k a' _ _ (a1.alloc _ _ _) h (e.new t cs)
theorem akd{t:TypeId}{cs:List Value}{m:Nat}(b:Region.wanted o (yielded ops a.tmps)=true)(hy:aS P o a w (.slice (some ⟨w.heap.size,0,none⟩) m m) (w.alloc (.cells cs.toArray t)))(c:Fr n l a)(e:bd W au X w E D)
 (aC:o.dst=some d)(f:eh d n=true)(k:∀a' g w',a1 [] w w'->Fr n ((d,.slice (some ⟨g,0,none⟩) m m)::l) a'->bd W au X w' (aX.dl g t cs::E) D->wpList P ops Q rest a' w'):wpList P ops Q (o::rest) a w:=
 nn b hy c aC f λ a' h=>k a' _ _ (a1.alloc _ _ _) h (e.new t cs)
theorem ap9{t e:TypeId}{sz:Nat}(b:P.underlying t=some (.slice e))(ap:∀w,(Go.sizeOf e).run P w= .ok sz w)(c:o.op= .buildSlice t 0 (List.toArray [])) :
 aS P o a w (.slice (some ⟨w.heap.size,0,none⟩) 0 0) (w.alloc (.cells (List.toArray []) e)):=by
 simp only[aS,execOp,c,Instr.buildSlice,Sem.run_bind,Sem.run_pure,ap,Result.andThen_ok,run_underlying b]
 simp[Instr.fill,newRow,go_sem]
theorem aaU{S:World->Prop}{f p:Nat}{ds:List Nat}{v:Value}(i:Nat)(hi:ops[i]? =some o)(g:(y4 ops ds i&& !b2 p i)=true)(q:Region.wanted o (yielded ops a.tmps)=true)(hy:∀w',aS P o a w' v w')(j:S w)
 (r:Fr n l a)(aC:o.dst=some d)(s:eh d n=true)(k:∀a',Fr n ((d,v)::l) a'->eC P ops Q p S f (i::ds) a' w):eC P ops Q p S (f+1) ds a w:=by
 simp only[bM,gx]at g
 obtain⟨b,m⟩:=g
 have t:p≠i:=λ e=>by rw[e]at m;simp at m
 simp only[y4,bM]at b
 refine⟨λ _=>j,?_⟩
 refine Xc (v:=v) hi (Region.noSelect_spec b.1.1) t (λ c a w h=>h) f _ a w (Region.free_spec hi b.1.2) (λ _=>j) (by simpa using b.2) (.inl ⟨q,λ w _=>hy w⟩) ?_
 rw[aC]
 exact(k _ (r.put s)).2
theorem bd.swap{x y:aX}(h:bd W au X w (x::y::E) D):bd W au X w (y::x::E) D:=by
 have p:∀k,k∈bG (y::x::E)↔k∈bG (x::y::E):=λ k=>by simp only[bG,ik,de];exact⟨λ h=>by rcases h with h |h |h<;>simp[h],λ h=>by rcases h with h |h |h<;>simp[h]⟩
 refine⟨h.bO,h.fI,λ k g=>h.lt k ((p k).1 g),λ z c=>h.ok z (by simp only[cU]at c⊢;rcases c with h |h |h<;>simp[h]),?_,λ z c=>z.law _ _ w w (a1.refl _ _) (λ k g=>.inl (by
  rcases de.1 g with e |e;exact de.2 (.inl e)
  ·exact de.2 (.inr ((p k).1 e)))) (h.rd z c)⟩
 have aC:=h.a6;have r:bG (x::y::E)=x.a_++(y.a_++bG E):=by simp[bG]
 have al:bG (y::x::E)=y.a_++(x.a_++bG E):=by simp[bG]
 rw[r,fL,fL]at aC;rw[al,fL,fL];obtain⟨s,⟨i,j,m⟩,q⟩:=aC;exact⟨i,⟨s,j,λ a f b ag=>q a f b (by simp[ag])⟩,λ a f b ag=>by
  rcases de.1 ag with e |e;exact λ aN=>q b e a (by simp[f]) aN.symm
  ·exact m a f b e⟩
end
section
variable{P:Program}{o:Oper}{a:Act}{w:World}{xs ys:Array Value}
theorem Ry{d sz:Nat}{f:Go.Field}{l:List Go.Field}{us vs:List Value}{e q:Prop} [Decidable e] [Decidable q](c:(f.name != "_")=true)(g:∀w,(isAgg f.type).run P w= .ok true w)(ap:∀w,(Go.sizeOf f.type).run P w= .ok sz w)
 (i:xs.extract f.offset (f.offset+sz)=us.toArray)(hy:ys.extract f.offset (f.offset+sz)=vs.toArray)(j:(Op.equalIn (d+1) f.type (.agg us.toArray) (.agg vs.toArray)).run P w= .ok (decide q) w)
 (h:(Op.eqFields (d+1) xs ys l).run P w= .ok (decide e) w):(Op.eqFields (d+1) xs ys (f::l)).run P w= .ok (decide (q/\e)) w:=by
 have k:f.name≠ "_" :=by simpa using c
 simp only[Op.eqFields,k,if_true,ne_eq,not_false_iff,part,Sem.run_bind,g,ap,Result.andThen_ok,i,hy,Sem.run_pure,j]
 by_cases b:q
 ·simp[b,h]
 ·simp[b]
theorem Rz{d:Nat}{t:TypeId}{b3:Array Go.Field}{q:Prop} [Decidable q](b:P.underlying t=some (.struct b3))(e:P.stoodInHeld t=false)(h:(Op.eqFields d xs ys b3.toList).run P w= .ok (decide q) w):(Op.equalIn (d+1) t (.agg xs) (.agg ys)).run P w= .ok (decide q) w:=by
 have c:P.fieldsOf t=b3:=by simp[Program.fieldsOf,b]
 have h':=run_equalIn_struct (P:=P) w d t xs ys (by rw[c];exact b) e;rw[c,h]at h';exact h'
theorem sw{d:Nat}{f:Go.Field}{l:List Go.Field}{m n:List UInt8}{e:Prop} [Decidable e](c:(f.name != "_")=true)(g:P.underlying f.type=some .string)(i:∀w,(isAgg f.type).run P w= .ok false w)
 (j:xs[f.offset]? =some (bW m))(hy:ys[f.offset]? =some (bW n))(h:(Op.eqFields (d+1) xs ys l).run P w= .ok (decide e) w):(Op.eqFields (d+1) xs ys (f::l)).run P w= .ok (decide (m=n/\e)) w:=by
 have k:f.name≠ "_" :=by simpa using c
 have heq:(Op.equalIn (d+1) f.type (bW m) (bW n)).run P w= .ok (decide (m=n)) w:=by simp only[Op.equalIn,Sem.run_bind,run_underlying g,Result.andThen_ok];rw[<-HS m n];rfl
 simp only[Op.eqFields,k,if_true,ne_eq,not_false_iff,part,Sem.run_bind,i,Result.andThen_ok,j,hy,hT,if_false,Sem.run_pure,heq]
 by_cases b:m=n
 ·subst b;simp[h]
 ·simp[b]
end
section
variable{P:Program}{ops:Array Oper}{Q:Exit->Act->World->Prop}{a:Act}{w:World}{rest:List Oper}{o:Oper}{n:cm}{d:Nat}{l:List (Nat×Value)}
 {W:World}{au X:List Nat}{E:List aX}{D:List bh}
theorem V3{F:Nat->Prop}{w:World}:∀s:List UInt8,c' GB F w (s.map λ b=>Value.int .u8 (b.toNat:Int)) s
 |[]=>rfl
 |b::r=>⟨[.int .u8 (b.toNat:Int)],_,rfl,rfl,V3 r⟩
end
section
variable{P:Program}{Q:Exit->Act->World->Prop}{a:Act}{w:World}
theorem HY{c:Operand}{x y:Code}{t:Bool}{ρ:Type}{p q:Option ρ}{r:ρ}(hc:a.eval c= .bool t)(h:cond t p q=some r)(b:t=true->p=some r->x.wp P Q a w)(d:t=false->q=some r->y.wp P Q a w):(Code.cond c x y).wp P Q a w:=wp_cond_split hc (λ e=>b e (H4 e h)) (λ e=>d e (H3 e h))
end
section
variable{P:Program}{ops:Array Oper}{Q:Exit->Act->World->Prop}{a:Act}{w w0 w':World}{rest:List Oper}{o:Oper}{n:cm}{d:Nat}{l:List (Nat×Value)}
 {W:World}{au X:List Nat}{E:List aX}{D:List bh}
theorem aqu{t:TypeId}{x:Operand}{m:Int}(b:o.op= .unOp .neg t x)(c:a.eval x= .int .i64 m):aS P o a w (.int .i64 (bj (0-m))) w:=by rw[<-pR];simp only[aS,execOp,b,c];simp[go_sem]
theorem bd.FH(h:bd W au X w E D){g:Nat}{t:TypeId}{cs:List Value}{x:aX}(i j:Nat)(hi:E[i]? =some (aX.dl g t cs))(b:E[j]? =some x)(c:i≠j):g∉x.a_:=λ e=>(I7 h.a6 i _ hi).2 j x b c g (by simp[aX.dl]) e
theorem D7{M:List Nat}{p:Addr}{cs:List Value}(h:a1 M w w')(b:p.block∉M)(c:p.block<w.heap.size)(hc:ev w p cs):ev w' p cs:=hc.law (h.block p.block c b)
theorem BG{t:TypeId}{cs:List Value}{m:Nat}(b:Region.wanted o (yielded ops a.tmps)=true)(hy:aS P o a w (.slice (some ⟨w.heap.size,0,none⟩) m m) (w.alloc (.cells cs.toArray t)))(c:Fr n l a)(e:bd W au X w E D)
 (aC:o.dst=some d)(f:eh d n=true)(k:∀a' g w',a1 [] w w'->w.heap.size<=g->Fr n ((d,.slice (some ⟨g,0,none⟩) m m)::l) a'->bd W au X w' (aX.dl g t cs::E) D->wpList P ops Q rest a' w'):wpList P ops Q (o::rest) a w:=
 nn b hy c aC f λ a' h=>k a' _ _ (a1.alloc _ _ _) (cS _) h (e.new t cs)
end
def nb:List Oper->Bool
 |[]=>true
 |o::r=>(match o.op with
  | .defer _=>false
  |_=>true)&&nb r
theorem FF:∀ {l:List Oper},nb l=true->∀o∈l,∀c,o.op≠ .defer c
 |[],_,o,a,_=>by simp at a
 |p::r,h,o,a,c=>by simp only[nb,bM]at h;rcases cU.1 a with rfl |e;intro al;rw[al]at h;exact absurd h.1 (by simp);exact FF h.2 o e c
def ih(ro:Option Nat):Fence:={ Fence.wide with round:=ro }
theorem NC{ro:Option Nat}{q:Prop}:(ih ro).depth.isSome=true->q:=λ h=>by simp[ih,Fence.wide]at h
section
variable{P:Program}{ops:Array Oper}{Q:Exit->Act->World->Prop}{K:Act->World->Prop}{a:Act}{w:World}{o:Oper}{ro:Option Nat}{n:Nat}
theorem Mx(aC:∀c,o.op≠ .defer c)(h:o.wp P a w K Q):o.wpIn (ih ro) n P a w K Q:=by
 unfold Oper.wpIn;refine⟨λ _ _=>trivial,?_⟩;rw[Oper.semAt_eq _ _ _ aC];unfold Oper.wp at h;generalize(execOp a.eval o).run P w=r at *
 cases r with
 |ok x w'=>
  cases x<;>simp only[Oper.upon,Oper.uponIn]at h⊢ <;>first
   |exact h
   |exact⟨NC,(callsIn_wide (n:=n-1)).2 h⟩
   |exact⟨NC,λ c cs _=>let⟨v,w',r,s⟩:=h c cs;⟨v,w',r,stepsIn_wide.2 s⟩⟩
 |halt x w'=>cases x<;>simp only[Oper.upon,Oper.uponIn]at h⊢ <;>exact h
theorem E8(b:∀a w,¬Q .outgrown a w):∀ {os:List Oper}{a:Act}{w:World},nb os=true->wpList P ops Q os a w->wpListIn (ih ro) n P ops Q os a w
 |[],_,_,_,h=>h
 |o::r,a,w,aC,h=>by have c:=aC;simp only[nb,bM]at c;simp only[wpList]at h;simp only[wpListIn];split;rename_i d;rw[lH d]at h;rcases h with h |⟨_,a',w',h⟩;exact Mx (FF aC o (by simp)) (Oper.wp_mono (λ a w h=>E8 b c.2 h) h);exact absurd h (b _ _);rename_i d;rw[lG d]at h;exact⟨λ _ _=>trivial,E8 b c.2 h⟩
theorem ai6(k:Nat){lo:List Oper}(aC:nb (lo.take k)=true)(h:wpList P ops (Exit.then (wpListIn (ih ro) n P ops Q (lo.drop k)) (λ _ _ _=>False)) (lo.take k) a w):wpListIn (ih ro) n P ops Q lo a w:=by
 have key:∀(os b:List Oper)(a:Act)(w:World),nb os=true->wpList P ops (Exit.then (wpListIn (ih ro) n P ops Q b) (λ _ _ _=>False)) os a w->wpListIn (ih ro) n P ops Q (os++b) a w:=by
  intro os;induction os with
  |nil=>intro b a w _ h;exact h
  |cons o r g=>
   intro b a w aC h;have d:=aC;simp only[nb,bM]at d;simp only[wpList]at h;simp only[iQ,wpListIn];split
   ·rename_i f;rw[lH f]at h;rcases h with h |⟨_,a',w',h⟩
    ·have I:=Mx (ro:=ro) (n:=n) (FF aC o (by simp)) (Oper.wp_mono (λ a w h=>g b a w d.2 h) h);refine⟨I.1,?_⟩;have J:=I.2;revert J;generalize(o.semAt (ih ro).round a.eval).run P w=e4;intro J;cases e4 with
     |ok x w'=>
      cases x<;>simp only[Oper.uponIn]at J⊢ <;>first
       |exact J
       |exact⟨J.1,CallsIn.mono J.2 (λ e w'' c=>by cases e<;>first |exact c |exact absurd c (by simp[Exit.then,LetsOut]))⟩
       |exact⟨J.1,RoundIn.mono J.2 (λ e w'' c=>by cases e<;>first |exact c |exact absurd c (by simp[Exit.then,LetsOut]))⟩
     |halt x w'=>cases x<;>simp only[Oper.uponIn]at J⊢ <;>first |exact J |exact absurd J (by simp[Exit.then])
    ·exact absurd h (by simp[Exit.then])
   ·rename_i f;rw[lG f]at h;exact⟨λ _ _=>trivial,g b _ _ d.2 h⟩
 have:=key (lo.take k) (lo.drop k) a w aC h;rwa [iJ]at this
theorem akr(d:∀a w,¬Q .outgrown a w)(aC:nb ops.toList=true){i:Nat}(h:wpOp P ops Q i K a w):wpOpIn (ih ro) n P ops Q i K a w:=by
 unfold wpOp at h;unfold wpOpIn;split;rename_i e;rw[e]at h;exact h
 ·rename_i o c;rw[c]at h;have f:o∈ops.toList:=by have:=bR (l:=ops.toList) (i:=i) (a:=o) (by rw[g5];exact c);exact this
  simp only at h;split;rename_i b;rw[lH b]at h;rcases h with h |⟨_,a',w',h⟩;exact Mx (FF aC o f) h;exact absurd h (d _ _);rename_i b;rw[lG b]at h;exact⟨λ _ _=>trivial,h⟩
theorem PP(b:∀a w,¬Q .outgrown a w)(aC:nb ops.toList=true):∀ {f:Nat}{ls:Array Bool}{a:Act}{w:World},wpAny P .any ops Q f ls a w->wpAnyIn (ih ro) n P .any ops Q f ls a w
 |0,_,_,_,h=>h
 |f+1,ls,a,w,h=>⟨h.1,λ i hi=>akr b aC (wpOp_mono (λ a w h=>PP b aC h) (h.2 i hi))⟩
end
def fw(ro:Option Nat)(n:Nat)(P:Program)(c:Code)(Q:Exit->Act->World->Prop)(a:Act)(w:World):Prop:=(∀a w,¬Q .outgrown a w)->c.wpIn (ih ro) n P Q a w
section
variable{P:Program}{Q:Exit->Act->World->Prop}{a:Act}{w:World}{ro:Option Nat}{n:Nat}
theorem GM(h:Q .normal a w):fw ro n P .skip Q a w:=λ _=>wpIn_skip h
theorem OA{id:Nat}(h:Q (.exit id) a w):fw ro n P (.exit id) Q a w:=λ _=>wpIn_exit h
theorem kB{x y:Code}(h:∀K:Act->World->Prop,(∀a w,fw ro n P y Q a w->K a w)->fw ro n P x (Exit.then K Q) a w):fw ro n P (.seq x y) Q a w:=λ b=>wpIn_seq (h _ (λ _ _ h=>h b) b)
theorem Oz{c:Operand}{x y:Code}{t:Bool}(hc:a.eval c= .bool t)(d:t=true->fw ro n P x Q a w)(f:t=false->fw ro n P y Q a w):fw ro n P (.cond c x y) Q a w:=λ b=>wpIn_cond_split hc (λ e=>d e b) (λ e=>f e b)
theorem an6{c:Operand}{x y:Code}{b:Bool}(hc:a.eval c= .bool b)(ag:b=false)(h:fw ro n P y Q a w):fw ro n P (.cond c x y) Q a w:=λ d=>wpIn_cond_false (by rw[hc,ag]) (h d)
theorem Ox{id:Nat}{c:Code}(h:fw ro n P c (Exit.inBlock id Q) a w):fw ro n P (.block id c) Q a w:=λ b=>wpIn_block (h b)
theorem Oy{id:Nat}{c:Code}(b:Act->World->Prop)(d:∀K:Act->World->Prop,(∀a w,b a w->K a w)->fw ro n P c (Exit.inBlock id (Exit.then K Q)) a w)(hy:∀a w,b a w->Q .normal a w):fw ro n P (.block id c) Q a w:=by
 intro f;refine wpIn_block (wpIn_mono (d _ hy f) ?_);intro e a w h;cases e with
 |exit i=>by_cases hi:i=id;simpa[Exit.inBlock,Exit.then,hi]using h;simpa[Exit.inBlock,Exit.then,hi]using h
 |_=>exact h
theorem Xj{c:Code}(b:Nat->Act->World->Prop)(k:Nat)(h:b k a w)(e:∀a w,¬b 0 a w)
 (round:∀k a w,b (k+1) a w->∀K:Act->World->Prop,(∀a w,b k a w->K a w)->fw ro n P c (Exit.then K Q) a w):fw ro n P (.loop c) Q a w:=by
 intro f
 refine wpIn_loop (λ a w=>∃n,b n a w) (λ a w=>leastOf (λ n=>b n a w)) ⟨k,h⟩ ?_
 intro a w g
 have I:=(leastOf_spec g).1
 cases d:leastOf (λ n=>b n a w)with
 |zero=>rw[d]at I;exact absurd I (e a w)
 |succ m=>rw[d]at I;exact round m a w I _ (λ a' w' h'=>⟨⟨m,h'⟩,Nat.lt_succ_of_le ((leastOf_spec ⟨m,h'⟩).2 m h')⟩) f
theorem mn{id:Nat}{l:List Oper}(aC:nb l=true)(h:wpList P l.toArray Q l a w):fw ro n P (.region id l.toArray false) Q a w:=λ b=>wpIn_region_lit (E8 b aC h)
theorem Xi{id m:Nat}{lo:List Oper}(p:Nat)(S:World->World->Prop)(c:P.follows .mixedOrders=true)(b:b2 lo.length m=true)(aC:nb lo=true)(h:∀w',a1 [] w w'->eC P lo.toArray Q p (S w') m [] a w'):fw ro n P (.region id lo.toArray true) Q a w:=by have b:=a8 b;subst b;intro d;exact wpIn_mono (Q:=NoPanic Q) (wpIn_region_any c (PP (Q:=NoPanic Q) (λ a w=>d a w) aC (h _ (a1.drew [] w)).wpAny)) NoPanic.imp
theorem an7{id:Nat}{l:List Oper}(h:(∀a w,¬Q .outgrown a w)->wpListIn (ih ro) n P l.toArray Q l a w):fw ro n P (.region id l.toArray false) Q a w:=λ b=>wpIn_region_lit (h b)
end
def aX.obj(g:Nat)(o:Obj):aX where
 a_:=[g]
 ok w:=w.heap[g]? =some o
 law w w' h a:=(h g (by simp)).trans a
section
variable{W w:World}{au X:List Nat}{E:List aX}{D:List bh}
theorem adZ(w:World)(g:Nat)(o:Obj):a1 [g] w (w.putObj g o):=⟨rfl,rfl,rfl,by simp,λ k _ a=>World.putObj_heap_other (by simpa using a)⟩
theorem bd.putObj{g:Nat}{o:Obj}(b:bd W au X w E D)(i:Nat)(hi:E[i]? =some (aX.obj g o))(a:Obj):bd W au X (w.putObj g a) (E.set i (aX.obj g a)) D:=b.GA i hi (adZ w g a) (by have h:w.heap[g]? =some o:=b.e i hi;exact World.putObj_heap_same (ee.1 h).1) (by simp[aX.obj]) (λ k c=>.inl c)
theorem bd.newObj(b:bd W au X w E D)(o:Obj):bd W au X (w.alloc o) (aX.obj w.heap.size o::E) D:=b.push _ (a1.alloc _ _ _) (World.alloc_heap_new w o) (λ k a=>by simp[aX.obj]at a;subst a;exact⟨cS _,by simp⟩) (by simp[aX.obj])
end
def mark(r:Nat):Deferred:={ target:=.collected r,args:=#[] }
theorem Rr{P:Program}{f:FuncId}{fn:Func}{c:Code}{vs:List Value}{w:World}{R:Ending->World->Prop}{n:Nat}
 (b:P.funcs[f]? =some fn)(ag:fn.body=some c)(d:fn.ntmps=n)(e:hR vs.length n=true)
 (h:∀a,Fr ⟨n,[]⟩ (mH 0 vs) a->c.wp P (bodyPostM Fence.wide 0 P fn R) a w):Calls P f vs.toArray w R:=by
 refine(callsIn_wide (n:=0)).1 (callsIn_of_wp_marks b ag trivial (wpIn_wide.2 ?_))
 rw[d]
 exact h _ (Fr.init vs n e)
section
variable{P:Program}{a:Act}{w:World}{W:World}{au X:List Nat}{E:List aX}{D:List bh}{fn:Func}{R:Ending->World->Prop}{l:List (Nat×Value)}{n g t u:Nat}{v eO:Value}
theorem UD(i:Nat)(c:Fr ⟨n,[mark g]⟩ l a)(b:bd W au X w E D)(hi:E[i]? =some (aX.obj g (.deferred (some []))))(h:∀w',bd W au X w' (E.set i (aX.obj g (.deferred none))) D->∃v,(results fn a.tmps).run P w'= .ok v w'/\R (.returned v) w') :
 bodyPostM Fence.wide 0 P fn R .ret a w:=by
 show LeavesInM Fence.wide 0 P fn a.tmps R a.defers .returning w
 rw[c.defers]
 exact⟨by simp,.inl ⟨g,_,rfl,run_takeDeferred (b.e i hi),h _ (b.putObj i hi _)⟩⟩
theorem ajp(i:Nat)(c:fn.results= #[.tmp t])(b:Fr ⟨n,[mark g]⟩ l a)(d:bd W au X w E D)(hi:E[i]? =some (aX.obj g (.deferred (some []))))(e:dz l t=some v)
 (h:∀w',bd W au X w' (E.set i (aX.obj g (.deferred none))) D->R (.returned v) w'):bodyPostM Fence.wide 0 P fn R .ret a w:=
 UD i b d hi λ w' f=>⟨_,results_tmp c _ _ _,by rw[b.get _ _ e];exact h w' f⟩
theorem ajq(i:Nat)(c:fn.results= #[.tmp t,.tmp u])(b:Fr ⟨n,[mark g]⟩ l a)(d:bd W au X w E D)(hi:E[i]? =some (aX.obj g (.deferred (some []))))(e:dz l t=some v)(f:dz l u=some eO)
 (h:∀w',bd W au X w' (E.set i (aX.obj g (.deferred none))) D->R (.returned (.tuple #[v,eO])) w'):bodyPostM Fence.wide 0 P fn R .ret a w:=
 UD i b d hi λ w' j=>⟨_,results_tmp2 c _ _ _,by rw[b.get _ _ e,b.get _ _ f];exact h w' j⟩
end
theorem ac9{P:Program}{f:FuncId}{fn:Func}{c:Code}{vs:List Value}{w:World}{R:Ending->World->Prop}{n:Nat}
 (b:P.funcs[f]? =some fn)(ag:fn.body=some c)(d:fn.ntmps=n)(e:hR vs.length n=true)(g:∀w,¬R .outgrown w)
 (h:∀a,Fr ⟨n,[]⟩ (mH 0 vs) a->fw none 1 P c (bodyPost P fn R) a w):CallsIn (ih none) 1 P f vs.toArray w R:=by
 refine callsIn_of_wp b ag trivial ?_
 rw[d]
 exact h _ (Fr.init vs n e) (λ a w h=>g w h)
theorem aa4{P:Program}{fn:Func}{R:Ending->World->Prop}{a:Act}{w:World}(h:bodyPost P fn R .ret a w):bodyPost P fn R .normal a w:=h
theorem W6{n:Nat}(h:n<=maxLen):ad.bj ((n:Int)-1)=(n:Int)-1:=by unfold ad.bj;simp only[maxLen]at h;omega
theorem ahw{a pre rem:List Int}{x:Int}(h:a=(x::rem).reverse++pre):ad.idx a (rem.length:Int)=some x:=by subst h;unfold ad.idx;rw[lH (by omega)];simp
def Py(P:Program)(f:FuncId):Prop:=∀(a:List Int->World->Prop)(b:List Int)(A:Option Addr)(c eK L:Nat)(w0:World),
 (∀rem w,a rem w->∃W au X E,bd W au X w E [bh.hB eK [.slice A b.length c],bh.of (bX (eT .i64)) [.slice A b.length c] b]) ->
 (∀x rem w,a (x::rem) w->YieldAt (ih none) 0 P L #[.int .i64 (rem.length:Int),.int .i64 x] w (λ e w'=>e= .returned (.bool true)/\a rem w')) ->
 a b.reverse w0->CallsIn (ih none) 1 P f #[.func (.yield L) #[] #[],.pointer (some ⟨eK,0,none⟩)] w0 (λ e w'=>(∃v,e= .returned v)/\a [] w')
section
variable{P:Program}{ops:Array Oper}{Q:Exit->Act->World->Prop}{a:Act}{w:World}{rest:List Oper}{o:Oper}{n:cm}{d L:Nat}{l:List (Nat×Value)}
theorem am2{b:Operand}{xs:List Operand}{c:Array TypeId}{vs:List Value}(e:o.op= .call { callee:=.value b,args:=xs.toArray,argTypes:=c })(f:a.eval b= .func (.yield L) #[] #[])(g:xU a xs vs) :
 (execOp a.eval o).run P w=(Instr.yield L vs.toArray).run P w:=by
 have I:=I6 g
 simp only[execOp,e,resolve,gg,I,f]
 simp[Deferred.ofValue,invoke]
theorem aqG{b:Operand}{xs:List Operand}{f:Array TypeId}{vs:List Value}{R:Ending->World->Prop}(g:Region.wanted o (yielded ops a.tmps)=true)(c:o.op= .call { callee:=.value b,args:=xs.toArray,argTypes:=f })
 (h:a.eval b= .func (.yield L) #[] #[])(i:xU a xs vs)(hy:YieldAt (ih none) 0 P L vs.toArray w R)(j:Fr n l a)(aC:o.dst=some d)(m:eh d n=true)
 (k:∀e w',R e w'->∃v,e= .returned v/\∀a',Fr n ((d,v)::l) a'->wpListIn (ih none) 1 P ops Q rest a' w'):wpListIn (ih none) 1 P ops Q (o::rest) a w:=by
 refine wpListIn_step λ K p=>?_
 rw[lH g]
 refine⟨λ _ _=>trivial,?_⟩
 obtain⟨fn,tmps,assign,body,I,J⟩:=hy
 rw[Oper.semAt_eq _ _ _ (by rw[c];simp),am2 c h i,I]
 refine⟨NC,RoundIn.mono J ?_⟩
 intro e w' q
 obtain⟨v,rfl,r⟩:=k e w' q
 rw[aC]
 exact p _ _ (r _ (j.put m))
end
section
variable{P:Program}{Q:Exit->Act->World->Prop}{a:Act}{w:World}{W:World}{au X:List Nat}{E:List aX}{D:List bh}
theorem Qc{β:Type}{o R gB f n eK c:Nat}{A:Option Addr}{l:List (Nat×Value)}{l1:Int->Int->List (Nat×Value)}{assign body:Code}(p:β->List aX)(j:β->List bh)(d:List Int->β->Prop)(r:List Int)(b0:β)(ba bw:Nat)
 (sM:Py P o)(Rn:∀args w,(callFunc o args).run P w= .ok (.enter o args) w)
 (s:Fr ⟨n,[]⟩ l a)(ay:dz l R=some (.func (.func o) #[] #[.pointer (some ⟨eK,0,none⟩)]))(KQ:eh gB n=true)(C:eh f n=true)
 (hm:bd W au X w (p b0) (j b0))(aK:d r.reverse b0)
 (pc:∀b,(j b)[ba]? =some (bh.hB eK [.slice A r.length c]))(k0:∀b,(j b)[bw]? =some (bh.of (bX (eT .i64)) [.slice A r.length c] r))
 (aZ:∀L i x w a' (K:Act->World->Prop),Fr ⟨n,[]⟩ ((f,.int .i64 x)::(gB,.int .i64 i)::l) a'->(∀q,Fr ⟨n,[]⟩ (l1 i x) q->K q w)->fw (some L) 0 P assign (Exit.then K (λ _ _ _=>False)) a' w)
 (ag:∀L g S T U b i x rem w a' (K:Exit->Act->World->Prop),d (x::rem) b->Fr ⟨n,[]⟩ (l1 i x) a'->bd W au X w (aX.obj g S::aX.obj T U::p b) (j b) ->
  (∀t q w',d rem t->bd W au X w' (aX.obj g S::aX.obj T U::p t) (j t)->K .normal q w')->fw (some L) 0 P body K a' w)
 (F:∀g b a' w',d [] b->Fr ⟨n,[mark g]⟩ l a'->bd W au X w' (aX.obj g (.deferred (some []))::p b) (j b)->Q .normal a' w') :
 (Code.rangeFunc (.tmp R) #[gB,f] assign body).wp P Q a w:=by
 refine(wpIn_wide (n:=2)).1 (wpIn_rangeFunc λ fn _=>?_)
 obtain⟨rec,k⟩:∃rec:LoopState->Loop,rec=λ G=>{ state:=G,pending:=none,fn,tmps:=a.tmps,params:=#[gB,f],assign,body,defers:=w.heap.size }:=⟨_,rfl⟩
 obtain⟨m,V⟩:∃m,(w.alloc (.deferred (some []))).alloc (.loop (rec .ready))=m:=⟨_,rfl⟩
 have H:bd W au X m (aX.obj (w.heap.size+1) (.loop (rec .ready))::aX.obj w.heap.size (.deferred (some []))::p b0) (j b0):=by have:=(hm.newObj (.deferred (some []))).newObj (.loop (rec .ready));rw[V]at this;simpa using this
 refine⟨w.heap.size+1,[mark w.heap.size],m,{ target:=.fn (.func o) #[.pointer (some ⟨eK,0,none⟩)],args:=#[.func (.yield (w.heap.size+1)) #[] #[]] },m,o,
  #[.func (.yield (w.heap.size+1)) #[] #[],.pointer (some ⟨eK,0,none⟩)],m,?_,?_,λ _ _=>trivial,?_,λ _=>by decide,?_⟩
 ·rw[<-V,k];exact run_enterLoop_outer _ _ _ _ _
 ·have AA:=s.g ay;simp only[resolve,AA];simp[go_sem]
 ·simp[invoke,go_sem,Rn]
 ·refine CallsIn.mono (sM (λ rem w'=>∃b,d rem b/\bd W au X w' (aX.obj (w.heap.size+1) (.loop (rec .ready))::aX.obj w.heap.size (.deferred (some []))::p b) (j b)) r A c eK (w.heap.size+1) m ?_ ?_ ⟨b0,aK,H⟩) ?_
  ·rintro rem w' ⟨b,_,B⟩
   exact⟨_,_,_,_,B.less λ y hy=>by
    simp only[cU,hl,or_false]at hy;rcases hy with rfl |rfl;exact bR (pc b)
    ·exact bR (k0 b)⟩
  ·rintro x rem w' ⟨b,J,B⟩;have Y:w'.heap[w.heap.size+1]? =some (.loop (rec .ready)):=B.e 0 rfl;have hy:=run_yield (P:=P) (args:=#[.int .i64 (rem.length:Int),.int .i64 x]) Y (by rw[k];rfl);rw[k]at hy;refine⟨fn,_,assign,body,hy,roundIn_of_wpIn trivial ?_⟩
   have Tp:Fr ⟨n,[]⟩ ((f,.int .i64 x)::(gB,.int .i64 (rem.length:Int))::l) ⟨((#[gB,f]:Array Tmp).zip #[Value.int .i64 (rem.length:Int),.int .i64 x]).foldl (λ tmps (x:Tmp×Value)=>tmps.setIfInBounds x.1 x.2) a.tmps,[]⟩:=by
    have I:=(s.put (v:=.int .i64 (rem.length:Int)) KQ).put (v:=.int .i64 x) C;have e:((#[gB,f]:Array Tmp).zip #[Value.int .i64 (rem.length:Int),.int .i64 x]).foldl (λ tmps (x:Tmp×Value)=>tmps.setIfInBounds x.1 x.2) a.tmps=((a.put (some gB) (.int .i64 (rem.length:Int))).put (some f) (.int .i64 x)).tmps:=by simp[Act.put]
    refine⟨?_,rfl,?_⟩;simp only[e];exact I.size;simp only[e];exact I.get
   refine aZ (w.heap.size+1) _ _ w' _ _ Tp ?_ (λ a w h=>h);intro q M;have AP:=B.putObj 0 rfl (.loop { rec .ready with state:=.busy });refine⟨_,run_beginRound Y (by rw[k]),?_⟩;refine ag (w.heap.size+1) _ _ _ _ b _ x rem _ q _ J M AP ?_ (λ a w h=>h);intro t eb N mU u;have O:N.heap[w.heap.size+1]? =some (.loop { rec .ready with state:=.busy }):=u.e 0 rfl;refine⟨_,_,run_endRound none O,rfl,t,mU,?_⟩;have z:=u.putObj 0 rfl (.loop (rec .ready));rw[k]at z⊢;exact z
  ·rintro e N ⟨⟨v,rfl⟩,b,J,u⟩;have O:N.heap[w.heap.size+1]? =some (.loop (rec .ready)):=u.e 0 rfl;have Z:=run_endLoop (P:=P) O (by rw[k];simp);rw[k]at Z;refine⟨none,_,Z,?_⟩;have z:=u.putObj 0 rfl (.loop { rec .ready with state:=.exhausted });rw[k]at z;refine F w.heap.size b _ _ J ⟨s.size,?_,s.get⟩ (z.drop (List.sublist_cons_self _ _));show[mark w.heap.size]++a.defers=[mark w.heap.size]
   rw[s.defers];rfl
end
def bh.anz:bh:=⟨λ _ _=>True,λ _ _ _ _ _ _ _=>trivial⟩
def bh.Vc{α:Type}(o:Option α)(f:α->bh):bh:=match o with
 |none=>bh.anz
 |some x=>f x
section
variable{P:Program}{ops:Array Oper}{Q:Exit->Act->World->Prop}{a:Act}{w:World}{rest:List Oper}{o:Oper}{n:cm}{d:Nat}{l:List (Nat×Value)}
 {W:World}{au X:List Nat}{E:List aX}{D:List bh}
theorem bd.none(h:bd W au X w E D){α:Type}(f:α->bh):bd W au X w E (bh.Vc (Option.none:Option α) f::D):=h.more (y:=bh.Vc (Option.none:Option α) f) trivial
theorem aqb{t e:TypeId}{sz:Nat}{x:Operand}{lo hi:Option Operand}(b:P.underlying t=some (.slice e))(ap:∀w,(Go.sizeOf e).run P w= .ok sz w)(c:o.op= .slice t x lo hi none)(f:a.eval x= .slice none 0 0)
 (g:(lo=none/\(0 :Int)=0)\/∃z,lo=some z/\a.eval z= .int .i64 0)(k:(hi=none/\(0 :Int)=(0 :Nat))\/∃z,hi=some z/\a.eval z= .int .i64 0):aS P o a w (.slice none 0 0) w:=by
 have h:=Hh (P:=P) (w:=w) b ap c f g k (i:=0) (j:=0) ⟨k2 _,k2 _,by omega⟩ (cS 0)
 simpa using h
theorem aqa{t e:TypeId}{A:Option Addr}{m c:Nat}{x:Operand}(b:P.underlying t=some (.slice e))(f:o.op= .call { callee:=.builtin .cap,args:=#[x],argTypes:=#[t] })(g:a.eval x= .slice A m c):aS P o a w (.int .i64 c) w:=by simp[aS,execOp,f,resolve,invoke,builtin,Builtin.cap_,g,run_underlying b,goInt]
theorem aqA{t t':TypeId}{x y:Operand}{k:IntKind}{m:Int}{n:Nat}(c:hR n 64=true)(e:o.op= .binOp .shr t x y t')(f:a.eval x= .int .u64 m)(hy:a.eval y= .int k (n:Int)):aS P o a w (.int .u64 (Gt m n)) w:=by have b:=b_ c;unfold Gt;simp only[aS,execOp,e,f,hy];simp[go_sem,b]
end
section
variable{P:Program}{W w w':World}{au X:List Nat}{E:List aX}{D:List bh}{n:cm}{l:List (Nat×Value)}{a:Act}{o:Oper}{ops:Array Oper}{rest:List Oper}{Q:Exit->Act->World->Prop}{d:Nat}
theorem amY{A:Option Addr}{m c sz:Nat}{t e:TypeId}{j:Int}(b:P.underlying t=some (.slice e))(ap:∀w,(Go.sizeOf e).run P w= .ok sz w)(h:0<=j/\j<=c) :
 (Instr.slice t (.slice A m c) none (some (.int .i64 j)) (some (.int .i64 j))).run P w= .ok (.slice (if j.toNat=0 then A else A.map (·.add (0*sz))) j.toNat j.toNat) w:=by
 have f:∀code,(Instr.sliceBound (.int .i64 j) c code).run P w= .ok j.toNat w:=λ code=>tW rfl (by omega)
 have g:∀code,(Instr.sliceBound (.int .i64 j) j.toNat code).run P w= .ok j.toNat w:=λ code=>tW rfl (by omega)
 have ag:(Instr.sliceBounds true m c none (some (.int .i64 j)) (some (.int .i64 j))).run P w= .ok (0,j.toNat,j.toNat) w:=by simp[Instr.sliceBounds,f,g]
 simp[Instr.slice,run_underlying b,ag,ap]
end
end aw
namespace Go.Value
abbrev q{α:Type}(A:Option Addr)(c:Nat)(l:List α):Value:=.slice A l.length c
end Go.Value
namespace aw
open Go Go.RowKit ad
abbrev iC:=Option Addr
abbrev oH:=List Value
abbrev zz:=List Int
theorem wn{ops:Array Oper}{a:Act}{o:Oper}(b:o.guard=none:=by rfl):Region.wanted o (yielded ops a.tmps)=true:=y_ b
section
variable{W w:World}{au X:List Nat}{E jv:List aX}{D fu:List bh}{n:cm}{l l' new aQ fi:List (Nat×Value)}{a:Act}
theorem Fr.cut(b:Fr n l a)(h:xN l (l'.map (·.1))=some l':=by kernel_rfl):Fr n l' a:=b.sub (H6 h)
def yY(D:List bh):List Nat->Option (List bh)
 |[]=>some []
 |i::r=>match nth D i,yY D r with
  |some y,some ys=>some (y::ys)
  |_,_=>none
theorem Wm:∀ {is:List Nat}{fu:List bh},yY D is=some fu->FV D fu
 |[],fu,h=>by simp only[yY,aM]at h;subst h;trivial
 |i::r,fu,h=>by simp only[yY]at h;split at h;rename_i y ys I J;simp only[aM]at h;subst h;exact⟨⟨i,by rw[<-cH];exact I⟩,Wm J⟩;cases h
theorem bd.eR(h:bd W au X w E D)(is:List Nat)(e:yY D is=some fu:=by kernel_rfl):bd W au X w E fu:=h.pick (Wm e)
theorem bd.pK(h:bd W au X w E D)(dI is:List Nat)(b:BC dI=true:=by kernel_rfl)(al:yZ E dI=some jv:=by kernel_rfl)(e:yY D is=some fu:=by kernel_rfl):bd W au X w jv fu:=(h.sel dI b al).eR is e
theorem cr{α:Type}{a b:α}(h:some a=some b):a=b:=eG h
theorem os{α:Type}{a b:α}(h:some a=some b):b=a:=(eG h).symm
def mA:List (Nat×Value)->List (Nat×Value)->List (Nat×Value)
 |[],r=>r
 |x::l,r=>x::mA l r
def qC:List (Nat×Value)->Nat->Bool
 |[],_=>false
 |p::r,j=>b2 p.1 j||qC r j
def BM:List (Nat×Value)->List (Nat×Value)->List (Nat×Value)
 |_,[]=>[]
 |new,p::r=>match qC new p.1 with
  |true=>BM new r
  |false=>p::BM (p::new) r
def kL(new aQ:List (Nat×Value)):List (Nat×Value):=mA new (BM new aQ)
theorem Uz{t:Nat}{r:List (Nat×Value)}:∀ {l:List (Nat×Value)},dz (mA l r) t=cond (qC l t) (dz l t) (dz r t)
 |[]=>by simp[mA,qC]
 |p::l=>by
  simp only[mA,dz,qC];cases b2 p.1 t with
  |true=>simp
  |false=>simp only[k9];exact Uz
theorem LQ{t:Nat}:∀ {r new:List (Nat×Value)},qC new t=false->dz (BM new r) t=dz r t
 |[],_,_=>rfl
 |p::r,new,h=>by
  simp only[BM,dz];cases ag:b2 p.1 t with
  |true=>have:p.1=t:=a8 ag;rw[this,h];simp only[dz,this,Nat.beq_refl]
  |false=>
   cases qC new p.1 with
   |true=>simp only;exact LQ h
   |false=>simp only[dz,ag];exact LQ (by simp only[qC,ag,k9];exact h)
theorem Fr.DS(c:Fr n (kL new aQ) a):Fr n (mA new aQ) a:=⟨c.size,c.defers,λ t v b=>c.get t v (by
 unfold kL;rw[Uz]at b⊢;cases d:qC new t with
 |true=>rw[d]at b;exact b
 |false=>rw[d]at b;rw[LQ d];exact b)⟩
def D9(G:j1)(ops:Array Oper)(n:Nat)(M:List (Nat×Nat×List Value))(is ap:List Nat)(aQ:List (Nat×Value))(ez:List Nat):Option (List (Nat×Value)×List (Nat×Nat)):=
 match wH ops.toList is with
 |some os=>ka G ops n M os ap aQ ez
 |none=>none
theorem ad0{G:j1}{ops:Array Oper}{n:Nat}{M:List (Nat×Nat×List Value)}{is ap:List Nat}{aQ:List (Nat×Value)}{ez:List Nat}{r:List (Nat×Value)×List (Nat×Nat)}(h:D9 G ops n M is ap aQ ez=some r):∃os,wH ops.toList is=some os/\ka G ops n M os ap aQ ez=some r:=by unfold D9 at h;split at h;rename_i os I;exact⟨os,I,h⟩;cases h
end
end aw
namespace ad
structure Kind where
 Kind:Int
 ao:List UInt8
 deriving DecidableEq
structure Handler where
 From:Int
 To:Int
 dU:Int
 ao:List UInt8
 deriving DecidableEq
structure Method where
 Name:List UInt8
 Static:Bool
 cg:List Kind
 Returns:Kind
 fP:Int
 fO:Int
 Code:List UInt8
 ck:List Handler
structure Field where
 Name:List UInt8
 Kind:Kind
 deriving DecidableEq
structure ao where
 Name:List UInt8
 ch:List UInt8
 Fields:List Field
 a3:List Method
structure Target where
 ao:Int
 Method:Int
 deriving DecidableEq
structure bE where
 dF:List ao
 cu:List Int
 Fields:List (List Field)
 Names:List (List (List UInt8))
 cy:List (List Target)
structure a7 where
 l:List ao
 bF:List ((List UInt8)×Int)
 cV:List Int
structure p3 where
 dU:Int
 Op:Int
 A:Int
 B:Int
 deriving DecidableEq
structure State where
 Comes:Bool
 fO:List Kind
 fP:List Kind
structure xj where
 Err:Int
 dU:Int
 deriving DecidableEq
structure Ol where
 y4:List Kind
 akM:List Kind
structure Om where
 k:bE
open Go
def wU:aw.cR Kind where
 size:=2
 rd _ _ cs d:=cs=[.int .i64 d.Kind,aw.bW d.ao]
 len h:=by subst h;rfl
 one h v a:=by subst h;simp only[cU,hl,or_false]at a;rcases a with rfl |rfl<;>rfl
 law _ h:=h
def wT:aw.cR Handler where
 size:=4
 rd _ _ cs d:=cs=[.int .i64 d.From,.int .i64 d.To,.int .i64 d.dU,aw.bW d.ao]
 len h:=by subst h;rfl
 one h v a:=by subst h;simp only[cU,hl,or_false]at a;rcases a with rfl |rfl |rfl |rfl<;>rfl
 law _ h:=h
def np:aw.cR Method where
 size:=9
 rd F w cs d:=∃gd a b c,cs=[aw.bW d.Name,.bool d.Static,.slice gd d.cg.length a,.int .i64 d.Returns.Kind,aw.bW d.Returns.ao,.int .i64 d.fP,.int .i64 d.fO,aw.bW d.Code,.slice b d.ck.length c]/\(aw.bX ad.wU).rd F w [.slice gd d.cg.length a] d.cg/\(aw.bX ad.wT).rd F w [.slice b d.ck.length c] d.ck
 len h:=by obtain⟨gd,a,b,c,e,_⟩:=h;subst e;rfl
 one h v f:=by obtain⟨gd,a,b,c,e,_⟩:=h;subst e;simp only[cU,hl,or_false]at f;rcases f with rfl |rfl |rfl |rfl |rfl |rfl |rfl |rfl |rfl<;>rfl
 law g h:=by obtain⟨gd,a,b,c,e,I,J⟩:=h;exact⟨gd,a,b,c,e,(aw.bX ad.wU).law g I,(aw.bX ad.wT).law g J⟩
def hO:aw.cR Field where
 size:=3
 rd _ _ cs d:=cs=[aw.bW d.Name,.int .i64 d.Kind.Kind,aw.bW d.Kind.ao]
 len h:=by subst h;rfl
 one h v a:=by subst h;simp only[cU,hl,or_false]at a;rcases a with rfl |rfl |rfl<;>rfl
 law _ h:=h
def iw:aw.cR ao where
 size:=4
 rd F w cs d:=∃gd a b c,cs=[aw.bW d.Name,aw.bW d.ch,.slice gd d.Fields.length a,.slice b d.a3.length c]/\(aw.bX ad.hO).rd F w [.slice gd d.Fields.length a] d.Fields/\(aw.bX ad.np).rd F w [.slice b d.a3.length c] d.a3
 len h:=by obtain⟨gd,a,b,c,e,_⟩:=h;subst e;rfl
 one h v f:=by obtain⟨gd,a,b,c,e,_⟩:=h;subst e;simp only[cU,hl,or_false]at f;rcases f with rfl |rfl |rfl |rfl<;>rfl
 law g h:=by obtain⟨gd,a,b,c,e,I,J⟩:=h;exact⟨gd,a,b,c,e,(aw.bX ad.hO).law g I,(aw.bX ad.np).law g J⟩
def ix:aw.cR Target where
 size:=2
 rd _ _ cs d:=cs=[.int .i64 d.ao,.int .i64 d.Method]
 len h:=by subst h;rfl
 one h v a:=by subst h;simp only[cU,hl,or_false]at a;rcases a with rfl |rfl<;>rfl
 law _ h:=h
def anF:aw.cR bE where
 size:=5
 rd F w cs d:=∃gd a b c e f g i j oU,cs=[.slice gd d.dF.length a,.slice b d.cu.length c,.slice e d.Fields.length f,.slice g d.Names.length i,.slice j d.cy.length oU]/\(aw.bX ad.iw).rd F w [.slice gd d.dF.length a] d.dF/\(aw.bX (aw.eT .i64)).rd F w [.slice b d.cu.length c] d.cu/\(aw.bX (aw.bX ad.hO)).rd F w [.slice e d.Fields.length f] d.Fields/\(aw.bX (aw.bX aw.hN)).rd F w [.slice g d.Names.length i] d.Names/\(aw.bX (aw.bX ad.ix)).rd F w [.slice j d.cy.length oU] d.cy
 len h:=by obtain⟨gd,a,b,c,e,f,g,i,j,oU,k,_⟩:=h;subst k;rfl
 one h v m:=by obtain⟨gd,a,b,c,e,f,g,i,j,oU,k,_⟩:=h;subst k;simp only[cU,hl,or_false]at m;rcases m with rfl |rfl |rfl |rfl |rfl<;>rfl
 law l h:=by obtain⟨gd,a,b,c,e,f,g,i,j,oU,k,I,J,n,o,p⟩:=h;exact⟨gd,a,b,c,e,f,g,i,j,oU,k,(aw.bX ad.iw).law l I,(aw.bX (aw.eT .i64)).law l J,(aw.bX (aw.bX ad.hO)).law l n,(aw.bX (aw.bX aw.hN)).law l o,(aw.bX (aw.bX ad.ix)).law l p⟩
end ad
namespace Go.Value
abbrev cM(g:Nat):Value:=.pointer (some ⟨g,0,none⟩)
abbrev i(n:Int):Value:=.int .i64 n
end Go.Value
namespace Go.Proofs.YtifhjkbiiekamaaGreatDoor
open Go Go.RowKit
abbrev cd{α:Type}(T:aw.cR α)(A:Option Addr)(c:Nat)(l:List α):aw.bh:=aw.bh.of (aw.bX T) [.slice A l.length c] l
def nR:aw.j1:=⟨[(3,.i .i64),(4,.b),(5,.i .u8),(9,.s),(22,.cd),(23,.cd),(24,.cd),(25,.cd),(26,.cd),(30,.i .i64),(36,.cd),(37,.cd),(58,.cd),(59,.cd),(95,.cd),(96,.cd),(117,.cd),(180,.cd)],[(28,0,0),(28,1,1),(28,2,2),(28,3,3),(28,4,4),(39,0,0),(39,1,1),(39,2,2),(39,3,3),(47,0,0),(47,1,1),(61,0,0),(61,1,1),(61,2,2),(61,3,3),(61,4,5),(61,5,6),(61,6,7),(61,7,8),(71,0,0),(71,1,1),(71,2,2),(71,3,3),(115,0,0),(115,1,1),(115,2,2),(121,0,0),(121,1,1)],[(3,none),(4,none),(5,none),(9,none),(22,none),(23,none),(24,none),(25,none),(26,none),(28,some 5),(36,none),(37,none),(39,some 4),(47,some 2),(58,none),(59,none),(61,some 9),(71,some 4),(95,none),(96,none),(102,some 2),(111,none),(113,none),(116,none),(121,some 3)]⟩
theorem nS:aw.oG Tryz.prog nR:=⟨⟨Tryz.underlying3,Tryz.underlying4,Tryz.underlying5,Tryz.underlying9,⟨_,Tryz.underlying22⟩,⟨_,Tryz.underlying23⟩,⟨_,Tryz.underlying24⟩,⟨_,Tryz.underlying25⟩,⟨_,Tryz.underlying26⟩,Tryz.underlying30,⟨_,Tryz.underlying36⟩,⟨_,Tryz.underlying37⟩,⟨_,Tryz.underlying58⟩,⟨_,Tryz.underlying59⟩,⟨_,Tryz.underlying95⟩,⟨_,Tryz.underlying96⟩,⟨_,Tryz.underlying117⟩,⟨_,Tryz.underlying180⟩,trivial⟩,⟨aw.fG Tryz.underlying28 rfl rfl Tryz.sizeOf22 rfl,aw.fG Tryz.underlying28 rfl rfl Tryz.sizeOf23 rfl,aw.fG Tryz.underlying28 rfl rfl Tryz.sizeOf24 rfl,aw.fG Tryz.underlying28 rfl rfl Tryz.sizeOf25 rfl,aw.fG Tryz.underlying28 rfl rfl Tryz.sizeOf26 rfl,aw.fG Tryz.underlying39 rfl rfl Tryz.sizeOf9 rfl,aw.fG Tryz.underlying39 rfl rfl Tryz.sizeOf9 rfl,aw.fG Tryz.underlying39 rfl rfl Tryz.sizeOf36 rfl,aw.fG Tryz.underlying39 rfl rfl Tryz.sizeOf37 rfl,aw.fG Tryz.underlying47 rfl rfl Tryz.sizeOf3 rfl,aw.fG Tryz.underlying47 rfl rfl Tryz.sizeOf9 rfl,aw.fG Tryz.underlying61 rfl rfl Tryz.sizeOf9 rfl,aw.fG Tryz.underlying61 rfl rfl Tryz.sizeOf4 rfl,aw.fG Tryz.underlying61 rfl rfl Tryz.sizeOf58 rfl,aw.fG Tryz.underlying61 rfl rfl Tryz.sizeOf47 rfl,aw.fG Tryz.underlying61 rfl rfl Tryz.sizeOf3 rfl,aw.fG Tryz.underlying61 rfl rfl Tryz.sizeOf3 rfl,aw.fG Tryz.underlying61 rfl rfl Tryz.sizeOf9 rfl,aw.fG Tryz.underlying61 rfl rfl Tryz.sizeOf59 rfl,aw.fG Tryz.underlying71 rfl rfl Tryz.sizeOf3 rfl,aw.fG Tryz.underlying71 rfl rfl Tryz.sizeOf3 rfl,aw.fG Tryz.underlying71 rfl rfl Tryz.sizeOf3 rfl,aw.fG Tryz.underlying71 rfl rfl Tryz.sizeOf9 rfl,aw.fG Tryz.underlying115 rfl rfl Tryz.sizeOf22 rfl,aw.fG Tryz.underlying115 rfl rfl Tryz.sizeOf113 rfl,aw.fG Tryz.underlying115 rfl rfl Tryz.sizeOf23 rfl,aw.fG Tryz.underlying121 rfl rfl Tryz.sizeOf9 rfl,aw.fG Tryz.underlying121 rfl rfl Tryz.sizeOf47 rfl,trivial⟩,⟨Tryz.isAgg3,Tryz.isAgg4,Tryz.isAgg5,Tryz.isAgg9,Tryz.isAgg22,Tryz.isAgg23,Tryz.isAgg24,Tryz.isAgg25,Tryz.isAgg26,⟨Tryz.isAgg28,Tryz.sizeOf28⟩,Tryz.isAgg36,Tryz.isAgg37,⟨Tryz.isAgg39,Tryz.sizeOf39⟩,⟨Tryz.isAgg47,Tryz.sizeOf47⟩,Tryz.isAgg58,Tryz.isAgg59,⟨Tryz.isAgg61,Tryz.sizeOf61⟩,⟨Tryz.isAgg71,Tryz.sizeOf71⟩,Tryz.isAgg95,Tryz.isAgg96,⟨Tryz.isAgg102,Tryz.sizeOf102⟩,Tryz.isAgg111,Tryz.isAgg113,Tryz.isAgg116,⟨Tryz.isAgg121,Tryz.sizeOf121⟩,trivial⟩⟩
theorem ahG:(Tryz.prog.info? 3).map (λ i=>(i.zero,i.size,i.bytes))=some (some (.int .i64 0),1,8):=by kernel_rfl
theorem Lb:(Tryz.prog.info? 9).map (λ i=>(i.zero,i.size,i.bytes))=some (some (aw.bW []),1,16):=by kernel_rfl
theorem La:(Tryz.prog.info? 102).map (λ i=>(i.zero,i.size,i.bytes))=some (some (.agg #[.int .i64 0,.int .i64 0]),2,16):=by kernel_rfl
theorem ahF:(Tryz.prog.info? 121).map (λ i=>(i.zero,i.size,i.bytes))=some (some (.agg #[aw.bW [],.int .i64 0,aw.bW []]),3,40):=by kernel_rfl
theorem akB:∀w,(aw.placesOf Tryz.prog 102).run Tryz.prog w= .ok #[(0,1),(1,1)] w:=λ w=>by kernel_rfl
theorem adm{o:Oper}{a:Act}{w:World}{t':TypeId}{x y:Operand}{X Y:ad.Kind}(b:o.op= .binOp .eql 47 x y t')(c:a.eval x= .agg #[.int .i64 X.Kind,aw.bW X.ao])(hy:a.eval y= .agg #[.int .i64 Y.Kind,aw.bW Y.ao]):aw.aS Tryz.prog o a w (.bool (decide (X=Y))) w:=by
 have aC:decide (X=Y)=decide (X.Kind=Y.Kind/\X.ao=Y.ao/\True):=by rcases X with⟨_,_⟩;rcases Y with⟨_,_⟩;simp
 rw[aC];exact aw.zm Tryz.underlying47 (by kernel_rfl) (by kernel_rfl) (aw.gj rfl Tryz.underlying3 Tryz.isAgg3 rfl rfl (aw.sw rfl Tryz.underlying9 Tryz.isAgg9 rfl rfl (by simp[aw.kN]))) b c hy
theorem ads{o:Oper}{a:Act}{w:World}{t':TypeId}{x y:Operand}{X Y:ad.Kind}(b:o.op= .binOp .neq 47 x y t')(c:a.eval x= .agg #[.int .i64 X.Kind,aw.bW X.ao])(hy:a.eval y= .agg #[.int .i64 Y.Kind,aw.bW Y.ao]):aw.aS Tryz.prog o a w (.bool (!decide (X=Y))) w:=by
 have aC:decide (X=Y)=decide (X.Kind=Y.Kind/\X.ao=Y.ao/\True):=by rcases X with⟨_,_⟩;rcases Y with⟨_,_⟩;simp
 rw[aC];exact aw.zn Tryz.underlying47 (by kernel_rfl) (by kernel_rfl) (aw.gj rfl Tryz.underlying3 Tryz.isAgg3 rfl rfl (aw.sw rfl Tryz.underlying9 Tryz.isAgg9 rfl rfl (by simp[aw.kN]))) b c hy
theorem adk{o:Oper}{a:Act}{w:World}{t':TypeId}{x y:Operand}{X Y:ad.Handler}(b:o.op= .binOp .eql 71 x y t')(c:a.eval x= .agg #[.int .i64 X.From,.int .i64 X.To,.int .i64 X.dU,aw.bW X.ao])(hy:a.eval y= .agg #[.int .i64 Y.From,.int .i64 Y.To,.int .i64 Y.dU,aw.bW Y.ao]):aw.aS Tryz.prog o a w (.bool (decide (X=Y))) w:=by
 have aC:decide (X=Y)=decide (X.From=Y.From/\X.To=Y.To/\X.dU=Y.dU/\X.ao=Y.ao/\True):=by rcases X with⟨_,_,_,_⟩;rcases Y with⟨_,_,_,_⟩;simp
 rw[aC];exact aw.zm Tryz.underlying71 (by kernel_rfl) (by kernel_rfl) (aw.gj rfl Tryz.underlying3 Tryz.isAgg3 rfl rfl (aw.gj rfl Tryz.underlying3 Tryz.isAgg3 rfl rfl (aw.gj rfl Tryz.underlying3 Tryz.isAgg3 rfl rfl (aw.sw rfl Tryz.underlying9 Tryz.isAgg9 rfl rfl (by simp[aw.kN]))))) b c hy
theorem adq{o:Oper}{a:Act}{w:World}{t':TypeId}{x y:Operand}{X Y:ad.Handler}(b:o.op= .binOp .neq 71 x y t')(c:a.eval x= .agg #[.int .i64 X.From,.int .i64 X.To,.int .i64 X.dU,aw.bW X.ao])(hy:a.eval y= .agg #[.int .i64 Y.From,.int .i64 Y.To,.int .i64 Y.dU,aw.bW Y.ao]):aw.aS Tryz.prog o a w (.bool (!decide (X=Y))) w:=by
 have aC:decide (X=Y)=decide (X.From=Y.From/\X.To=Y.To/\X.dU=Y.dU/\X.ao=Y.ao/\True):=by rcases X with⟨_,_,_,_⟩;rcases Y with⟨_,_,_,_⟩;simp
 rw[aC];exact aw.zn Tryz.underlying71 (by kernel_rfl) (by kernel_rfl) (aw.gj rfl Tryz.underlying3 Tryz.isAgg3 rfl rfl (aw.gj rfl Tryz.underlying3 Tryz.isAgg3 rfl rfl (aw.gj rfl Tryz.underlying3 Tryz.isAgg3 rfl rfl (aw.sw rfl Tryz.underlying9 Tryz.isAgg9 rfl rfl (by simp[aw.kN]))))) b c hy
theorem adn{o:Oper}{a:Act}{w:World}{t':TypeId}{x y:Operand}{X Y:ad.Target}(b:o.op= .binOp .eql 102 x y t')(c:a.eval x= .agg #[.int .i64 X.ao,.int .i64 X.Method])(hy:a.eval y= .agg #[.int .i64 Y.ao,.int .i64 Y.Method]):aw.aS Tryz.prog o a w (.bool (decide (X=Y))) w:=by
 have aC:decide (X=Y)=decide (X.ao=Y.ao/\X.Method=Y.Method/\True):=by rcases X with⟨_,_⟩;rcases Y with⟨_,_⟩;simp
 rw[aC];exact aw.zm Tryz.underlying102 (by kernel_rfl) (by kernel_rfl) (aw.gj rfl Tryz.underlying3 Tryz.isAgg3 rfl rfl (aw.gj rfl Tryz.underlying3 Tryz.isAgg3 rfl rfl (by simp[aw.kN]))) b c hy
theorem adt{o:Oper}{a:Act}{w:World}{t':TypeId}{x y:Operand}{X Y:ad.Target}(b:o.op= .binOp .neq 102 x y t')(c:a.eval x= .agg #[.int .i64 X.ao,.int .i64 X.Method])(hy:a.eval y= .agg #[.int .i64 Y.ao,.int .i64 Y.Method]):aw.aS Tryz.prog o a w (.bool (!decide (X=Y))) w:=by
 have aC:decide (X=Y)=decide (X.ao=Y.ao/\X.Method=Y.Method/\True):=by rcases X with⟨_,_⟩;rcases Y with⟨_,_⟩;simp
 rw[aC];exact aw.zn Tryz.underlying102 (by kernel_rfl) (by kernel_rfl) (aw.gj rfl Tryz.underlying3 Tryz.isAgg3 rfl rfl (aw.gj rfl Tryz.underlying3 Tryz.isAgg3 rfl rfl (by simp[aw.kN]))) b c hy
theorem adj{o:Oper}{a:Act}{w:World}{t':TypeId}{x y:Operand}{X Y:ad.Field}(b:o.op= .binOp .eql 121 x y t')(c:a.eval x= .agg #[aw.bW X.Name,.int .i64 X.Kind.Kind,aw.bW X.Kind.ao])(hy:a.eval y= .agg #[aw.bW Y.Name,.int .i64 Y.Kind.Kind,aw.bW Y.Kind.ao]):aw.aS Tryz.prog o a w (.bool (decide (X=Y))) w:=by
 have aC:decide (X=Y)=decide (X.Name=Y.Name/\(X.Kind.Kind=Y.Kind.Kind/\X.Kind.ao=Y.Kind.ao/\True)/\True):=by rcases X with⟨_,⟨_,_⟩⟩;rcases Y with⟨_,⟨_,_⟩⟩;simp
 rw[aC];exact aw.zm Tryz.underlying121 (by kernel_rfl) (by kernel_rfl) (aw.sw rfl Tryz.underlying9 Tryz.isAgg9 rfl rfl (aw.Ry (us:=[.int .i64 X.Kind.Kind,aw.bW X.Kind.ao]) (vs:=[.int .i64 Y.Kind.Kind,aw.bW Y.Kind.ao]) (q:=X.Kind.Kind=Y.Kind.Kind/\X.Kind.ao=Y.Kind.ao/\True) rfl Tryz.isAgg47 Tryz.sizeOf47 rfl rfl (aw.Rz Tryz.underlying47 (by kernel_rfl) (aw.gj rfl Tryz.underlying3 Tryz.isAgg3 rfl rfl (aw.sw rfl Tryz.underlying9 Tryz.isAgg9 rfl rfl (by simp[aw.kN])))) (by simp[aw.kN]))) b c hy
theorem adp{o:Oper}{a:Act}{w:World}{t':TypeId}{x y:Operand}{X Y:ad.Field}(b:o.op= .binOp .neq 121 x y t')(c:a.eval x= .agg #[aw.bW X.Name,.int .i64 X.Kind.Kind,aw.bW X.Kind.ao])(hy:a.eval y= .agg #[aw.bW Y.Name,.int .i64 Y.Kind.Kind,aw.bW Y.Kind.ao]):aw.aS Tryz.prog o a w (.bool (!decide (X=Y))) w:=by
 have aC:decide (X=Y)=decide (X.Name=Y.Name/\(X.Kind.Kind=Y.Kind.Kind/\X.Kind.ao=Y.Kind.ao/\True)/\True):=by rcases X with⟨_,⟨_,_⟩⟩;rcases Y with⟨_,⟨_,_⟩⟩;simp
 rw[aC];exact aw.zn Tryz.underlying121 (by kernel_rfl) (by kernel_rfl) (aw.sw rfl Tryz.underlying9 Tryz.isAgg9 rfl rfl (aw.Ry (us:=[.int .i64 X.Kind.Kind,aw.bW X.Kind.ao]) (vs:=[.int .i64 Y.Kind.Kind,aw.bW Y.Kind.ao]) (q:=X.Kind.Kind=Y.Kind.Kind/\X.Kind.ao=Y.Kind.ao/\True) rfl Tryz.isAgg47 Tryz.sizeOf47 rfl rfl (aw.Rz Tryz.underlying47 (by kernel_rfl) (aw.gj rfl Tryz.underlying3 Tryz.isAgg3 rfl rfl (aw.sw rfl Tryz.underlying9 Tryz.isAgg9 rfl rfl (by simp[aw.kN])))) (by simp[aw.kN]))) b c hy
section
open aw
variable{n:cm}{aQ:List (Nat×Value)}{w:World}{a:Act}
theorem ak_(k:Nat)(ap:List Nat){ops:Array Oper}{C:World->Prop}{c:Act->Prop}{b:List Oper}{M:List (Nat×Nat×List Value)}(fr':List (Nat×Value))(L:List Nat)(d:∀w,C w->h8 w M)(e:Fr n aQ a)
 (next:∀a',Fr n fr' a'->wpQuiet Tryz.prog ops C c (b.drop k) a')(f:ka nR ops n M (b.take k) ap aQ (fr'.map (·.1))=some (fr',dup L):=by kernel_rfl):wpQuiet Tryz.prog ops C c b a:=ak9 k _ ap nS d e f next
theorem rg(ap:List Nat){id:Nat}{lo:List Oper}{Q:Exit->Act->World->Prop}{M:List (Nat×Nat×List Value)}(fr':List (Nat×Value))(L:List Nat)(b:h8 w M)(c:Fr n aQ a)
 (next:∀a',Fr n fr' a'->Q .normal a' w)(d:ka nR lo.toArray n M lo ap aQ (fr'.map (·.1))=some (fr',dup L):=by kernel_rfl):(Code.region id lo.toArray false).wp Tryz.prog Q a w:=by
 refine mE (hs lo.length _ ap nS b c (by rw[jY];exact d) λ a' e=>?_)
 rw[List.drop_length]
 exact next a' e
theorem Gv(ap:List Nat){id:Nat}{lo:List Oper}{c:Code}{Q:Exit->Act->World->Prop}(fr':List (Nat×Value))(b:Fr n aQ a)
 (next:∀a',Fr n fr' a'->c.wp Tryz.prog Q a' w)(d:ka nR lo.toArray n [] lo ap aQ (fr'.map (·.1))=some (fr',dup []):=by kernel_rfl):(Code.seq (.region id lo.toArray false) c).wp Tryz.prog Q a w:=wp_seq_k λ _ e=>rg ap fr' [] gz b (λ a' f=>e _ _ (next a' f)) d
theorem j_(k:Nat)(ap:List Nat){ops:Array Oper}{Q:Exit->Act->World->Prop}{b:List Oper}(c:List (Nat×Value))(d:Fr n aQ a)
 (next:∀a',Fr n (mA c aQ) a'->wpList Tryz.prog ops Q (b.drop k) a' w)(e:ka nR ops n [] (b.take k) ap aQ ((kL c aQ).map (·.1))=some (kL c aQ,dup []):=by kernel_rfl):wpList Tryz.prog ops Q b a w:=hs k _ ap nS gz d e λ a' h=>next a' h.DS
theorem oX(k:Nat)(ap:List Nat){ops:Array Oper}{Q:Exit->Act->World->Prop}{b:List Oper}{M:List (Nat×Nat×List Value)}(c:List (Nat×Value))(L:List Nat)(d:h8 w M)(e:Fr n aQ a)
 (next:∀a',Fr n (mA c aQ) a'->wpList Tryz.prog ops Q (b.drop k) a' w)(f:ka nR ops n M (b.take k) ap aQ ((kL c aQ).map (·.1))=some (kL c aQ,dup L):=by kernel_rfl):wpList Tryz.prog ops Q b a w:=hs k _ ap nS d e f λ a' h=>next a' h.DS
theorem QI(ap:List Nat){id:Nat}{lo:List Oper}{Q:Exit->Act->World->Prop}{M:List (Nat×Nat×List Value)}(b:List (Nat×Value))(L:List Nat)(c:h8 w M)(d:Fr n aQ a)
 (next:∀a',Fr n (mA b aQ) a'->Q .normal a' w)(e:ka nR lo.toArray n M lo ap aQ ((kL b aQ).map (·.1))=some (kL b aQ,dup L):=by kernel_rfl):(Code.region id lo.toArray false).wp Tryz.prog Q a w:=rg ap _ L c d (λ a' h=>next a' h.DS) e
theorem ab_(ap:List Nat){id:Nat}{lo:List Oper}{Q:Exit->Act->World->Prop}(b:List (Nat×Value))(c:Fr n aQ a)
 (next:∀a',Fr n (mA b aQ) a'->Q .normal a' w)(d:ka nR lo.toArray n [] lo ap aQ ((kL b aQ).map (·.1))=some (kL b aQ,dup []):=by kernel_rfl):(Code.region id lo.toArray false).wp Tryz.prog Q a w:=QI ap b [] gz c next d
theorem vq(ap:List Nat){id:Nat}{lo:List Oper}{c:Code}{Q:Exit->Act->World->Prop}(b:List (Nat×Value))(d:Fr n aQ a)
 (next:∀a',Fr n (mA b aQ) a'->c.wp Tryz.prog Q a' w)(e:ka nR lo.toArray n [] lo ap aQ ((kL b aQ).map (·.1))=some (kL b aQ,dup []):=by kernel_rfl):(Code.seq (.region id lo.toArray false) c).wp Tryz.prog Q a w:=wp_seq_k λ _ f=>QI ap b [] gz d (λ a' g=>f _ _ (next a' g)) e
variable{ops:Array Oper}{Q:Exit->Act->World->Prop}{S:World->Prop}{f p:Nat}{ds:List Nat}{M:List (Nat×Nat×List Value)}
theorem cw(is:List Nat)(k:Nat)(ap:List Nat)(fr':List (Nat×Value))(L:List Nat)(b:∀w,S w->h8 w M)(c:Fr n aQ a)(d:S w)(next:∀a',Fr n fr' a'->eC Tryz.prog ops Q p S f (B9 is ds) a' w)
 (e:b2 is.length k=true:=by kernel_rfl)(g:(cG ops.size ds).getD p false=false:=by kernel_rfl)(h:y5 ops p ds is=true:=by kernel_rfl)(i:D9 nR ops n M is ap aQ (fr'.map (·.1))=some (fr',dup L):=by kernel_rfl):eC Tryz.prog ops Q p S (f+k) ds a w:=by
 obtain⟨os,I,J⟩:=ad0 i
 exact aaY is k _ ap nS b c e g I h J d next
theorem dD(is:List Nat)(k:Nat)(ap:List Nat)(b:List (Nat×Value))(L:List Nat)(c:∀w,S w->h8 w M)(d:Fr n aQ a)(e:S w)(next:∀a',Fr n (mA b aQ) a'->eC Tryz.prog ops Q p S f (B9 is ds) a' w)
 (g:b2 is.length k=true:=by kernel_rfl)(i:(cG ops.size ds).getD p false=false:=by kernel_rfl)(j:y5 ops p ds is=true:=by kernel_rfl)(l:D9 nR ops n M is ap aQ ((kL b aQ).map (·.1))=some (kL b aQ,dup L):=by kernel_rfl):eC Tryz.prog ops Q p S (f+k) ds a w:=
 cw is k ap _ L c d e (λ a' h=>next a' h.DS) g i j l
end
theorem qm:Tryz.prog.cellsOf 3=1:=by kernel_rfl
theorem abT:Tryz.prog.cellsOf 4=1:=by kernel_rfl
theorem sr:Tryz.prog.cellsOf 9=1:=by kernel_rfl
theorem abM:Tryz.prog.cellsOf 22=1:=by kernel_rfl
theorem abN:Tryz.prog.cellsOf 23=1:=by kernel_rfl
theorem abO:Tryz.prog.cellsOf 24=1:=by kernel_rfl
theorem abP:Tryz.prog.cellsOf 25=1:=by kernel_rfl
theorem abQ:Tryz.prog.cellsOf 26=1:=by kernel_rfl
theorem abR:Tryz.prog.cellsOf 28=5:=by kernel_rfl
theorem Qw:Tryz.prog.cellsOf 36=1:=by kernel_rfl
theorem abS:Tryz.prog.cellsOf 37=1:=by kernel_rfl
theorem Qx:Tryz.prog.cellsOf 39=4:=by kernel_rfl
theorem zY:Tryz.prog.cellsOf 47=2:=by kernel_rfl
theorem abU:Tryz.prog.cellsOf 58=1:=by kernel_rfl
theorem abV:Tryz.prog.cellsOf 59=1:=by kernel_rfl
theorem Qy:Tryz.prog.cellsOf 61=9:=by kernel_rfl
theorem Qz:Tryz.prog.cellsOf 71=4:=by kernel_rfl
theorem abW:Tryz.prog.cellsOf 95=1:=by kernel_rfl
theorem abX:Tryz.prog.cellsOf 96=1:=by kernel_rfl
theorem Qu:Tryz.prog.cellsOf 102=2:=by kernel_rfl
theorem Qv:Tryz.prog.cellsOf 121=3:=by kernel_rfl
theorem abf:Tryz.prog.bytesOf 3=8:=by kernel_rfl
theorem abl:Tryz.prog.bytesOf 9=16:=by kernel_rfl
theorem abg:Tryz.prog.bytesOf 36=24:=by kernel_rfl
theorem abh:Tryz.prog.bytesOf 39=80:=by kernel_rfl
theorem abi:Tryz.prog.bytesOf 47=24:=by kernel_rfl
theorem abj:Tryz.prog.bytesOf 61=128:=by kernel_rfl
theorem abk:Tryz.prog.bytesOf 71=40:=by kernel_rfl
theorem abm:Tryz.prog.bytesOf 95=24:=by kernel_rfl
theorem abn:Tryz.prog.bytesOf 96=24:=by kernel_rfl
theorem abd:Tryz.prog.bytesOf 102=16:=by kernel_rfl
theorem abe:Tryz.prog.bytesOf 121=40:=by kernel_rfl
theorem Uv{l:List Value}(h:l.length=2):∃cw a,l=[cw,a]:=match l,h with|[cw,a],_=>⟨cw,a,rfl⟩
theorem aiZ{l:List Value}(h:l.length=3):∃cw a b,l=[cw,a,b]:=match l,h with|[cw,a,b],_=>⟨cw,a,b,rfl⟩
theorem Uw{l:List Value}(h:l.length=4):∃cw a b c,l=[cw,a,b,c]:=match l,h with|[cw,a,b,c],_=>⟨cw,a,b,c,rfl⟩
theorem ai0{l:List Value}(h:l.length=5):∃cw a b c d,l=[cw,a,b,c,d]:=match l,h with|[cw,a,b,c,d],_=>⟨cw,a,b,c,d,rfl⟩
theorem ai1{l:List Value}(h:l.length=9):∃cw a b c d e f g i,l=[cw,a,b,c,d,e,f,g,i]:=match l,h with|[cw,a,b,c,d,e,f,g,i],_=>⟨cw,a,b,c,d,e,f,g,i,rfl⟩
section
variable{H:Type}{enc:TypeId×Value->H}{N:Nat}
def uC(N:Nat)(d:ad.Kind):Prop:=aw.mw d.Kind/\d.ao.length<=N
theorem B4:aw.gJ Tryz.prog enc N 47 ad.wU (uC N):=by intro W n cs x h d e;obtain⟨s,a,c⟩:=aw.mJ Tryz.underlying47 h d e;replace a:=a.trans zY;obtain⟨cw,b,rfl⟩:=Uv a;obtain⟨t,f,gB,w0⟩:=aw.fT c 0 rfl rfl rfl qm (r:=[cw]) rfl;obtain⟨g,i,j⟩:=(aw.rC Tryz.underlying3) W _ _ _ f gB w0;have k:[cw]=_:=i;obtain rfl:cw=_:=(gr k).1;obtain⟨u,I,l,m⟩:=aw.fT c 1 rfl rfl rfl sr (r:=[b]) rfl;obtain⟨o,cE,p⟩:=(aw.tT Tryz.underlying9) W _ _ _ I l m;have q:[b]=_:=cE;obtain rfl:b=_:=(gr q).1;exact⟨⟨g,o⟩,rfl,⟨j,p⟩⟩
def zD(N:Nat)(d:ad.Field):Prop:=d.Name.length<=N/\uC N d.Kind
theorem amj:aw.gJ Tryz.prog enc N 121 ad.hO (zD N):=by intro W n cs x h f g;obtain⟨t,a,b⟩:=aw.mJ Tryz.underlying121 h f g;replace a:=a.trans Qv;obtain⟨cw,c,d,rfl⟩:=aiZ a;obtain⟨u,i,gB,w0⟩:=aw.fT b 0 rfl rfl rfl sr (r:=[cw]) rfl;obtain⟨j,k,l⟩:=(aw.tT Tryz.underlying9) W _ _ _ i gB w0;have m:[cw]=_:=k;obtain rfl:cw=_:=(gr m).1;obtain⟨v,I,o,p⟩:=aw.fT b 1 rfl rfl rfl zY (r:=[c,d]) rfl;obtain⟨q,cE,s⟩:=B4 W _ _ _ I o p;have e:[c,d]=_:=cE;simp only[hH,and_true]at e;obtain⟨rfl,rfl⟩:=e;exact⟨⟨j,q⟩,rfl,⟨l,s⟩⟩
theorem V7:aw.gJ Tryz.prog enc N 36 (aw.bX ad.hO) (λ l=>l.length*40<=N/\∀a∈l,zD N a):=by have h:=aw.oq (enc:=enc) (N:=N) Tryz.underlying36 Qv (by decide) amj;rw[abe]at h;exact h
theorem amv:aw.gJ Tryz.prog enc N 58 (aw.bX ad.wU) (λ l=>l.length*24<=N/\∀a∈l,uC N a):=by have h:=aw.oq (enc:=enc) (N:=N) Tryz.underlying58 zY (by decide) B4;rw[abi]at h;exact h
def Hz(N:Nat)(d:ad.Handler):Prop:=aw.mw d.From/\aw.mw d.To/\aw.mw d.dU/\d.ao.length<=N
theorem amk:aw.gJ Tryz.prog enc N 71 ad.wT (Hz N):=by intro W n cs x h f g;obtain⟨F,b,a⟩:=aw.mJ Tryz.underlying71 h f g;replace b:=b.trans Qz;obtain⟨cw,c,d,e,rfl⟩:=Uw b;obtain⟨G,i,gB,w0⟩:=aw.fT a 0 rfl rfl rfl qm (r:=[cw]) rfl;obtain⟨j,k,l⟩:=(aw.rC Tryz.underlying3) W _ _ _ i gB w0;have m:[cw]=_:=k;obtain rfl:cw=_:=(gr m).1;obtain⟨K,I,o,p⟩:=aw.fT a 1 rfl rfl rfl qm (r:=[c]) rfl;obtain⟨q,cE,s⟩:=(aw.rC Tryz.underlying3) W _ _ _ I o p;have t:[c]=_:=cE;obtain rfl:c=_:=(gr t).1;obtain⟨L,J,u,v⟩:=aw.fT a 2 rfl rfl rfl qm (r:=[d]) rfl;obtain⟨w,y,z⟩:=(aw.rC Tryz.underlying3) W _ _ _ J u v;have al:[d]=_:=y;obtain rfl:d=_:=(gr al).1;obtain⟨M,A,B,C⟩:=aw.fT a 3 rfl rfl rfl sr (r:=[e]) rfl;obtain⟨D,gD,E⟩:=(aw.tT Tryz.underlying9) W _ _ _ A B C;have aN:[e]=_:=gD;obtain rfl:e=_:=(gr aN).1;exact⟨⟨j,q,w,D⟩,rfl,⟨l,s,z,E⟩⟩
theorem amw:aw.gJ Tryz.prog enc N 59 (aw.bX ad.wT) (λ l=>l.length*40<=N/\∀a∈l,Hz N a):=by have h:=aw.oq (enc:=enc) (N:=N) Tryz.underlying59 Qz (by decide) amk;rw[abk]at h;exact h
def Ds(N:Nat)(d:ad.Method):Prop:=d.Name.length<=N/\True/\(d.cg.length*24<=N/\∀a∈d.cg,uC N a)/\uC N d.Returns/\aw.mw d.fP/\aw.mw d.fO/\d.Code.length<=N/\(d.ck.length*40<=N/\∀a∈d.ck,Hz N a)
theorem amm:aw.gJ Tryz.prog enc N 61 ad.np (Ds N):=by intro W n cs x h z A;obtain⟨fa,b,a⟩:=aw.mJ Tryz.underlying61 h z A;replace b:=b.trans Qy;obtain⟨cw,c,s,t,u,d,e,f,v,rfl⟩:=ai1 b;obtain⟨uy,B,gB,w0⟩:=aw.fT a 0 rfl rfl rfl sr (r:=[cw]) rfl;obtain⟨C,D,E⟩:=(aw.tT Tryz.underlying9) W _ _ _ B gB w0;have F:[cw]=_:=D;obtain rfl:cw=_:=(gr F).1;obtain⟨cF,I,G,K⟩:=aw.fT a 1 rfl rfl rfl abT (r:=[c]) rfl;obtain⟨L,cE,M⟩:=(aw.amo Tryz.underlying4) W _ _ _ I G K;have O:[c]=_:=cE;obtain rfl:c=_:=(gr O).1;obtain⟨lx,J,P,Q⟩:=aw.fT a 2 rfl rfl rfl abU (r:=[s]) rfl;obtain⟨R,w,S⟩:=(amv) W _ _ _ J P Q;obtain⟨T,U,al⟩:=aw.nk w;obtain rfl:s=_:=(gr al).1;obtain⟨pU,V,X,Y⟩:=aw.fT a 3 rfl rfl rfl zY (r:=[t,u]) rfl;obtain⟨Z,gD,bQ⟩:=B4 W _ _ _ V X Y;have aN:[t,u]=_:=gD;simp only[hH,and_true]at aN;obtain⟨rfl,rfl⟩:=aN;obtain⟨C6,a5,gP,CD⟩:=aw.fT a 4 rfl rfl rfl qm (r:=[d]) rfl;obtain⟨d4,ng,cK⟩:=(aw.rC Tryz.underlying3) W _ _ _ a5 gP CD;have bI:[d]=_:=ng;obtain rfl:d=_:=(gr bI).1;obtain⟨arW,cZ,tN,g⟩:=aw.fT a 5 rfl rfl rfl qm (r:=[e]) rfl;obtain⟨d5,i,jm⟩:=(aw.rC Tryz.underlying3) W _ _ _ cZ tN g;have b':[e]=_:=i;obtain rfl:e=_:=(gr b').1;obtain⟨arX,gZ,j,k⟩:=aw.fT a 6 rfl rfl rfl sr (r:=[f]) rfl;obtain⟨d6,l,ph⟩:=(aw.tT Tryz.underlying9) W _ _ _ gZ j k;have eD:[f]=_:=l;obtain rfl:f=_:=(gr eD).1;obtain⟨arY,jD,m,o⟩:=aw.fT a 7 rfl rfl rfl abV (r:=[v]) rfl;obtain⟨d7,y,p⟩:=(amw) W _ _ _ jD m o;obtain⟨Yh,q,j'⟩:=aw.nk y;obtain rfl:v=_:=(gr j').1;exact⟨⟨C,L,R,Z,d4,d5,d6,d7⟩,⟨T,U,Yh,q,rfl,w,y⟩,⟨E,M,S,bQ,cK,jm,ph,p⟩⟩
theorem amu:aw.gJ Tryz.prog enc N 37 (aw.bX ad.np) (λ l=>l.length*128<=N/\∀a∈l,Ds N a):=by have h:=aw.oq (enc:=enc) (N:=N) Tryz.underlying37 Qy (by decide) amm;rw[abj]at h;exact h
def zC(N:Nat)(d:ad.ao):Prop:=d.Name.length<=N/\d.ch.length<=N/\(d.Fields.length*40<=N/\∀a∈d.Fields,zD N a)/\(d.a3.length*128<=N/\∀a∈d.a3,Ds N a)
theorem ami:aw.gJ Tryz.prog enc N 39 ad.iw (zC N):=by intro W n cs x h g i;obtain⟨M,b,a⟩:=aw.mJ Tryz.underlying39 h g i;replace b:=b.trans Qx;obtain⟨cw,c,d,e,rfl⟩:=Uw b;obtain⟨O,j,gB,w0⟩:=aw.fT a 0 rfl rfl rfl sr (r:=[cw]) rfl;obtain⟨k,l,m⟩:=(aw.tT Tryz.underlying9) W _ _ _ j gB w0;have o:[cw]=_:=l;obtain rfl:cw=_:=(gr o).1;obtain⟨P,I,p,q⟩:=aw.fT a 1 rfl rfl rfl sr (r:=[c]) rfl;obtain⟨s,cE,t⟩:=(aw.tT Tryz.underlying9) W _ _ _ I p q;have u:[c]=_:=cE;obtain rfl:c=_:=(gr u).1;obtain⟨Q,J,v,w⟩:=aw.fT a 2 rfl rfl rfl Qw (r:=[d]) rfl;obtain⟨y,f,z⟩:=(V7) W _ _ _ J v w;obtain⟨A,B,al⟩:=aw.nk f;obtain rfl:d=_:=(gr al).1;obtain⟨R,C,D,E⟩:=aw.fT a 3 rfl rfl rfl abS (r:=[e]) rfl;obtain⟨F,gD,G⟩:=(amu) W _ _ _ C D E;obtain⟨K,L,aN⟩:=aw.nk gD;obtain rfl:e=_:=(gr aN).1;exact⟨⟨k,s,y,F⟩,⟨A,B,K,L,rfl,f,gD⟩,⟨m,t,z,G⟩⟩
theorem amp:aw.gJ Tryz.prog enc N 22 (aw.bX ad.iw) (λ l=>l.length*80<=N/\∀a∈l,zC N a):=by have h:=aw.oq (enc:=enc) (N:=N) Tryz.underlying22 Qx (by decide) ami;rw[abh]at h;exact h
theorem amq:aw.gJ Tryz.prog enc N 23 (aw.bX (aw.eT .i64)) (λ l=>l.length*8<=N/\∀a∈l,aw.mw a):=by have h:=aw.oq (enc:=enc) (N:=N) Tryz.underlying23 qm (by decide) (aw.rC Tryz.underlying3);rw[abf]at h;exact h
theorem amr:aw.gJ Tryz.prog enc N 24 (aw.bX (aw.bX ad.hO)) (λ l=>l.length*24<=N/\∀a∈l,(a.length*40<=N/\∀b∈a,zD N b)):=by have h:=aw.oq (enc:=enc) (N:=N) Tryz.underlying24 Qw (by decide) (V7);rw[abg]at h;exact h
theorem amx:aw.gJ Tryz.prog enc N 95 (aw.bX aw.hN) (λ l=>l.length*16<=N/\∀a∈l,a.length<=N):=by have h:=aw.oq (enc:=enc) (N:=N) Tryz.underlying95 sr (by decide) (aw.tT Tryz.underlying9);rw[abl]at h;exact h
theorem ams:aw.gJ Tryz.prog enc N 25 (aw.bX (aw.bX aw.hN)) (λ l=>l.length*24<=N/\∀a∈l,(a.length*16<=N/\∀b∈a,b.length<=N)):=by have h:=aw.oq (enc:=enc) (N:=N) Tryz.underlying25 abW (by decide) (amx);rw[abm]at h;exact h
def Dt(N:Nat)(d:ad.Target):Prop:=aw.mw d.ao/\aw.mw d.Method
theorem amn:aw.gJ Tryz.prog enc N 102 ad.ix (Dt N):=by intro W n cs x h d e;obtain⟨s,a,c⟩:=aw.mJ Tryz.underlying102 h d e;replace a:=a.trans Qu;obtain⟨cw,b,rfl⟩:=Uv a;obtain⟨t,f,gB,w0⟩:=aw.fT c 0 rfl rfl rfl qm (r:=[cw]) rfl;obtain⟨g,i,j⟩:=(aw.rC Tryz.underlying3) W _ _ _ f gB w0;have k:[cw]=_:=i;obtain rfl:cw=_:=(gr k).1;obtain⟨u,I,l,m⟩:=aw.fT c 1 rfl rfl rfl qm (r:=[b]) rfl;obtain⟨o,cE,p⟩:=(aw.rC Tryz.underlying3) W _ _ _ I l m;have q:[b]=_:=cE;obtain rfl:b=_:=(gr q).1;exact⟨⟨g,o⟩,rfl,⟨j,p⟩⟩
theorem amy:aw.gJ Tryz.prog enc N 96 (aw.bX ad.ix) (λ l=>l.length*16<=N/\∀a∈l,Dt N a):=by have h:=aw.oq (enc:=enc) (N:=N) Tryz.underlying96 Qu (by decide) amn;rw[abd]at h;exact h
theorem amt:aw.gJ Tryz.prog enc N 26 (aw.bX (aw.bX ad.ix)) (λ l=>l.length*24<=N/\∀a∈l,(a.length*16<=N/\∀b∈a,Dt N b)):=by have h:=aw.oq (enc:=enc) (N:=N) Tryz.underlying26 abX (by decide) (amy);rw[abn]at h;exact h
def HA(N:Nat)(d:ad.bE):Prop:=(d.dF.length*80<=N/\∀a∈d.dF,zC N a)/\(d.cu.length*8<=N/\∀a∈d.cu,aw.mw a)/\(d.Fields.length*24<=N/\∀a∈d.Fields,(a.length*40<=N/\∀b∈a,zD N b))/\(d.Names.length*24<=N/\∀a∈d.Names,(a.length*16<=N/\∀b∈a,b.length<=N))/\(d.cy.length*24<=N/\∀a∈d.cy,(a.length*16<=N/\∀b∈a,Dt N b))
theorem aml:aw.gJ Tryz.prog enc N 28 ad.anF (HA N):=by intro W n cs x h j k;obtain⟨X,b,a⟩:=aw.mJ Tryz.underlying28 h j k;replace b:=b.trans abR;obtain⟨cw,c,d,e,f,rfl⟩:=ai0 b;obtain⟨Y,l,gB,w0⟩:=aw.fT a 0 rfl rfl rfl abM (r:=[cw]) rfl;obtain⟨m,g,o⟩:=(amp) W _ _ _ l gB w0;obtain⟨p,ef,q⟩:=aw.nk g;obtain rfl:cw=_:=(gr q).1;obtain⟨Z,I,s,t⟩:=aw.fT a 1 rfl rfl rfl abN (r:=[c]) rfl;obtain⟨u,cE,v⟩:=(amq) W _ _ _ I s t;obtain⟨gd,w,y⟩:=aw.nk cE;obtain rfl:c=_:=(gr y).1;obtain⟨lx,J,z,A⟩:=aw.fT a 2 rfl rfl rfl abO (r:=[d]) rfl;obtain⟨B,i,C⟩:=(amr) W _ _ _ J z A;obtain⟨D,E,al⟩:=aw.nk i;obtain rfl:d=_:=(gr al).1;obtain⟨pU,F,G,K⟩:=aw.fT a 3 rfl rfl rfl abP (r:=[e]) rfl;obtain⟨L,gD,M⟩:=(ams) W _ _ _ F G K;obtain⟨O,P,aN⟩:=aw.nk gD;obtain rfl:e=_:=(gr aN).1;obtain⟨C6,Q,gP,R⟩:=aw.fT a 4 rfl rfl rfl abQ (r:=[f]) rfl;obtain⟨S,ng,T⟩:=(amt) W _ _ _ Q gP R;obtain⟨U,V,bI⟩:=aw.nk ng;obtain rfl:f=_:=(gr bI).1;exact⟨⟨m,u,B,L,S⟩,⟨p,ef,gd,w,D,E,O,P,U,V,rfl,g,cE,i,gD,ng⟩,⟨o,v,C,M,T⟩⟩
end
end Go.Proofs.YtifhjkbiiekamaaGreatDoor
namespace a9
open Go Go.RowKit aw ad
inductive aE (El:Nat->Type):Type
 |p (v:Value)
 |b (i o:Nat)
 |x (t:Nat) (d:El t) (o:Nat)
 |s (t:Nat) (l:List (El t))
 |q (t:Nat) (l:List (El t))
 |r (i g:Nat)
 |v (i g:Nat) (lo hi:Int)
 |e (i g k t:Nat) (j:Int) (d:El t) (o:Nat)
 |w (i g o:Nat)
 |m (i:Nat)
 |n (kt vt:Nat) (d:List (El kt×El vt))
 |f (fn:Fn) (cs:List (aE El))
 |h (fn:Fn) (us:List (aE El))
 |a (l:List (aE El))
 |u (l:List (aE El))
 |i (t:Nat) (y:aE El)
 |pp (i g sz:Nat) (dI:List Int)
 |tR (i g sz:Nat) (q:Int)
inductive az (El:Nat->Type):Type
 |c (ty:Nat) (cs:List (aE El))
 |r (t g k:Nat) (l:List (El t))
 |k (t sz g:Nat) (cs:List (aE El))
 |z (t g k:Nat) (l:List (El t))
 |m (kt vt:Nat) (d:List (El kt×El vt))
 |o (Mt:Obj)
 |no (g:Nat)
structure gI (cj:Type) where
 dec:DecidableEq cj
 mZ: @iU cj dec
structure bz (El:Nat->Type) (t:Nat) where
 ty:cR (El t)
 agg:Bool
 cs:El t->List (aE El)
 fH:List (aE El)->Option (El t)
 eq:Option (El t->El t->Bool)
 key:Option (gI (El t))
 vl:Option (Σ e:Nat,El t->List (El e))
structure bD where
 El:Nat->Type
 es:List (Σ t,bz El t)
def anE{α:Type}:cR α where
 size:=0
 rd _ _ _ _:=False
 len h:=h.elim
 one h:=h.elim
 law _ h:=h
def bz.no{El:Nat->Type}{t:Nat}:bz El t:=⟨anE,true,λ _=>[],λ _=>none,none,none,none⟩
def e7{El:Nat->Type}:List (Σ t,bz El t)->(t:Nat)->bz El t
 |[],_=>bz.no
 |e::r,t=>match kJ e.1 t with
  |isTrue h=>h▸e.2
  |isFalse _=>e7 r t
def bD.e(T:bD)(t:Nat):bz T.El t:=e7 T.es t
def bD.ty(T:bD)(t:Nat):cR (T.El t):=(T.e t).ty
def bJ{El:Nat->Type}:Option (az El)->Nat
 |some (.r _ g _ _)=>g
 |some (.k _ _ g _)=>g
 |some (.z _ g _ _)=>g
 |some (.no g)=>g
 |_=>0
def fs{El:Nat->Type}:Option (az El)->Nat
 |some (.r _ _ k _)=>k
 |some (.z _ _ k _)=>k
 |_=>0
def ot{El:Nat->Type}:Option (az El)->Option (Σ t,List (El t))
 |some (.r t _ _ l)=>some ⟨t,l⟩
 |some (.z t _ _ l)=>some ⟨t,l⟩
 |_=>none
def hK(T:bD):Option (az T.El)->Nat
 |some (.r t _ _ _)=>(T.ty t).size
 |some (.k _ sz _ _)=>sz
 |some (.z t _ _ _)=>(T.ty t).size
 |_=>0
def k6:Value->Prop
 | .slice _ _ _=>True
 |_=>False
def qW:Value->Prop
 | .pointer (some _)=>True
 |_=>False
def tK(agg:Bool)(xs:List Value):Value:=match agg with
 |true=>.agg ⟨xs⟩
 |false=>xs.headD undef
section
variable(T:bD)(F:Nat->Prop)(w:World)
def vd(t:Nat)(d:T.El t)(v:Value):Prop:=∃xs,(T.ty t).rd F w xs d/\v=tK (T.e t).agg xs
def gS{kt vt:Nat}(K:gI (T.El kt)):List MapEntry->List (T.El kt×T.El vt)->Prop
 |[],[]=>True
 |e::es,p::d=>e.key= @iU.enc _ K.dec K.mZ p.1/\vd T F w vt p.2 e.val/\gS K es d
 |_,_=>False
def r6(kt vt r:Nat)(d:List (T.El kt×T.El vt)):Prop:=∃K,(T.e kt).key=some K/\∃es clock,w.heap[r]? =some (.map es clock)/\gS T F w K es.toList d/\(es.toList.map (·.born)).Pairwise (·< ·)/\∀e∈es.toList,e.born<clock
end
section
variable{T:bD}{F F':Nat->Prop}{w w':World}
theorem gS.law(a:∀k,F k->F' k/\w'.heap[k]? =w.heap[k]?){kt vt:Nat}{K:gI (T.El kt)}:∀ {es:List MapEntry}{d:List (T.El kt×T.El vt)},gS T F w K es d->gS T F' w' K es d
 |[],[],_=>trivial
 |[],_::_,h=>h.elim
 |_::_,[],h=>h.elim
 |e::es,p::d,h=>by obtain⟨I,⟨xs,J,b⟩,c⟩:=h;exact⟨I,⟨xs,(T.ty vt).law a J,b⟩,gS.law a c⟩
theorem r6.law(a:∀k,F k->F' k/\w'.heap[k]? =w.heap[k]?){kt vt r:Nat}{d:List (T.El kt×T.El vt)}(ap:w'.heap[r]? =w.heap[r]?)(h:r6 T F w kt vt r d):r6 T F' w' kt vt r d:=by obtain⟨K,I,es,dO,J,b,c⟩:=h;exact⟨K,I,es,dO,ap.trans J,b.law a,c⟩
end
def p4{El:Nat->Type}(ρ:List Value)(bl:List (az El))(i g sz:Nat)(q:Int)(v:Value):Prop:=qW v/\∃h,ρ[i]? =some h/\g<=bJ bl[i]? /\(g=bJ bl[i]? ->∃A n c,h= .slice A n c/\0<=q/\q<n/\v= .pointer (some ⟨dh A,q.toNat*sz,none⟩))
def p5{El:Nat->Type}(ρ:List Value)(bl:List (az El))(i g sz:Nat):List Int->List Value->Prop
 |[],vs=>vs=[]
 |q::r,vs=>∃u us,vs=u::us/\p4 ρ bl i g sz q u/\p5 ρ bl i g sz r us
section
variable(T:bD)(F:Nat->Prop)(w:World)(ρ:List Value)(bl:List (az T.El))
mutual
def ar:aE T.El->Value->Prop
 | .p u,v=>v=u
 | .b i o,v=>∃g,ρ[i]? =some (.pointer (some ⟨g,0,none⟩))/\v= .pointer (some ⟨g,o,none⟩)
 | .x t d o,v=>∃a q cs,v= .pointer (some ⟨a,q+o,none⟩)/\F a/\(T.ty t).rd F w cs d/\ev w ⟨a,q,none⟩ cs
 | .s t l,v=>(bX (T.ty t)).rd F w [v] l
 | .q t l,v=>(bX (T.ty t)).rd F w [v] l/\∃A,v= .slice A l.length l.length
 | .r i g,v=>k6 v/\∃h,ρ[i]? =some h/\g<=bJ bl[i]? /\(g=bJ bl[i]? ->v=h)
 | .v i g lo hi,v=>k6 v/\∃h,ρ[i]? =some h/\g<=bJ bl[i]? /\(g=bJ bl[i]? ->∃A n c B,h= .slice A n c/\0<=lo/\lo<=hi/\hi<=n/\v= .slice B (hi.toNat-lo.toNat) (c-lo.toNat)/\(lo=0 ->B=A)/\(lo<hi->B=A.map (·.add (lo.toNat*hK T bl[i]?))))
 | .e i g k t j d o,v=>qW v/\∃h,ρ[i]? =some h/\g<=bJ bl[i]? /\(g=bJ bl[i]? ->(∃A n c,h= .slice A n c/\0<=j/\j<n/\v= .pointer (some ⟨dh A,j.toNat*hK T bl[i]? +o,none⟩))/\k<=fs bl[i]? /\(k=fs bl[i]? ->∃l,ot bl[i]? =some ⟨t,l⟩/\idx l j=some d))
 | .w i g o,v=>qW v/\∃h,ρ[i]? =some h/\g<=bJ bl[i]? /\(g=bJ bl[i]? ->∃A n c,h= .slice A n c/\0<n/\v= .pointer (some ⟨dh A,o,none⟩))
 | .m i,v=>∃r,ρ[i]? =some (.map (some r))/\v= .map (some r)
 | .n kt vt d,v=>∃r,v= .map (some r)/\F r/\r6 T F w kt vt r d
 | .f fn cs,v=>∃vs,v= .func fn #[] ⟨vs⟩/\aR cs vs
 | .h fn us,v=>∃vs,v= .func fn ⟨vs⟩ #[]/\aR us vs
 | .a l,v=>∃vs,v= .agg ⟨vs⟩/\aR l vs
 | .u l,v=>∃vs,v= .tuple ⟨vs⟩/\aR l vs
 | .i t y,v=>∃u,v= .iface t u/\ar y u
 | .pp i g sz dI,v=>∃A c,v= .slice A dI.length c/\dI.length<=c/\(A=none->c=0)/\(dI≠[]->A=some ⟨dh A,fA A,none⟩/\F (dh A)/\∃xs,p5 ρ bl i g sz dI xs/\ev w ⟨dh A,fA A,none⟩ xs)
 | .tR i g sz q,v=>∃a o u,v= .pointer (some ⟨a,o,none⟩)/\F a/\p4 ρ bl i g sz q u/\ev w ⟨a,o,none⟩ [u]
def aR:List (aE T.El)->List Value->Prop
 |[],vs=>vs=[]
 |y::r,vs=>∃u us,vs=u::us/\ar y u/\aR r us
end
end
structure j3 (T:bD) (ρ ρ':List Value) (bl bl':List (az T.El)):Prop where
 at_:∀(i:Nat)(h:Value),ρ[i]? =some h->∃h',ρ'[i]? =some h'/\(¬k6 h->h'=h)/\bJ bl[i]? <=bJ bl'[i]? /\(bJ bl'[i]? =bJ bl[i]? ->h'=h/\hK T bl'[i]? =hK T bl[i]? /\fs bl[i]? <=fs bl'[i]? /\(fs bl'[i]? =fs bl[i]? ->ot bl'[i]? =ot bl[i]?))
theorem j3.refl{T:bD}{ρ:List Value}{bl:List (az T.El)}:j3 T ρ ρ bl bl:=⟨λ i h hi=>⟨h,hi,λ _=>rfl,cS _,λ _=>⟨rfl,rfl,cS _,λ _=>rfl⟩⟩⟩
theorem j3.trans{T:bD}{ρ ρ' g:List Value}{bl bl' d:List (az T.El)}(h:j3 T ρ ρ' bl bl')(k:j3 T ρ' g bl' d):j3 T ρ g bl d:=⟨λ i v hi=>by
 obtain⟨j,I,J,l,b⟩:=h.at_ i v hi;obtain⟨f,m,n,o,c⟩:=k.at_ i j I;refine⟨f,m,λ ap=>?_,eY l o,λ e=>?_⟩;have a:=J ap;rw[n (by rw[a];exact ap),a]
 ·have a:bJ bl'[i]? =bJ bl[i]? :=by omega
  have al:bJ d[i]? =bJ bl'[i]? :=by omega
  refine⟨(c al).1.trans (b a).1,(c al).2.1.trans (b a).2.1,eY (b a).2.2.1 (c al).2.2.1,λ aN=>?_⟩;have p:=(b a).2.2.1;have q:=(c al).2.2.1;exact((c al).2.2.2 (by omega)).trans ((b a).2.2.2 (by omega))⟩
section
variable{T:bD}{F F':Nat->Prop}{w w':World}{ρ ρ':List Value}{bl bl':List (az T.El)}
theorem p4.later{i g sz:Nat}{q:Int}{v:Value}(a:j3 T ρ ρ' bl bl')(h:p4 ρ bl i g sz q v):p4 ρ' bl' i g sz q v:=by
 obtain⟨b,u,I,J,c⟩:=h;obtain⟨d,f,_,j,k⟩:=a.at_ i _ I;refine⟨b,d,f,eY J j,λ e=>?_⟩;have l:bJ bl'[i]? =bJ bl[i]? :=by omega
 rw[(k l).1];exact c (by omega)
theorem p5.imp{El a:Nat->Type}{bl:List (az El)}{bl':List (az a)}{i g b g' sz:Nat}(hi:∀q v,p4 ρ bl i g sz q v->p4 ρ' bl' b g' sz q v):∀ {dI:List Int}{xs:List Value},p5 ρ bl i g sz dI xs->p5 ρ' bl' b g' sz dI xs
 |[],_,h=>h
 |q::r,xs,h=>by obtain⟨u,us,rfl,I,J⟩:=h;exact⟨u,us,rfl,hi _ _ I,p5.imp hi J⟩
theorem p5.at_{i g sz:Nat}:∀ {dI:List Int}{xs:List Value}{m:Nat}{q:Int},p5 ρ bl i g sz dI xs->dI[m]? =some q->∃u,xs[m]? =some u/\p4 ρ bl i g sz q u
 |[],_,m,q,_,a=>by simp at a
 |p::r,xs,0,q,h,a=>by obtain⟨u,us,rfl,I,J⟩:=h;simp only[dm,aM]at a;subst a;exact⟨u,rfl,I⟩
 |p::r,xs,m+1,q,h,a=>by obtain⟨u,us,rfl,I,J⟩:=h;simpa using p5.at_ J (by simpa using a)
mutual
theorem ar.later(b:∀k,F k->F' k/\w'.heap[k]? =w.heap[k]?)(f:j3 T ρ ρ' bl bl'):∀(y:aE T.El){v:Value},ar T F w ρ bl y v->ar T F' w' ρ' bl' y v
 | .p _,_,h=>by simpa only[ar]using h
 | .b i o,v,h=>by simp only[ar]at h⊢;obtain⟨g,I,J⟩:=h;obtain⟨h',m,C,_⟩:=f.at_ i _ I;exact⟨g,by rw[m,C (by simp[k6])],J⟩
 | .x t d o,v,h=>by simp only[ar]at h⊢;obtain⟨a,q,cs,I,J,p,D⟩:=h;exact⟨a,q,cs,I,(b a J).1,(T.ty t).law b p,D.law (b a J).2⟩
 | .s t l,v,h=>by simp only[ar]at h⊢;exact(bX (T.ty t)).law b h
 | .q t l,v,h=>by simp only[ar]at h⊢;exact⟨(bX (T.ty t)).law b h.1,h.2⟩
 | .r i g,v,h=>by
   simp only[ar]at h⊢;obtain⟨z,u,I,J,p⟩:=h;obtain⟨B,m,_,x,s⟩:=f.at_ i _ I;refine⟨z,B,m,eY J x,λ e=>?_⟩;have n:bJ bl'[i]? =bJ bl[i]? :=by omega
   rw[(s n).1];exact p (by omega)
 | .v i g lo hi,v,h=>by
   simp only[ar]at h⊢;obtain⟨z,u,I,J,p⟩:=h;obtain⟨B,m,_,x,s⟩:=f.at_ i _ I;refine⟨z,B,m,eY J x,λ e=>?_⟩;have n:bJ bl'[i]? =bJ bl[i]? :=by omega
   rw[(s n).1,(s n).2.1];exact p (by omega)
 | .e i g k t j d o,v,h=>by
   simp only[ar]at h⊢;obtain⟨z,u,I,J,p⟩:=h;obtain⟨B,m,_,x,s⟩:=f.at_ i _ I;refine⟨z,B,m,eY J x,λ e=>?_⟩;have n:bJ bl'[i]? =bJ bl[i]? :=by omega
   obtain⟨E,G,H,e3⟩:=s n;obtain⟨cE,K,gD⟩:=p (by omega);rw[E,G];refine⟨cE,eY K H,λ e=>?_⟩;rw[e3 (by omega)];exact gD (by omega)
 | .w i g o,v,h=>by
   simp only[ar]at h⊢;obtain⟨z,u,I,J,p⟩:=h;obtain⟨B,m,_,x,s⟩:=f.at_ i _ I;refine⟨z,B,m,eY J x,λ e=>?_⟩;have n:bJ bl'[i]? =bJ bl[i]? :=by omega
   rw[(s n).1];exact p (by omega)
 | .m i,v,h=>by simp only[ar]at h⊢;obtain⟨g,I,J⟩:=h;obtain⟨h',m,C,_⟩:=f.at_ i _ I;exact⟨g,by rw[m,C (by simp[k6])],J⟩
 | .n kt vt d,v,h=>by simp only[ar]at h⊢;obtain⟨r,I,J,p⟩:=h;exact⟨r,I,(b r J).1,p.law b (b r J).2⟩
 | .f fn cs,v,h=>by simp only[ar]at h⊢;obtain⟨vs,I,J⟩:=h;exact⟨vs,I,aR.later b f cs J⟩
 | .h fn us,v,h=>by simp only[ar]at h⊢;obtain⟨vs,I,J⟩:=h;exact⟨vs,I,aR.later b f us J⟩
 | .a l,v,h=>by simp only[ar]at h⊢;obtain⟨vs,I,J⟩:=h;exact⟨vs,I,aR.later b f l J⟩
 | .u l,v,h=>by simp only[ar]at h⊢;obtain⟨vs,I,J⟩:=h;exact⟨vs,I,aR.later b f l J⟩
 | .i t y,v,h=>by simp only[ar]at h⊢;obtain⟨u,I,J⟩:=h;exact⟨u,I,ar.later b f y J⟩
 | .pp i g sz dI,v,h=>by simp only[ar]at h⊢;obtain⟨A,c,n,al,aN,bI⟩:=h;refine⟨A,c,n,al,aN,λ L=>?_⟩;obtain⟨m,C,xs,x,s⟩:=bI L;exact⟨m,(b _ C).1,xs,x.imp λ q v=>p4.later f,s.law (b _ C).2⟩
 | .tR i g sz q,v,h=>by simp only[ar]at h⊢;obtain⟨a,o,u,n,al,aN,bI⟩:=h;exact⟨a,o,u,n,(b _ al).1,aN.later f,bI.law (b _ al).2⟩
theorem aR.later(a:∀k,F k->F' k/\w'.heap[k]? =w.heap[k]?)(b:j3 T ρ ρ' bl bl'):∀(l:List (aE T.El)){vs:List Value},aR T F w ρ bl l vs->aR T F' w' ρ' bl' l vs
 |[],_,h=>by simpa only[aR]using h
 |y::r,vs,h=>by simp only[aR]at h⊢;obtain⟨u,us,I,J,c⟩:=h;exact⟨u,us,I,ar.later a b y J,aR.later a b r c⟩
end
theorem aR.len:∀ {l:List (aE T.El)}{vs:List Value},aR T F w ρ bl l vs->vs.length=l.length
 |[],_,h=>by simp only[aR]at h;subst h;rfl
 |y::r,vs,h=>by simp only[aR]at h;obtain⟨u,us,rfl,_,a⟩:=h;simp[aR.len a]
theorem aR.at_:∀ {l:List (aE T.El)}{vs:List Value}{i:Nat}{y:aE T.El},aR T F w ρ bl l vs->l[i]? =some y->∃v,vs[i]? =some v/\ar T F w ρ bl y v
 |[],_,i,y,_,hi=>by simp at hi
 |z::r,vs,0,y,h,hi=>by simp only[aR]at h;obtain⟨u,us,rfl,J,_⟩:=h;simp only[dm,aM]at hi;subst hi;exact⟨u,rfl,J⟩
 |z::r,vs,i+1,y,h,hi=>by simp only[aR]at h;obtain⟨u,us,rfl,_,a⟩:=h;simpa using aR.at_ a (by simpa using hi)
theorem aR.cc:∀ {l l':List (aE T.El)}{vs a:List Value},aR T F w ρ bl l vs->aR T F w ρ bl l' a->aR T F w ρ bl (l++l') (vs++a)
 |[],_,_,_,h,h'=>by simp only[aR]at h;subst h;exact h'
 |y::r,l',vs,a,h,h'=>by simp only[aR]at h;obtain⟨u,us,rfl,J,b⟩:=h;simp only[iQ,aR];exact⟨u,us++a,rfl,J,aR.cc b h'⟩
theorem aR.drop:∀ {l:List (aE T.El)}{vs:List Value}(n:Nat),aR T F w ρ bl l vs->aR T F w ρ bl (l.drop n) (vs.drop n)
 |l,vs,0,h=>by simpa using h
 |[],vs,n+1,h=>by simp only[aR]at h;subst h;simp[aR]
 |y::r,vs,n+1,h=>by simp only[aR]at h;obtain⟨u,us,rfl,J,a⟩:=h;simpa using aR.drop n a
theorem aR.take:∀ {l:List (aE T.El)}{vs:List Value}(n:Nat),aR T F w ρ bl l vs->aR T F w ρ bl (l.take n) (vs.take n)
 |l,vs,0,h=>by simp[aR]
 |[],vs,n+1,h=>by simp only[aR]at h;subst h;simp[aR]
 |y::r,vs,n+1,h=>by simp only[aR]at h;obtain⟨u,us,rfl,J,a⟩:=h;simp only[jn,aR];exact⟨u,us.take n,rfl,J,aR.take n a⟩
end
end a9
