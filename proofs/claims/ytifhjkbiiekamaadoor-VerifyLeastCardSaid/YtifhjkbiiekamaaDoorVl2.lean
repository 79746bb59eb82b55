/- Part 2 of the proof that is ended in the last text: small logic, what the functions compute, walks, plain laws. -/
import Derived.Test.YtifhjkbiiekamaaDoorVl1
import Derived.Lib.AppendStr
import Derived.Lib.UnsafeStr
import Derived.Lib.Builder
import Derived.Laws.Externs
import Derived.LaidEql
import Derived.WalkSmall
import Derived.Laws.IdiomCopy
import Derived.Lib.SliceRun
open Array renaming getD_eq_getD_getElem?->dP,getElem?_eq_getElem->iy,getElem?_eq_none->hI,getElem?_eq_some_iff->eL,getElem?_modify->j1,getElem?_setIfInBounds->eb,getElem?_toList->g0,toList_inj->lr
open Bool renaming and_eq_true->bL,eq_false_iff->hA,false_eq_true->ie,or_eq_false_iff->kc,or_eq_true->hZ
open Int renaming eq_ofNat_of_zero_le->jI,le_refl->lb,toNat_natCast->k9
open List renaming all_eq_true->jK,append_assoc->iV,cons.injEq->hN,cons_append->iO,drop_zero->kl,eq_nil_of_length_eq_zero->g_,ext_getElem?->jF,getElem?_append->lx,getElem?_append_left->eQ,getElem?_append_right->eX,getElem?_cons_zero->dX,getElem?_drop->ja,getElem?_eq_getElem->bu,getElem?_eq_none->gV,getElem?_eq_some_iff->bb,getElem?_map->j4,getElem?_set_ne->ix,getElem?_set_self->gk,getElem?_take->hG,length_append->fD,length_cons->df,length_drop->kf,length_map->iY,length_replicate->jp,length_set->lI,length_take->gf,map_cons->fA,map_nil->ib,map_toArray->gu,mem_append->de,mem_cons->dc,mem_cons_of_mem->fg,mem_flatMap->hn,mem_map->jP,mem_of_getElem?->cU,mem_singleton->fG,replicate->gl,set_getElem_self->lv,take_append->ke,take_append_drop->iM,take_length->kg,take_of_length_le->hM,take_succ_cons->jf
open Nat renaming add_assoc->jg,add_mul->iU,beq->bT,ble->hX,blt->eM,decEq->kO,eq_of_beq_eq_true->aZ,eq_zero_or_pos->kS,le_mul_of_pos_right->k1,le_of_ble_eq_true->bW,le_refl->da,le_trans->fo,lt_of_lt_of_le->dY,lt_or_ge->gE,lt_succ_self->ky,min_eq_left->lB,mul_le_mul_right->jd,mul_one->jO,zero_add->jw,zero_le->hh
open Option renaming bind_some->ae,getD_none->iT,getD_some->ia,map_eq_some_iff->c9,map_none->iu,map_some->fU,some.inj->eR,some.injEq->aK
open Prod renaming mk.injEq->cY
noncomputable section
namespace a8
open Go Go.RowKit aA ad
def ag:Value->List Nat
 | .pointer (some a)=>[a.block]
 | .map (some r)=>[r]
 | .slice (some a) _ (_+1)=>[a.block]
 |_=>[]
def a6{El:Nat->Type}:ay El->Value->List Nat
 | .z _ _ _ _,_=>[]
 | .no _,_=>[]
 |_,h=>ag h
def lg{El:Nat->Type}(bl:List (ay El))(ρ:List Value)(k:Nat):Prop:=∃(i:Nat)(B:ay El)(h:Value),bl[i]? =some B/\ρ[i]? =some h/\k∈a6 B h
def aW{El:Nat->Type}(X:Nat->Prop)(bl:List (ay El))(ρ:List Value)(w:World):Nat->Prop:=λ k=>¬X k/\¬lg bl ρ k/\k<w.heap.size
def rowIs(w:World)(t sz:Nat)(h:Value)(n:Nat)(xs:List Value):Prop:=w.ownsRow 0 t sz h n xs\/(n=0/\xs=[]/\∃A,h= .slice A 0 0)
section
variable(T:bA)(F:Nat->Prop)(w:World)
variable(ρ:List Value)(bl:List (ay T.El))
def g4:ay T.El->Value->Prop
 | .c ty cs,h=>∃g vs,h= .pointer (some ⟨g,0,none⟩)/\w.heap[g]? =some (.cells ⟨vs⟩ ty (0,0))/\aR T F w ρ bl cs vs
 | .r t _ _ l,h=>∃A c xs,h= .slice A l.length c/\rowIs w t (T.ty t).size h l.length xs/\cS (T.ty t) F w xs l
 | .k t sz _ cs,h=>∃A n c xs,h= .slice A n c/\rowIs w t sz h n xs/\aR T F w ρ bl cs xs
 | .z t _ _ l,h=>(cM (T.ty t)).rd F w [h] l
 | .m kt vt d,h=>∃r,h= .map (some r)/\rv T F w kt vt r d
 | .o Lj,h=>∃g,h= .pointer (some ⟨g,0,none⟩)/\w.heap[g]? =some Lj
 | .no _,_=>True
end
section
variable{T:bA}{F F':Nat->Prop}{w w':World}{ρ ρ':List Value}{bl bl':List (ay T.El)}
theorem rowIs.len{t sz n:Nat}{h:Value}{xs:List Value}(e:rowIs w t sz h n xs):xs.length=n*sz:=by rcases e with e |⟨rfl,rfl,_⟩;exact e.1;simp
theorem rowIs.own{t sz n:Nat}{h:Value}{xs:List Value}(e:rowIs w t sz h n xs)(a:0<n):w.ownsRow 0 t sz h n xs:=by rcases e with e |⟨rfl,_⟩;exact e;omega
theorem rowIs.cap{t sz n c:Nat}{A:Option Addr}{xs:List Value}(e:rowIs w t sz (.slice A n c) n xs):n<=c/\c<=maxLen/\(A=none->c=0)/\(0<c->∃g,A=some ⟨g,0,none⟩):=by rcases e with e |⟨rfl,_,b,e⟩;rcases e.2 with⟨I,d⟩|⟨g,cap,cur,I,_,_,J,a,_⟩;simp only[Value.slice.injEq]at I;obtain⟨rfl,rfl,rfl⟩:=I;exact⟨da _,hh _,λ _=>rfl,λ h=>by omega⟩;simp only[Value.slice.injEq]at I;obtain⟨rfl,_,rfl⟩:=I;exact⟨J,a,(λ h=>by cases h),λ _=>⟨g,rfl⟩⟩;simp only[Value.slice.injEq]at e;obtain⟨rfl,_,rfl⟩:=e;exact⟨da _,hh _,λ _=>rfl,λ h=>by omega⟩
theorem rowIs.later{t sz n c:Nat}{A:Option Addr}{xs:List Value}(e:rowIs w t sz (.slice A n c) n xs)(d:∀k∈ag (.slice A n c),w'.heap[k]? =w.heap[k]?):rowIs w' t sz (.slice A n c) n xs:=by
 cases c with
 |zero=>
  have I:=e.cap.1;have J:=e.len;have f:n=0:=by omega
  subst f;exact .inr ⟨rfl,g_ (by rw[J];simp),A,rfl⟩
 |succ c=>rcases e with e |⟨rfl,_,g,e⟩;left;have:=(aU.row t sz (.slice A n (c+1)) (gl n ()) xs).law w w' (λ k b=>d k (by cases A with|none=>simp[aU.row,Value.ownBlock]at b |some a=>simpa[ag,aU.row,Value.ownBlock]using b));simpa[aU.row]using this (by simpa[aU.row]using e);simp at e
theorem g4.later(b:∀k,F k->F' k/\w'.heap[k]? =w.heap[k]?)(i:jS T ρ ρ' bl bl'){B:ay T.El}{h:Value}(e:∀k∈a6 B h,w'.heap[k]? =w.heap[k]?)(a:g4 T F w ρ bl B h):g4 T F' w' ρ' bl' B h:=by
 cases B with
 |c ty cs=>obtain⟨g,vs,rfl,J,f⟩:=a;exact⟨g,vs,rfl,(e g (by simp[a6,ag])).trans J,aR.later b i cs f⟩
 |r t g k l=>obtain⟨A,c,xs,rfl,J,f⟩:=a;exact⟨A,c,xs,rfl,J.later e,ki _ b f⟩
 |k t sz g cs=>obtain⟨A,n,c,xs,rfl,J,f⟩:=a;exact⟨A,n,c,xs,rfl,J.later e,aR.later b i cs f⟩
 |z t g k l=>exact(cM (T.ty t)).law b a
 |m kt vt d=>obtain⟨r,rfl,J⟩:=a;exact⟨r,rfl,J.law b (e r (by simp[a6,ag]))⟩
 |o Lj=>obtain⟨g,rfl,J⟩:=a;exact⟨g,rfl,(e g (by simp[a6,ag])).trans J⟩
 |no g=>trivial
end
structure Mem (T:bA) (W:World) (ar:List Nat) (X:Nat->Prop) (bl:List (ay T.El)) (ρ:List Value) (w:World):Prop where
 bM:aY ar W w
 len:ρ.length=bl.length
 fy:∀k,X k->k<W.heap.size/\k∉ar
 lt:∀k,lg bl ρ k->k<w.heap.size/\(k∈ar\/W.heap.size<=k)
 a3:∀(i j:Nat)(B C:ay T.El)(h g:Value),bl[i]? =some B->ρ[i]? =some h->bl[j]? =some C->ρ[j]? =some g->i≠j->∀k∈a6 B h,k∉a6 C g
 ok:∀(i:Nat)(B:ay T.El)(h:Value),bl[i]? =some B->ρ[i]? =some h->g4 T (aW X bl ρ w) w ρ bl B h
section
variable{T:bA}{W w w':World}{ar:List Nat}{X:Nat->Prop}{bl bl':List (ay T.El)}{ρ ρ':List Value}
abbrev Mem.F(_:Mem T W ar X bl ρ w):Nat->Prop:=aW X bl ρ w
structure To (X:Nat->Prop) (bl bl':List (ay T.El)) (ρ ρ':List Value) (w w':World):Prop where
 F:∀k,aW X bl ρ w k->aW X bl' ρ' w' k/\w'.heap[k]? =w.heap[k]?
 L:jS T ρ ρ' bl bl'
 sz:w.heap.size<=w'.heap.size
 kH:∀(i:Nat)(B':ay T.El)(h':Value),bl'[i]? =some B'->ρ'[i]? =some h'->∀k∈a6 B' h',k<w.heap.size->∃B h,bl[i]? =some B/\ρ[i]? =some h/\k∈a6 B h
theorem To.v(h:To X bl bl' ρ ρ' w w'){y:aD T.El}{v:Value}(a:aq T (aW X bl ρ w) w ρ bl y v):aq T (aW X bl' ρ' w') w' ρ' bl' y v:=a.later h.F h.L
theorem To.vs(h:To X bl bl' ρ ρ' w w'){y:List (aD T.El)}{v:List Value}(a:aR T (aW X bl ρ w) w ρ bl y v):aR T (aW X bl' ρ' w') w' ρ' bl' y v:=aR.later h.F h.L y a
theorem To.trans{b:List (ay T.El)}{c:List Value}{w'':World}(h:To X bl bl' ρ ρ' w w')(k:To X bl' b ρ' c w' w''):To X bl b ρ c w w'':=⟨λ q a=>⟨(k.F q (h.F q a).1).1,((k.F q (h.F q a).1).2).trans (h.F q a).2⟩,h.L.trans k.L,fo h.sz k.sz,λ i B' h' hi e q a d=>by obtain⟨tE,I,f,al,aL⟩:=k.kH i B' h' hi e q a (dY d h.sz);exact h.kH i tE I f al q aL d⟩
theorem To.refl:To X bl bl ρ ρ w w:=⟨λ _ h=>⟨h,rfl⟩,.refl,da _,λ _ B h hi a _ b _=>⟨B,h,hi,a,b⟩⟩
theorem Mem.Ar(a:Mem T W ar X bl ρ w){i:Nat}{B:ay T.El}(hi:bl[i]? =some B):∃h,ρ[i]? =some h:=by have:=(bb.1 hi).1;exact⟨ρ[i]'(by rw[a.len];exact this),bu _⟩
theorem Mem.Bv(b:aY [] w w'):To X bl bl ρ ρ w w':=⟨λ k a=>⟨⟨a.1,a.2.1,dY a.2.2 b.size⟩,b.block k a.2.2 (by simp)⟩,.refl,b.size,λ _ B h hi c _ a _=>⟨B,h,hi,c,a⟩⟩
theorem Mem.ep(a:Mem T W ar X bl ρ w)(b:aY [] w w'):Mem T W ar X bl ρ w':=⟨a.bM.trans b (by simp),a.len,a.fy,λ k c=>⟨dY (a.lt k c).1 b.size,(a.lt k c).2⟩,a.a3,λ i B h hi d=>(a.ok i B h hi d).later (Mem.Bv b).F .refl λ k c=>b.block k (a.lt k ⟨i,B,h,hi,d,c⟩).1 (by simp)⟩
theorem Mem.vw(q:Mem T W ar X bl ρ w){i:Nat}{B B':ay T.El}{h h':Value}(hi:bl[i]? =some B)(d:ρ[i]? =some h)(f:aY (a6 B h) w w')
 (m:∀k∈a6 B' h',k∈a6 B h\/(w.heap.size<=k/\k<w'.heap.size))
 (o:(¬kX h->h'=h)/\bI (some B)<=bI (some B')/\(bI (some B')=bI (some B)->h'=h/\hB T (some B')=hB T (some B)/\ff (some B)<=ff (some B')/\(ff (some B')=ff (some B)->nW (some B')=nW (some B)))) :
 To X bl (bl.set i B') ρ (ρ.set i h') w w':=by
 have l1:=(bb.1 hi).1
 have l:=(bb.1 d).1
 refine⟨λ k b=>⟨⟨b.1,?_,dY b.2.2 f.size⟩,f.block k b.2.2 λ p=>b.2.1 ⟨i,B,h,hi,d,p⟩⟩,⟨λ j u a=>?_⟩,f.size,λ j C g a c k b r=>?_⟩
 ·rintro⟨j,C,g,a,c,n⟩;by_cases e:j=i;subst e;rw[gk l1]at a;rw[gk l]at c;cases a;cases c;rcases m k n with e |e;exact b.2.1 ⟨j,B,h,hi,d,e⟩;have:=b.2.2;omega;rw[ix (Ne.symm e)]at a c;exact b.2.1 ⟨j,C,g,a,c,n⟩
 ·by_cases e:j=i;subst e;rw[d]at a;cases a;refine⟨h',gk l,?_⟩;rw[gk l1,hi];exact o;refine⟨u,by rw[ix (Ne.symm e)];exact a,λ _=>rfl,?_⟩;rw[ix (Ne.symm e)];exact⟨da _,λ _=>⟨rfl,rfl,da _,λ _=>rfl⟩⟩
 ·by_cases e:j=i;subst e;rw[gk l1]at a;rw[gk l]at c;cases a;cases c;rcases m k b with e |e;exact⟨B,h,hi,d,e⟩;omega;rw[ix (Ne.symm e)]at a c;exact⟨C,g,a,c,b⟩
theorem Mem.q2(c:Mem T W ar X bl ρ w){i:Nat}{B B':ay T.El}{h h':Value}(hi:bl[i]? =some B)(m:ρ[i]? =some h)(n:aY (a6 B h) w w')
 (s:∀k∈a6 B' h',k∈a6 B h\/(w.heap.size<=k/\k<w'.heap.size))(t:To X bl (bl.set i B') ρ (ρ.set i h') w w')
 (z:g4 T (aW X (bl.set i B') (ρ.set i h') w') w' (ρ.set i h') (bl.set i B') B' h'):Mem T W ar X (bl.set i B') (ρ.set i h') w':=by
 have l1:=(bb.1 hi).1
 have A:=(bb.1 m).1
 have key:∀ {j:Nat}{C:ay T.El}{g:Value},(bl.set i B')[j]? =some C->(ρ.set i h')[j]? =some g->(j=i/\C=B'/\g=h')\/(j≠i/\bl[j]? =some C/\ρ[j]? =some g):=λ{j C g} l f=>by by_cases e:j=i;subst e;rw[gk l1]at l;rw[gk A]at f;cases l;cases f;exact .inl ⟨rfl,rfl,rfl⟩;rw[ix (Ne.symm e)]at l f;exact .inr ⟨e,l,f⟩
 refine⟨c.bM.trans n λ k d=>(c.lt k ⟨i,B,h,hi,m,d⟩).2,by simp[c.len],c.fy,?_,?_,?_⟩
 ·rintro k ⟨j,C,g,l,f,d⟩;rcases key l f with⟨rfl,rfl,rfl⟩|⟨_,I,J⟩;rcases s k d with e |e;have:=c.lt k ⟨j,B,h,hi,m,e⟩;exact⟨dY this.1 n.size,this.2⟩;exact⟨e.2,.inr (fo c.bM.size e.1)⟩;have:=c.lt k ⟨j,C,g,I,J,d⟩;exact⟨dY this.1 n.size,this.2⟩
 ·intro a b C D g u E f v x o k d p;rcases key E f with⟨rfl,rfl,rfl⟩|⟨y,I,J⟩;rcases key v x with⟨rfl,_⟩|⟨al,q,r⟩;exact o rfl;rcases s k d with e |e;exact c.a3 _ _ _ _ _ _ hi m q r o k e p;have:=(c.lt k ⟨b,D,u,q,r,p⟩).1;omega;rcases key v x with⟨rfl,rfl,rfl⟩|⟨al,q,r⟩;rcases s k p with e |e;exact c.a3 _ _ _ _ _ _ I J hi m o k d e;have:=(c.lt k ⟨a,C,g,I,J,d⟩).1;omega;exact c.a3 _ _ _ _ _ _ I J q r o k d p
 ·intro j C g l f;rcases key l f with⟨rfl,rfl,rfl⟩|⟨y,I,J⟩;exact z;exact(c.ok j C g I J).later t.F t.L λ k d=>n.block k (c.lt k ⟨j,C,g,I,J,d⟩).1 λ F=>c.a3 _ _ _ _ _ _ I J hi m y k d F
theorem Mem.tm(d:Mem T W ar X bl ρ w){B:ay T.El}{h:Value}(f:aY [] w w')(i:∀k∈a6 B h,w.heap.size<=k/\k<w'.heap.size):To X bl (bl++[B]) ρ (ρ++[h]) w w':=by
 refine⟨λ k c=>⟨⟨c.1,?_,dY c.2.2 f.size⟩,f.block k c.2.2 (by simp)⟩,⟨λ j u a=>?_⟩,f.size,λ j C g a b k c m=>?_⟩
 ·rintro⟨j,C,g,a,b,l⟩;rcases gE j bl.length with e |e;rw[eQ e]at a;rw[eQ (by rw[d.len];exact e)]at b;exact c.2.1 ⟨j,C,g,a,b,l⟩
  ·rw[eX e]at a;rw[eX (by rw[d.len];exact e),d.len]at b;cases aE:j-bl.length with
   |zero=>rw[aE]at a b;simp only[dX,aK]at a b;subst a;subst b;have:=(i k l).1;have:=c.2.2;omega
   |succ q=>rw[aE]at a;simp at a
 ·have e:=(bb.1 a).1;have e':j<bl.length:=by rw[<-d.len];exact e
  refine⟨u,by rw[eQ e];exact a,λ _=>rfl,?_⟩;rw[eQ e'];exact⟨da _,λ _=>⟨rfl,rfl,da _,λ _=>rfl⟩⟩
 ·rcases gE j bl.length with e |e;rw[eQ e]at a;rw[eQ (by rw[d.len];exact e)]at b;exact⟨C,g,a,b,c⟩
  ·rw[eX e]at a;rw[eX (by rw[d.len];exact e),d.len]at b;cases aE:j-bl.length with
   |zero=>rw[aE]at a b;simp only[dX,aK]at a b;subst a;subst b;have:=(i k c).1;omega
   |succ q=>rw[aE]at a;simp at a
theorem Mem.push(c:Mem T W ar X bl ρ w){B:ay T.El}{h:Value}(m:aY [] w w')(l:∀k∈a6 B h,w.heap.size<=k/\k<w'.heap.size)
 (x:g4 T (aW X (bl++[B]) (ρ++[h]) w') w' (ρ++[h]) (bl++[B]) B h):Mem T W ar X (bl++[B]) (ρ++[h]) w':=by
 have r:=c.tm m l (B:=B) (h:=h)
 have key:∀ {j:Nat}{C:ay T.El}{g:Value},(bl++[B])[j]? =some C->(ρ++[h])[j]? =some g->(j=bl.length/\C=B/\g=h)\/(j<bl.length/\bl[j]? =some C/\ρ[j]? =some g):=λ{j C g} d f=>by
  rcases gE j bl.length with e |e;rw[eQ e]at d;rw[eQ (by rw[c.len];exact e)]at f;exact .inr ⟨e,d,f⟩
  ·rw[eX e]at d;rw[eX (by rw[c.len];exact e),c.len]at f;cases aE:j-bl.length with
   |zero=>rw[aE]at d f;simp only[dX,aK]at d f;exact .inl ⟨by omega,d.symm,f.symm⟩
   |succ q=>rw[aE]at d;simp at d
 refine⟨c.bM.trans m (by simp),by simp[c.len],c.fy,?_,?_,?_⟩
 ·rintro k ⟨j,C,g,d,f,i⟩;rcases key d f with⟨rfl,rfl,rfl⟩|⟨_,I,J⟩;exact⟨(l k i).2,.inr (fo c.bM.size (l k i).1)⟩;have:=c.lt k ⟨j,C,g,I,J,i⟩;exact⟨dY this.1 m.size,this.2⟩
 ·intro a b C D g u y f s t v k i n;rcases key y f with⟨rfl,rfl,rfl⟩|⟨z,I,J⟩;rcases key s t with⟨rfl,_⟩|⟨al,o,p⟩;exact v rfl;have:=(c.lt k ⟨b,D,u,o,p,n⟩).1;have:=(l k i).1;omega;rcases key s t with⟨rfl,rfl,rfl⟩|⟨al,o,p⟩;have:=(c.lt k ⟨a,C,g,I,J,i⟩).1;have:=(l k n).1;omega;exact c.a3 _ _ _ _ _ _ I J o p v k i n
 ·intro j C g d f;rcases key d f with⟨rfl,rfl,rfl⟩|⟨z,I,J⟩;exact x;exact(c.ok j C g I J).later r.F r.L λ k i=>m.block k (c.lt k ⟨j,C,g,I,J,i⟩).1 (by simp)
end
def c6{α:Type}:List (Nat×α)->Nat->Option α
 |[],_=>none
 |p::r,t=>match bT p.1 t with
  |true=>some p.2
  |false=>c6 r t
structure n' (T:bA) (F:Nat->Prop) (w:World) (ρ:List Value) (bl:List (ay T.El)) (n:b') (aQ:List (Nat×aD T.El)) (a:Act):Prop where
 size:a.tmps.size=n.n
 defers:a.defers=n.ds
 get:∀t y,c6 aQ t=some y->aq T F w ρ bl y (a.tmps.getD t undef)
section
variable{T:bA}{F F':Nat->Prop}{w w':World}{ρ ρ':List Value}{bl bl':List (ay T.El)}{n:b'}{aQ:List (Nat×aD T.El)}{a:Act}
theorem n'.later(b:∀k,F k->F' k/\w'.heap[k]? =w.heap[k]?)(c:jS T ρ ρ' bl bl')(h:n' T F w ρ bl n aQ a):n' T F' w' ρ' bl' n aQ a:=⟨h.size,h.defers,λ t y hy=>(h.get t y hy).later b c⟩
theorem rW{a:Act}{d t:Nat}{v:Value}(aE:d<a.tmps.size):(a.put (some d) v).tmps.getD t undef=if d=t then v else a.tmps.getD t undef:=by simp only[Act.put,dP,eb];by_cases e:d=t;subst e;simp[aE];simp[e]
theorem n'.put{d:Nat}{y:aD T.El}{v:Value}(h:n' T F w ρ bl n aQ a)(aE:eM d n.n=true)(c:aq T F w ρ bl y v):n' T F w ρ bl n ((d,y)::aQ) (a.put (some d) v):=by
 have f:d<n.n:=bW aE;refine⟨by simpa[Act.put]using h.size,h.defers,λ t z b=>?_⟩;rw[rW (by rw[h.size];exact f)];simp only[c6]at b;cases ag:bT d t with
 |true=>rw[ag]at b;simp only[aK]at b;rw[lX (aZ ag),<-b];exact c
 |false=>rw[ag]at b;rw[lW (λ e=>by subst e;simp at ag)];exact h.get t z b
def k5{α:Type}:List (Nat×α)->Nat->List (Nat×α)
 |[],_=>[]
 |p::r,t=>match bT p.1 t with
  |true=>k5 r t
  |false=>p::k5 r t
theorem D8{α:Type}{d t:Nat}{y:α}:∀ {aQ:List (Nat×α)},c6 (k5 aQ d) t=some y->t≠d/\c6 aQ t=some y
 |[],h=>by simp[k5,c6]at h
 |p::r,h=>by
  simp only[k5]at h;cases ag:bT p.1 d with
  |true=>
   rw[ag]at h;obtain⟨I,J⟩:=D8 h;refine⟨I,?_⟩;simp only[c6];cases hc:bT p.1 t with
   |true=>exact absurd ((aZ hc).symm.trans (aZ ag)) I
   |false=>exact J
  |false=>
   rw[ag]at h;simp only[c6]at h⊢;cases hc:bT p.1 t with
   |true=>rw[hc]at h;refine⟨λ e=>?_,h⟩;rw[aZ hc,e]at ag;simp at ag
   |false=>rw[hc]at h;exact D8 h
theorem n'.E6{d:Nat}{v:Value}(h:n' T F w ρ bl n aQ a)(aE:eM d n.n=true):n' T F w ρ bl n (k5 aQ d) (a.put (some d) v):=by have b:d<n.n:=bW aE;refine⟨by simpa[Act.put]using h.size,h.defers,λ t z c=>?_⟩;obtain⟨I,J⟩:=D8 c;rw[rW (by rw[h.size];exact b),lW (Ne.symm I)];exact h.get t z J
end
end a8
namespace ad
def dx{α β ck:Type}(o:Option (α⊕β))(k:α->Option ck)(l:β->Option ck):Option ck:=match o with
 |none=>none
 |some (.inl a)=>k a
 |some (.inr b)=>l b
end ad
namespace a8
open Go Go.RowKit aA ad
inductive D (α:Type):Type 1
 |ok (a:α)
 |no
 |op {β:Type} (o:Option β) (k:β->D α)
 |ma (c:Bool) (x y:D α)
 |pa {β ck:Type} (o:Option (β⊕ck)) (k:β->D α) (l:ck->D α)
def D.bind{α β:Type}:D α->(α->D β)->D β
 | .ok a,f=>f a
 | .no,_=>.no
 | .op o k,f=>.op o λ b=>(k b).bind f
 | .ma c x y,f=>.ma c (x.bind f) (y.bind f)
 | .pa o k l,f=>.pa o (λ b=>(k b).bind f) (λ c=>(l c).bind f)
def D.run{α ρ:Type}:D α->(α->Option ρ)->Option ρ
 | .ok a,K=>K a
 | .no,_=>none
 | .op o k,K=>o.bind λ b=>(k b).run K
 | .ma c x y,K=>cond c (x.run K) (y.run K)
 | .pa o k l,K=>dx o (λ b=>(k b).run K) (λ c=>(l c).run K)
def D.out{α:Type}:D α->α->Prop
 | .ok b,a=>b=a
 | .no,_=>False
 | .op o k,a=>∃b,o=some b/\(k b).out a
 | .ma c x y,a=>(c=true/\x.out a)\/(c=false/\y.out a)
 | .pa o k l,a=>(∃b,o=some (.inl b)/\(k b).out a)\/(∃c,o=some (.inr c)/\(l c).out a)
theorem D.qZ{α ρ:Type}{r:ρ}:∀ {d:D α}{K:α->Option ρ},d.run K=some r->∃a,d.out a/\K a=some r
 | .ok a,K,h=>⟨a,rfl,h⟩
 | .no,K,h=>by cases h
 | .op o k,K,h=>by obtain⟨b,I,J⟩:=fF h;obtain⟨a,e,f⟩:=D.qZ J;exact⟨a,⟨b,I,e⟩,f⟩
 | .ma c x y,K,h=>by
   cases c with
   |true=>obtain⟨a,e,f⟩:=D.qZ (d:=x) h;exact⟨a,.inl ⟨rfl,e⟩,f⟩
   |false=>obtain⟨a,e,f⟩:=D.qZ (d:=y) h;exact⟨a,.inr ⟨rfl,e⟩,f⟩
 | .pa o k l,K,h=>by
   cases o with
   |none=>cases h
   |some s=>
    cases s with
    |inl b=>obtain⟨a,e,f⟩:=D.qZ (d:=k b) h;exact⟨a,.inl ⟨b,rfl,e⟩,f⟩
    |inr c=>obtain⟨a,e,f⟩:=D.qZ (d:=l c) h;exact⟨a,.inr ⟨c,rfl,e⟩,f⟩
theorem D.e1{α β:Type}:∀ {d:D α}{f:α->D β}{b:β},(d.bind f).out b->∃a,d.out a/\(f a).out b
 | .ok a,f,b,h=>⟨a,rfl,h⟩
 | .no,f,b,h=>h.elim
 | .op o k,f,b,h=>by obtain⟨x,I,J⟩:=h;obtain⟨a,e,g⟩:=D.e1 J;exact⟨a,⟨x,I,e⟩,g⟩
 | .ma c x y,f,b,h=>by rcases h with⟨I,J⟩|⟨I,J⟩;obtain⟨a,e,g⟩:=D.e1 J;exact⟨a,.inl ⟨I,e⟩,g⟩;obtain⟨a,e,g⟩:=D.e1 J;exact⟨a,.inr ⟨I,e⟩,g⟩
 | .pa o k l,f,b,h=>by rcases h with⟨x,I,J⟩|⟨x,I,J⟩;obtain⟨a,e,g⟩:=D.e1 J;exact⟨a,.inl ⟨x,I,e⟩,g⟩;obtain⟨a,e,g⟩:=D.e1 J;exact⟨a,.inr ⟨x,I,e⟩,g⟩
def D.of{α:Type}:Option α->D α
 |some a=>.ok a
 |none=>.no
theorem D.lU{α:Type}{o:Option α}{a:α}(h:(D.of o).out a):o=some a:=by
 cases o with
 |none=>exact h.elim
 |some b=>exact congrArg some h
structure Env where
 P:Program
 T:bA
 dW:List (Nat×aD T.El)
 dA:Bool
 bU:List Nat
 iQ:Nat
 om:List UInt8->List (T.El iQ)
def lay(P:Program)(t:TypeId):Option (Bool×Nat):=match P.underlying t,P.info? t with
 |some (.struct _),some i=>some (true,i.size)
 |some (.array _ _),some i=>some (true,i.size)
 |some _,some i=>some (false,i.size)
 |_,_=>none
theorem run_sizeOf{P:Program}{t:TypeId}{i:TypeInfo}(h:P.info? t=some i)(w:World):(Go.sizeOf t).run P w= .ok i.size w:=by simp[Go.sizeOf,typeInfo,go_sem,h]
theorem Aq{P:Program}{t:TypeId}{b:Bool}{n:Nat}(h:lay P t=some (b,n)):(∀w,(isAgg t).run P w= .ok b w)/\∀w,(Go.sizeOf t).run P w= .ok n w:=by
 unfold lay at h;split at h;rename_i I J;simp only[aK,cY]at h;obtain⟨rfl,rfl⟩:=h;exact⟨λ w=>by simp[isAgg,run_underlying I],run_sizeOf J⟩;rename_i I J;simp only[aK,cY]at h;obtain⟨rfl,rfl⟩:=h;exact⟨λ w=>by simp[isAgg,run_underlying I],run_sizeOf J⟩;rename_i d i a c I J;simp only[aK,cY]at h;obtain⟨rfl,rfl⟩:=h;refine⟨λ w=>?_,run_sizeOf J⟩;simp only[isAgg,Sem.run_bind,run_underlying I,Result.andThen_ok];cases d<;>first |rfl |(exact absurd I (by simpa using a _))|(exact absurd I (by simpa using c _ _))
 ·cases h
def iC:Option TypeDesc->Option kr
 |some (.int k)=>some (.i k)
 |some .bool=>some .b
 |some .string=>some .s
 |some (.slice _)=>some .b4
 |_=>none
theorem qk{P:Program}{t:TypeId}{k:kr}(h:iC (P.underlying t)=some k):k.ok P t:=by unfold iC at h;split at h<;>simp only[aK,reduceCtorEq]at h<;>subst h;rename_i h;exact h;rename_i h;exact h;rename_i h;exact h;rename_i e h;exact⟨e,h⟩
def C8(P:Program)(s j:Nat):Option (Nat×Nat×Nat):=match P.underlying s with
 |some (.struct bU)=>match nth bU.toList j with
  |some f=>match P.info? f.type with
   |some i=>match bT i.size 0 with
    |true=>none
    |false=>some (f.offset,f.type,i.size)
   |none=>none
  |none=>none
 |_=>none
theorem Rd{P:Program}{s j off t n:Nat}(h:C8 P s j=some (off,t,n)):∃bU f,P.underlying s=some (.struct bU)/\bU[j]? =some f/\f.offset=off/\f.type=t/\(∀w,(Go.sizeOf f.type).run P w= .ok n w)/\bT n 0=false:=by unfold C8 at h;split at h;rename_i bU I;split at h;rename_i f J;split at h;rename_i i a;split at h;cases h;rename_i b;simp only[aK,cY]at h;obtain⟨rfl,rfl,rfl⟩:=h;rw[cr,g0]at J;exact⟨bU,f,I,J,rfl,rfl,run_sizeOf a,b⟩;cases h;cases h;cases h
section
variable{El:Nat->Type}
def jX(cs:List (aD El))(o:Nat):Bool×Nat->Option (aD El)
 |(false,_)=>nth cs o
 |(true,n)=>match hX (o+n) cs.length with
  |true=>some (.a ((cs.drop o).take n))
  |false=>none
end
section
variable{T:bA}{F:Nat->Prop}{w:World}{ρ:List Value}{bl:List (ay T.El)}{P:Program}
theorem wm{cs:List (aD T.El)}{o a q t:Nat}{d:Bool×Nat}{y:aD T.El}{vs:List Value}(m:lay P t=some d)(h:jX cs o d=some y)(e:aR T F w ρ bl cs vs)(hc:eg w ⟨a,q,none⟩ vs) :
 ∃v us,aq T F w ρ bl y v/\eg w ⟨a,q+o,none⟩ us/\∀(op:Oper)(ac:Act)(x:Operand)(w':World),op.op= .load t x->ac.eval x= .pointer (some ⟨a,q+o,none⟩)->eg w' ⟨a,q+o,none⟩ us->aS P op ac w' v w':=by
 obtain⟨b,n⟩:=d
 have f:=Aq m
 cases b with
 |false=>
  simp only[jX]at h;rw[cr]at h;obtain⟨v,I,J⟩:=e.at_ h;refine⟨v,[v],J,λ j u c=>?_,λ op ac x w' g i k=>NM f.1 g i (by simpa using k 0 v rfl)⟩;cases j with
  |zero=>simp only[dX,aK]at c;subst c;simpa using hc o v I
  |succ j=>simp at c
 |true=>simp only[jX]at h;split at h;rename_i ag;simp only[aK]at h;subst h;have p:=bW ag;have l:=e.len;refine⟨.agg ⟨(vs.drop o).take n⟩,(vs.drop o).take n,?_,λ j u c=>?_,λ op ac x w' g i k=>WU f.1 f.2 (by simp;omega) g i k⟩;simp only[aq];exact⟨_,rfl,aR.take n (aR.drop o e)⟩;rw[hG]at c;split at c;rw[ja]at c;have:=hc (o+j) u c;simpa[jg]using this;cases c;cases h
end
structure pz (T:bA):Prop where
 cs:∀t d F w xs,(T.ty t).rd F w xs d->aR T F w [] [] ((T.e t).cs d) xs
 fx:∀t aM d,(T.e t).fx aM=some d->∀F w ρ bl xs,aR T F w ρ bl aM xs->(T.ty t).rd F w xs d
 key:∀t K,(T.e t).key=some K->∀F w xs k,(T.ty t).rd F w xs k->sT (T.e t).agg xs= @iJ.enc _ K.dec K.mE k
 one:∀t,(T.e t).agg=false->∀d,((T.e t).cs d).length=1
 tU:∀t e f,(T.e t).tU=some ⟨e,f⟩->∀d F w xs,(T.ty t).rd F w xs d->cS (T.ty e) F w xs (f d)
def bA.val(T:bA)(t:Nat)(d:T.El t):aD T.El:=match(T.e t).agg with
 |true=>.a ((T.e t).cs d)
 |false=>((T.e t).cs d).headD (.p undef)
structure cv (E:Env):Prop where
 tb:pz E.T
 call:∀f∈E.bU,∀args w,(callFunc f args).run E.P w= .ok (.enter f args) w
 ahp:E.P.follows .mixedOrders=true
 OJ:∀l,(E.om l).length=l.length
 YU:∀F w l xs,cS Fs F w xs l->cS (E.T.ty E.iQ) F w xs (E.om l)
 eq:∀t f,(E.T.e t).eq=some f->∀F w xs ys d e,(E.T.ty t).rd F w xs d->(E.T.ty t).rd F w ys e->∀(o:Oper)(a:Act)(x y:Operand)(t':TypeId)(b:Bool),o.op= .binOp (cond b .eql .neq) t x y t'->a.eval x= .agg ⟨xs⟩->a.eval y= .agg ⟨ys⟩->∀w',aS E.P o a w' (.bool (cond b (f d e) (!f d e))) w'
section
variable{T:bA}{F:Nat->Prop}{w:World}{ρ:List Value}{bl:List (ay T.El)}
theorem agI{w:World}{F:Nat->Prop}{l:List (aD T.El)}{vs:List Value}(h:aR T F w [] [] l vs):aR T F w ρ bl l vs:=aR.later (λ _ h=>⟨h,rfl⟩) ⟨λ i h hi=>by simp at hi⟩ l h
theorem pz.cells(a:pz T){t:Nat}{d:T.El t}{xs:List Value}(h:(T.ty t).rd F w xs d):aR T F w ρ bl ((T.e t).cs d) xs:=agI (a.cs t d F w xs h)
theorem pz.val(a:pz T){t:Nat}{d:T.El t}{xs:List Value}(h:(T.ty t).rd F w xs d):aq T F w ρ bl (T.val t d) (sT (T.e t).agg xs):=by
 have hc:=a.cells (ρ:=ρ) (bl:=bl) h;unfold bA.val;cases b:(T.e t).agg with
 |true=>simp only[aq,sT];exact⟨xs,rfl,hc⟩
 |false=>
  have I:=a.one t b d;cases hcs:(T.e t).cs d with
  |nil=>rw[hcs]at I;simp at I
  |cons y r=>rw[hcs]at hc;simp only[aR]at hc;obtain⟨u,us,rfl,c,_⟩:=hc;exact c
def LC{El:Nat->Type}:aD El->Nat->Option (aD El)
 | .b i o,n=>some (.b i (o+n))
 | .x t d o,n=>some (.x t d (o+n))
 | .e i g k t j d o,n=>some (.e i g k t j d (o+n))
 | .w i g o,n=>some (.w i g (o+n))
 |_,_=>none
def EL{El:Nat->Type}(gs:Nat->Nat):aD El->Bool
 | .b _ _=>true
 | .x _ _ _=>true
 | .e i g _ _ _ _ _=>bT g (gs i)
 | .w i g _=>bT g (gs i)
 |_=>false
def oA{El:Nat->Type}(bl:List (ay El))(i:Nat):Nat:=bI (nth bl i)
theorem uj{El:Nat->Type}(bl:List (ay El))(i:Nat):oA bl i=bI bl[i]? :=by rw[oA,cr]
theorem aiu{y k:aD T.El}{n:Nat}{v:Value}(hi:EL (oA bl) y=true)(h:LC y n=some k)(b:aq T F w ρ bl y v):∃g o,v= .pointer (some ⟨g,o,none⟩)/\aq T F w ρ bl k (.pointer (some ⟨g,o+n,none⟩)):=by cases y<;>simp only[LC,aK,reduceCtorEq]at h<;>subst h;simp only[aq]at b;obtain⟨g,I,J⟩:=b;refine⟨g,_,J,?_⟩;simp only[aq];exact⟨g,I,rfl⟩;simp only[aq]at b;obtain⟨a,q,cs,I,J,d,l⟩:=b;refine⟨a,_,I,?_⟩;simp only[aq];exact⟨a,q,cs,by rw[jg],J,d,l⟩;simp only[aq]at b;obtain⟨_,u,I,J,d⟩:=b;simp only[EL]at hi;have hi:=aZ hi;rw[uj]at hi;obtain⟨⟨A,e,c,f,i,m,j⟩,p,oO⟩:=d hi;refine⟨_,_,j,?_⟩;simp only[aq];exact⟨trivial,u,I,J,λ _=>⟨⟨A,e,c,f,i,m,by rw[jg]⟩,p,oO⟩⟩;simp only[aq]at b;obtain⟨_,u,I,J,d⟩:=b;simp only[EL]at hi;have hi:=aZ hi;rw[uj]at hi;obtain⟨A,e,c,f,i,j⟩:=d hi;refine⟨_,_,j,?_⟩;simp only[aq];exact⟨trivial,u,I,J,λ _=>⟨A,e,c,f,i,rfl⟩⟩
def nm{El:Nat->Type}(bl:List (ay El)):aD El->aD El
 | .r i g=>match nth bl i with
   |some (.z t g' _ l)=>match bT g g' with
    |true=>.s t l
    |false=>.r i g
   |_=>.r i g
 |y=>y
end
section
variable{T:bA}{W w:World}{ar:List Nat}{X:Nat->Prop}{bl:List (ay T.El)}{ρ:List Value}
theorem Et(c:Mem T W ar X bl ρ w){y:aD T.El}{v:Value}(a:aq T (aW X bl ρ w) w ρ bl y v):aq T (aW X bl ρ w) w ρ bl (nm bl y) v:=by
 cases y with
 |r i g=>simp only[nm];split;rename_i t g' k l hi;rw[cr]at hi;split;rename_i ag;have ag:=aZ ag;simp only[aq]at a⊢;obtain⟨_,h,I,J,b⟩:=a;rw[hi]at b;have:=b ag;subst this;exact c.ok i _ _ hi I;exact a;exact a
 |_=>exact a
def wC(E:Env)(bl:List (ay E.T.El))(t:Nat):aD E.T.El->D (aD E.T.El)
 | .b i o=>match nth bl i,lay E.P t with
   |some (.c _ cs),some a=>.of (jX cs o a)
   |_,_=>.no
 | .x t' d o=>match lay E.P t with
   |some a=>.of (jX ((E.T.e t').cs d) o a)
   |none=>.no
 | .e i g k t' j d o=>match nth bl i,lay E.P t with
   |some (.r c b e l),some a=>match bT g b,bT k e with
    |true,true=>.of (jX ((E.T.e t').cs d) o a)
    |true,false=>.op (idx l j) λ d'=>.of (jX ((E.T.e c).cs d') o a)
    |_,_=>.no
   |_,_=>.no
 | .w i g o=>match nth bl i,lay E.P t with
   |some (.k _ _ b cs),some a=>match bT g b with
    |true=>.of (jX cs o a)
    |false=>.no
   |_,_=>.no
 | .s0 i g sz q=>match nth bl i,lay E.P t with
   |some (.r c b e l),some a=>match bT g b&&bT sz (E.T.ty c).size with
    |true=>.op (idx l q) λ d=>.of (jX [.e i g e c q d 0] 0 a)
    |false=>.no
   |_,_=>.no
 |_=>.no
def Kv{El:Nat->Type}:aD El->Option Nat
 | .b i _=>some i
 | .e i _ _ _ _ _ _=>some i
 | .w i _ _=>some i
 |_=>none
def Cl(X:Nat->Prop)(bl:List (ay T.El))(ρ:List Value)(w:World)(k:Nat):Option Nat->Prop
 |none=>aW X bl ρ w k
 |some i=>∃B h,bl[i]? =some B/\ρ[i]? =some h/\k∈a6 B h
def yl(P:Program)(t:Nat)(dr:Addr)(us:List Value)(v:Value):Prop:=∀(op:Oper)(ac:Act)(x:Operand)(w':World),op.op= .load t x->ac.eval x= .pointer (some dr)->eg w' dr us->aS P op ac w' v w'
theorem qY{w:World}{t sz n c:Nat}{A:Option Addr}{xs:List Value}(b:0<n)(h:rowIs w t sz (.slice A n c) n xs):∃g,A=some ⟨g,0,none⟩/\c2 A=g/\eg w ⟨g,0,none⟩ xs/\∀m:Nat,ag (.slice A m c)=[g]:=by
 have hc:=h.cap;have h:=h.own b;rcases h.2 with⟨I,e⟩|⟨g,cap,cur,I,_⟩;omega
 ·simp only[Value.slice.injEq]at I;obtain⟨rfl,_,rfl⟩:=I;refine⟨g,rfl,rfl,λ j u d=>?_,λ m=>?_⟩;have a:=h.cells (g:=g) rfl j u d;rw[iq]at a;exact a
  ·cases c with
   |zero=>omega
   |succ c=>rfl
theorem UY{α:Type}{T:cE α}{F:Nat->Prop}{w:World}{g:Nat}{l:List α}{xs:List Value}{j:Int}{d:α}(hc:eg w ⟨g,0,none⟩ xs)(a:cS T F w xs l)(hi:idx l j=some d):∃cs,T.rd F w cs d/\eg w ⟨g,j.toNat*T.size,none⟩ cs:=by obtain⟨_,_,J⟩:=hY hi;obtain⟨cs,b,c⟩:=xD T a J;refine⟨cs,b,λ q u e=>?_⟩;have:=hc (j.toNat*T.size+q) u (c q u e);simpa using this
theorem abr{E:Env}(Q:pz E.T){W w:World}{ar:List Nat}{X:Nat->Prop}{bl:List (ay E.T.El)}{ρ:List Value}(R:Mem E.T W ar X bl ρ w){t:Nat}{p y:aD E.T.El}{Un:Value}(f:aq E.T (aW X bl ρ w) w ρ bl p Un)(h:(wC E bl t p).out y) :
 ∃dr us v,Un= .pointer (some dr)/\aq E.T (aW X bl ρ w) w ρ bl y v/\eg w dr us/\yl E.P t dr us v/\Cl X bl ρ w dr.block (Kv p):=by
 unfold wC at h
 split at h
 ·rename_i i o;split at h
  ·rename_i ty cs P I J;rw[cr]at I;have h:=D.lU h;simp only[aq]at f;obtain⟨g,m,rfl⟩:=f;obtain⟨g',vs,H,al,aL⟩:=R.ok i _ _ I m;simp only[Value.pointer.injEq,aK,Addr.mk.injEq,and_true]at H;subst H;have hc:eg w ⟨g,0,none⟩ vs:=λ j u aB=>by have ag:(aU.c8 g ty vs).ok w:=al;simpa using rI ag aB
   obtain⟨v,us,b,K,e⟩:=wm J h aL hc;refine⟨⟨g,o,none⟩,us,v,rfl,b,by simpa using K,λ op ac x w' av aa iX=>e op ac x w' av (by simpa using aa) (by simpa using iX),_,_,I,m,by simp[a6,ag]⟩
  ·exact h.elim
 ·rename_i t' d o;split at h;rename_i P J;have h:=D.lU h;simp only[aq]at f;obtain⟨a,q,cs,rfl,aw,a5,cO⟩:=f;obtain⟨v,us,b,K,e⟩:=wm J h (Q.cells a5) cO;exact⟨_,us,v,rfl,b,K,e,aw⟩;exact h.elim
 ·rename_i i g k t' j d o;split at h;rename_i S Z K l P I J;rw[cr]at I;simp only[aq]at f;obtain⟨_,u,B,s,z⟩:=f;rw[I]at z;obtain⟨A,c,xs,H,al,aL⟩:=R.ok i _ _ I B;subst H;split at h;rename_i m aj;have h:=D.lU h;obtain⟨⟨cJ,fm,bn,r,M,U,C⟩,LG,LH⟩:=z (aZ m);obtain⟨l',L,F⟩:=LH (aZ aj);simp only[nW,aK,Sigma.mk.injEq]at L;obtain⟨hf,L⟩:=L;subst hf;have L:=eq_of_heq L;subst L;simp only[Value.slice.injEq]at r;obtain⟨rfl,rfl,rfl⟩:=r;obtain⟨dd,rfl,N,hc,O⟩:=qY (by have:=(hY F).2.1;omega) al;obtain⟨cs,V,Y⟩:=UY hc aL F;obtain⟨v,us,b,G,e⟩:=wm J h (Q.cells V) Y;refine⟨_,us,v,C,b,?_,?_,_,_,I,B,by simp[a6,O,N,c2]⟩;simpa[hB,c2]using G;simpa[hB,c2,yl]using e;rename_i m aj;obtain⟨d',F,h⟩:=h;have h:=D.lU h;obtain⟨⟨cJ,fm,bn,r,M,U,C⟩,_,_⟩:=z (aZ m);simp only[Value.slice.injEq]at r;obtain⟨rfl,rfl,rfl⟩:=r;obtain⟨dd,rfl,N,hc,O⟩:=qY (by have:=(hY F).2.1;omega) al;obtain⟨cs,V,Y⟩:=UY hc aL F;obtain⟨v,us,b,G,e⟩:=wm J h (Q.cells V) Y;refine⟨_,us,v,C,b,?_,?_,_,_,I,B,by simp[a6,O,N,c2]⟩;simpa[hB,c2]using G;simpa[hB,c2,yl]using e;exact h.elim;exact h.elim
 ·rename_i i g o;split at h;rename_i S sz Z cs P I J;rw[cr]at I;split at h;rename_i m;have h:=D.lU h;simp only[aq]at f;obtain⟨_,u,B,s,z⟩:=f;rw[I]at z;obtain⟨A,n,c,xs,H,al,aL⟩:=R.ok i _ _ I B;subst H;obtain⟨cJ,fm,bn,r,M,C⟩:=z (aZ m);simp only[Value.slice.injEq]at r;obtain⟨rfl,rfl,rfl⟩:=r;obtain⟨dd,rfl,N,hc,O⟩:=qY M al;obtain⟨v,us,b,G,e⟩:=wm J h aL hc;refine⟨_,us,v,C,b,?_,?_,_,_,I,B,by simp[a6,O,N,c2]⟩;simpa[c2]using G;simpa[c2,yl]using e;exact h.elim;exact h.elim
 ·rename_i i g sz q;split at h
  ·rename_i S Z K l P I J;rw[cr]at I;split at h
   ·rename_i ag;simp only[bL]at ag;have m:=aZ ag.1;have ah:=aZ ag.2;obtain⟨d,F,h⟩:=h;have h:=D.lU h;simp only[aq]at f;obtain⟨a,o,Uh,rfl,aG,⟨ht,u,B,s,z⟩,hc⟩:=f;have wZ:=s;rw[I]at z wZ;obtain⟨A,n,c,r,M,U,C⟩:=z m;have aC:aR E.T (aW X bl ρ w) w ρ bl [.e i g K S q d 0] [Uh]:=by simp only[aR,aq];refine⟨Uh,[],rfl,⟨ht,u,B,s,λ _=>⟨⟨A,n,c,r,M,U,?_⟩,by rw[I];exact da _,λ _=>⟨l,by rw[I];rfl,F⟩⟩⟩,rfl⟩;rw[I,C,ah];rfl
    obtain⟨v,us,b,G,e⟩:=wm J h aC hc;exact⟨_,us,v,rfl,b,by simpa using G,by simpa[yl]using e,aG⟩
   ·exact h.elim
  ·exact h.elim
 ·exact h.elim
end
def cellsOf{El:Nat->Type}:aD El->List (aD El)
 | .a l=>l
 | .p (.agg ⟨vs⟩)=>vs.map .p
 |y=>[y]
def eH{α:Type}:List α->Nat->List α->List α
 |l,0,cs=>cs++l.drop cs.length
 |[],_+1,_=>[]
 |u::l,n+1,cs=>u::eH l n cs
theorem qD{α:Type}:∀(l:List α)(n:Nat)(cs:List α),n+cs.length<=l.length->eH l n cs=l.take n++cs++l.drop (n+cs.length)
 |l,0,cs,_=>by simp[eH]
 |[],n+1,cs,h=>by simp at h
 |u::l,n+1,cs,h=>by
  have:=qD l n cs (by simp at h;omega);simp only[eH,this,jf,iO];have e:n+1+cs.length=(n+cs.length)+1:=by omega
  rw[e,List.drop_succ_cons]
theorem Kt{α:Type}{l:List α}{n:Nat}{cs:List α}(h:n+cs.length<=l.length):(eH l n cs).length=l.length:=by rw[qD l n cs h];simp;omega
theorem Rf(off:Nat):∀(cs:List Value)(k:Nat)(l:Array Value),off+k+cs.length<=l.size->((cs.zipIdx k).foldl (λ(a:Array Value)(x:Value×Nat)=>a.setIfInBounds (off+x.2) x.1) l).toList=eH l.toList (off+k) cs
 |[],k,l,h=>by rw[qD _ _ _ (by simpa using h)];simp
 |c::r,k,l,h=>by
  simp only[List.zipIdx_cons,List.foldl_cons];have h':off+(k+1)+r.length<=(l.setIfInBounds (off+k) c).size:=by simp at h⊢;omega
  rw[Rf off r (k+1) _ h',qD _ _ _ (by simpa using h'),qD _ _ _ (by simpa using h)];have b:off+k<l.toList.length:=by simp at h⊢;omega
  simp only[Array.toList_setIfInBounds,df];apply jF;intro i;simp only[lx,gf,lI,hG,List.getElem?_set,ja,fD,df];have e:min (off+(k+1)) l.toList.length=off+k+1:=by simp at h b⊢;omega
  have al:min (off+k) l.toList.length=off+k:=by omega
  rw[e,al];by_cases d:i<off+k;simp[d,show i<off+k+1 by omega,show i<off+k+1+r.length by omega,show i<off+k+(r.length+1) by omega,show i<off+(k+1) by omega,show¬off+k=i by omega]
  ·by_cases f:i=off+k;subst f;simp only[show off+k<off+k+1 by omega,show off+k<off+k+1+r.length by omega,show off+k<off+k+(r.length+1) by omega,show off+k<off+(k+1) by omega,if_true,b,Nat.lt_irrefl,if_false,Nat.sub_self,dX]
   ·by_cases lk:i<off+k+1+r.length
    ·simp only[show¬i<off+k+1 by omega,lk,show i<off+k+(r.length+1) by omega,d,if_false,if_true];have:i- (off+k)=(i- (off+k+1))+1:=by omega
     rw[this,List.getElem?_cons_succ]
    ·simp only[show¬i<off+k+1 by omega,lk,show¬i<off+k+(r.length+1) by omega,if_false,show¬(off+k=off+(k+1)+r.length+(i- (off+k+1+r.length))) by omega];congr 1;omega
def pP{El:Nat->Type}(a:Nat->Option (Nat×Nat)):List (aD El)->List (Nat×aD El)->Option (List (aD El))
 |cs,[]=>some cs
 |cs,(i,y)::r=>match a i with
  |some (off,size)=>match bT (cellsOf y).length size&&hX (off+(cellsOf y).length) cs.length with
   |true=>pP a (eH cs off (cellsOf y)) r
   |false=>none
  |none=>none
section
variable{T:bA}{F:Nat->Prop}{w:World}{ρ:List Value}{bl:List (ay T.El)}
theorem mW:∀(vs:List Value),aR T F w ρ bl (vs.map .p) vs
 |[]=>by simp[aR]
 |v::r=>by simp only[fA,aR];exact⟨v,r,rfl,rfl,mW r⟩
theorem jh{z:aD T.El}{u:Value}(a:aq T F w ρ bl z u):aR T F w ρ bl [z] [u]:=by simp only[aR];exact⟨u,[],rfl,a,rfl⟩
theorem CM{v:Value}(h:kX v):v.cells.toList=[v]:=by cases v<;>simp[kX]at h;rfl
theorem CL{v:Value}(h:qi v):v.cells.toList=[v]:=by cases v<;>simp[qi]at h;rfl
theorem ku{y:aD T.El}{v:Value}(h:aq T F w ρ bl y v):aR T F w ρ bl (cellsOf y) v.cells.toList:=by
 cases y with
 |a l=>simp only[aq]at h;obtain⟨vs,rfl,h⟩:=h;exact h
 |p u=>
  simp only[aq]at h;subst h;cases v with
  |agg cs=>obtain⟨vs⟩:=cs;exact mW vs
  |_=>exact jh (by simp[aq])
 |b i o=>have h':=h;simp only[aq]at h';obtain⟨g,_,rfl⟩:=h';exact jh h
 |x t d o=>have h':=h;simp only[aq]at h';obtain⟨a,q,cs,rfl,_⟩:=h';exact jh h
 |s t l=>have h':=h;simp only[aq]at h';obtain⟨A,c,e⟩:=jN _ h';subst e;exact jh h
 |q t l=>have h':=h;simp only[aq]at h';obtain⟨_,A,rfl⟩:=h';exact jh h
 |r i g=>have h':=h;simp only[aq]at h';rw[CM h'.1];exact jh h
 |v i g lo hi=>have h':=h;simp only[aq]at h';rw[CM h'.1];exact jh h
 |e i g k t j d o=>have h':=h;simp only[aq]at h';rw[CL h'.1];exact jh h
 |w i g o=>have h':=h;simp only[aq]at h';rw[CL h'.1];exact jh h
 |m i=>have h':=h;simp only[aq]at h';obtain⟨g,_,rfl⟩:=h';exact jh h
 |n _ _ _=>have h':=h;simp only[aq]at h';obtain⟨g,rfl,_⟩:=h';exact jh h
 |f fn cs=>have h':=h;simp only[aq]at h';obtain⟨g,rfl,_⟩:=h';exact jh h
 |h fn us=>have h':=h;simp only[aq]at h';obtain⟨g,rfl,_⟩:=h';exact jh h
 |u l=>have h':=h;simp only[aq]at h';obtain⟨g,rfl,_⟩:=h';exact jh h
 |i t z=>have h':=h;simp only[aq]at h';obtain⟨g,rfl,_⟩:=h';exact jh h
 |pp i g sz dw=>have h':=h;simp only[aq]at h';obtain⟨_,_,rfl,_⟩:=h';exact jh h
 |s0 i g sz q=>have h':=h;simp only[aq]at h';obtain⟨_,_,_,rfl,_⟩:=h';exact jh h
theorem aR.lay{l cs:List (aD T.El)}{vs us:List Value}{n:Nat}(h:aR T F w ρ bl l vs)(h':aR T F w ρ bl cs us)(a:n+cs.length<=l.length):aR T F w ρ bl (eH l n cs) (eH vs n us):=by have b:=h.len;have al:=h'.len;rw[qD _ _ _ a,qD _ _ _ (by omega),al];exact aR.b2 (aR.b2 (aR.take n h) h') (aR.drop _ h)
def nb(T:bA)(F:Nat->Prop)(w:World)(ρ:List Value)(bl:List (ay T.El)):List (Nat×aD T.El)->List (Nat×Value)->Prop
 |[],vs=>vs=[]
 |(i,y)::r,vs=>∃v ws,vs=(i,v)::ws/\aq T F w ρ bl y v/\nb T F w ρ bl r ws
theorem HR{c:Nat->Option (Nat×Nat)}:∀ {ps:List (Nat×aD T.El)}{vs:List (Nat×Value)}{cs out:List (aD T.El)}{us:List Value},aR T F w ρ bl cs us->nb T F w ρ bl ps vs->pP c cs ps=some out->∃os,Instr.fill c ⟨us⟩ vs=some ⟨os⟩/\aR T F w ρ bl out os
 |[],vs,cs,out,us,h,b,a=>by simp only[nb]at b;subst b;simp only[pP,aK]at a;subst a;exact⟨us,rfl,h⟩
 |(i,y)::r,vs,cs,out,us,h,b,a=>by
  simp only[nb]at b;obtain⟨v,ws,rfl,hy,d⟩:=b;simp only[pP]at a;split at a
  ·rename_i off size e;split at a
   ·rename_i ag;simp only[bL]at ag;have g:=aZ ag.1;have al:=bW ag.2;have hc:=ku hy;have l1:=hc.len;have j:=h.len;have k:v.cells.size=(cellsOf y).length:=by rw[<-l1];simp
    obtain⟨os,I,J⟩:=HR (h.lay hc al) d a;refine⟨os,?_,J⟩;simp only[Instr.fill,e];rw[lW (by simp only[hZ,decide_eq_true_eq,bne_iff_ne,not_or];simp only[List.size_toArray];omega)];have f:v.cells.zipIdx.toList=v.cells.toList.zipIdx:=by simp
    rw[<-Array.foldl_toList,f];have:=Rf off v.cells.toList 0 ⟨us⟩ (by simp;omega);simp only[Nat.add_zero]at this;rw[<-I];congr 1;rw[<-lr];exact this
   ·cases a
  ·cases a
end
def AV(P:Program):List Go.Field->Option (List (Nat×Nat))
 |[]=>some []
 |f::r=>match P.info? f.type,AV P r with
  |some i,some l=>some ((f.offset,i.size)::l)
  |_,_=>none
theorem Uf{P:Program}{w:World}:∀ {bU:List Go.Field}{l:List (Nat×Nat)},AV P bU=some l->(bU.mapM λ(f:Go.Field)=>(do pure (f.offset,<-Go.sizeOf f.type):Sem (Nat×Nat))).run P w= .ok l w
 |[],l,h=>by simp only[AV,aK]at h;subst h;rfl
 |f::r,l,h=>by simp only[AV]at h;split at h;rename_i i l' I J;simp only[aK]at h;subst h;rw[List.mapM_cons];simp only[Sem.run_bind,run_sizeOf I,Uf J,Result.andThen_ok,Sem.run_pure];cases h
def n7(P:Program)(t:TypeId):Option (List Value):=match P.info? t with
 |some i=>match i.zero with
  |some z=>some z.cells.toList
  |none=>none
 |none=>none
theorem x_{P:Program}{t:TypeId}{l:List Value}(h:n7 P t=some l):∃z,(∀w,(zeroValue t).run P w= .ok z w)/\z.cells=⟨l⟩:=by unfold n7 at h;split at h;rename_i i I;split at h;rename_i z J;simp only[aK]at h;subst h;refine⟨z,λ w=>?_,by simp⟩;simp only[zeroValue,typeInfo,Sem.run_bind];simp[go_sem,I,J];cases h;cases h
def Hu(E:Env)(t:Nat)(ps:List (Nat×aD E.T.El)):D (aD E.T.El):=match E.P.underlying t,n7 E.P t with
 |some (.struct bU),some z=>match AV E.P bU.toList with
  |some a=>match pP (λ i=>nth a i) (z.map .p) ps with
   |some cs=>.ok (.a cs)
   |none=>.no
  |none=>.no
 |_,_=>.no
section
variable{E:Env}{F:Nat->Prop}{w:World}{ρ:List Value}{bl:List (ay E.T.El)}
theorem abe{t:Nat}{ps:List (Nat×aD E.T.El)}{vs:List (Nat×Value)}{y:aD E.T.El}(g:nb E.T F w ρ bl ps vs)(h:(Hu E t ps).out y) :
 ∃v,aq E.T F w ρ bl y v/\∀(o:Oper)(a:Act)(xs:List (Nat×Operand))(w':World),o.op= .build t xs.toArray->xs.map (λ p=>(p.1,a.eval p.2))=vs->aS E.P o a w' v w':=by
 unfold Hu at h
 split at h
 ·rename_i bU z I J;split at h
  ·rename_i b j;split at h
   ·rename_i cs k;have h:aD.a cs=y:=h;subst h;obtain⟨x,l,m⟩:=x_ J;obtain⟨os,d,n⟩:=HR (mW z) g k;refine⟨.agg ⟨os⟩,by simp only[aq];exact⟨os,rfl,n⟩,λ o a xs w' q r=>?_⟩;have c:(λ i=>nth b i)=(λ i=>(⟨b⟩:Array (Nat×Nat))[i]?):=by funext i;rw[cr];simp
    have s:(bU.mapM λ(f:Go.Field)=>(do pure (f.offset,<-Go.sizeOf f.type):Sem (Nat×Nat))).run E.P w'= .ok ⟨b⟩ w':=by
     have u:=Uf (w:=w') j;have e:bU.mapM (λ(f:Go.Field)=>(do pure (f.offset,<-Go.sizeOf f.type):Sem (Nat×Nat)))=List.toArray <$> bU.toList.mapM (λ(f:Go.Field)=>(do pure (f.offset,<-Go.sizeOf f.type):Sem (Nat×Nat))):=by rw[<-List.mapM_toArray]
     rw[e,map_eq_pure_bind,Sem.run_bind,u];rfl
    rw[c]at d;simp only[aS,execOp,q,Instr.build,Sem.run_bind,l,Result.andThen_ok,run_underlying I,s,gu,r,m,d];rfl
   ·exact h.elim
  ·exact h.elim
 ·exact h.elim
end
end a8
namespace aA
open Go Go.RowKit ad
section
variable{P:Program}{ops:Array Oper}{Q:Exit->Act->World->Prop}{a:Act}{w:World}{rest:List Oper}{o:Oper}{n:b'}{d:Nat}{l:List (Nat×Value)}
 {W:World}{ar X:List Nat}{E:List aU}{D:List bc}
def aU.nil:aU:=⟨[],λ _=>True,λ _ _ _ _=>trivial⟩
theorem a9.y_{x:aU}{w':World}(b:a9 W ar X w E D)(i:Nat)(hi:E[i]? =some x)(c:aY [] w w'):x.ok w':=x.law w w' (λ k e=>c.block k (b.lt k (hn.2 ⟨x,cU hi,e⟩)).1 (by simp)) (b.e i hi)
theorem amZ{t:TypeId}{x:Operand}{lo hi:Option Operand}{p r:List UInt8}{i j:Int}(q:P.underlying t=some .string)(v:o.op= .slice t x lo hi none)(y:a.eval x=bQ p)
 (A:(lo=none/\i=0)\/∃z,lo=some z/\a.eval z= .int .i64 i)(B:(hi=none/\j=p.length)\/∃z,hi=some z/\a.eval z= .int .i64 j)(C:cut p i j=some r):aS P o a w (bQ r) w:=by
 obtain⟨⟨I,J,M⟩,rfl⟩:=GV C
 have b:(⟨p.toArray⟩:ByteArray).size=p.length:=by simp[ByteArray.size]
 have f:∀code,(Instr.sliceBound (.int .i64 j) (⟨p.toArray⟩:ByteArray).size code).run P w= .ok j.toNat w:=λ code=>s7 rfl (by rw[b];omega)
 rw[b]at f
 have F:∀code,(Instr.sliceBound (.int .i64 i) j.toNat code).run P w= .ok i.toNat w:=λ code=>s7 rfl (by omega)
 have s:∀code,(Instr.sliceBound (.int .i64 i) (⟨p.toArray⟩:ByteArray).size code).run P w= .ok i.toNat w:=λ code=>s7 rfl (by rw[b];omega)
 rw[b]at s
 have G:(⟨p.toArray⟩:ByteArray).extract i.toNat j.toNat=⟨((p.take j.toNat).drop i.toNat).toArray⟩:=by apply ByteArray.ext;simp[ByteArray.data_extract,List.drop_take]
 have key:∀c e:Option Value,((c=none/\i=0)\/c=some (.int .i64 i))->((e=none/\j=p.length)\/e=some (.int .i64 j)) ->
  (Instr.slice t (.string ⟨p.toArray⟩) c e none).run P w= .ok (bQ ((p.take j.toNat).drop i.toNat)) w:=by
  intro c e H K
  have ag:∃m,(Instr.sliceBounds false (⟨p.toArray⟩:ByteArray).size (⟨p.toArray⟩:ByteArray).size c e none).run P w= .ok (i.toNat,j.toNat,m) w:=by rcases H with⟨rfl,rfl⟩|rfl<;>rcases K with⟨rfl,u⟩|rfl;exact⟨_,by simp[Instr.sliceBounds,u,b];rfl⟩;exact⟨_,by simp[Instr.sliceBounds,b,f];rfl⟩;exact⟨_,by simp[Instr.sliceBounds,s,u,b];rfl⟩;exact⟨_,by simp[Instr.sliceBounds,b,f,F];rfl⟩
  obtain⟨m,ag⟩:=ag
  simp only[Instr.slice,Sem.run_bind,run_underlying q,Result.andThen_ok,Option.isSome_none,ie,if_false,ag,Sem.run_pure,G,bQ]
 have L:=key (lo.map a.eval) (hi.map a.eval) (A.imp (λ h=>⟨by rw[h.1];rfl,h.2⟩) (λ⟨z,g,k⟩=>by rw[g,fU,k])) (B.imp (λ h=>⟨by rw[h.1];rfl,h.2⟩) (λ⟨z,g,k⟩=>by rw[g,fU,k]))
 simp only[aS,execOp,v,y,bQ,Instr.sliceAt,Sem.run_bind,run_underlying q,Result.andThen_ok,iu,L]
 rfl
theorem am6{t:TypeId}{x:Operand}{v:Value}(hc:P.concrete t=true)(b:o.op= .makeInterface t x)(c:a.eval x=v):aS P o a w (.iface t v) w:=by simp only[aS,execOp,b,c];simp[go_sem,run_makeInterface _ _ _ hc]
end
end aA
namespace a8
open Go Go.RowKit aA ad
abbrev iG(P:Program)(o:Oper)(a:Act)(v:Value):Prop:=∀w,aS P o a w v w
section
variable{E:Env}{W w:World}{ar:List Nat}{X:Nat->Prop}{bl:List (ay E.T.El)}{ρ:List Value}
def Lx(E:Env)(x y:Operand)(b:Bool):aD E.T.El->aD E.T.El->D (aD E.T.El)
 | .p u,.p v=>match EI x y b u v with
   |some r=>.ok (.p r)
   |none=>.ma b (.ok (.p u)) (.ok (.p v))
 |u,v=>.ma b (.ok u) (.ok v)
theorem ain{F:Nat->Prop}{a:Act}{x y:Operand}{b:Bool}{u v z:aD E.T.El}(h:(Lx E x y b u v).out z)(c:b=true->aq E.T F w ρ bl u (a.eval x))(hy:b=false->aq E.T F w ρ bl v (a.eval y)) :
 ∃r,(if b then a.eval x else a.eval y)=r/\aq E.T F w ρ bl z r:=by
 have key:(D.ma b (.ok u) (.ok v)).out z->∃r,(if b then a.eval x else a.eval y)=r/\aq E.T F w ρ bl z r:=λ h=>by rcases h with⟨ag,h⟩|⟨ag,h⟩;have h:u=z:=h;subst h;subst ag;exact⟨_,rfl,by simpa using c rfl⟩;have h:v=z:=h;subst h;subst ag;exact⟨_,rfl,by simpa using hy rfl⟩
 unfold Lx at h
 split at h
 ·rename_i u v;split at h;rename_i r d;have h:aD.p r=z:=h;subst h;refine⟨r,Ub (a:=a) d (λ ag=>?_) (λ ag=>?_),by simp[aq]⟩;simpa[aq]using c ag;simpa[aq]using hy ag;exact key h
 ·exact key h
theorem ani{P:Program}{o:Oper}{a:Act}{c x y:Operand}{b:Bool}{r:Value}(d:o.op= .pick c x y)(hc:a.eval c= .bool b)(h:(if b then a.eval x else a.eval y)=r):aS P o a w r w:=by
 cases b with
 |true=>exact F3 d hc (by simpa using h)
 |false=>exact F2 d hc (by simpa using h)
def uO(P:Program)(t:TypeId):Bool:=match P.underlying t with
 |some (.struct _)=>true
 |_=>false
def iA{El:Nat->Type}:aD El->Bool
 | .a _=>true
 | .p (.agg _)=>true
 |_=>false
def CV(E:Env)(t:Nat)(b:Bool)(u v:aD E.T.El):D (aD E.T.El):=match iA u&&iA v with
 |true=>match(E.T.e t).eq,(E.T.e t).fx (cellsOf u),(E.T.e t).fx (cellsOf v)with
  |some f,some d,some e=>.ok (.p (.bool (cond b (f d e) (!f d e))))
  |_,_,_=>.no
 |false=>.no
def SY:Value->Bool
 | .pointer none=>true
 |_=>false
def DW{El:Nat->Type}:aD El->Bool
 | .b _ _=>true
 | .x _ _ _=>true
 | .e _ _ _ _ _ _ _=>true
 | .w _ _ _=>true
 |_=>false
def LB(P:Program)(t:TypeId):Bool:=match P.underlying t with
 |some (.pointer _)=>true
 |_=>false
def vd(op:BinOp)(b:Bool):Option Bool:=match op with
 | .eql=>some b
 | .neq=>some (!b)
 |_=>none
def Pz(op:BinOp)(m n:Int):Option Value:=match op with
 | .quo=>some (.int .i64 (bj (m.tdiv n)))
 | .rem=>some (.int .i64 (m.tmod n))
 |_=>none
def Ht(E:Env)(t:Nat)(op:BinOp)(fM:Bool)(u v:aD E.T.El):D (aD E.T.El):=match uO E.P t,op with
 |true,.eql=>CV E t true u v
 |true,.neq=>CV E t false u v
 |_,_=>match u,v with
  | .p x,.p y=>match bin (iC (E.P.underlying t)) fM op x y with
    |some r=>.ok (.p r)
    |none=>match x,y with
     | .int .i64 m,.int .i64 n=>match Pz op m n with
       |some r=>.op (AH (!decide (n=0))) λ _=>.ok (.p r)
       |none=>.no
     | .int .u64 m,.int _ (.ofNat n)=>match op,hX n 64 with
       | .shr,true=>.ok (.p (.int .u64 (Fg m n)))
       |_,_=>.no
     | .int .i64 m,.int .u64 (.ofNat n)=>match op,hX n 64 with
       | .shl,true=>.ok (.p (.int .i64 (Ff m n)))
       |_,_=>.no
     |_,_=>.no
  |u,.p y=>match LB E.P t&&DW u&&SY y,vd op false with
   |true,some b=>.ok (.p (.bool b))
   |_,_=>.no
  |_,_=>.no
theorem anj{P:Program}{o:Oper}{a:Act}{t t':TypeId}{x y:Operand}{p:Addr}{op:BinOp}{b:Bool}(c:LB P t=true)(ag:vd op false=some b)(g:o.op= .binOp op t x y t')(i:a.eval x= .pointer (some p))(hy:a.eval y= .pointer none):aS P o a w (.bool b) w:=by
 have f:∃e,P.underlying t=some (.pointer e):=by unfold LB at c;split at c;rename_i e h;exact⟨e,h⟩;cases c
 obtain⟨e,f⟩:=f;have h:∀d:Nat,(Op.equalIn (d+1) t (.pointer (some p)) (.pointer none)).run P w= .ok false w:=λ d=>by simp[Op.equalIn,run_underlying f]
 cases op<;>simp only[vd,aK,reduceCtorEq]at ag<;>subst ag
 ·have J:(binOp .eql t (.pointer (some p)) (.pointer none)).run P w= .ok (.bool false) w:=by
   simp only[binOp];simp[Op.equal,Op.maxDepth,h 9999]
  simp only[aS,execOp,g,i,hy];simp[go_sem,J]
 ·have J:(binOp .neq t (.pointer (some p)) (.pointer none)).run P w= .ok (.bool true) w:=by
   simp only[binOp];simp[Op.equal,Op.maxDepth,h 9999]
  simp only[aS,execOp,g,i,hy];simp[go_sem,J]
theorem SZ{F:Nat->Prop}{y:aD E.T.El}{v:Value}(h:DW y=true)(a:aq E.T F w ρ bl y v):∃p,v= .pointer (some p):=by cases y<;>simp only[DW,reduceCtorEq]at h;simp only[aq]at a;obtain⟨g,_,rfl⟩:=a;exact⟨_,rfl⟩;simp only[aq]at a;obtain⟨_,_,_,rfl,_⟩:=a;exact⟨_,rfl⟩;simp only[aq]at a;cases v<;>simp[qi]at a;rename_i p;cases p<;>simp at a;exact⟨_,rfl⟩;simp only[aq]at a;cases v<;>simp[qi]at a;rename_i p;cases p<;>simp at a;exact⟨_,rfl⟩
theorem Ag{F:Nat->Prop}{y:aD E.T.El}{v:Value}(h:iA y=true)(a:aq E.T F w ρ bl y v):v= .agg ⟨v.cells.toList⟩:=by cases y<;>simp only[iA,reduceCtorEq]at h;rename_i u;simp only[aq]at a;subst a;cases v<;>simp only[iA,reduceCtorEq]at h;simp[Value.cells];simp only[aq]at a;obtain⟨vs,rfl,_⟩:=a;simp[Value.cells]
theorem abd(j:cv E){F:Nat->Prop}{o:Oper}{a:Act}{t:Nat}{op:BinOp}{fM:Bool}{x y:Operand}{t':TypeId}{u v z:aD E.T.El}(h:(Ht E t op fM u v).out z)(i:o.op= .binOp op t x y t')(D:fM=true->∀k n,a.eval y= .int k n->n≠0)
 (c:aq E.T F w ρ bl u (a.eval x))(hy:aq E.T F w ρ bl v (a.eval y)):∃r,iG E.P o a r/\aq E.T F w ρ bl z r:=by
 have B:∀ {b:Bool},op=cond b .eql .neq->(CV E t b u v).out z->∃r,iG E.P o a r/\aq E.T F w ρ bl z r:=λ{b} ag h=>by unfold CV at h;split at h;rename_i l;simp only[bL]at l;split at h;rename_i f d e I J G;have h:aD.p (.bool (cond b (f d e) (!f d e)))=z:=h;subst h;have s:=j.tb.fx _ _ _ J _ _ _ _ _ (ku c);have A:=j.tb.fx _ _ _ G _ _ _ _ _ (ku hy);exact⟨.bool (cond b (f d e) (!f d e)),λ w'=>j.eq t f I _ _ _ _ d e s A o a x y t' b (by rw[i,ag]) (Ag l.1 c) (Ag l.2 hy) w',by simp only[aq]⟩;exact h.elim;exact h.elim
 unfold Ht at h
 split at h
 ·exact B (b:=true) rfl h
 ·exact B (b:=false) rfl h
 ·split at h;rename_i p q;simp only[aq]at c hy;split at h;rename_i r g;have h:aD.p r=z:=h;subst h;exact⟨r,λ w'=>OT (λ k H=>qk H) D g i c hy,by simp only[aq]⟩;split at h;rename_i m n;split at h;rename_i r g;obtain⟨b,I,J⟩:=h;have J:aD.p r=z:=J;subst J;have C:=Lc I;refine⟨r,λ w'=>?_,by simp only[aq]⟩;unfold Pz at g;split at g;simp only[aK]at g;subst g;exact WY i c hy C;simp only[aK]at g;subst g;exact WZ i c hy C;cases g;exact h.elim;rename_i m k n _;split at h;rename_i ag _;have h:aD.p (.int .u64 (Fg m n))=z:=h;subst h;exact⟨_,λ w'=>anm (by assumption) i c hy,by simp only[aq]⟩;exact h.elim;rename_i m n _;split at h;rename_i ag _;have h:aD.p (.int .i64 (Ff m n))=z:=h;subst h;exact⟨_,λ w'=>anl (by assumption) i c hy,by simp only[aq]⟩;exact h.elim;exact h.elim
  ·rename_i q _;split at h
   ·rename_i b I J;have h:aD.p (.bool b)=z:=h;subst h;simp only[bL]at I;simp only[aq]at hy;obtain⟨p,K⟩:=SZ I.1.2 c;have L:q= .pointer none:=by cases q<;>simp only[SY,reduceCtorEq,and_false]at I;rename_i M;cases M<;>simp at I⊢
    exact⟨_,λ w'=>anj I.1.1 J i K (by rw[hy,L]),by simp only[aq]⟩
   ·exact h.elim
  ·exact h.elim
end
def k7(P:Program)(t:TypeId):Option (Nat×Nat):=match P.underlying t with
 |some (.slice e)=>match P.info? e with
  |some i=>some (e,i.size)
  |none=>none
 |_=>none
theorem nZ{P:Program}{t e n:Nat}(h:k7 P t=some (e,n)):P.underlying t=some (.slice e)/\∀w,(Go.sizeOf e).run P w= .ok n w:=by unfold k7 at h;split at h;rename_i e' I;split at h;rename_i i J;simp only[aK,cY]at h;obtain⟨rfl,rfl⟩:=h;exact⟨I,run_sizeOf J⟩;cases h;cases h
def GB(P:Program)(t:TypeId):Option (Nat×Nat):=match P.underlying t with
 |some (.array n e)=>match P.info? e with
  |some i=>some (n,i.size)
  |none=>none
 |_=>none
theorem YQ{P:Program}{t n m:Nat}(h:GB P t=some (n,m)):∃e,P.underlying t=some (.array n e)/\∀w,(Go.sizeOf e).run P w= .ok m w:=by unfold GB at h;split at h;rename_i a e I;split at h;rename_i i J;simp only[aK,cY]at h;obtain⟨rfl,rfl⟩:=h;exact⟨e,I,run_sizeOf J⟩;cases h;cases h
theorem am5{P:Program}{o:Oper}{a:Act}{w:World}{x y:Operand}{t e g q n m:Nat}{i:Int}(b:P.underlying t=some (.array n e))(c:∀w,(Go.sizeOf e).run P w= .ok m w)(d:o.op= .indexAddr t x y)(f:a.eval x= .pointer (some ⟨g,q,none⟩))(hy:a.eval y= .int .i64 i)
 (h:0<=i)(I:i<n):aS P o a w (.pointer (some ⟨g,q+i.toNat*m,none⟩)) w:=by
 obtain⟨k,rfl⟩:=jI h
 simp only[k9]
 have j:k<n:=by omega
 simp only[aS,execOp,d,f,hy]
 simp[go_sem,Instr.indexAt,run_underlying b,j,c,iq]
def HA(E:Env)(bl:List (ay E.T.El))(t:Nat):aD E.T.El->aD E.T.El->D (aD E.T.El)
 | .s t' l,.p (.int .i64 j)=>match k7 E.P t with
   |some (_,n)=>match bT n (E.T.ty t').size with
    |true=>.op (idx l j) λ d=>.ok (.x t' d 0)
    |false=>.no
   |none=>.no
 | .q t' l,.p (.int .i64 j)=>match k7 E.P t with
   |some (_,n)=>match bT n (E.T.ty t').size with
    |true=>.op (idx l j) λ d=>.ok (.x t' d 0)
    |false=>.no
   |none=>.no
 | .r i g,.p (.int .i64 j)=>match k7 E.P t,nth bl i with
   |some (_,n),some (.r t' a k l)=>match bT g a&&bT n (E.T.ty t').size with
    |true=>.op (idx l j) λ d=>.ok (.e i g k t' j d 0)
    |false=>.no
   |some (_,n),some (.k _ sz a cs)=>match bT g a&&bT n sz&&decide (0<=j)&&hX ((j.toNat+1)*sz) cs.length&&eM 0 sz with
    |true=>.ok (.w i g (j.toNat*sz))
    |false=>.no
   |_,_=>.no
 | .v i g lo hi,.p (.int .i64 j)=>match k7 E.P t,nth bl i with
   |some (_,n),some (.r t' a k l)=>match bT g a&&bT n (E.T.ty t').size with
    |true=>.op (idx ((l.take hi.toNat).drop lo.toNat) j) λ d=>.ok (.e i g k t' (lo+j) d 0)
    |false=>.no
   |_,_=>.no
 | .pp i g sz dw,.p (.int .i64 j)=>match k7 E.P t with
   |some (_,n)=>match bT n 1 with
    |true=>.op (idx dw j) λ q=>.ok (.s0 i g sz q)
    |false=>.no
   |none=>.no
 | .x t' d 0,.p (.int .i64 j)=>match GB E.P t,(E.T.e t').tU with
   |some (n,m),some s=>match bT m (E.T.ty s.1).size&&bT (n*m) (E.T.ty t').size&&eM 0 m with
    |true=>.op (idx (s.2 d) j) λ v=>.ok (.x s.1 v 0)
    |false=>.no
   |_,_=>.no
 |_,_=>.no
theorem afh{α:Type}{l:List α}{lo hi j:Int}{d:α}(e:0<=lo)(I:hi<=l.length)(h:idx ((l.take hi.toNat).drop lo.toNat) j=some d):idx l (lo+j)=some d/\0<=j/\lo+j<hi:=by obtain⟨a,b,c⟩:=hY h;simp only[kf,gf]at b;rw[ja,hG]at c;split at c;refine⟨?_,a,by omega⟩;unfold idx;rw[lX (by omega),show(lo+j).toNat=lo.toNat+j.toNat by omega];exact c;cases c
section
variable{E:Env}{W w:World}{ar:List Nat}{X:Nat->Prop}{bl:List (ay E.T.El)}{ρ:List Value}
theorem xJ{t sz n c:Nat}{A:Option Addr}{xs:List Value}(h:rowIs w t sz (.slice A n c) n xs)(a:0<n):∃g,A=some ⟨g,0,none⟩:=h.cap.2.2.2 (by have:=h.cap.1;omega)
theorem E7{t sz n c:Nat}{A:Option Addr}{xs:List Value}(h:rowIs w t sz (.slice A n c) n xs):n<=c:=h.cap.1
theorem QX{F:Nat->Prop}{t':Nat}{l:List (E.T.El t')}{o:Oper}{a:Act}{t e n:Nat}{x y:Operand}{j:Int}{d:E.T.El t'}{A:Option Addr}{c:Nat}(g:k7 E.P t=some (e,n))(h:n=(E.T.ty t').size)(I:idx l j=some d)(i:o.op= .indexAddr t x y)
 (k:a.eval x= .slice A l.length c)(b:(cM (E.T.ty t')).rd F w [.slice A l.length c] l)(hy:a.eval y= .int .i64 j):∃r,iG E.P o a r/\aq E.T F w ρ bl (.x t' d 0) r:=by
 have m:=I
 obtain⟨p,q⟩:=nZ g
 obtain⟨s,u,cs,v,z⟩:=vr _ b I
 refine⟨_,λ w'=>m3 p q i k hy s u,?_⟩
 simp only[aq]
 obtain⟨D,G,f,al,aL,bB,ch⟩:=(b:(cM _).rd _ w _ l)
 have B:l≠[]:=by intro e;subst e;have:=(hY m).2.1;simp at this
 have C:=(ch B).2.1
 simp only[hN,Value.slice.injEq,and_true,true_and]at f
 obtain⟨rfl,rfl⟩:=f
 exact⟨c2 A,fp A+j.toNat*(E.T.ty t').size,cs,by rw[h];simp,C,v,z⟩
theorem abl(eY:pz E.T){o:Oper}{a:Act}{t:Nat}{x y:Operand}{u v z:aD E.T.El}(M:Mem E.T W ar X bl ρ w)(h:(HA E bl t u v).out z)(N:o.op= .indexAddr t x y)
 (b:aq E.T (aW X bl ρ w) w ρ bl u (a.eval x))(hy:aq E.T (aW X bl ρ w) w ρ bl v (a.eval y)):∃r,iG E.P o a r/\aq E.T (aW X bl ρ w) w ρ bl z r:=by
 unfold HA at h
 split at h
 ·rename_i t' l j;split at h;rename_i e n p;split at h;rename_i ag;obtain⟨d,I,J⟩:=h;have J:aD.x t' d 0=z:=J;subst J;simp only[aq]at b hy;obtain⟨A,c,C⟩:=jN _ b;rw[C]at b;exact QX p (aZ ag) I N C b hy;exact h.elim;exact h.elim
 ·rename_i t' l j;split at h;rename_i e n p;split at h;rename_i ag;obtain⟨d,I,J⟩:=h;have J:aD.x t' d 0=z:=J;subst J;simp only[aq]at b hy;obtain⟨A,c,C⟩:=jN _ b.1;have b:=b.1;rw[C]at b;exact QX p (aZ ag) I N C b hy;exact h.elim;exact h.elim
 ·rename_i i g j;split at h;rename_i e n t' bg k l p hi;rw[cr]at hi;split at h;rename_i ag;simp only[bL]at ag;obtain⟨d,I,J⟩:=h;have J:aD.e i g k t' j d 0=z:=J;subst J;simp only[aq]at b hy;obtain⟨_,aE,G,H,K⟩:=b;rw[hi]at H K;have O:=K (aZ ag.1);obtain⟨A,c,xs,Q,al,aL⟩:=M.ok i _ _ hi G;subst Q;obtain⟨R,S,U⟩:=hY I;obtain⟨dd,rfl⟩:=xJ al (by omega);obtain⟨D,F⟩:=nZ p;have P:=aZ ag.2;refine⟨_,λ w'=>m3 D F N O hy rfl ⟨R,by omega⟩,?_⟩;simp only[aq];refine⟨trivial,_,G,by rw[hi];exact H,λ _=>⟨⟨_,_,_,rfl,R,by omega,by simp[c2,fp,hi,hB,P]⟩,by rw[hi];exact da _,λ _=>⟨l,by rw[hi];rfl,I⟩⟩⟩;exact h.elim
  ·rename_i e n t' sz bg cs p hi;rw[cr]at hi;split at h
   ·rename_i ag;simp only[bL,decide_eq_true_eq]at ag;obtain⟨⟨⟨⟨bp,dG⟩,fV⟩,V⟩,CA⟩:=ag;have h:aD.w i g (j.toNat*sz)=z:=h;subst h;simp only[aq]at b hy;obtain⟨_,aE,G,H,K⟩:=b;rw[hi]at H K;have O:=K (aZ bp);obtain⟨A,m,c,xs,Q,al,aL⟩:=M.ok i _ _ hi G;subst Q;have V:=bW V;have CA:=bW CA;have L:=aL.len;have Sk:=al.len;have mv:j.toNat<m:=by rcases gE j.toNat m with q |q;exact q;have:=jd sz q;rw[iU]at V;omega
    obtain⟨dd,rfl⟩:=xJ al (by omega);obtain⟨D,F⟩:=nZ p;have P:=aZ dG;refine⟨_,λ w'=>m3 D F N O hy rfl ⟨fV,by omega⟩,?_⟩;simp only[aq];exact⟨trivial,_,G,by rw[hi];exact H,λ _=>⟨_,_,_,rfl,by omega,by simp[c2,fp,P]⟩⟩
   ·exact h.elim
  ·exact h.elim
 ·rename_i i g lo cA j;split at h
  ·rename_i e n t' bg k l p hi;rw[cr]at hi;split at h
   ·rename_i ag;simp only[bL]at ag;obtain⟨d,I,J⟩:=h;have J:aD.e i g k t' (lo+j) d 0=z:=J;subst J;simp only[aq]at b hy;obtain⟨_,aE,G,H,K⟩:=b;rw[hi]at H K;obtain⟨cJ,ha,bn,B,Y,Ak,l1,c5,O,_,bJ⟩:=K (aZ ag.1);obtain⟨A,c,xs,Q,al,aL⟩:=M.ok i _ _ hi G;rw[Q]at Y al;simp only[Value.slice.injEq]at Y;obtain⟨rfl,rfl,rfl⟩:=Y;obtain⟨r0,S0,sc⟩:=afh Ak c5 I;obtain⟨dd,rfl⟩:=xJ al (by omega);have wR:=E7 al;obtain⟨D,F⟩:=nZ p;have P:=aZ ag.2;rw[bJ (by omega)]at O;simp only[fU,iq]at O;refine⟨_,λ w'=>m3 D F N O hy rfl ⟨S0,by omega⟩,?_⟩;simp only[aq];refine⟨trivial,_,G,by rw[hi];exact H,λ _=>⟨⟨_,_,_,Q,by omega,by omega,?_⟩,by rw[hi];exact da _,λ _=>⟨l,by rw[hi];rfl,r0⟩⟩⟩;rw[hi];have:(lo+j).toNat=lo.toNat+j.toNat:=by omega
    simp[c2,fp,hB,P,this,iU]
   ·exact h.elim
  ·exact h.elim
 ·rename_i i g sz dw j;split at h
  ·rename_i e n p;split at h
   ·rename_i ag;obtain⟨q,I,J⟩:=h;have J:aD.s0 i g sz q=z:=J;subst J;simp only[aq]at b hy;obtain⟨A,c,C,_,_,a5⟩:=b;obtain⟨R,S,U⟩:=hY I;have bE:dw≠[]:=by intro e;subst e;simp at S
    obtain⟨eS,Z,xs,aT,aV⟩:=a5 bE;obtain⟨u,k_,pd⟩:=aT.at_ U;obtain⟨D,F⟩:=nZ p;have P:=aZ ag;refine⟨_,λ w'=>m3 D F N C hy eS ⟨R,by omega⟩,?_⟩;simp only[aq];refine⟨c2 A,fp A+j.toNat,u,by rw[P];simp,Z,pd,λ m y M=>?_⟩;cases m with
    |zero=>simp only[dX,aK]at M;subst M;simpa using aV _ _ k_
    |succ m=>simp at M
   ·exact h.elim
  ·exact h.elim
 ·rename_i t' d j;split at h
  ·rename_i n m s a2 p;obtain⟨e,f⟩:=s;split at h
   ·rename_i ag;simp only[bL]at ag;obtain⟨v,I,J⟩:=h;have J:aD.x e v 0=z:=J;subst J;simp only[aq]at b hy;obtain⟨g,q,cs,C,Z,eA,hcs⟩:=b;obtain⟨R,S,U⟩:=hY I;have S:j.toNat<(f d).length:=S;have pY:=eY.tU t' e f p d _ _ _ eA;have L:=nV _ pY;have Sk:=(E.T.ty t').len eA;have dv:=aZ ag.1.1;have nx:=aZ ag.1.2;have IL:=bW ag.2
    have w3:n=(f d).length:=by
     have:n*m=(f d).length*m:=by rw[nx,<-Sk,L,dv]
     exact Nat.eq_of_mul_eq_mul_right IL this
    obtain⟨e',D,F⟩:=YQ a2;obtain⟨us,k_,pd⟩:=xD _ pY U;refine⟨_,λ w'=>am5 D F N C hy R (by omega),?_⟩;simp only[aq];refine⟨g,q+j.toNat*m,us,by simp,Z,k_,λ k u aj=>?_⟩;have:=hcs _ _ (pd k u aj);rw[<-dv,<-jg]at this;exact this
   ·exact h.elim
  ·exact h.elim
 ·exact h.elim
def HD(E:Env)(bl:List (ay E.T.El))(t:Nat):aD E.T.El->D (aD E.T.El)
 | .p (.string ⟨⟨p⟩⟩)=>match iC (E.P.underlying t)with
   |some .s=>.ok (.p (.int .i64 (p.length:Int)))
   |_=>.no
 | .p (.slice _ n _)=>match iC (E.P.underlying t)with
   |some .b4=>.ok (.p (.int .i64 (n:Int)))
   |_=>.no
 | .s _ l=>match iC (E.P.underlying t)with
   |some .b4=>.ok (.p (.int .i64 (l.length:Int)))
   |_=>.no
 | .q _ l=>match iC (E.P.underlying t)with
   |some .b4=>.ok (.p (.int .i64 (l.length:Int)))
   |_=>.no
 | .pp _ _ _ l=>match iC (E.P.underlying t)with
   |some .b4=>.ok (.p (.int .i64 (l.length:Int)))
   |_=>.no
 | .r i g=>match iC (E.P.underlying t),nth bl i with
   |some .b4,some (.r _ a _ l)=>match bT g a with
    |true=>.ok (.p (.int .i64 (l.length:Int)))
    |false=>.no
   |some .b4,some (.k _ sz a cs)=>match bT g a&&eM 0 sz with
    |true=>.ok (.p (.int .i64 ((cs.length / sz:Nat):Int)))
    |false=>.no
   |_,_=>.no
 | .v i g lo hi=>match iC (E.P.underlying t)with
   |some .b4=>match bT g (oA bl i)with
    |true=>.ok (.p (.int .i64 (hi-lo)))
    |false=>.no
   |_=>.no
 |_=>.no
theorem abq{o:Oper}{a:Act}{t:Nat}{x:Operand}{u z:aD E.T.El}(C:Mem E.T W ar X bl ρ w)(h:(HD E bl t u).out z)(F:o.op= .call { callee:=.builtin .len,args:=#[x],argTypes:=#[t] })
 (d:aq E.T (aW X bl ρ w) w ρ bl u (a.eval x)):∃r,iG E.P o a r/\aq E.T (aW X bl ρ w) w ρ bl z r:=by
 have fin:∀ {A:Option Addr}{n c:Nat},iC (E.P.underlying t)=some .b4->a.eval x= .slice A n c->(D.ok (aD.p (.int .i64 (n:Int)))).out z->∃r,iG E.P o a r/\aq E.T (aW X bl ρ w) w ρ bl z r:=λ{A n c} b f h=>by
  have h:aD.p (.int .i64 (n:Int))=z:=h;subst h;obtain⟨e,H⟩:=(qk b:kr.ok E.P t .b4)
  exact⟨_,λ w'=>WS H F f,by simp only[aq]⟩
 unfold HD at h
 split at h
 ·rename_i p;split at h;rename_i b;have h:aD.p (.int .i64 (p.length:Int))=z:=h;subst h;simp only[aq]at d;exact⟨_,λ w'=>WT (qk b) F d,by simp only[aq]⟩;exact h.elim
 ·split at h;rename_i b;simp only[aq]at d;exact fin b d h;exact h.elim
 ·split at h;rename_i b;simp only[aq]at d;obtain⟨A,c,f⟩:=jN _ d;exact fin b f h;exact h.elim
 ·split at h;rename_i b;simp only[aq]at d;obtain⟨A,f⟩:=d.2;exact fin b f h;exact h.elim
 ·split at h;rename_i b;simp only[aq]at d;obtain⟨A,c,f,_⟩:=d;exact fin b f h;exact h.elim
 ·rename_i i g;split at h;rename_i t' I k l b hi;rw[cr]at hi;split at h;rename_i ag;simp only[aq]at d;obtain⟨_,aE,s,G,j⟩:=d;rw[hi]at j;obtain⟨A,c,xs,v,_⟩:=C.ok i _ _ hi s;exact fin b ((j (aZ ag)).trans v) h;exact h.elim
  ·rename_i t' sz I cs b hi;rw[cr]at hi;split at h
   ·rename_i ag;simp only[bL]at ag;simp only[aq]at d;obtain⟨_,aE,s,G,j⟩:=d;rw[hi]at j;obtain⟨A,m,c,xs,v,al,aL⟩:=C.ok i _ _ hi s;have q:=aL.len;have J:=al.len;have K:=bW ag.2;have L:cs.length / sz=m:=by rw[<-q,J];exact Nat.mul_div_cancel _ K
    rw[L]at h;exact fin b ((j (aZ ag.1)).trans v) h
   ·exact h.elim
  ·exact h.elim
 ·rename_i i g lo y;split at h;rename_i b;split at h;rename_i ag;have ag:=aZ ag;rw[uj]at ag;simp only[aq]at d;obtain⟨_,aE,s,G,j⟩:=d;obtain⟨A,m,c,B,M,N,l1,O,f,_⟩:=j ag;refine fin b f ?_;have h:aD.p (.int .i64 (y-lo))=z:=h;rw[<-h,show((y.toNat-lo.toNat:Nat):Int)=y-lo by omega];exact rfl;exact h.elim;exact h.elim
 ·exact h.elim
end
theorem ZB{α:Type}{T:cE α}{F:Nat->Prop}{w:World}{A:Option Addr}{c:Nat}{li r:List α}{i j:Int}(h:(cM T).rd F w [.slice A li.length c] li)(g:cut li i j=some r) :
 (cM T).rd F w [.slice (if c=i.toNat then A else A.map (·.add (i.toNat*T.size))) (j.toNat-i.toNat) (c-i.toNat)] r/\j.toNat-i.toNat=r.length/\li.length<=c:=by
 obtain⟨⟨x,I,J⟩,rfl⟩:=GV g
 obtain⟨y,z,f,al,aL,bB,ch⟩:=h
 simp only[hN,Value.slice.injEq,and_true,true_and]at f
 obtain⟨rfl,rfl⟩:=f
 have a:((li.take j.toNat).drop i.toNat).length=j.toNat-i.toNat:=by rw[kf,gf];omega
 refine⟨?_,a.symm,al⟩
 refine⟨_,c-i.toNat,by rw[a],by rw[a];omega,by omega,λ d=>?_,λ k=>?_⟩
 ·split at d;have:=bB d;omega
  ·cases A with
   |none=>have:=bB rfl;omega
   |some dr=>cases d
 ·have l:0<((li.take j.toNat).drop i.toNat).length:=List.length_pos_iff.2 k;have m:li≠[]:=by intro e;subst e;simp at l
  obtain⟨n,o,xs,p,s⟩:=ch m;have t:c≠i.toNat:=by omega
  rw[lW t,n];refine⟨?_,?_⟩;simp only[fU,iq];rfl;simp only[fU,iq];refine⟨o,_,o9 i.toNat j.toNat p,λ q u v=>?_⟩;have b:(xs.take (j.toNat*T.size))[i.toNat*T.size+q]? =some u:=by rwa [ja]at v
  rw[hG]at b;split at b;have:=s (i.toNat*T.size+q) u b;simpa[c2,fp,jg]using this;cases b
def nh{El:Nat->Type}(z:Int):Option (aD El)->Option Int
 |none=>some z
 |some (.p (.int .i64 n))=>some n
 |_=>none
def FA(n:Nat)(lo hi:Int):Option Unit:=if 0<=lo/\lo<=hi/\hi<=(n:Int)then some ()else none
theorem VQ{n:Nat}{lo hi:Int}{u:Unit}(h:FA n lo hi=some u):0<=lo/\lo<=hi/\hi<=(n:Int):=by unfold FA at h;split at h;assumption;cases h
def x'{El:Nat->Type}:Option (aD El)->Bool
 |none=>true
 |some (.p (.int .i64 (.ofNat 0)))=>true
 |_=>false
def Hx(E:Env)(bl:List (ay E.T.El))(t:Nat)(u:aD E.T.El)(lo hi:Option (aD E.T.El)):D (aD E.T.El):=match u with
 | .s t' l=>match k7 E.P t,nh 0 lo,nh (l.length:Int) hi with
   |some (_,n),some i,some j=>match bT n (E.T.ty t').size with
    |true=>.op (cut l i j) λ r=>.ok (.s t' r)
    |false=>.no
   |_,_,_=>.no
 | .p (.string ⟨⟨p⟩⟩)=>match iC (E.P.underlying t),nh 0 lo,nh (p.length:Int) hi with
   |some .s,some i,some j=>.op (cut p i j) λ r=>.ok (.p (bQ r))
   |_,_,_=>.no
 | .r i g=>match k7 E.P t,nth bl i with
   |some (_,n),some (.r t' c _ l)=>match nh 0 lo,nh (l.length:Int) hi,bT g c&&bT n (E.T.ty t').size with
    |some a,some b,true=>.op (FA l.length a b) λ _=>.ok (.v i g a b)
    |_,_,_=>.no
   |_,_=>.no
 | .v i g p q=>match k7 E.P t,nth bl i with
   |some (_,n),some (.r t' c _ l)=>match nh 0 lo,nh (q-p) hi,bT g c&&bT n (E.T.ty t').size with
    |some a,some b,true=>.op (FA (q-p).toNat a b) λ _=>.ok (.v i g (p+a) (p+b))
    |_,_,_=>.no
   |_,_=>.no
 | .p (.slice none 0 0)=>match k7 E.P t,x' lo&&x' hi with
   |some _,true=>.ok (.p (.slice none 0 0))
   |_,_=>.no
 |_=>.no
section
variable{E:Env}{W w:World}{ar:List Nat}{X:Nat->Prop}{bl:List (ay E.T.El)}{ρ:List Value}{a:Act}
def tM(E:Env)(F:Nat->Prop)(w:World)(ρ:List Value)(bl:List (ay E.T.El))(a:Act):Option Operand->Option (aD E.T.El)->Prop
 |none,none=>True
 |some x,some y=>aq E.T F w ρ bl y (a.eval x)
 |_,_=>False
theorem pH{F:Nat->Prop}{lo:Option Operand}{u:Option (aD E.T.El)}{z i:Int}(h:tM E F w ρ bl a lo u)(ag:nh z u=some i):(lo=none/\i=z)\/∃x,lo=some x/\a.eval x= .int .i64 i:=by
 cases lo with
 |none=>
  cases u with
  |none=>simp only[nh,aK]at ag;exact .inl ⟨rfl,ag.symm⟩
  |some y=>exact h.elim
 |some x=>
  cases u with
  |none=>exact h.elim
  |some y=>right;refine⟨x,rfl,?_⟩;have h:aq E.T F w ρ bl y (a.eval x):=h;unfold nh at ag;split at ag;rename_i e;cases e;rename_i n e;simp only[aK]at e ag;subst e;subst ag;simpa only[aq]using h;cases ag
theorem F4{F:Nat->Prop}{lo:Option Operand}{u:Option (aD E.T.El)}(h:tM E F w ρ bl a lo u)(ag:x' u=true):(lo=none/\(0 :Int)=0)\/∃x,lo=some x/\a.eval x= .int .i64 0:=by refine pH (z:=0) (i:=0) h ?_;unfold x' at ag;split at ag;rfl;rfl;cases ag
theorem abh{o:Oper}{t:Nat}{x:Operand}{lo hi:Option Operand}{u z:aD E.T.El}{S U:Option (aD E.T.El)}(V:Mem E.T W ar X bl ρ w)(h:(Hx E bl t u S U).out z)(D:o.op= .slice t x lo hi none)
 (d:aq E.T (aW X bl ρ w) w ρ bl u (a.eval x))(F:tM E (aW X bl ρ w) w ρ bl a lo S)(G:tM E (aW X bl ρ w) w ρ bl a hi U):∃r,iG E.P o a r/\aq E.T (aW X bl ρ w) w ρ bl z r:=by
 unfold Hx at h
 split at h
 ·rename_i t' l;split at h;rename_i e n i j v I J;split at h;rename_i ag;obtain⟨r,m,b⟩:=h;have b:aD.s t' r=z:=b;subst b;obtain⟨y,C⟩:=nZ v;simp only[aq]at d;obtain⟨A,c,Y⟩:=jN _ d;rw[Y]at d;obtain⟨aT,aV,bN⟩:=ZB d m;have H:=aZ ag;subst H;exact⟨_,λ w'=>F0 y C D Y (pH F I) (pH G J) (GV m).1 bN,by simp only[aq];exact aT⟩;exact h.elim;exact h.elim
 ·rename_i p;split at h;rename_i i j aj I J;obtain⟨r,m,b⟩:=h;have b:aD.p (bQ r)=z:=b;subst b;simp only[aq]at d;exact⟨_,λ w'=>amZ (qk aj) D d (pH F I) (pH G J) m,by simp only[aq]⟩;exact h.elim
 ·rename_i i g;split at h
  ·rename_i e n t' bg k l v f;rw[cr]at f;split at h
   ·rename_i p q I J ag;simp only[bL]at ag;obtain⟨r,m,b⟩:=h;have b:aD.v i g p q=z:=b;subst b;obtain⟨y,C⟩:=nZ v;simp only[aq]at d;obtain⟨_,aE,K,L,M⟩:=d;rw[f]at L M;have O:=M (aZ ag.1);obtain⟨A,c,xs,N,al,aL⟩:=V.ok i _ _ f K;rw[N]at O al;obtain⟨P,v1,Q⟩:=VQ m;have H:=aZ ag.2;subst H;refine⟨_,λ w'=>F0 y C D O (pH F I) (pH G J) ⟨P,v1,Q⟩ (E7 al),?_⟩;simp only[aq];have eS:A=A.map (·.add (0*(E.T.ty t').size)):=by cases A<;>simp[Addr.add]
    refine⟨trivial,aE,K,by rw[f];exact L,λ _=>⟨A,_,c,_,N,P,v1,Q,rfl,λ e=>?_,λ e=>?_⟩⟩;subst e;split;rfl;exact eS.symm;rw[lW (by have:=E7 al;omega),f];rfl
   ·exact h.elim
  ·exact h.elim
 ·rename_i i g p q;split at h
  ·rename_i e n t' bg k l v f;rw[cr]at f;split at h
   ·rename_i s r I J ag;simp only[bL]at ag;obtain⟨_,m,b⟩:=h;have b:aD.v i g (p+s) (p+r)=z:=b;subst b;obtain⟨y,C⟩:=nZ v;simp only[aq]at d;obtain⟨_,aE,K,L,M⟩:=d;rw[f]at L M;obtain⟨cJ,ha,bn,B,R,Ak,l1,c5,O,Dp,bJ⟩:=M (aZ ag.1);obtain⟨A,c,xs,N,al,aL⟩:=V.ok i _ _ f K;rw[N]at R al;simp only[Value.slice.injEq]at R;obtain⟨rfl,rfl,rfl⟩:=R;have wR:=E7 al;obtain⟨P,v1,Q⟩:=VQ m;have H:=aZ ag.2;subst H;have Z:=pH G J;rw[show q-p=((q.toNat-p.toNat:Nat):Int) by omega]at Z;refine⟨_,λ w'=>F0 y C D O (pH F I) Z ⟨P,v1,by omega⟩ (by omega),?_⟩;simp only[aq];have z':(p+s).toNat=p.toNat+s.toNat:=by omega
    have iz:(p+r).toNat=p.toNat+r.toNat:=by omega
    refine⟨trivial,aE,K,by rw[f];exact L,λ _=>⟨A,_,c,(if c-p.toNat=s.toNat then B else B.map (·.add (s.toNat*(E.T.ty t').size))),N,by omega,by omega,by omega,?_,λ e=>?_,λ e=>?_⟩⟩;rw[z',iz,show p.toNat+r.toNat- (p.toNat+s.toNat)=r.toNat-s.toNat by omega,show c-p.toNat-s.toNat=c- (p.toNat+s.toNat) by omega]
    ·have JF:p=0:=by omega
     have qb:s=0:=by omega
     subst JF;subst qb;rw[Dp rfl];split;rfl;cases A<;>simp[Addr.add]
    ·obtain⟨dd,rfl⟩:=xJ al (by omega);rw[lW (by omega),bJ (by omega),f];simp[iq,hB,z',iU]
   ·exact h.elim
  ·exact h.elim
 ·split at h;rename_i e v ag;have h:aD.p (.slice none 0 0)=z:=h;subst h;simp only[bL]at ag;obtain⟨y,C⟩:=nZ v;simp only[aq]at d;exact⟨_,λ w'=>amY y C D d (F4 F ag.1) ((F4 G ag.2).imp (λ h=>⟨h.1,rfl⟩) id),by simp only[aq]⟩;exact h.elim
 ·exact h.elim
end
def oY{b6 β:Type}(K:gB b6)(d:List (b6×β))(k:b6):Option β:=@eU b6 β K.dec d k
def hs{b6 β:Type}(K:gB b6)(d:List (b6×β))(k:b6):Option Nat:=@lM b6 β K.dec d k
def oZ{b6 β:Type}(K:gB b6)(d:List (b6×β))(k:b6)(v:β):List (b6×β):=@k0 b6 β K.dec d k v
abbrev gB.enc{b6:Type}(K:gB b6):b6->Value:=@iJ.enc b6 K.dec K.mE
abbrev gB.desc{b6:Type}(K:gB b6):TypeDesc:=@iJ.desc b6 K.dec K.mE
section
variable{T:bA}{F:Nat->Prop}{w:World}{kt vt:Nat}{K:gB (T.El kt)}
theorem HT(k:T.El kt):∀ {es:List MapEntry}{d:List (T.El kt×T.El vt)}(i:Nat),gK T F w K es d ->
 (oY K d k=none/\hs K d k=none/\Instr.findNow K.desc (K.enc k) es i=some none)\/(∃p x v,oY K d k=some x/\hs K d k=some p/\tN T F w vt x v/\Instr.findNow K.desc (K.enc k) es i=some (some (i+p,v)))
 |[],[],i,_=>.inl ⟨rfl,rfl,rfl⟩
 |[],_::_,_,h=>h.elim
 |_::_,[],_,h=>h.elim
 |e::es,p::d,i,h=>by
  obtain⟨I,J,l⟩:=h;have g:Instr.sameNow K.desc (K.enc k) e.key=some (@decide (p.1=k) (K.dec p.1 k)):=by rw[I];exact @iJ.same _ K.dec K.mE k p.1
  by_cases a:p.1=k;right;refine⟨0,p.2,e.val,?_,?_,J,?_⟩;simp only[oY,eU,lX a];simp only[hs,lM,lX a];simp only[Instr.findNow,g,a,decide_true,Nat.add_zero]
  ·have j:Instr.findNow K.desc (K.enc k) (e::es) i=Instr.findNow K.desc (K.enc k) es (i+1):=by simp only[Instr.findNow,g,a,decide_false]
   rcases HT k (i+1) l with⟨c,b,f⟩|⟨q,x,v,c,b,f,m⟩;left;refine⟨?_,?_,by rw[j];exact f⟩;simp only[oY,eU,lW a];exact c;simp only[hs,lM,lW a];simp only[hs]at b;rw[b];rfl;right;refine⟨q+1,x,v,?_,?_,f,?_⟩;simp only[oY,eU,lW a];exact c;simp only[hs,lM,lW a];simp only[hs]at b;rw[b];rfl;rw[j,m,show i+1+q=i+(q+1) by omega]
theorem gK.len:∀ {es:List MapEntry}{d:List (T.El kt×T.El vt)},gK T F w K es d->es.length=d.length
 |[],[],_=>rfl
 |[],_::_,h=>h.elim
 |_::_,[],h=>h.elim
 |_::_,_::_,h=>by simp[gK.len h.2.2]
theorem E9{P:Program}{es:Array MapEntry}{d:List (T.El kt×T.El vt)}{t:Nat}(k:T.El kt)(b:P.underlying t=some K.desc)(c:gK T F w K es.toList d)(w':World) :
 (oY K d k=none/\hs K d k=none/\(Instr.findKey t (K.enc k) es.toList).run P w'= .ok none w')\/(∃p x v,oY K d k=some x/\hs K d k=some p/\tN T F w vt x v/\(Instr.findKey t (K.enc k) es.toList).run P w'= .ok (some (p,v)) w'):=by
 rcases HT k 0 c with⟨I,J,a⟩|⟨p,x,v,I,J,a,e⟩
 ·left;refine⟨I,J,?_⟩;simp only[Instr.findKey,Sem.run_bind,run_underlying b,Result.andThen_ok,a];rfl
 ·right;refine⟨p,x,v,I,J,a,?_⟩;simp only[Instr.findKey,Sem.run_bind,run_underlying b,Result.andThen_ok,e,jw];rfl
end
def y5:Option TypeDesc->TypeDesc->Bool
 |some (.int k),.int k'=>j' k k'
 |some .string,.string=>true
 |_,_=>false
theorem GZ{o:Option TypeDesc}{d:TypeDesc}(h:y5 o d=true):o=some d:=by unfold y5 at h;split at h;rw[lG h];rfl;cases h
def NP:Value->Bool->Bool
 | .agg _,b=>b
 |_,b=>!b
def vP(P:Program)(t:TypeId):Option Value:=match P.info? t with
 |some i=>i.zero
 |none=>none
theorem NS{P:Program}{t:TypeId}{z:Value}(h:vP P t=some z):∀w,(zeroValue t).run P w= .ok z w:=by unfold vP at h;split at h;rename_i i I;intro w;simp only[zeroValue,typeInfo,Sem.run_bind];simp[go_sem,I,h];cases h
theorem W4{z:Value}{b:Bool}(h:NP z b=true):z=sT b z.cells.toList:=by
 unfold NP at h;split at h;rename_i cs;subst h;obtain⟨vs⟩:=cs;rfl
 ·rename_i a;have ag:b=false:=by simpa using h
  subst ag;cases z<;>first |rfl |exact(a _ rfl).elim
def rh(E:Env)(vt a:Nat):Option (E.T.El vt):=match vP E.P a with
 |some z=>match NP z (E.T.e vt).agg with
  |true=>(E.T.e vt).fx (z.cells.toList.map .p)
  |false=>none
 |none=>none
def mapOf(P:Program)(t:TypeId):Option (Nat×Nat):=match P.underlying t with
 |some (.map k e)=>some (k,e)
 |_=>none
theorem Eb{P:Program}{t k e:Nat}(h:mapOf P t=some (k,e)):P.underlying t=some (.map k e):=by unfold mapOf at h;split at h;rename_i I;simp only[aK,cY]at h;obtain⟨rfl,rfl⟩:=h;exact I;cases h
def Ea{El:Nat->Type}(bl:List (ay El)):aD El->Option (Σ a:Nat×Nat,List (El a.1×El a.2))
 | .m i=>match nth bl i with
   |some (.m kt vt d)=>some ⟨(kt,vt),d⟩
   |_=>none
 | .n kt vt d=>some ⟨(kt,vt),d⟩
 |_=>none
def xg(E:Env)(ok:Bool){kt vt:Nat}(K:gB (E.T.El kt))(d:List (E.T.El kt×E.T.El vt))(k:E.T.El kt)(z:E.T.El vt):aD E.T.El:=match ok with
 |true=>.u [E.T.val vt ((oY K d k).getD z),.p (.bool (oY K d k).isSome)]
 |false=>E.T.val vt ((oY K d k).getD z)
def HF(E:Env)(bl:List (ay E.T.El))(t:Nat)(ok:Bool)(u v:aD E.T.El):D (aD E.T.El):=match mapOf E.P t,Ea bl u with
 |some (k,e),some ⟨(kt,vt),d⟩=>match(E.T.e kt).key with
  |some K=>match y5 (E.P.underlying k) K.desc,(E.T.e kt).fx (cellsOf v),rh E vt e,(match iA v with|true=>(E.T.e kt).agg |false=>!(E.T.e kt).agg)with
   |true,some key,some z,true=>.ok (xg E ok K d key z)
   |_,_,_,_=>.no
  |none=>.no
 |_,_=>.no
section
variable{E:Env}{W w:World}{ar:List Nat}{X:Nat->Prop}{bl:List (ay E.T.El)}{ρ:List Value}{a:Act}
def u7{El:Nat->Type}:aD El->Option Nat
 | .m i=>some i
 |_=>none
theorem Tw(g:Mem E.T W ar X bl ρ w){u:aD E.T.El}{v:Value}{kt vt:Nat}{d:List (E.T.El kt×E.T.El vt)}(h:Ea bl u=some ⟨(kt,vt),d⟩)(b:aq E.T (aW X bl ρ w) w ρ bl u v) :
 ∃r,v= .map (some r)/\rv E.T (aW X bl ρ w) w kt vt r d/\Cl X bl ρ w r (u7 u):=by
 cases u<;>simp only[Ea,reduceCtorEq]at h
 ·rename_i i;split at h;rename_i c e d' hi;simp only[aK,Sigma.mk.injEq,cY]at h;obtain⟨⟨rfl,rfl⟩,h⟩:=h;have h:=eq_of_heq h;subst h;rw[cr]at hi;simp only[aq]at b;obtain⟨r,I,rfl⟩:=b;obtain⟨j,f,al⟩:=g.ok i _ _ hi I;simp only[Value.map.injEq,aK]at f;subst f;exact⟨r,rfl,al,_,_,hi,I,by simp[a6,ag]⟩;cases h
 ·rename_i c e d';simp only[aK,Sigma.mk.injEq,cY]at h;obtain⟨⟨rfl,rfl⟩,h⟩:=h;have h:=eq_of_heq h;subst h;simp only[aq]at b;obtain⟨r,rfl,I,J⟩:=b;exact⟨r,rfl,J,I⟩
theorem Cu{F:Nat->Prop}{u:aD E.T.El}{v:Value}{b:Bool}(y:aq E.T F w ρ bl u v)(h:(match iA u with|true=>b |false=>!b)=true):v=sT b v.cells.toList:=by
 cases B:iA u with
 |true=>rw[B]at h;have h:b=true:=h;subst h;exact Ag B y
 |false=>
  rw[B]at h;have h:b=false:=by simpa using h
  subst h;have hc:=ku y;have:v.cells.toList=[v]:=by
   cases u with
   |p u=>simp only[aq]at y;subst y;cases v<;>first |rfl |(simp[iA]at B)
   |a l=>simp[iA]at B
   |b i o=>simp only[aq]at y;obtain⟨g,_,rfl⟩:=y;rfl
   |x t d o=>simp only[aq]at y;obtain⟨_,_,_,rfl,_⟩:=y;rfl
   |s t l=>simp only[aq]at y;obtain⟨A,c,e⟩:=jN _ y;subst e;rfl
   |q t l=>simp only[aq]at y;obtain⟨_,A,rfl⟩:=y;rfl
   |r i g=>simp only[aq]at y;exact CM y.1
   |v i g lo hi=>simp only[aq]at y;exact CM y.1
   |e i g k t j d o=>simp only[aq]at y;exact CL y.1
   |w i g o=>simp only[aq]at y;exact CL y.1
   |m i=>simp only[aq]at y;obtain⟨g,_,rfl⟩:=y;rfl
   |n _ _ _=>simp only[aq]at y;obtain⟨g,rfl,_⟩:=y;rfl
   |f fn cs=>simp only[aq]at y;obtain⟨g,rfl,_⟩:=y;rfl
   |h fn us=>simp only[aq]at y;obtain⟨g,rfl,_⟩:=y;rfl
   |u l=>simp only[aq]at y;obtain⟨g,rfl,_⟩:=y;rfl
   |i t z=>simp only[aq]at y;obtain⟨g,rfl,_⟩:=y;rfl
   |pp i g sz dw=>simp only[aq]at y;obtain⟨_,_,rfl,_⟩:=y;rfl
   |s0 i g sz q=>simp only[aq]at y;obtain⟨_,_,_,rfl,_⟩:=y;rfl
  rw[this];rfl
theorem VP(b:cv E){F:Nat->Prop}{vt:Nat}{x:E.T.El vt}{v:Value}(h:tN E.T F w vt x v):aq E.T F w ρ bl (E.T.val vt x) v:=by obtain⟨xs,I,rfl⟩:=h;exact b.tb.val I
theorem val_zero(c:cv E){F:Nat->Prop}{vt d:Nat}{z:E.T.El vt}(h:rh E vt d=some z):∃b,(∀w,(zeroValue d).run E.P w= .ok b w)/\aq E.T F w ρ bl (E.T.val vt z) b:=by unfold rh at h;split at h;rename_i b I;split at h;rename_i J;refine⟨b,NS I,?_⟩;have:=c.tb.fx _ _ _ h F w ρ bl _ (mW b.cells.toList);rw[W4 J];have e:=c.tb.val (ρ:=ρ) (bl:=bl) this;exact e;cases h;cases h
theorem abt(f:cv E)(N:Mem E.T W ar X bl ρ w){o:Oper}{t:Nat}{ok:Bool}{x y:Operand}{u v z:aD E.T.El}(h:(HF E bl t ok u v).out z)(n:o.op= .lookup t x y ok)
 (O:aq E.T (aW X bl ρ w) w ρ bl u (a.eval x))(hy:aq E.T (aW X bl ρ w) w ρ bl v (a.eval y)) :
 ∃r q,aq E.T (aW X bl ρ w) w ρ bl z r/\Cl X bl ρ w q (u7 u)/\∀w',w'.heap[q]? =w.heap[q]? ->aS E.P o a w' r w':=by
 unfold HF at h
 split at h
 ·rename_i k e kt vt d I J;split at h
  ·rename_i K s;split at h
   ·rename_i key P aE Q R S;have h:xg E ok K d key P=z:=h;subst h;obtain⟨q,A,⟨bk,B,es,dA,U,j,lL⟩,C⟩:=Tw N J O;rw[s]at B;cases B;have D:a.eval y=K.enc key:=by have V:=f.tb.fx _ _ _ Q _ _ _ _ _ (ku hy);have al:=f.tb.key _ _ s _ _ _ _ V;exact(Cu hy S).trans al
    have Y:=Eb I;have g:=GZ aE;obtain⟨l,Z,G⟩:=val_zero f (w:=w) (F:=aW X bl ρ w) (ρ:=ρ) (bl:=bl) R
    have H:∀w',w'.heap[q]? =w.heap[q]? ->(Instr.lookup t (.map (some q)) (K.enc key) ok).run E.P w'=(do
     let(v,m) <-match<-Instr.findKey k (K.enc key) es.toList with
      |some (_,v)=>pure (v,true)
      |none=>pure (<-zeroValue e,false)
     pure (if ok then Value.tuple #[v,.bool m]else v):Sem Value).run E.P w':=λ w' i=>by
     simp only[Instr.lookup,Sem.run_bind,Sem.run_pure,run_underlying Y,Result.andThen_ok,MapKept.run_getObj_map (i.trans U),@iJ.check _ K.dec K.mE E.P w' es.isEmpty k key g]
     rfl
    rcases E9 (vt:=vt) key g j w with⟨b,f2,_⟩|⟨p,NK,vC,b,f2,L,f6⟩
    ·refine⟨if ok then .tuple #[l,.bool false]else l,q,?_,C,λ w' i=>?_⟩
     ·cases ok with
      |true=>simp only[xg,b,iT,Option.isSome_none,aq,if_true];exact⟨[l,.bool false],rfl,by simp only[aR];exact⟨_,_,rfl,G,_,_,rfl,by simp only[aq],rfl⟩⟩
      |false=>simp only[xg,b,iT];exact G
     ·simp only[aS,execOp,n,A,D,Sem.run_bind,H w' i];rcases E9 (vt:=vt) key g j w' with⟨_,_,f4⟩|⟨p,NK,vC,c,_⟩;simp only[f4,Result.andThen_ok,Sem.run_bind,Z,Sem.run_pure];rw[b]at c;cases c
    ·refine⟨if ok then .tuple #[vC,.bool true]else vC,q,?_,C,λ w' i=>?_⟩
     ·cases ok with
      |true=>simp only[xg,b,ia,Option.isSome_some,aq,if_true];exact⟨[vC,.bool true],rfl,by simp only[aR];exact⟨_,_,rfl,VP f L,_,_,rfl,by simp only[aq],rfl⟩⟩
      |false=>simp only[xg,b,ia];exact VP f L
     ·simp only[aS,execOp,n,A,D,Sem.run_bind,H w' i]
      have f5:∀w',(Instr.findKey k (K.enc key) es.toList).run E.P w'= .ok (some (p,vC)) w':=by
       intro w';rcases HT (vt:=vt) key 0 j with⟨c,_⟩|⟨nS,e2,eD,c,bg,eu,M⟩;rw[b]at c;cases c
       ·have:(Instr.findKey k (K.enc key) es.toList).run E.P w= .ok (some (nS,eD)) w:=by
         simp only[Instr.findKey,Sem.run_bind,run_underlying g,Result.andThen_ok,M,jw];rfl
        rw[f6]at this;simp only[Result.ok.injEq,aK,cY,and_true]at this;obtain⟨rfl,rfl⟩:=this;simp only[Instr.findKey,Sem.run_bind,run_underlying g,Result.andThen_ok,M,jw];rfl
      simp only[f5,Result.andThen_ok,Sem.run_bind,Sem.run_pure]
   ·exact h.elim
  ·exact h.elim
 ·exact h.elim
def HE(E:Env)(bl:List (ay E.T.El))(t:Nat)(u:aD E.T.El):D (aD E.T.El):=match mapOf E.P t,Ea bl u with
 |some _,some ⟨_,d⟩=>.ok (.p (.int .i64 (d.length:Int)))
 |_,_=>.no
theorem abp(b:Mem E.T W ar X bl ρ w){o:Oper}{t:Nat}{x:Operand}{u z:aD E.T.El}(h:(HE E bl t u).out z)(c:o.op= .call { callee:=.builtin .len,args:=#[x],argTypes:=#[t] })
 (e:aq E.T (aW X bl ρ w) w ρ bl u (a.eval x)):∃r q,aq E.T (aW X bl ρ w) w ρ bl z r/\Cl X bl ρ w q (u7 u)/\∀w',w'.heap[q]? =w.heap[q]? ->aS E.P o a w' r w':=by
 unfold HE at h
 split at h
 ·rename_i n p d I J;have h:aD.p (.int .i64 (d.length:Int))=z:=h;subst h;obtain⟨q,f,⟨K,s,es,dA,g,i,v⟩,j⟩:=Tw b J e;have k:=Eb I;have l:es.size=d.length:=by have:=i.len;simpa using this
  refine⟨.int .i64 (d.length:Int),q,by simp only[aq],j,λ w' m=>?_⟩;simp only[aS,execOp,c,resolve,invoke,gu,fA,ib,f];simp[go_sem,Builtin.len_,run_underlying k,goInt,MapKept.run_getObj_map (m.trans g),l]
 ·exact h.elim
def HI(E:Env)(t j:Nat)(u:aD E.T.El):D (aD E.T.El):=match iA u,C8 E.P t j with
 |true,some (off,kH,_)=>match lay E.P kH with
  |some b=>.of (jX (cellsOf u) off b)
  |none=>.no
 |_,_=>.no
theorem abw{F:Nat->Prop}{o:Oper}{t j:Nat}{x:Operand}{u z:aD E.T.El}(h:(HI E t j u).out z)(d:o.op= .field t x j)(e:aq E.T F w ρ bl u (a.eval x)):∃r,iG E.P o a r/\aq E.T F w ρ bl z r:=by
 unfold HI at h;split at h
 ·rename_i off kH sz m p;split at h
  ·rename_i q s;have h:=D.lU h;obtain⟨bU,f,g,i,y,A,G,oO⟩:=Rd p;have k:=Ag m e;have hc:=ku e;obtain⟨b,n⟩:=q;have c:=Aq s;subst A;subst y;cases b with
   |false=>
    simp only[jX]at h;rw[cr]at h;obtain⟨v,I,J⟩:=hc.at_ h;have B:(a.eval x).cells[f.offset]? =some v:=by rw[<-g0];exact I
    refine⟨v,λ w'=>?_,J⟩;simp only[aS,execOp,d,Instr.field,Sem.run_bind,run_underlying g,Result.andThen_ok,i];rw[k];simp[asAgg,part,c.1,B]
   |true=>simp only[jX]at h;split at h;rename_i ag;simp only[aK]at h;subst h;have C:=bW ag;have l:=hc.len;refine⟨.agg ⟨((a.eval x).cells.toList.drop f.offset).take n⟩,λ w'=>?_,?_⟩;simp only[aS,execOp,d,Instr.field,Sem.run_bind,run_underlying g,Result.andThen_ok,i];rw[k];simp only[asAgg,part,Sem.run_bind,Sem.run_pure,c.1,c.2,Result.andThen_ok,if_true];congr 2;apply congrArg Value.agg;rw[<-lr];simp[List.extract_eq_take_drop,Nat.add_sub_cancel_left,Value.cells];simp only[aq];exact⟨_,rfl,aR.take n (aR.drop _ hc)⟩;cases h
  ·exact h.elim
 ·exact h.elim
end
structure b5 (El:Nat->Type) where
 aQ:List (Nat×aD El)
 gs:List (Nat×Nat×Bool×aD El)
 dh:List (Nat×Bool)
def xf{El:Nat->Type}:List (Nat×Nat×Bool×aD El)->List (Nat×Bool)->Nat->Option (aD El)
 |[],_,_=>none
 |p::r,cur,t=>match bT p.1 t&&um cur p.2.1 p.2.2.1 with
  |true=>some p.2.2.2
  |false=>xf r cur t
def s6{El:Nat->Type}:List (Nat×Nat×Bool×aD El)->Nat->List (Nat×Nat×Bool×aD El)
 |[],_=>[]
 |p::r,d=>match bT p.1 d||bT p.2.1 d with
  |true=>s6 r d
  |false=>p::s6 r d
structure lf (T:bA) (F:Nat->Prop) (w:World) (ρ:List Value) (bl:List (ay T.El)) (n:b') (f:b5 T.El) (a:Act):Prop where
 dO:n' T F w ρ bl n f.aQ a
 gs:∀p∈f.gs,a.tmps.getD p.2.1 undef= .bool p.2.2.1 ->aq T F w ρ bl p.2.2.2 (a.tmps.getD p.1 undef)
 dh:∀p∈f.dh,a.tmps.getD p.1 undef= .bool p.2
section
variable{T:bA}{F F':Nat->Prop}{w w':World}{ρ ρ':List Value}{bl bl':List (ay T.El)}{n:b'}{f:b5 T.El}{a:Act}
theorem lf.later(b:∀k,F k->F' k/\w'.heap[k]? =w.heap[k]?)(c:jS T ρ ρ' bl bl')(h:lf T F w ρ bl n f a):lf T F' w' ρ' bl' n f a:=⟨h.dO.later b c,λ p d ag=>(h.gs p d ag).later b c,h.dh⟩
theorem KD(h:lf T F w ρ bl n f a){cur:List (Nat×Bool)}(hc:hQ a cur):∀ {gs:List (Nat×Nat×Bool×aD T.El)}{t:Nat}{y:aD T.El},(∀p∈gs,p∈f.gs)->xf gs cur t=some y->aq T F w ρ bl y (a.tmps.getD t undef)
 |[],_,_,_,J=>by simp[xf]at J
 |p::r,t,y,I,J=>by simp only[xf]at J;split at J;rename_i ag;simp only[bL,aK]at ag J;subst J;have:=h.gs p (I p (by simp)) (RZ hc ag.2);rwa [aZ ag.1]at this;exact KD h hc (λ q b=>I q (by simp[b])) J
theorem MD{d:Nat}{p:Nat×Nat×Bool×aD T.El}:∀ {gs:List (Nat×Nat×Bool×aD T.El)},p∈s6 gs d->p∈gs/\p.1≠d/\p.2.1≠d
 |[],h=>by simp[s6]at h
 |q::r,h=>by simp only[s6]at h;split at h;obtain⟨I,J⟩:=MD h;exact⟨by simp[I],J⟩;rename_i ag;simp only[kc]at ag;rcases dc.1 h with rfl |h;exact⟨by simp,λ e=>by rw[e]at ag;simp at ag,λ e=>by rw[e]at ag;simp at ag⟩;obtain⟨I,J⟩:=MD h;exact⟨by simp[I],J⟩
theorem MC{α:Type}{d:Nat}{p:Nat×α}:∀ {l:List (Nat×α)},p∈k5 l d->p∈l/\p.1≠d
 |[],h=>by simp[k5]at h
 |q::r,h=>by simp only[k5]at h;split at h;obtain⟨I,J⟩:=MC h;exact⟨by simp[I],J⟩;rename_i ag;rcases dc.1 h with rfl |h;exact⟨by simp,λ e=>by rw[e]at ag;simp at ag⟩;obtain⟨I,J⟩:=MC h;exact⟨by simp[I],J⟩
def b5.put(f:b5 T.El)(d:Nat)(y:aD T.El):b5 T.El:=⟨(d,y)::k5 f.aQ d,s6 f.gs d,k5 f.dh d⟩
def b5.mS(f:b5 T.El)(d j:Nat)(b:Bool)(y:aD T.El):b5 T.El:=⟨k5 f.aQ d,(d,j,b,y)::s6 f.gs d,k5 f.dh d⟩
theorem lf.Ul{d:Nat}{v:Value}(h:lf T F w ρ bl n f a)(aE:eM d n.n=true):(∀p∈s6 f.gs d,(a.put (some d) v).tmps.getD p.2.1 undef= .bool p.2.2.1 ->aq T F w ρ bl p.2.2.2 ((a.put (some d) v).tmps.getD p.1 undef))/\∀p∈k5 f.dh d,(a.put (some d) v).tmps.getD p.1 undef= .bool p.2:=by
 have b:d<a.tmps.size:=by rw[h.dO.size];exact bW aE
 refine⟨λ p c ag=>?_,λ p c=>?_⟩;obtain⟨I,J,e⟩:=MD c;rw[rW b,lW (Ne.symm e)]at ag;rw[rW b,lW (Ne.symm J)];exact h.gs p I ag;obtain⟨I,J⟩:=MC c;rw[rW b,lW (Ne.symm J)];exact h.dh p I
theorem lf.put{d:Nat}{y:aD T.El}{v:Value}(h:lf T F w ρ bl n f a)(aE:eM d n.n=true)(c:aq T F w ρ bl y v):lf T F w ρ bl n (f.put d y) (a.put (some d) v):=by obtain⟨I,J⟩:=h.Ul (v:=v) aE;refine⟨⟨(h.dO.put aE c).size,(h.dO.put aE c).defers,λ t z b=>(h.dO.put aE c).get t z ?_⟩,I,J⟩;simp only[b5.put,c6]at b⊢;split at b;exact b;exact(D8 b).2
theorem lf.mS{d j:Nat}{b:Bool}{y:aD T.El}{v:Value}(h:lf T F w ρ bl n f a)(aE:eM d n.n=true)(i:bT j d=false)(k:a.tmps.getD j undef= .bool b->aq T F w ρ bl y v):lf T F w ρ bl n (f.mS d j b y) (a.put (some d) v):=by
 obtain⟨I,J⟩:=h.Ul (v:=v) aE;have g:d<a.tmps.size:=by rw[h.dO.size];exact bW aE
 have c:d≠j:=λ e=>by subst e;simp at i
 refine⟨h.dO.E6 aE,λ p az ag=>?_,J⟩;rcases dc.1 az with rfl |az;simp only at ag⊢;rw[rW g,lW c]at ag;rw[rW g,lX rfl];exact k ag;exact I p az ag
end
def cd(E:Env)(bl:List (ay E.T.El))(f:b5 E.T.El)(cur:List (Nat×Bool)):Operand->Option (aD E.T.El)
 | .const v=>some (.p v)
 | .global g=>c6 E.dW g
 | .func g=>some (.f (.func g) [])
 | .tmp t=>match c6 f.aQ t with
   |some y=>some (nm bl y)
   |none=>match xf f.gs cur t with
    |some y=>some (nm bl y)
    |none=>match xf f.gs f.dh t with
     |some y=>some (nm bl y)
     |none=>none
def lT(E:Env)(bl:List (ay E.T.El))(f:b5 E.T.El)(cur:List (Nat×Bool)):List Operand->Option (List (aD E.T.El))
 |[]=>some []
 |x::r=>match cd E bl f cur x,lT E bl f cur r with
  |some y,some ys=>some (y::ys)
  |_,_=>none
def AK(E:Env)(bl:List (ay E.T.El))(f:b5 E.T.El)(cur:List (Nat×Bool)):Option Operand->Option (Option (aD E.T.El))
 |none=>some none
 |some x=>match cd E bl f cur x with
  |some y=>some (some y)
  |none=>none
def xo(E:Env)(bl:List (ay E.T.El))(f:b5 E.T.El)(cur:List (Nat×Bool)):List (Nat×Operand)->Option (List (Nat×aD E.T.El))
 |[]=>some []
 |(i,x)::r=>match cd E bl f cur x,xo E bl f cur r with
  |some y,some ys=>some ((i,y)::ys)
  |_,_=>none
structure R (E:Env) (W:World) (ar:List Nat) (X:Nat->Prop) (n:b') (f:b5 E.T.El) (bl:List (ay E.T.El)) (ρ:List Value) (a:Act) (w:World):Prop where
 mem:Mem E.T W ar X bl ρ w
 cV:lf E.T (aW X bl ρ w) w ρ bl n f a
 dW:∀g y,c6 E.dW g=some y->aq E.T (aW X bl ρ w) w ρ bl y (.pointer (some ⟨g,0,none⟩))
section
variable{E:Env}{W w w':World}{ar:List Nat}{X:Nat->Prop}{n:b'}{f:b5 E.T.El}{bl bl':List (ay E.T.El)}{ρ ρ':List Value}{a:Act}{cur:List (Nat×Bool)}
theorem R.to(h:R E W ar X n f bl ρ a w)(b:To X bl bl' ρ ρ' w w')(c:Mem E.T W ar X bl' ρ' w'):R E W ar X n f bl' ρ' a w':=⟨c,h.cV.later b.F b.L,λ g y d=>b.v (h.dW g y d)⟩
theorem R.put{d:Nat}{y:aD E.T.El}{v:Value}(h:R E W ar X n f bl ρ a w)(aE:eM d n.n=true)(b:aq E.T (aW X bl ρ w) w ρ bl y v):R E W ar X n (f.put d y) bl ρ (a.put (some d) v) w:=⟨h.mem,h.cV.put aE b,h.dW⟩
theorem Pu{a:Act}:∀ {l:List (Nat×Bool)},(∀p∈l,a.tmps.getD p.1 undef= .bool p.2)->hQ a l
 |[],_=>trivial
 |p::r,h=>⟨h p (by simp),Pu λ q b=>h q (by simp[b])⟩
theorem cn(h:R E W ar X n f bl ρ a w)(hc:hQ a cur){x:Operand}{y:aD E.T.El}(b:cd E bl f cur x=some y):aq E.T (aW X bl ρ w) w ρ bl y (a.eval x):=by
 cases x with
 |const v=>simp only[cd,aK]at b;subst b;simp only[aq];rfl
 |global g=>exact h.dW g y b
 |func g=>simp only[cd,aK]at b;subst b;simp only[aq];exact⟨[],rfl,by simp[aR]⟩
 |tmp t=>simp only[cd]at b;split at b;rename_i z c;simp only[aK]at b;subst b;exact Et h.mem (h.cV.dO.get t z c);split at b;rename_i z c;simp only[aK]at b;subst b;exact Et h.mem (KD h.cV hc (λ p d=>d) c);split at b;rename_i z c;simp only[aK]at b;subst b;exact Et h.mem (KD h.cV (Pu h.cV.dh) (λ p d=>d) c);cases b
theorem xp(h:R E W ar X n f bl ρ a w)(hc:hQ a cur):∀ {xs:List Operand}{ys:List (aD E.T.El)},lT E bl f cur xs=some ys->aR E.T (aW X bl ρ w) w ρ bl ys (xs.map a.eval)
 |[],ys,b=>by simp only[lT,aK]at b;subst b;simp[aR]
 |x::r,ys,b=>by simp only[lT]at b;split at b;rename_i y c I J;simp only[aK]at b;subst b;simp only[fA,aR];exact⟨_,_,rfl,cn h hc I,xp h hc J⟩;cases b
theorem TT(h:R E W ar X n f bl ρ a w)(hc:hQ a cur){x:Option Operand}{y:Option (aD E.T.El)}(b:AK E bl f cur x=some y):tM E (aW X bl ρ w) w ρ bl a x y:=by
 cases x with
 |none=>simp only[AK,aK]at b;subst b;trivial
 |some x=>simp only[AK]at b;split at b;rename_i z c;simp only[aK]at b;subst b;exact cn h hc c;cases b
theorem Lk(h:R E W ar X n f bl ρ a w)(hc:hQ a cur):∀ {xs:List (Nat×Operand)}{ys:List (Nat×aD E.T.El)},xo E bl f cur xs=some ys->nb E.T (aW X bl ρ w) w ρ bl ys (xs.map λ p=>(p.1,a.eval p.2))
 |[],ys,b=>by simp only[xo,aK]at b;subst b;simp[nb]
 |(i,x)::r,ys,b=>by simp only[xo]at b;split at b;rename_i y c I J;simp only[aK]at b;subst b;simp only[fA,nb];exact⟨_,_,rfl,cn h hc I,Lk h hc J⟩;cases b
end
def HJ(E:Env)(bl:List (ay E.T.El))(f:b5 E.T.El)(cur:List (Nat×Bool))(c x y:Operand):D (aD E.T.El):=
 match cd E bl f cur c with
 |some (.p (.bool b))=>match E.dA,c with
  |true,_=>match b with
   |true=>.of (cd E bl f cur x)
   |false=>.of (cd E bl f cur y)
  |false,.tmp a=>match c6 f.dh a with
   |some true=>.of (cd E bl f cur x)
   |some false=>.of (cd E bl f cur y)
   |none=>match cd E bl f ((a,true)::cur) x,cd E bl f ((a,false)::cur) y with
    |some u,some v=>Lx E x y b u v
    |_,_=>.no
  |false,_=>.no
 |_=>.no
def Nh:IntKind->Int->Option Int
 | .i64,m=>some (bj m)
 | .u64,m=>some (alx m)
 | .u8,m=>some ((wg m).toNat:Int)
 |_,_=>none
def Hy(P:Program)(s d:Nat):Value->Option Value
 | .int k m=>match iC (P.underlying s),iC (P.underlying d)with
   |some (.i j),some (.i k')=>match j' j k,Nh k' m with
    |true,some r=>some (.int k' r)
    |_,_=>none
   |_,_=>none
 |_=>none
def H6(E:Env)(bl:List (ay E.T.El))(t:Nat)(u:aD E.T.El)(hi a:Option (aD E.T.El)):D (aD E.T.El):=match k7 E.P t,x' hi&&x' a with
 |some (e,n),true=>match bT n (E.T.ty e).size with
  |true=>match u with
   | .s _ _=>.ok (.q e [])
   | .q _ _=>.ok (.q e [])
   | .r i g=>match bT g (oA bl i)with
     |true=>.ok (.q e [])
     |false=>.no
   | .p (.slice none 0 0)=>.ok (.p (.slice none 0 0))
   | .p (.slice (some _) 0 _)=>.ok (.q e [])
   |_=>.no
  |false=>.no
 |_,_=>.no
def Lf{El:Nat->Type}(bl:List (ay El)):aD El->Bool
 | .s _ (_::_)=>true
 | .q _ (_::_)=>true
 | .p (.slice (some _) _ _)=>true
 | .r i g=>match nth bl i with
   |some (.r _ a _ (_::_))=>bT g a
   |_=>false
 |_=>false
def Es{El:Nat->Type}:aD El->Bool
 | .p (.slice none _ _)=>true
 |_=>false
def HH(P:Program){El:Nat->Type}(bl:List (ay El))(t:Nat)(op:BinOp)(u v:aD El):Option Bool:=match iC (P.underlying t),Es v,vd op true with
 |some .b4,true,some b=>match Es u with
  |true=>some b
  |false=>match Lf bl u with
   |true=>some (!b)
   |false=>none
 |_,_,_=>none
def wD(E:Env)(bl:List (ay E.T.El))(f:b5 E.T.El)(cur:List (Nat×Bool)):Op->D (aD E.T.El)
 | .move x=>.of (cd E bl f cur x)
 | .assign x=>.of (cd E bl f cur x)
 | .pick c x y=>HJ E bl f cur c x y
 | .binOp op t x y _=>match cd E bl f cur x,cd E bl f cur y with
   |some u,some v=>match HH E.P bl t op u v with
    |some b=>.ok (.p (.bool b))
    |none=>Ht E t op (Ah y) u v
   |_,_=>.no
 | .unOp .not _ x=>match cd E bl f cur x with
   |some (.p (.bool p))=>.ok (.p (.bool (!p)))
   |_=>.no
 | .unOp .neg _ x=>match cd E bl f cur x with
   |some (.p (.int .i64 m))=>.ok (.p (.int .i64 (bj (0-m))))
   |_=>.no
 | .convert s d x=>match cd E bl f cur x with
   |some (.p u)=>match Hy E.P s d u with
    |some r=>.ok (.p r)
    |none=>.no
   |_=>.no
 | .load t x=>match cd E bl f cur x with
   |some p=>wC E bl t p
   |none=>.no
 | .fieldAddr s x j=>match cd E bl f cur x,C8 E.P s j with
   |some p,some (off,_,_)=>match EL (oA bl) p with
    |true=>.of (LC p off)
    |false=>.no
   |_,_=>.no
 | .nilCheck x=>match cd E bl f cur x with
   |some p=>match DW p with
    |true=>.ok p
    |false=>.no
   |none=>.no
 | .extract x i=>match cd E bl f cur x with
   |some (.u l)=>.of (nth l i)
   |_=>.no
 | .makeFunc fn ⟨[]⟩ ⟨ys⟩=>match lT E bl f cur ys with
   |some us=>.ok (.f fn us)
   |none=>.no
 | .makeFunc fn ⟨xs⟩ ⟨[]⟩=>match lT E bl f cur xs with
   |some us=>.ok (.h fn us)
   |none=>.no
 | .makeInterface t x=>match cd E bl f cur x,E.P.concrete t with
   |some y,true=>.ok (.i t y)
   |_,_=>.no
 | .indexAddr t x y=>match cd E bl f cur x,cd E bl f cur y with
   |some u,some v=>HA E bl t u v
   |_,_=>.no
 | .index t x y=>match cd E bl f cur x,cd E bl f cur y,iC (E.P.underlying t)with
   |some (.p (.string ⟨⟨p⟩⟩)),some (.p (.int .i64 j)),some .s=>.op (idx p j) λ b=>.ok (.p (.int .u8 (b.toNat:Int)))
   |_,_,_=>.no
 | .slice t x lo hi none=>match cd E bl f cur x,AK E bl f cur lo,AK E bl f cur hi with
   |some u,some a,some b=>Hx E bl t u a b
   |_,_,_=>.no
 | .slice t x none (some hi) (some e)=>match cd E bl f cur x,cd E bl f cur hi,cd E bl f cur e with
   |some u,some a,some b=>H6 E bl t u (some a) (some b)
   |_,_,_=>.no
 | .lookup t x y ok=>match cd E bl f cur x,cd E bl f cur y with
   |some u,some v=>HF E bl t ok u v
   |_,_=>.no
 | .field t x j=>match cd E bl f cur x with
   |some u=>HI E t j u
   |none=>.no
 | .build t ⟨ps⟩=>match xo E bl f cur ps with
   |some ys=>Hu E t ys
   |none=>.no
 | .call ⟨.builtin .len,⟨[x]⟩,⟨[t]⟩⟩=>match cd E bl f cur x with
   |some u=>match mapOf E.P t with
    |some _=>HE E bl t u
    |none=>HD E bl t u
   |none=>.no
 | .call ⟨.builtin .cap,⟨[x]⟩,⟨[t]⟩⟩=>match k7 E.P t,cd E bl f cur x with
   |some _,some (.p (.slice _ _ c))=>.ok (.p (.int .i64 (c:Int)))
   |_,_=>.no
 | .call ⟨.builtin .min,⟨[x,y]⟩,_⟩=>match cd E bl f cur x,cd E bl f cur y with
   |some (.p (.int .i64 m)),some (.p (.int .i64 k))=>.ok (.p (.int .i64 (if k<m then k else m)))
   |_,_=>.no
 | .typeAssert x _ t true=>match cd E bl f cur x,vP E.P t,uO E.P t with
   |some (.p .nilIface),some z,true=>.ok (.u [.p z,.p (.bool false)])
   |some (.i s y),some z,true=>match bT s t with
    |true=>.ok (.u [y,.p (.bool true)])
    |false=>.ok (.u [.p z,.p (.bool false)])
   |_,_,_=>.no
 |_=>.no
def mJ(E:Env)(bl:List (ay E.T.El))(f:b5 E.T.El)(cur:List (Nat×Bool)):Op->Option (Option Nat)
 | .load _ x=>match cd E bl f cur x with
   |some p=>some (Kv p)
   |none=>none
 | .lookup _ x _ _=>match cd E bl f cur x with
   |some u=>some (u7 u)
   |none=>none
 | .call ⟨.builtin .len,⟨[x]⟩,⟨[t]⟩⟩=>match mapOf E.P t,cd E bl f cur x with
   |some _,some u=>some (u7 u)
   |_,_=>none
 |_=>none
def rF(P:Program)(o:Oper)(a:Act)(X:Nat->Prop){El:Nat->Type}(bl:List (ay El))(ρ:List Value)(w:World)(r:Value):Option (Option Nat)->Prop
 |none=>iG P o a r
 |some i=>∃(q:Nat)(S:World->Prop),(match i with
  |none=>aW X bl ρ w q
  |some i=>∃B h,bl[i]? =some B/\ρ[i]? =some h/\q∈a6 B h)/\S w/\(∀w',w'.heap[q]? =w.heap[q]? ->S w')/\∀w',S w'->aS P o a w' r w'
theorem rF.now{P:Program}{o:Oper}{a:Act}{X:Nat->Prop}{El:Nat->Type}{bl:List (ay El)}{ρ:List Value}{w:World}{r:Value}:∀ {i:Option (Option Nat)},rF P o a X bl ρ w r i->aS P o a w r w
 |none,h=>h w
 |some _,⟨_,_,_,I,_,J⟩=>J w I
theorem jE{α:Type}{t:Nat}{y:α}:∀ {l:List (Nat×α)},c6 l t=some y->(t,y)∈l
 |[],h=>by simp[c6]at h
 |p::r,h=>by simp only[c6]at h;split at h;rename_i ag;simp only[aK]at h;subst h;rw[<-aZ ag];simp;exact fg _ (jE h)
section
variable{E:Env}{W w w':World}{ar:List Nat}{X:Nat->Prop}{n:b'}{f:b5 E.T.El}{bl:List (ay E.T.El)}{ρ:List Value}{a:Act}{cur:List (Nat×Bool)}
theorem WR{P:Program}{o:Oper}{A:Option Addr}{m c sz t e:Nat}{x hi b:Operand}(d:P.underlying t=some (.slice e))(g:∀w,(Go.sizeOf e).run P w= .ok sz w)(h:o.op= .slice t x none (some hi) (some b))(i:a.eval x= .slice A m c)(I:a.eval hi= .int .i64 0)(J:a.eval b= .int .i64 0)(w:World):aS P o a w (.slice A 0 0) w:=by have k:=akq (P:=P) (w:=w) (A:=A) (m:=m) (c:=c) (j:=0) d g ⟨lb _,by omega⟩;simp only[aS,execOp,h,i,Instr.sliceAt,Sem.run_bind,run_underlying d,Result.andThen_ok,iu,fU,I,J,k];rfl
theorem aiN{F:Nat->Prop}{t:Nat}(A:Option Addr):aq E.T F w ρ bl (.q t []) (.slice A 0 0):=by simp only[aq];exact⟨⟨A,0,rfl,da _,hh _,λ _=>rfl,λ h=>absurd rfl h⟩,A,rfl⟩
theorem MN{v:Value}(h:kX v):∃A m c,v= .slice A m c:=by cases v<;>simp[kX]at h;exact⟨_,_,_,rfl⟩
theorem abZ(B:Mem E.T W ar X bl ρ w){o:Oper}{t:Nat}{x hi g:Operand}{u z i j:aD E.T.El}(h:(H6 E bl t u (some i) (some j)).out z)(l:o.op= .slice t x none (some hi) (some g))
 (b:aq E.T (aW X bl ρ w) w ρ bl u (a.eval x))(I:aq E.T (aW X bl ρ w) w ρ bl i (a.eval hi))(J:aq E.T (aW X bl ρ w) w ρ bl j (a.eval g)):∃r,iG E.P o a r/\aq E.T (aW X bl ρ w) w ρ bl z r:=by
 unfold H6 at h
 split at h
 ·rename_i e C y ag;simp only[bL]at ag;have p:a.eval hi= .int .i64 0:=by rcases F4 (lo:=some hi) (u:=some i) (show tM E _ w ρ bl a (some hi) (some i) from I) ag.1 with⟨e,_⟩|⟨_,e,k⟩;cases e;cases e;exact k
  have q:a.eval g= .int .i64 0:=by rcases F4 (lo:=some g) (u:=some j) (show tM E _ w ρ bl a (some g) (some j) from J) ag.2 with⟨e,_⟩|⟨_,e,k⟩;cases e;cases e;exact k
  obtain⟨s,v⟩:=nZ y;have fin:∀ {A:Option Addr}{m c:Nat},a.eval x= .slice A m c->(D.ok (aD.q e ([]:List (E.T.El e)))).out z->∃r,iG E.P o a r/\aq E.T (aW X bl ρ w) w ρ bl z r:=λ{A m c} d h=>by have h:aD.q e []=z:=h;subst h;exact⟨_,λ w'=>WR s v l d p q w',aiN A⟩
  split at h;split at h;simp only[aq]at b;obtain⟨A,c,d⟩:=jN _ b;exact fin d h;simp only[aq]at b;obtain⟨A,d⟩:=b.2;exact fin d h;split at h;simp only[aq]at b;obtain⟨A,m,c,d⟩:=MN b.1;exact fin d h;exact h.elim;have h:aD.p (.slice none 0 0)=z:=h;subst h;simp only[aq]at b;exact⟨_,λ w'=>WR s v l b p q w',by simp only[aq]⟩;simp only[aq]at b;exact fin b h;exact h.elim;exact h.elim
 ·exact h.elim
theorem alu{k:IntKind}{m r:Int}(h:Nh k m=some r):k.wrap m=r:=by unfold Nh at h;split at h<;>simp only[aK,reduceCtorEq]at h<;>subst h;exact ph m;rw[IntKind.wrap_u64];rfl;exact Vv m
theorem abi{P:Program}{o:Oper}{s d:Nat}{x:Operand}{u r:Value}(h:Hy P s d u=some r)(b:o.op= .convert s d x)(c:a.eval x=u):iG P o a r:=by unfold Hy at h;split at h;rename_i k m;split at h;rename_i j k' I J;split at h;rename_i i e g;simp only[aK]at h;subst h;have:=lG e;subst this;rw[<-alu g];exact λ w=>NL (qk I) (qk J) b c;cases h;cases h;cases h
theorem afv{y:Operand}(b:Ah y=true)(k:IntKind)(n:Int)(c:a.eval y= .int k n):n≠0:=by unfold Ah at b;split at b;rename_i k' d;have:a.eval (.const (.int k' d))= .int k' d:=rfl;rw[this]at c;injection c with _ e;subst e;simpa using b;cases b
theorem abx(h:R E W ar X n f bl ρ a w)(hc:hQ a cur){o:Oper}{c x y:Operand}{z:aD E.T.El}(d:(HJ E bl f cur c x y).out z)(j:o.op= .pick c x y):∃r,iG E.P o a r/\aq E.T (aW X bl ρ w) w ρ bl z r:=by
 unfold HJ at d;split at d
 ·rename_i b m;have g:=cn h hc m;simp only[aq]at g;have tk:b=true->(D.of (cd E bl f cur x)).out z->∃r,iG E.P o a r/\aq E.T (aW X bl ρ w) w ρ bl z r:=λ ag d=>by have:=cn h hc (D.lU d);exact⟨_,λ w'=>F3 j (by rw[g,ag]) rfl,this⟩
  have l:b=false->(D.of (cd E bl f cur y)).out z->∃r,iG E.P o a r/\aq E.T (aW X bl ρ w) w ρ bl z r:=λ ag d=>by have:=cn h hc (D.lU d);exact⟨_,λ w'=>F2 j (by rw[g,ag]) rfl,this⟩
  split at d
  ·cases b with
   |true=>exact tk rfl d
   |false=>exact l rfl d
  ·rename_i i _;split at d;rename_i k;have:=h.cV.dh _ (jE k);have e:a.eval (.tmp i)= .bool true:=this;rw[g]at e;exact tk (by injection e) d;rename_i k;have:=h.cV.dh _ (jE k);have e:a.eval (.tmp i)= .bool false:=this;rw[g]at e;exact l (by injection e) d;split at d;rename_i u v p q;obtain⟨r,I,J⟩:=ain (a:=a) (x:=x) (y:=y) d (λ ag=>cn h (show hQ a ((i,true)::cur) from⟨by subst ag;exact g,hc⟩) p) (λ ag=>cn h (show hQ a ((i,false)::cur) from⟨by subst ag;exact g,hc⟩) q);exact⟨r,λ w'=>ani j g I,J⟩;exact d.elim
  ·exact d.elim
 ·exact d.elim
theorem W0{P:Program}{o:Oper}{t t':TypeId}{x y:Operand}{A:Option Addr}{m c g i:Nat}{op:BinOp}{b:Bool}(l:iC (P.underlying t)=some .b4)(ag:vd op A.isNone=some b)(j:o.op= .binOp op t x y t')(k:a.eval x= .slice A m c)(hy:a.eval y= .slice none g i)(w:World):aS P o a w (.bool b) w:=by
 obtain⟨e,p⟩:=qk l;have h:∀d:Nat,(Op.equalIn (d+1) t (.slice A m c) (.slice none g i)).run P w= .ok A.isNone w:=λ d=>by cases A<;>simp[Op.equalIn,run_underlying p]
 cases op<;>simp only[vd,aK,reduceCtorEq]at ag<;>subst ag
 ·have J:(binOp .eql t (.slice A m c) (.slice none g i)).run P w= .ok (.bool A.isNone) w:=by
   simp only[binOp];simp[Op.equal,Op.maxDepth,h 9999]
  simp only[aS,execOp,j,k,hy];simp[go_sem,J]
 ·have J:(binOp .neq t (.slice A m c) (.slice none g i)).run P w= .ok (.bool (!A.isNone)) w:=by
   simp only[binOp];simp[Op.equal,Op.maxDepth,h 9999]
  simp only[aS,execOp,j,k,hy];simp[go_sem,J]
theorem Vb{α:Type}{T:cE α}{F:Nat->Prop}{v:Value}{d:α}{l:List α}(h:(cM T).rd F w [v] (d::l)):∃g m c,v= .slice (some g) m c:=by obtain⟨A,c,e,_,_,_,J⟩:=h;simp only[hN,and_true]at e;subst e;rw[(J (by simp)).1];exact⟨_,_,_,rfl⟩
theorem ah2(j:Mem E.T W ar X bl ρ w){u:aD E.T.El}{v:Value}(h:Lf bl u=true)(b:aq E.T (aW X bl ρ w) w ρ bl u v):∃g m c,v= .slice (some g) m c:=by unfold Lf at h;split at h;simp only[aq]at b;exact Vb b;simp only[aq]at b;exact Vb b.1;simp only[aq]at b;exact⟨_,_,_,b⟩;split at h;rename_i t' p k d l hi;rw[cr]at hi;simp only[aq]at b;obtain⟨_,aE,o,q,e⟩:=b;rw[hi]at e;obtain⟨A,c,xs,i,al,aL⟩:=j.ok _ _ _ hi o;rw[e (aZ h),i];rw[i]at al;obtain⟨g,rfl⟩:=xJ al (by simp);exact⟨_,_,_,rfl⟩;cases h;cases h
theorem TN{F:Nat->Prop}{u:aD E.T.El}{v:Value}(h:Es u=true)(b:aq E.T F w ρ bl u v):∃m c,v= .slice none m c:=by unfold Es at h;split at h;simp only[aq]at b;exact⟨_,_,b⟩;cases h
theorem abv(l:Mem E.T W ar X bl ρ w){t:Nat}{op:BinOp}{u v:aD E.T.El}{o:Oper}{x y:Operand}{t':TypeId}{b:Bool}(h:HH E.P bl t op u v=some b)(i:o.op= .binOp op t x y t')(j:aq E.T (aW X bl ρ w) w ρ bl u (a.eval x))(hy:aq E.T (aW X bl ρ w) w ρ bl v (a.eval y)):iG E.P o a (.bool b):=by unfold HH at h;split at h;rename_i b0 I J d;obtain⟨p,q,k⟩:=TN J hy;split at h;rename_i e;simp only[aK]at h;subst h;obtain⟨m,c,ex⟩:=TN e j;exact λ w'=>W0 (A:=none) I d i ex k w';split at h;rename_i e;simp only[aK]at h;subst h;obtain⟨g,m,c,ex⟩:=ah2 l e j;refine λ w'=>W0 (A:=some g) I ?_ i ex k w';cases op<;>simp only[vd,aK,reduceCtorEq]at d⊢ <;>subst d<;>rfl;cases h;cases h
theorem MT{P:Program}{t:TypeId}(h:uO P t=true):∃bU,P.underlying t=some (.struct bU):=by unfold uO at h;split at h;exact⟨_,‹_›⟩;cases h
theorem WV{P:Program}{o:Oper}{x y:Operand}{e4:Array TypeId}{m k:Int}{w:World}(b:o.op= .call { callee:=.builtin .min,args:=#[x,y],argTypes:=e4 })(c:a.eval x= .int .i64 m)(hy:a.eval y= .int .i64 k):aS P o a w (.int .i64 (if k<m then k else m)) w:=by simp only[aS,execOp,b,resolve,invoke,builtin,gu,fA,ib,c,hy,Builtin.min_];simp[go_sem,Builtin.min2]
theorem anq{P:Program}{o:Oper}{x:Operand}{s t:TypeId}{z:Value}(c:uO P t=true)(b:∀w,(zeroValue t).run P w= .ok z w)(d:o.op= .typeAssert x s t true)(e:a.eval x= .nilIface)(w:World):aS P o a w (.tuple ⟨[z,.bool false]⟩) w:=by obtain⟨bU,g⟩:=MT c;simp only[aS,execOp,d,e,Instr.typeAssert,Sem.run_bind,run_underlying g,Result.andThen_ok,b,if_true];simp[go_sem,b]
theorem anr{P:Program}{o:Oper}{x:Operand}{s t:TypeId}{u:Value}(b:uO P t=true)(c:o.op= .typeAssert x s t true)(d:a.eval x= .iface t u)(w:World):aS P o a w (.tuple ⟨[u,.bool true]⟩) w:=by obtain⟨bU,e⟩:=MT b;simp only[aS,execOp,c,d,Instr.typeAssert,Sem.run_bind,run_underlying e,Result.andThen_ok,if_true];simp[go_sem]
theorem anp{P:Program}{o:Oper}{x:Operand}{s t t':TypeId}{u z:Value}(b:uO P t=true)(c:∀w,(zeroValue t).run P w= .ok z w)(d:t'≠t)(e:o.op= .typeAssert x s t true)(g:a.eval x= .iface t' u)(w:World):aS P o a w (.tuple ⟨[z,.bool false]⟩) w:=by obtain⟨bU,h⟩:=MT b;simp only[aS,execOp,e,g,Instr.typeAssert,Sem.run_bind,run_underlying h,Result.andThen_ok,if_true,lW d];simp[go_sem,c]
theorem Q2(M:cv E)(h:R E W ar X n f bl ρ a w)(hc:hQ a cur){o:Oper}{op:Op}(i:o.op=op){z:aD E.T.El}(d:(wD E bl f cur op).out z):∃r,aq E.T (aW X bl ρ w) w ρ bl z r/\rF E.P o a X bl ρ w r (mJ E bl f cur op):=by
 have B:(∃r,iG E.P o a r/\aq E.T (aW X bl ρ w) w ρ bl z r)->∃r,aq E.T (aW X bl ρ w) w ρ bl z r/\rF E.P o a X bl ρ w r none:=λ⟨r,I,J⟩=>⟨r,J,I⟩
 unfold wD at d;split at d;exact B ⟨_,λ w'=>F1 i rfl,cn h hc (D.lU d)⟩;exact B ⟨_,λ w'=>FY i rfl,cn h hc (D.lU d)⟩;exact B (abx h hc d i);split at d;rename_i u v I J;split at d;rename_i b ag;have d:aD.p (.bool b)=z:=d;subst d;exact B ⟨_,abv h.mem ag i (cn h hc I) (cn h hc J),by simp only[aq]⟩;exact B (abd M d i (λ K=>afv K) (cn h hc I) (cn h hc J));exact d.elim;split at d;rename_i p I;have d:aD.p (.bool (!p))=z:=d;subst d;have:=cn h hc I;simp only[aq]at this;exact B ⟨_,λ w'=>WX i this,by simp only[aq]⟩;exact d.elim;split at d;rename_i m I;have d:aD.p (.int .i64 (bj (0-m)))=z:=d;subst d;have:=cn h hc I;simp only[aq]at this;exact B ⟨_,λ w'=>ang i this,by simp only[aq]⟩;exact d.elim;split at d;rename_i u I;split at d;rename_i r J;have d:aD.p r=z:=d;subst d;have:=cn h hc I;simp only[aq]at this;exact B ⟨_,abi J i this,by simp only[aq]⟩;exact d.elim;exact d.elim;rename_i t x;split at d;rename_i p I;obtain⟨dr,us,v,L,G,N,S,O⟩:=abr M.tb h.mem (cn h hc I) d;refine⟨v,G,?_⟩;simp only[mJ,I,rF];refine⟨dr.block,λ w'=>eg w' dr us,?_,N,λ w' H=>N.law H,λ w' H=>S o a x w' i L H⟩;revert O;cases Kv p<;>exact λ h=>h;exact d.elim;split at d;rename_i p off kH sz I J;split at d;rename_i P;obtain⟨g,q,C,al⟩:=aiu P (D.lU d) (cn h hc I);obtain⟨bU,Y,L,G,N,S,O,oO⟩:=Rd J;subst N;exact B ⟨_,λ w'=>WQ L G O oO i C,al⟩;exact d.elim;exact d.elim;split at d;rename_i p I;split at d;rename_i P;have d:p=z:=d;subst d;have:=cn h hc I;obtain⟨q,e⟩:=SZ P this;exact B ⟨_,λ w'=>WW i e,by rw[<-e];exact this⟩;exact d.elim;exact d.elim;split at d;rename_i l I;have:=cn h hc I;simp only[aq]at this;obtain⟨vs,C,al⟩:=this;have hi:=D.lU d;rw[cr]at hi;obtain⟨v,aL,bB⟩:=al.at_ hi;exact B ⟨v,λ w'=>B5 (vs:=vs) i C aL,bB⟩;exact d.elim;split at d;rename_i us I;have d:aD.f _ us=z:=d;subst d;have:=xp h hc I;refine B ⟨_,λ w'=>?_,by simp only[aq];exact⟨_,rfl,this⟩⟩;simp only[aS,execOp,i,Instr.makeFunc];simp only[gu,ib];rfl;exact d.elim;split at d;rename_i us I;have d:aD.h _ us=z:=d;subst d;have:=xp h hc I;refine B ⟨_,λ w'=>?_,by simp only[aq];exact⟨_,rfl,this⟩⟩;simp only[aS,execOp,i,Instr.makeFunc];simp only[gu,ib];rfl;exact d.elim;split at d;rename_i y I J;have d:aD.i _ y=z:=d;subst d;exact B ⟨_,λ w'=>am6 J i rfl,by simp only[aq];exact⟨_,rfl,cn h hc I⟩⟩;exact d.elim;split at d;rename_i u v I J;exact B (abl M.tb h.mem d i (cn h hc I) (cn h hc J));exact d.elim;split at d;rename_i p j I J F;obtain⟨b,L,G⟩:=d;have G:aD.p (.int .u8 (b.toNat:Int))=z:=G;subst G;have C:=cn h hc I;have al:=cn h hc J;simp only[aq]at C al;exact B ⟨_,λ w'=>am8 (qk F) i C al L,by simp only[aq]⟩;exact d.elim;split at d;rename_i u lo hi I J F;exact B (abh h.mem d i (cn h hc I) (TT h hc J) (TT h hc F));exact d.elim;split at d;rename_i u lo hi I J F;exact B (abZ h.mem d i (cn h hc I) (cn h hc J) (cn h hc F));exact d.elim;split at d;rename_i u v I J;obtain⟨r,q,C,al,aL⟩:=abt M h.mem d i (cn h hc I) (cn h hc J);refine⟨r,C,?_⟩;simp only[mJ,I,rF];refine⟨q,λ w'=>w'.heap[q]? =w.heap[q]?,?_,rfl,λ w' H=>H,aL⟩;revert al;cases u7 u<;>exact λ h=>h;exact d.elim;split at d;rename_i u I;exact B (abw d i (cn h hc I));exact d.elim;split at d;rename_i ys I;obtain⟨v,C,al⟩:=abe (Lk h hc I) d;exact B ⟨v,λ w'=>al o a _ w' i rfl,C⟩;exact d.elim;split at d;rename_i x t _ u I;split at d;rename_i Z K;obtain⟨r,q,C,al,aL⟩:=abp h.mem d i (cn h hc I);refine⟨r,C,?_⟩;simp only[mJ,K,I,rF];refine⟨q,λ w'=>w'.heap[q]? =w.heap[q]?,?_,rfl,λ w' H=>H,aL⟩;revert al;cases u7 u<;>exact λ h=>h;rename_i K;have:=B (abq h.mem d i (cn h hc I));simpa only[mJ,K]using this;exact d.elim;split at d;rename_i e A m c V I;have d:aD.p (.int .i64 (c:Int))=z:=d;subst d;have U:=cn h hc I;simp only[aq]at U;exact B ⟨_,λ w'=>amX (nZ (e:=e.1) (n:=e.2) V).1 i U,by simp only[aq]⟩;exact d.elim;split at d;rename_i m k I J;have d:aD.p (.int .i64 (if k<m then k else m))=z:=d;subst d;have C:=cn h hc I;have al:=cn h hc J;simp only[aq]at C al;exact B ⟨_,λ w'=>WV i C al,by simp only[aq]⟩;exact d.elim;split at d;rename_i Q I J F;have d:aD.u [.p Q,.p (.bool false)]=z:=d;subst d;have C:=cn h hc I;simp only[aq]at C;exact B ⟨_,λ w'=>anq F (NS J) i C w',by simp only[aq,aR];exact⟨_,rfl,_,_,rfl,rfl,_,_,rfl,rfl,rfl⟩⟩;rename_i s y Q I J F;have C:=cn h hc I;simp only[aq]at C;obtain⟨u,C,al⟩:=C;split at d;rename_i ag;have d:aD.u [y,.p (.bool true)]=z:=d;subst d;have:=aZ ag;subst this;exact B ⟨_,λ w'=>anr F i C w',by simp only[aq,aR];exact⟨_,rfl,_,_,rfl,al,_,_,rfl,rfl,rfl⟩⟩;rename_i ag;have d:aD.u [.p Q,.p (.bool false)]=z:=d;subst d;exact B ⟨_,λ w'=>anp F (NS J) (λ e=>by rw[e,Nat.beq_refl]at ag;cases ag) i C w',by simp only[aq,aR];exact⟨_,rfl,_,_,rfl,rfl,_,_,rfl,rfl,rfl⟩⟩;exact d.elim;exact d.elim
end
structure dk (El:Nat->Type) where
 y:Option (aD El)
 bl:List (ay El)
 ws:List Nat
section
variable{T:bA}{W w w':World}{ar:List Nat}{X:Nat->Prop}{bl:List (ay T.El)}{ρ:List Value}
theorem Mem.xm(a:Mem T W ar X bl ρ w){k:Nat}(h:lg bl ρ k): ¬X k:=λ b=>by have I:=a.fy k b;rcases(a.lt k h).2 with e |e;exact I.2 e;omega
theorem vq{α:Type}{l:List α}{i:Nat}{x:α}(h:l[i]? =some x):l.set i x=l:=by obtain⟨I,J⟩:=bb.1 h;rw[<-J,lv]
theorem Mem.freeze(a:Mem T W ar X bl ρ w){i t g k:Nat}{l:List (T.El t)}(hi:bl[i]? =some (.r t g k l)):Mem T W ar X (bl.set i (.z t g k l)) ρ w/\To X bl (bl.set i (.z t g k l)) ρ ρ w w:=by
 obtain⟨h,b⟩:=a.Ar hi;have d:=a.vw (B':=ay.z t g k l) (h':=h) (w':=w) hi b (aY.refl _ _) (λ q m=>by simp[a6]at m) ⟨λ _=>rfl,da _,λ _=>⟨rfl,rfl,da _,λ _=>rfl⟩⟩;have o:=a.q2 (B':=ay.z t g k l) (h':=h) (w':=w) hi b (aY.refl _ _) (λ q m=>by simp[a6]at m) d (by
  obtain⟨A,c,xs,rfl,J,v⟩:=a.ok i _ _ hi b;obtain⟨x,y,lk,D⟩:=J.cap;refine⟨A,c,rfl,x,y,lk,λ z=>?_⟩;have C:0<l.length:=List.length_pos_iff.2 z;obtain⟨n,rfl,E,hc,p⟩:=qY C J;refine⟨rfl,?_,xs,ki _ d.F v,by simpa[c2,fp]using hc⟩;have r:lg bl ρ n:=⟨i,_,_,hi,b,by simp only[a6];rw[p];simp⟩
  refine⟨by simpa[c2]using a.xm r,?_,by simpa[c2]using(a.lt n r).1⟩;rintro⟨j,B,g',f,s,u⟩;by_cases e:j=i;subst e;rw[gk (bb.1 hi).1]at f;cases f;simp[a6]at u
  ·rw[ix (Ne.symm e)]at f;rw[ix (Ne.symm e)]at s
   exact a.a3 i j _ _ _ _ hi b f s (Ne.symm e) n (by simp only[a6];rw[p];simp) (by simpa[c2]using u))
 rw[vq b]at o d;exact⟨o,d⟩
end
def e5{El:Nat->Type}(bl:List (ay El)):aD El->List (ay El)×aD El
 | .r i g=>match nth bl i with
   |some (.r t a k l)=>match bT g a with
    |true=>(bl.set i (.z t a k l),.s t l)
    |false=>(bl,.r i g)
   |some (.z t a _ l)=>match bT g a with
    |true=>(bl,.s t l)
    |false=>(bl,.r i g)
   |_=>(bl,.r i g)
 | .q t l=>(bl,.s t l)
 |y=>(bl,y)
def kG{El:Nat->Type}:List (ay El)->List (aD El)->List (ay El)×List (aD El)
 |bl,[]=>(bl,[])
 |bl,y::r=>match e5 bl y with
  |(bl',a)=>match kG bl' r with
   |(b,c)=>(b,a::c)
section
variable{T:bA}{W w w':World}{ar:List Nat}{X:Nat->Prop}{bl:List (ay T.El)}{ρ:List Value}
theorem Rj(c:Mem T W ar X bl ρ w){y b:aD T.El}{bl':List (ay T.El)}{v:Value}(h:e5 bl y=(bl',b))(a:aq T (aW X bl ρ w) w ρ bl y v):Mem T W ar X bl' ρ w/\To X bl bl' ρ ρ w w/\aq T (aW X bl' ρ w) w ρ bl' b v:=by
 have same:∀ {u:aD T.El},(bl,u)=(bl',b)->aq T (aW X bl ρ w) w ρ bl u v->Mem T W ar X bl' ρ w/\To X bl bl' ρ ρ w w/\aq T (aW X bl' ρ w) w ρ bl' b v:=λ{u} h f=>by simp only[cY]at h;obtain⟨rfl,rfl⟩:=h;exact⟨c,.refl,f⟩
 unfold e5 at h;split at h;rename_i i g;split at h;rename_i t j k l hi;rw[cr]at hi;split at h;rename_i ag;have ag:=aZ ag;subst ag;simp only[cY]at h;obtain⟨rfl,rfl⟩:=h;obtain⟨I,J⟩:=c.freeze hi;refine⟨I,J,?_⟩;have fl:=J.v a;simp only[aq]at fl⊢;obtain⟨_,aE,m,n,d⟩:=fl;have e:(bl.set i (ay.z t g k l))[i]? =some (ay.z t g k l):=gk (bb.1 hi).1;rw[e]at d;rw[d rfl];exact I.ok i _ _ e m;exact same h a;rename_i t j k l hi;rw[cr]at hi;split at h;rename_i ag;refine same h ?_;have:=Et c a;simp only[nm,cr,hi,ag]at this;exact this;exact same h a;exact same h a;refine same h ?_;simp only[aq]at a⊢;exact a.1;exact same h a
theorem Df:∀ {ys a:List (aD T.El)}{bl bl':List (ay T.El)}{vs:List Value},Mem T W ar X bl ρ w->kG bl ys=(bl',a)->aR T (aW X bl ρ w) w ρ bl ys vs->Mem T W ar X bl' ρ w/\To X bl bl' ρ ρ w w/\aR T (aW X bl' ρ w) w ρ bl' a vs
 |[],a,bl,bl',vs,c,h,b=>by simp only[kG,cY]at h;obtain⟨rfl,rfl⟩:=h;exact⟨c,.refl,b⟩
 |y::r,a,bl,bl',vs,c,h,b=>by
  simp only[aR]at b;obtain⟨u,us,rfl,f,g⟩:=b;simp only[kG]at h;cases I:e5 bl y with
  |mk i m=>
   rw[I]at h;cases J:kG i r with
   |mk n o=>rw[J]at h;simp only[cY]at h;obtain⟨rfl,rfl⟩:=h;obtain⟨j,d,v1⟩:=Rj c I f;obtain⟨k,e,l⟩:=Df j J (d.vs g);refine⟨k,d.trans e,?_⟩;simp only[aR];exact⟨u,us,rfl,e.v v1,l⟩
end
section
variable{E:Env}{W w w':World}{ar:List Nat}{X:Nat->Prop}{n:b'}{f:b5 E.T.El}{bl:List (ay E.T.El)}{ρ:List Value}{a:Act}{cur:List (Nat×Bool)}
def fi(E:Env)(o:Oper)(a:Act)(W:World)(ar:List Nat)(X:Nat->Prop)(bl:List (ay E.T.El))(ρ:List Value)(w:World)(e:dk E.T.El):Prop:=
 ∃w' ρ',Mem E.T W ar X e.bl ρ' w'/\To X bl e.bl ρ ρ' w w'/\(∀k,k<w.heap.size->(∀i∈e.ws,∀B h,bl[i]? =some B->ρ[i]? =some h->k∉a6 B h)->w'.heap[k]? =w.heap[k]?)/\
  match e.y with
  |some y=>∃v,aS E.P o a w v w'/\aq E.T (aW X e.bl ρ' w') w' ρ' e.bl y v
  |none=>nd E.P o a w w'
theorem TM(c:Mem E.T W ar X bl ρ w){o:Oper}{t:Nat}{cs:List (aD E.T.El)}{vs:List Value}(i:aR E.T (aW X bl ρ w) w ρ bl cs vs)(hy:aS E.P o a w (.pointer (some ⟨w.heap.size,0,none⟩)) (w.alloc (.cells ⟨vs⟩ t))) :
 fi E o a W ar X bl ρ w ⟨some (.b bl.length 0),bl++[.c t cs],[]⟩:=by
 have d:aY [] w (w.alloc (.cells ⟨vs⟩ t)):=aY.alloc _ _ _
 have e:∀k∈a6 (ay.c t cs) (.pointer (some ⟨w.heap.size,0,none⟩)),w.heap.size<=k/\k<(w.alloc (.cells ⟨vs⟩ t)).heap.size:=λ k b=>by simp only[a6,ag,fG]at b;subst b;simp
 have g:=c.tm (B:=ay.c t cs) (h:=.pointer (some ⟨w.heap.size,0,none⟩)) d e
 refine⟨_,ρ++[.pointer (some ⟨w.heap.size,0,none⟩)],c.push d e ⟨_,vs,rfl,heap_alloc_new w _,g.vs i⟩,g,λ k b _=>d.block k b (by simp),_,hy,?_⟩
 simp only[aq]
 exact⟨_,by rw[<-c.len];simp,rfl⟩
theorem ahC(c:Mem E.T W ar X bl ρ w){o:Oper}{kt vt:Nat}{K:gB (E.T.El kt)}(g:(E.T.e kt).key=some K)(hy:aS E.P o a w (.map (some w.heap.size)) (w.alloc (.map #[] 0))) :
 fi E o a W ar X bl ρ w ⟨some (.m bl.length),bl++[.m kt vt []],[]⟩:=by
 have d:aY [] w (w.alloc (.map #[] 0)):=aY.alloc _ _ _
 have e:∀k∈a6 (ay.m kt vt ([]:List (E.T.El kt×E.T.El vt))) (.map (some w.heap.size)),w.heap.size<=k/\k<(w.alloc (.map #[] 0)).heap.size:=λ k b=>by simp only[a6,ag,fG]at b;subst b;simp
 have i:=c.tm (B:=ay.m kt vt ([]:List (E.T.El kt×E.T.El vt))) (h:=.map (some w.heap.size)) d e
 refine⟨_,ρ++[.map (some w.heap.size)],c.push d e ⟨_,rfl,K,g,#[],0,heap_alloc_new w _,trivial,by simp,by simp⟩,i,λ k b _=>d.block k b (by simp),_,hy,?_⟩
 simp only[aq]
 exact⟨_,by rw[<-c.len];simp,rfl⟩
def Ez{El:Nat->Type}:aD El->Bool
 | .a _=>false
 | .u _=>false
 | .p v=>v.oneCell'
 |_=>true
theorem aid{F:Nat->Prop}{y:aD E.T.El}{v:Value}(h:Ez y=true)(B:aq E.T F w ρ bl y v):v.oneCell'=true:=by
 cases y with
 |p u=>simp only[aq]at B;subst B;exact h
 |a l=>simp[Ez]at h
 |b i o=>simp only[aq]at B;obtain⟨g,_,rfl⟩:=B;rfl
 |x t d o=>simp only[aq]at B;obtain⟨_,_,_,rfl,_⟩:=B;rfl
 |s t l=>simp only[aq]at B;obtain⟨A,c,e⟩:=jN _ B;subst e;rfl
 |q t l=>simp only[aq]at B;obtain⟨_,A,rfl⟩:=B;rfl
 |r i g=>simp only[aq]at B;obtain⟨A,m,c,rfl⟩:=MN B.1;rfl
 |v i g lo hi=>simp only[aq]at B;obtain⟨A,m,c,rfl⟩:=MN B.1;rfl
 |e i g k t j d o=>simp only[aq]at B;have:=B.1;cases v<;>simp[qi]at this;rfl
 |w i g o=>simp only[aq]at B;have:=B.1;cases v<;>simp[qi]at this;rfl
 |m i=>simp only[aq]at B;obtain⟨g,_,rfl⟩:=B;rfl
 |n _ _ _=>simp only[aq]at B;obtain⟨g,rfl,_⟩:=B;rfl
 |f fn cs=>simp only[aq]at B;obtain⟨g,rfl,_⟩:=B;rfl
 |h fn us=>simp only[aq]at B;obtain⟨g,rfl,_⟩:=B;rfl
 |u l=>simp[Ez]at h
 |i t z=>simp only[aq]at B;obtain⟨g,rfl,_⟩:=B;rfl
 |pp i g sz dw=>simp only[aq]at B;obtain⟨_,_,rfl,_⟩:=B;rfl
 |s0 i g sz q=>simp only[aq]at B;obtain⟨_,_,_,rfl,_⟩:=B;rfl
def qS{El:Nat->Type}:List (aD El)->Bool
 |[]=>true
 |y::r=>Ez y&&qS r
theorem AN{F:Nat->Prop}:∀ {ys:List (aD E.T.El)}{vs:List Value},qS ys=true->aR E.T F w ρ bl ys vs->vs.all (·.oneCell')=true
 |[],vs,_,b=>by simp only[aR]at b;subst b;rfl
 |y::r,vs,h,b=>by simp only[aR]at b;obtain⟨u,us,rfl,I,J⟩:=b;simp only[qS,bL]at h;simp only[List.all_cons,bL];exact⟨aid h.1 I,AN h.2 J⟩
theorem D2:∀(l:List Value)(n:Nat)(cs:List Value),aA.lay l n cs=eH l n cs
 |l,0,cs=>by cases l<;>rfl
 |[],n+1,cs=>rfl
 |u::l,n+1,cs=>by simp only[aA.lay,eH,D2 l n cs]
def Fj{El:Nat->Type}(bl:List (ay El))(i:Nat):Bool:=match nth bl i with
 |some (.r _ _ _ _)=>true
 |_=>false
def HK(E:Env)(bl:List (ay E.T.El))(t:Nat)(p y:aD E.T.El):D (dk E.T.El):=match lay E.P t,qS (cellsOf y)with
 |some (_,sz),true=>match bT (cellsOf y).length sz with
  |true=>match p with
   | .b i o=>match nth bl i with
     |some (.c ty cs)=>match hX (o+(cellsOf y).length) cs.length with
      |true=>.ok ⟨none,bl.set i (.c ty (eH cs o (cellsOf y))),[i]⟩
      |false=>.no
     |_=>.no
   | .e i g k t' j d o=>match nth bl i with
     |some (.r b c e l)=>match bT g c,bT k e with
      |true,true=>match kG bl (eH ((E.T.e t').cs d) o (cellsOf y)),kO t' b,hX (o+(cellsOf y).length) ((E.T.e t').cs d).length with
       |(bl',cs),.isTrue h,true=>match(E.T.e t').fx cs,Fj bl' i with
        |some d',true=>.ok ⟨none,bl'.set i (.r b c (e+1) (l.set j.toNat (h▸d'))),[i]⟩
        |_,_=>.no
       |_,_,_=>.no
      |true,false=>.op (idx l j) λ d=>match kG bl (eH ((E.T.e b).cs d) o (cellsOf y)),hX (o+(cellsOf y).length) ((E.T.e b).cs d).length with
       |(bl',cs),true=>match(E.T.e b).fx cs,Fj bl' i with
        |some d',true=>.ok ⟨none,bl'.set i (.r b c (e+1) (l.set j.toNat d')),[i]⟩
        |_,_=>.no
       |_,_=>.no
      |_,_=>.no
     |_=>.no
   | .w i g o=>match nth bl i with
     |some (.k b m c cs)=>match bT g c&&hX (o+(cellsOf y).length) cs.length with
      |true=>.ok ⟨none,bl.set i (.k b m c (eH cs o (cellsOf y))),[i]⟩
      |false=>.no
     |_=>.no
   |_=>.no
  |false=>.no
 |_,_=>.no
theorem UZ{o:Oper}{t g c m sz n q tb:Nat}{x y:Operand}{v:Value}{xs vs:List Value}(j:v.cells=vs.toArray)(k:∀w,(Go.sizeOf t).run E.P w= .ok sz w)(l:bT vs.length sz=true)(I:vs.all (·.oneCell')=true)
 (p:0<n)(e:rowIs w tb m (.slice (some ⟨g,0,none⟩) n c) n xs)(b:q+vs.length<=xs.length)(r:o.op= .store t x y)(s:a.eval x= .pointer (some ⟨g,q,none⟩))(hy:a.eval y=v) :
 ∃w',nd E.P o a w w'/\aY [g] w w'/\rowIs w' tb m (.slice (some ⟨g,0,none⟩) n c) n (eH xs q vs):=by
 have d:=e.len
 have e:=e.own p
 rcases e.2 with⟨_,D⟩|⟨g',cap,cur,h,al,aL,bB,ch,fH,i⟩
 ·omega
 ·simp only[Value.slice.injEq,aK,Addr.mk.injEq,and_true,true_and]at h;obtain⟨rfl,rfl⟩:=h;have u:xs.length<=cur.toList.length:=by rw[<-i,gf];omega
  obtain⟨w',z,A,B⟩:=NN (tb:=tb) (cs:=cur.toList) j k l I (by simpa using fo b (by simpa using u)) (show(aU.c8 g tb cur.toList).ok w by simpa[aU.c8]using aL) r s hy;refine⟨w',z,A,.inl ⟨by rw[Kt b,d],.inr ⟨g,c,⟨aA.lay cur.toList q vs⟩,rfl,al,B,bB,ch,?_,?_⟩⟩⟩;rw[D2];simp only[List.size_toArray];rw[Kt (by omega)];simpa using fH
  ·rw[D2];simp only;subst i;rw[qD _ _ _ (by omega),qD _ _ _ b];have C:n*m<=cur.toList.length:=by have:=fH;have F:n*m<=c*m:=jd m bB;simp;omega
   exact MS (by rw[d]at b;exact b) C
theorem Ts{j n sz o k:Nat}(h:j<n)(J:o+k<=sz):j*sz+o+k<=n*sz:=by have:(j+1)*sz<=n*sz:=jd sz h;rw[iU]at this;omega
end
section
variable{E:Env}{W w w':World}{ar:List Nat}{X:Nat->Prop}{n:b'}{f:b5 E.T.El}{bl:List (ay E.T.El)}{ρ:List Value}{a:Act}{cur:List (Nat×Bool)}
theorem DR(g:Mem E.T W ar X bl ρ w){o:Oper}{i:Nat}{B B':ay E.T.El}{h:Value}(hi:bl[i]? =some B)(c:ρ[i]? =some h)(d:aY (a6 B h) w w')(q:a6 B' h=a6 B h)
 (j:bI (some B')=bI (some B)/\hB E.T (some B')=hB E.T (some B)/\ff (some B)<=ff (some B')/\(ff (some B')=ff (some B)->nW (some B')=nW (some B)))(hy:nd E.P o a w w')
 (r:To X bl (bl.set i B') ρ ρ w w'->g4 E.T (aW X (bl.set i B') ρ w') w' ρ (bl.set i B') B' h):fi E o a W ar X bl ρ w ⟨none,bl.set i B',[i]⟩:=by
 have l:∀k∈a6 B' h,k∈a6 B h\/(w.heap.size<=k/\k<w'.heap.size):=λ k e=>.inl (q▸e)
 have b:=g.vw (B':=B') (h':=h) hi c d l ⟨λ _=>rfl,by rw[j.1];exact da _,λ _=>⟨rfl,j.2⟩⟩
 have m:=vq c
 have p:=g.q2 (B':=B') (h':=h) hi c d l b (by rw[m]at b⊢;exact r b)
 rw[m]at p b
 exact⟨w',ρ,p,b,λ k e s=>d.block k e (s i (by simp) B h hi c),hy⟩
theorem fi.first{o:Oper}{bl':List (ay E.T.El)}{e:dk E.T.El}(c:To X bl bl' ρ ρ w w)(d:∀i∈e.ws,∀B' h k,bl'[i]? =some B'->ρ[i]? =some h->k∈a6 B' h->∃B,bl[i]? =some B/\k∈a6 B h)(h:fi E o a W ar X bl' ρ w e):fi E o a W ar X bl ρ w e:=by obtain⟨w',ρ',I,J,j,l⟩:=h;refine⟨w',ρ',I,c.trans J,λ k m p=>j k m λ i hi B' g ag b q=>?_,l⟩;obtain⟨B,r,s⟩:=d i hi B' g k ag b q;exact p i hi B g r b s
theorem abX{bl bl':List (ay E.T.El)}{y c:aD E.T.El}(h:e5 bl y=(bl',c))(i:Nat):bl'[i]? =bl[i]? \/∃t g k l,bl[i]? =some (.r t g k l)/\bl'[i]? =some (.z t g k l):=by
 unfold e5 at h;split at h
 ·rename_i j g;split at h;rename_i t d k l b;rw[cr]at b;split at h;simp only[cY]at h;obtain⟨rfl,_⟩:=h;by_cases e:i=j;subst e;exact .inr ⟨t,d,k,l,b,gk (bb.1 b).1⟩;exact .inl (ix (Ne.symm e));simp only[cY]at h;exact .inl (by rw[h.1]);split at h<;>(simp only[cY]at h;exact .inl (by rw[h.1]))
  ·simp only[cY]at h;exact .inl (by rw[h.1])
 ·simp only[cY]at h;exact .inl (by rw[h.1])
 ·simp only[cY]at h;exact .inl (by rw[h.1])
theorem Dd:∀ {ys c:List (aD E.T.El)}{bl bl':List (ay E.T.El)},kG bl ys=(bl',c)->∀i:Nat,bl'[i]? =bl[i]? \/∃t g k l,bl[i]? =some (.r t g k l)/\bl'[i]? =some (.z t g k l)
 |[],c,bl,bl',h,i=>by simp only[kG,cY]at h;exact .inl (by rw[h.1])
 |y::r,c,bl,bl',h,i=>by
  simp only[kG]at h;cases I:e5 bl y with
  |mk d e=>
   rw[I]at h;cases J:kG d r with
   |mk j m=>rw[J]at h;simp only[cY]at h;obtain⟨rfl,_⟩:=h;rcases abX I i with b |⟨t,g,k,l,b,al⟩;rcases Dd J i with aL |⟨t,g,k,l,aL,bB⟩;exact .inl (aL.trans b);exact .inr ⟨t,g,k,l,by rw[<-b];exact aL,bB⟩;rcases Dd J i with aL |⟨t',g',k',l',aL,bB⟩;exact .inr ⟨t,g,k,l,b,by rw[aL,al]⟩;rw[al]at aL;cases aL
theorem Tk{α:Type}:∀(l:List α)(q:Nat)(cs b:List α),q+cs.length<=l.length->eH (l++b) q cs=eH l q cs++b
 |l,0,cs,b,h=>by
  have e:∀m:List α,eH m 0 cs=cs++m.drop cs.length:=λ m=>by cases m<;>rfl
  rw[e,e,List.drop_append_of_le_length (by simpa using h),iV]
 |[],q+1,cs,b,h=>by simp at h
 |u::l,q+1,cs,b,h=>by simp only[iO,eH,Tk l q cs b (by simp at h;omega)]
theorem Tl{α:Type}:∀(a l:List α)(q:Nat)(cs:List α),eH (a++l) (a.length+q) cs=a++eH l q cs
 |[],l,q,cs=>by simp
 |u::a,l,q,cs=>by
  have e:(u::a).length+q=(a.length+q)+1:=by simp only[df];omega
  rw[e];simp only[iO,eH,Tl a l q cs]
theorem agK{α:Type}{xs cs0 vs:List α}{p q:Nat}(h:(xs.drop p).take cs0.length=cs0)(g:p+cs0.length<=xs.length)(b:q+vs.length<=cs0.length):xs.take p++eH cs0 q vs++xs.drop (p+cs0.length)=eH xs (p+q) vs:=by
 have c:xs=xs.take p++(cs0++xs.drop (p+cs0.length)):=by
  have I:xs.drop p=cs0++xs.drop (p+cs0.length):=by rw[<-List.drop_drop];have:=(iM cs0.length (xs.drop p)).symm;rwa [h]at this
  rw[<-I,iM]
 have d:(xs.take p).length=p:=by rw[gf];omega
 have e:=Tl (xs.take p) (cs0++xs.drop (p+cs0.length)) q vs;rw[<-c,d,Tk _ _ _ _ b,<-iV]at e;exact e.symm
theorem Qd(G:cv E)(H:Mem E.T W ar X bl ρ w){o:Oper}{t sz i b g k q:Nat}{l:List (E.T.El b)}{x y:Operand}{j:Int}{d d':E.T.El b}{u:aD E.T.El}{bl':List (ay E.T.El)}{cs:List (aD E.T.El)}{h:Value}{A:Option Addr}{c m:Nat}
 (Y:∀w,(Go.sizeOf t).run E.P w= .ok sz w)(I:qS (cellsOf u)=true)(J:bT (cellsOf u).length sz=true)(hi:bl[i]? =some (.r b g k l))(K:ρ[i]? =some h)(aE:idx l j=some d)(s:q+(cellsOf u).length<=((E.T.e b).cs d).length)
 (z:Fj bl' i=true)(ms:kG bl (eH ((E.T.e b).cs d) q (cellsOf u))=(bl',cs))(Z:(E.T.e b).fx cs=some d')(r:h= .slice A m c)(av:o.op= .store t x y)(aa:a.eval x= .pointer (some ⟨c2 A,j.toNat*(E.T.ty b).size+q,none⟩))(hu:aq E.T (aW X bl ρ w) w ρ bl u (a.eval y)) :
 fi E o a W ar X bl ρ w ⟨none,bl'.set i (.r b g (k+1) (l.set j.toNat d')),[i]⟩:=by
 have B:=ku hu
 have L:=B.len
 obtain⟨cJ,bn,xs,C,al,aL⟩:=H.ok i _ _ hi K
 rw[r]at C
 simp only[Value.slice.injEq]at C
 obtain⟨rfl,rfl,rfl⟩:=C
 obtain⟨S0,sc,w9⟩:=hY aE
 obtain⟨M,rfl,p1,hc,iZ⟩:=qY (by omega) (r▸al)
 obtain⟨cs0,N,br⟩:=xD (E.T.ty b) aL w9
 have O:=G.tb.cells (ρ:=ρ) (bl:=bl) N
 have p8:=O.len
 have DL:=(E.T.ty b).len N
 obtain⟨di,P,v1⟩:=Df H ms (O.lay B s)
 have eA:=G.tb.fx _ _ _ Z _ _ _ _ _ v1
 have Q:=nV _ aL
 have p:j.toNat*(E.T.ty b).size+q+(a.eval y).cells.toList.length<=xs.length:=by rw[Q,L];exact Ts sc (by omega)
 obtain⟨w',aT,aV,bN⟩:=UZ (E:=E) (a:=a) (v:=a.eval y) (vs:=(a.eval y).cells.toList) (by simp) Y (by rw[L];exact J) (AN I B) (show 0<l.length by omega) (r▸al) p av (by simpa[c2]using aa) rfl
 have R:bl'[i]? =some (.r b g k l):=by rcases Dd ms i with e |⟨t',g',k',l',bB,ch⟩;exact e.trans hi;unfold Fj at z;rw[cr,ch]at z;cases z
 have aG:a6 (ay.r b g k l) h=[M]:=by subst r;simpa[a6]using iZ _
 have D:=DR (B':=ay.r b g (k+1) (l.set j.toNat d')) (w':=w') (o:=o) (a:=a) di R K (by rw[aG];exact aV) rfl ⟨rfl,rfl,Nat.le_succ _,λ e=>absurd e (by simp[ff])⟩ aT (λ S=>by
  refine⟨some ⟨M,0,none⟩,c,eH xs (j.toNat*(E.T.ty b).size+q) (a.eval y).cells.toList,by subst r;simp,by subst r;simpa using bN,?_⟩;have F:cS (E.T.ty b) (aW X (bl'.set i (ay.r b g (k+1) (l.set j.toNat d'))) ρ w') w' xs l:=ki _ (P.trans S).F aL;have qa:=(E.T.ty b).law S.F eA;have cO:=Mr qa F sc;have e:xs.take (j.toNat*(E.T.ty b).size)++eH cs0 q (a.eval y).cells.toList++xs.drop (j.toNat*(E.T.ty b).size+(E.T.ty b).size)=eH xs (j.toNat*(E.T.ty b).size+q) (a.eval y).cells.toList:=by have gQ:=Q5 br;have U:=agK (q:=q) (vs:=(a.eval y).cells.toList) gQ (by rw[DL,Q];have:=Ts (o:=0) (k:=(E.T.ty b).size) (sz:=(E.T.ty b).size) sc (by omega);omega) (by omega);rw[DL]at U;exact U
  rw[<-e];exact cO)
 refine fi.first P (λ cp V B' g' xA ag ax aH=>?_) D
 simp only[fG]at V
 subst V
 exact⟨_,hi,by rw[R]at ag;cases ag;exact aH⟩
end
section
variable{E:Env}{W w w':World}{ar:List Nat}{X:Nat->Prop}{n:b'}{f:b5 E.T.El}{bl:List (ay E.T.El)}{ρ:List Value}{a:Act}{cur:List (Nat×Bool)}
theorem aby(aP:cv E)(z:Mem E.T W ar X bl ρ w){o:Oper}{t:Nat}{x y:Operand}{p u:aD E.T.El}{e:dk E.T.El}(h:(HK E bl t p u).out e)(N:o.op= .store t x y)
 (B:aq E.T (aW X bl ρ w) w ρ bl p (a.eval x))(S:aq E.T (aW X bl ρ w) w ρ bl u (a.eval y)):fi E o a W ar X bl ρ w e:=by
 unfold HK at h
 split at h
 ·rename_i b sz au I;have O:=(Aq au).2;split at h
  ·rename_i J;have G:=ku S;have P:=G.len;split at h;rename_i i r;split at h;rename_i ty cs hi;rw[cr]at hi;split at h;rename_i ag;have h:(⟨none,bl.set i (.c ty (eH cs r (cellsOf u))),[i]⟩:dk E.T.El)=e:=h;subst h;have ag:=bW ag;simp only[aq]at B;obtain⟨g,q,U⟩:=B;obtain⟨g',vs,H,al,aL⟩:=z.ok i _ _ hi q;simp only[Value.pointer.injEq,aK,Addr.mk.injEq,and_true]at H;subst H;have V:=aL.len;obtain⟨w',Y,K,Z⟩:=NN (tb:=ty) (cs:=vs) (v:=a.eval y) (vs:=(a.eval y).cells.toList) (by simp) O (by rw[P];exact J) (AN I G) (by rw[P,V];exact Nat.ble_eq_true_of_le ag) (show(aU.c8 g ty vs).ok w from al) N U rfl;refine DR (B':=ay.c ty (eH cs r (cellsOf u))) z hi q (by simpa[a6,a8.ag]using K) rfl ⟨rfl,rfl,da _,λ _=>rfl⟩ Y (λ L=>⟨g,aA.lay vs r (a.eval y).cells.toList,rfl,Z,?_⟩);rw[D2];exact(L.vs aL).lay (L.vs G) ag;exact h.elim;exact h.elim;rename_i i g k t' j d r;split at h;rename_i C bg K l hi;rw[cr]at hi;simp only[aq]at B;obtain⟨_,aE,M,hle,D⟩:=B;rw[hi]at D;split at h;rename_i q Q;have q:=aZ q;have Q:=aZ Q;subst q;subst Q;obtain⟨⟨A,m,c,s,R,bG,eV⟩,LG,LH⟩:=D rfl;obtain⟨l',F,dE⟩:=LH rfl;split at h;rename_i bl' cs an4 ms anV p0;simp only[nW,aK,Sigma.mk.injEq]at F;obtain⟨hf,F⟩:=F;subst hf;have F:=eq_of_heq F;subst F;split at h;rename_i d' gU e7;have h:(⟨none,bl'.set i (.r C g (k+1) (l.set j.toNat d')),[i]⟩:dk E.T.El)=e:=h;subst h;exact Qd aP z O I J hi M dE (bW p0) e7 ms gU s N (by simpa[hB]using eV) S;exact h.elim;exact h.elim;rename_i q Q;have q:=aZ q;subst q;obtain⟨⟨A,m,c,s,R,bG,eV⟩,_⟩:=D rfl;obtain⟨d1,dE,h⟩:=h;dsimp only at h;split at h;rename_i bl' cs ms p0;split at h;rename_i d' gU e7;have h:(⟨none,bl'.set i (.r C g (K+1) (l.set j.toNat d')),[i]⟩:dk E.T.El)=e:=h;subst h;exact Qd aP z O I J hi M dE (bW p0) e7 ms gU s N (by simpa[hB]using eV) S;exact h.elim;exact h.elim;exact h.elim;exact h.elim
   ·rename_i i g r;split at h
    ·rename_i C s2 bg cs hi;rw[cr]at hi;split at h
     ·rename_i ag;simp only[bL]at ag;have h:(⟨none,bl.set i (.k C s2 bg (eH cs r (cellsOf u))),[i]⟩:dk E.T.El)=e:=h;subst h;simp only[aq]at B;obtain⟨_,aE,M,hle,D⟩:=B;rw[hi]at D;have q:=aZ ag.1;subst q;obtain⟨A,m,c,s,R,bG⟩:=D rfl;obtain⟨cJ,ha,bn,xs,H,al,aL⟩:=z.ok i _ _ hi M;rw[H]at s;simp only[Value.slice.injEq]at s;obtain⟨rfl,rfl,rfl⟩:=s;subst H;have R1:=bW ag.2;have ad5:=aL.len;obtain⟨dd,rfl,p1,hc,iZ⟩:=qY R al;obtain⟨w',Y,K,Z⟩:=UZ (E:=E) (a:=a) (v:=a.eval y) (vs:=(a.eval y).cells.toList) (by simp) O (by rw[P];exact J) (AN I G) R al (by rw[P,ad5];exact R1) N (by simpa[c2]using bG) rfl;have aG:a6 (ay.k C s2 g cs) (.slice (some ⟨dd,0,none⟩) ha bn)=[dd]:=by simpa[a6]using iZ _
      exact DR (B':=ay.k C s2 g (eH cs r (cellsOf u))) z hi M (by rw[aG];exact K) rfl ⟨rfl,rfl,da _,λ _=>rfl⟩ Y (λ L=>⟨_,_,_,_,rfl,Z,(L.vs aL).lay (L.vs G) R1⟩)
     ·exact h.elim
    ·exact h.elim
   ·exact h.elim
  ·exact h.elim
 ·exact h.elim
theorem Qj{F:Nat->Prop}{kt vt:Nat}{K:gB (E.T.El kt)}{k:E.T.El kt}{v:E.T.El vt}{u:Value}(g:tN E.T F w vt v u):∀ {es:List MapEntry}{d:List (E.T.El kt×E.T.El vt)}{p:Nat},gK E.T F w K es d->hs K d k=some p->gK E.T F w K (es.modify p λ e=>{ e with key:=K.enc k,val:=u }) (oZ K d k v)
 |[],[],_,_,b=>by simp[hs,lM]at b
 |[],_::_,_,h,_=>h.elim
 |_::_,[],_,h,_=>h.elim
 |e::es,q::d,p,h,b=>by obtain⟨I,J,i⟩:=h;by_cases c:q.1=k;simp only[hs,lM,lX c,aK]at b;subst b;simp only[oZ,k0,lX c,List.modify_zero_cons];exact⟨rfl,g,i⟩;simp only[hs,lM,lW c,c9]at b;obtain⟨l,j,rfl⟩:=b;simp only[oZ,k0,lW c,List.modify_succ_cons];exact⟨I,J,Qj g i j⟩
theorem Qi{F:Nat->Prop}{kt vt:Nat}{K:gB (E.T.El kt)}{k:E.T.El kt}{v:E.T.El vt}{u:Value}{c:Nat}(i:tN E.T F w vt v u):∀ {es:List MapEntry}{d:List (E.T.El kt×E.T.El vt)},gK E.T F w K es d->hs K d k=none->gK E.T F w K (es++[{ key:=K.enc k,val:=u,born:=c }]) (oZ K d k v)
 |[],[],_,_=>⟨rfl,i,trivial⟩
 |[],_::_,h,_=>h.elim
 |_::_,[],h,_=>h.elim
 |e::es,q::d,h,b=>by obtain⟨I,J,j⟩:=h;by_cases g:q.1=k;simp[hs,lM,lX g]at b;simp only[hs,lM,lW g,Option.map_eq_none_iff]at b;simp only[oZ,k0,lW g,iO];exact⟨I,J,Qi i j b⟩
theorem Hg{F:Nat->Prop}{kt vt:Nat}{K:gB (E.T.El kt)}{k:E.T.El kt}:∀ {es:List MapEntry}{d:List (E.T.El kt×E.T.El vt)}{p:Nat},gK E.T F w K es d->hs K d k=some p->∃e,es[p]? =some e/\e.key=K.enc k
 |[],[],_,_,b=>by simp[hs,lM]at b
 |[],_::_,_,h,_=>h.elim
 |_::_,[],_,h,_=>h.elim
 |e::es,q::d,p,h,b=>by obtain⟨I,J,g⟩:=h;by_cases c:q.1=k;simp only[hs,lM,lX c,aK]at b;subst b;exact⟨e,rfl,by rw[I,c]⟩;simp only[hs,lM,lW c,c9]at b;obtain⟨j,i,rfl⟩:=b;simpa using Hg g i
def C3(E:Env)(bl:List (ay E.T.El))(t:Nat)(u k v:aD E.T.El):D (dk E.T.El):=match u,mapOf E.P t with
 | .m i,some (b,_)=>match nth bl i with
   |some (.m kt vt d)=>match(E.T.e kt).key with
    |some K=>match kG bl (cellsOf v)with
     |(bl',cs)=>match y5 (E.P.underlying b) K.desc,(E.T.e kt).fx (cellsOf k),(E.T.e vt).fx cs,(match iA k with|true=>(E.T.e kt).agg |false=>!(E.T.e kt).agg)&&(match iA v with|true=>(E.T.e vt).agg |false=>!(E.T.e vt).agg)with
      |true,some key,some val,true=>.ok ⟨none,bl'.set i (.m kt vt (oZ K d key val)),[i]⟩
      |_,_,_,_=>.no
    |none=>.no
   |_=>.no
 |_,_=>.no
theorem Q1(C:cv E)(hm:Mem E.T W ar X bl ρ w){o:Oper}{t:Nat}{x y z:Operand}{u k v:aD E.T.El}{e:dk E.T.El}(h:(C3 E bl t u k v).out e)(av:o.op= .mapUpdate t x y z\/o.op= .insert t x y z)
 (Q:aq E.T (aW X bl ρ w) w ρ bl u (a.eval x))(hy:aq E.T (aW X bl ρ w) w ρ bl k (a.eval y))(R:aq E.T (aW X bl ρ w) w ρ bl v (a.eval z)):fi E o a W ar X bl ρ w e:=by
 unfold C3 at h
 split at h
 ·rename_i i S alb Jv;split at h
  ·rename_i kt vt d hi;rw[cr]at hi;split at h
   ·rename_i K D;split at h;rename_i bl' cs ms;split at h
    ·rename_i key val aE zP nA F;have h:(⟨none,bl'.set i (.m kt vt (oZ K d key val)),[i]⟩:dk E.T.El)=e:=h;subst h;simp only[bL]at F;simp only[aq]at Q;obtain⟨r,U,V⟩:=Q;have Y:a.eval y=K.enc key:=by have j:=C.tb.fx _ _ _ zP _ _ _ _ _ (ku hy);exact(Cu hy F.1).trans (C.tb.key _ _ D _ _ _ _ j)
     obtain⟨Z,t1,v1⟩:=Df hm ms (ku R);have eA:=C.tb.fx _ _ _ nA _ _ _ _ _ v1;have G:bl'[i]? =some (.m kt vt d):=by rcases Dd ms i with e |⟨t',g',k',l',bB,ch⟩;exact e.trans hi;rw[hi]at bB;cases bB
     have SF:tN E.T (aW X bl' ρ w) w vt val (a.eval z):=⟨_,eA,Cu R F.2⟩
     obtain⟨eW,j,bk,oC,es,clock,m,A,bG,H⟩:=Z.ok i _ _ G U;simp only[Value.map.injEq,aK]at j;subst j;rw[D]at oC;cases oC;have hu:=Eb Jv;have L:=GZ aE;have bh:r<w.heap.size:=(eL.1 m).1;have gS:∀M:Obj,aY [r] w { w with heap:=w.heap.setIfInBounds r M }:=λ M=>⟨rfl,rfl,rfl,by simp,λ q _ aI=>by
      show(w.heap.setIfInBounds r M)[q]? =_
      rw[eb,lW (λ e=>aI (by simp[e]))]⟩
     refine fi.first t1 (λ cp zJ B' g' xA ag ax aH=>?_) ?_;simp only[fG]at zJ;subst zJ;rw[G]at ag;cases ag;exact⟨_,hi,aH⟩
     have fin:∀(l:Array MapEntry)(s:Nat),nd E.P o a w { w with heap:=w.heap.setIfInBounds r (.map l s) } ->gK E.T (aW X bl' ρ w) w K l.toList (oZ K d key val)->(l.toList.map (·.born)).Pairwise (·< ·)->(∀e∈l.toList,e.born<s) ->
      fi E o a W ar X bl' ρ w ⟨none,bl'.set i (.m kt vt (oZ K d key val)),[i]⟩:=λ l s z_ I J aw=>by
      refine DR (B':=ay.m kt vt (oZ K d key val)) (w':={ w with heap:=w.heap.setIfInBounds r (.map l s) }) Z G U (by simpa[a6,a8.ag]using gS _) rfl ⟨rfl,rfl,da _,λ _=>rfl⟩ z_ (λ aF=>⟨r,rfl,K,D,l,s,by simp[bh],I.law aF.F,J,aw⟩)
     rcases E9 (vt:=vt) key L A w with⟨f1,B,f3⟩|⟨p,NK,vC,f1,B,f3,f4⟩
     ·refine fin (es.push { key:=K.enc key,val:=a.eval z,born:=clock }) (clock+1) ?_ ?_ ?_ ?_
      ·rcases av with av |av<;>
       ·simp only[nd,execOp,av,V,Y,Instr.mapUpdate,Sem.run_bind,run_underlying hu,Result.andThen_ok,MapKept.run_getObj_map m,@iJ.check _ K.dec K.mE E.P w false S key L,f3,MapKept.run_setObj_map _ m];rfl
      ·simpa using Qi SF A B
      ·simp only[Array.toList_push,List.map_append,fA,ib,List.pairwise_append];refine⟨bG,by simp,λ b ag c hc=>?_⟩;obtain⟨e,g,rfl⟩:=jP.1 ag;simp only[fG]at hc;subst hc;exact H e g
      ·intro e g;simp only[Array.toList_push,de,fG]at g;rcases g with g |rfl;exact Nat.lt_succ_of_lt (H e g);exact ky _
     ·obtain⟨e,g,N⟩:=Hg (k:=key) A B;have O:es[p]? =some e:=by simpa using g
      have Dt:((es.modify p λ e=>{ e with key:=K.enc key,val:=a.eval z }).toList.map (·.born))=es.toList.map (·.born):=by
       rw[Array.toList_modify];apply jF;intro i;simp only[j4,List.getElem?_modify];cases hi:es.toList[i]? with
       |none=>simp
       |some e'=>by_cases Dy:p=i<;>simp[Dy]
      refine fin (es.modify p λ e=>{ e with key:=K.enc key,val:=a.eval z }) clock ?_ ?_ ?_ ?_
      ·have Jq:(Instr.keyThatStays e.key (K.enc key)).run E.P w= .ok (K.enc key) w:=by
        rw[N];simp only[Instr.keyThatStays,@iJ.bits _ K.dec K.mE,if_true];rfl
       rcases av with av |av<;>
       ·simp only[nd,execOp,av,V,Y,Instr.mapUpdate,Sem.run_bind,run_underlying hu,Result.andThen_ok,MapKept.run_getObj_map m,@iJ.check _ K.dec K.mE E.P w false S key L,f4,O,fU,ia,Jq,MapKept.run_setObj_map _ m];rfl
      ·rw[Array.toList_modify];exact Qj SF A B
      ·rw[Dt];exact bG
      ·intro j I_;have:j.born∈es.toList.map (·.born):=by rw[<-Dt];exact jP.2 ⟨j,I_,rfl⟩
       obtain⟨al,P,heq⟩:=jP.1 this;rw[<-heq];exact H al P
    ·exact h.elim
   ·exact h.elim
  ·exact h.elim
 ·exact h.elim
end
section
variable{P:Program}{w w':World}
def wa(w:World)(sz m:Nat)(A:Option Addr)(a:List Value):Prop:=(m=0/\a=[])\/∃dr,A=some dr/\a.length=m*sz/\(∀j u,a[j]? =some u->w.cell? (dr.add j)=some u)/\∀u∈a,u.oneCell'=true
theorem ako{t ty e:TypeId}{i:TypeInfo}(d:P.underlying t=some (.slice e))(hi:P.info? e=some i)(A b:Option Addr)(n c f:Nat)(a:n<=c):(Builtin.append_ #[t,t] ty #[.slice A n c,.slice b 0 f]).run P w= .ok (.slice A n c) w:=by cases A<;>cases b<;>simp[Builtin.append_,run_underlying d,Go.sizeOf,typeInfo,hi,Builtin.lenOf,Builtin.firstCells,a,storeCells,loadCells,loadCellsFrom]
theorem rowIs.short{t sz n c k:Nat}{A:Option Addr}{xs:List Value}(e:rowIs w t sz (.slice A n c) n xs)(a:k<=n):rowIs w t sz (.slice A k c) k (xs.take (k*sz)):=by
 have j:=e.len;have b:k*sz<=n*sz:=jd sz a;rcases e with e |⟨rfl,rfl,l,e⟩
 ·rcases e.2 with⟨I,m⟩|⟨g,cap,cur,I,J,d,o,f,h,i⟩
  ·simp only[Value.slice.injEq]at I;obtain⟨rfl,rfl,rfl⟩:=I;have:k=0:=by omega
   subst this;exact .inl ⟨by simp,.inl ⟨rfl,rfl⟩⟩
  ·simp only[Value.slice.injEq]at I;obtain⟨rfl,_,rfl⟩:=I;refine .inl ⟨by rw[gf];omega,.inr ⟨g,c,cur,rfl,J,d,by omega,f,h,?_⟩⟩;rw[<-i,List.take_take,lB b]
 ·have:k=0:=by omega
  subst this;simp only[Value.slice.injEq]at e;obtain⟨rfl,_,rfl⟩:=e;exact .inr ⟨rfl,by simp,A,rfl⟩
theorem OC{t ty e:TypeId}{i:TypeInfo}{z:Value}{bytes sz:Nat}(x:P.underlying t=some (.slice e))(hi:P.info? e=some i)(F:i.zero=some z)(G:i.size=sz)(H:i.bytes=bytes)(K:z.cells.size=sz)(L:0<sz)
 {A y:Option Addr}{n c m r:Nat}{xs a:List Value}(B:rowIs w e sz (.slice A n c) n xs)(R:wa w sz m y a)(wN:n+m<=maxLen)(ag:(n+m)*bytes<=140737488355328) :
 ∃C M w',(Builtin.append_ #[t,t] ty #[.slice A n c,.slice y m r]).run P w= .ok (.slice C (n+m) M) w'/\rowIs w' e sz (.slice C (n+m) M) (n+m) (xs++a)/\aY (a8.ag (.slice A n c)) w w'/\∀k∈a8.ag (.slice C (n+m) M),k∈a8.ag (.slice A n c)\/(w.heap.size<=k/\k<w'.heap.size):=by
 have S:=B.cap
 rcases kS m with T |hm
 ·subst T;have N:a=[]:=by rcases R with⟨_,h⟩|⟨_,_,h,_⟩;exact h;exact g_ (by simpa using h)
  subst N;exact⟨A,c,w,ako x hi A y n c r S.1,by simpa using B,aY.refl _ _,λ k f=>.inl f⟩
 ·obtain⟨dr,rfl,O,Q,U⟩:∃dr,y=some dr/\a.length=m*sz/\(∀j u,a[j]? =some u->w.cell? (dr.add j)=some u)/\∀u∈a,u.oneCell'=true:=by
   rcases R with⟨h,_⟩|h
   ·omega
   ·exact h
  have d:∀ {l:Value}{w':World}{b:Nat},w'.ownsRow b e sz l (n+m) (xs++a)->∃g cap cur,l= .slice (some ⟨g,0,none⟩) (n+m) cap/\b<=g/\w'.heap[g]? =some (.cells cur e (0,0))/\n+m<=cap:=λ{l w' b} h=>by rcases h.2 with⟨_,T⟩|⟨g,cap,cur,I,J,Y,Z,_⟩;omega;exact⟨g,cap,cur,I,J,Y,Z⟩
  have V:∀ {l:Value}{w':World}{b:Nat},w'.ownsRow b e sz l (n+m) (xs++a)->w'.ownsRow 0 e sz l (n+m) (xs++a):=λ{l w' b} h=>⟨h.1,h.2.imp id λ⟨g,cap,cur,a7,_,p⟩=>⟨g,cap,cur,a7,hh _,p⟩⟩
  rcases kS c with hc |hc
  ·subst hc;have N:n=0:=by omega
   subst N;have aa:xs=[]:=g_ (by rw[B.len];simp);subst aa;have oE:a8.ag (.slice A 0 0)=[]:=by cases A<;>rfl
   rw[oE];cases A with
   |none=>
    obtain⟨l,w',s,o,v,_,W⟩:=run_append_own_at (P:=P) w w.heap.size t ty e i z sz bytes x hi F G H K L (.slice none 0 0) 0 [] ⟨by simp,.inl ⟨rfl,rfl⟩⟩ dr m r a O Q U wN ag (da _);obtain⟨g,cap,cur,rfl,D,p,X⟩:=d (b:=w.heap.size) o;refine⟨_,_,w',s,.inl (V o),aY.grown v,λ k f=>?_⟩;right;have:k=g:=by
     cases cap with
     |zero=>simp[a8.ag]at f
     |succ q=>simpa[a8.ag]using f
    subst this;exact⟨D,(eL.1 p).1⟩
   |some b=>
    obtain⟨l,w',s,o,v⟩:=run_append_arg_grows (P:=P) w t ty e i z sz bytes x hi F G H K L b 0 0 [] (by simp) (λ j u hu=>by simp at hu) dr m r a O Q (by omega) wN ag;obtain⟨g,cap,cur,rfl,D,p,X⟩:=d (b:=w.heap.size) o;refine⟨_,_,w',s,.inl (V o),aY.grown v,λ k f=>?_⟩;right;have:k=g:=by
     cases cap with
     |zero=>simp[a8.ag]at f
     |succ q=>simpa[a8.ag]using f
    subst this;exact⟨D,(eL.1 p).1⟩
  ·obtain⟨E,rfl⟩:=S.2.2.2 hc;have i':w.ownsRow 0 e sz (.slice (some ⟨E,0,none⟩) n c) n xs:=by rcases B with h |⟨_,_,C,h⟩;exact h;simp only[Value.slice.injEq]at h;omega
   obtain⟨l,w',s,o,v,_,W⟩:=run_append_own_at (P:=P) w 0 t ty e i z sz bytes x hi F G H K L (.slice (some ⟨E,0,none⟩) n c) n xs i' dr m r a O Q U wN ag (hh _);obtain⟨g,cap,cur,rfl,D,p,X⟩:=d (b:=0) o;have zw:a8.ag (.slice (some ⟨E,0,none⟩) n c)=[E]:=by
    cases c with
    |zero=>omega
    |succ c=>rfl
   rw[zw];refine⟨_,_,w',s,.inl o,aY.grown v,λ k f=>?_⟩;have:k=g:=by
    cases cap with
    |zero=>simp[a8.ag]at f
    |succ q=>simpa[a8.ag]using f
   subst this;rcases W with ch |ch;left;simp only[Value.ownBlock,aK]at ch;simp[ch];right;simp only[Value.ownBlock,aK]at ch;rw[ch];refine⟨da _,?_⟩;rw[<-ch];exact(eL.1 p).1
end
def ov(P:Program)(t:TypeId):Option (Nat×Nat×Nat):=match P.underlying t with
 |some (.slice e)=>match P.info? e with
  |some i=>match i.zero with
   |some z=>match bT z.cells.size i.size&&eM 0 i.size&&eM 0 i.bytes with
    |true=>some (e,i.size,i.bytes)
    |false=>none
   |none=>none
  |none=>none
 |_=>none
theorem rQ{P:Program}{t e sz bC:Nat}(h:ov P t=some (e,sz,bC)):P.underlying t=some (.slice e)/\∃i z,P.info? e=some i/\i.zero=some z/\i.size=sz/\i.bytes=bC/\z.cells.size=sz/\0<sz/\0<bC:=by unfold ov at h;split at h;rename_i e' I;split at h;rename_i i J;split at h;rename_i z b;split at h;rename_i a;simp only[aK,cY]at h;obtain⟨rfl,rfl,rfl⟩:=h;simp only[bL]at a;exact⟨I,i,z,J,b,rfl,rfl,aZ a.1.1,bW a.1.2,bW a.2⟩;cases h;cases h;cases h;cases h
def rL{El:Nat->Type}(t t':Nat)(l:List (El t)):Option (List (El t')):=match kO t t' with
 | .isTrue h=>some (h▸l)
 | .isFalse _=>none
def w7{El:Nat->Type}{t:Nat}(e:bz El t):List (List (aD El))->Option (List (El t))
 |[]=>some []
 |c::r=>match e.fx c,w7 e r with
  |some d,some ds=>some (d::ds)
  |_,_=>none
def wq{α:Type}(sz:Nat):Nat->List α->List (List α)
 |0,_=>[]
 |n+1,l=>l.take sz::wq sz n (l.drop sz)
def Br(E:Env)(bl:List (ay E.T.El))(t:Nat):aD E.T.El->Option (List (E.T.El t))
 | .s t' l=>rL t' t l
 | .q t' l=>rL t' t l
 | .p (.slice none 0 0)=>some []
 | .p (.slice (some _) 0 _)=>some []
 | .r j g=>match nth bl j with
   |some (.r t' a _ l)=>match bT g a with
    |true=>rL t' t l
    |false=>none
   |some (.k _ sz a cs)=>match bT g a&&bT sz (E.T.ty t).size&&eM 0 sz with
    |true=>w7 (E.T.e t) (wq sz (cs.length / sz) cs)
    |false=>none
   |_=>none
 | .v j g lo hi=>match nth bl j with
   |some (.r t' a _ l)=>match bT g a with
    |true=>rL t' t ((l.take hi.toNat).drop lo.toNat)
    |false=>none
   |_=>none
 |_=>none
section
variable{E:Env}{W w w':World}{ar:List Nat}{X:Nat->Prop}{n:b'}{f:b5 E.T.El}{bl:List (ay E.T.El)}{ρ:List Value}{a:Act}{cur:List (Nat×Bool)}
theorem wl{El:Nat->Type}{t t':Nat}{l:List (El t)}{l':List (El t')}(h:rL t t' l=some l'):∃e:t=t',e▸l=l':=by unfold rL at h;split at h;rename_i e _;simp only[aK]at h;exact⟨e,h⟩;cases h
theorem J3(c:cv E){F:Nat->Prop}{t sz:Nat}:∀(n:Nat){cs:List (aD E.T.El)}{vs:List Value}{l:List (E.T.El t)},aR E.T F w ρ bl cs vs->vs.length=n*sz->w7 (E.T.e t) (wq sz n cs)=some l->cS (E.T.ty t) F w vs l/\l.length=n
 |0,cs,vs,l,h,b,hi=>by simp only[wq,w7,aK]at hi;subst hi;exact⟨g_ (by simpa using b),rfl⟩
 |n+1,cs,vs,l,h,b,hi=>by simp only[wq,w7]at hi;split at hi;rename_i d ds I J;simp only[aK]at hi;subst hi;have e:=c.tb.fx _ _ _ I _ _ _ _ _ (aR.take sz h);obtain⟨g,i⟩:=J3 c n (aR.drop sz h) (by rw[kf,b,iU];omega) J;exact⟨⟨vs.take sz,vs.drop sz,(iM sz vs).symm,e,g⟩,by simp[i]⟩;cases hi
theorem Vi{F:Nat->Prop}{t:Nat}{l:List (E.T.El t)}{A:Option Addr}{c:Nat}(h:(cM (E.T.ty t)).rd F w [.slice A l.length c] l):∃b,wa w (E.T.ty t).size l.length A b/\cS (E.T.ty t) F w b l:=by
 obtain⟨o,p,e,al,aL,bB,ch⟩:=h;simp only[hN,Value.slice.injEq,and_true,true_and]at e;obtain⟨rfl,rfl⟩:=e;by_cases g:l=[]
 ·subst g;exact⟨[],.inl ⟨rfl,rfl⟩,rfl⟩
 ·obtain⟨i,q,xs,d,k⟩:=ch g;exact⟨xs,.inr ⟨_,i,nV _ d,λ j u m=>by rw[iq];exact k j u m,vm _ d⟩,d⟩
theorem ME{t sz n c:Nat}{A:Option Addr}{xs:List Value}(h:rowIs w t sz (.slice A n c) n xs)(I:∀u∈xs,u.oneCell'=true):wa w sz n A xs:=by rcases kS n with aJ |aJ;subst aJ;exact .inl ⟨rfl,g_ (by rw[h.len];simp)⟩;obtain⟨g,rfl,_,hc,_⟩:=qY aJ h;exact .inr ⟨_,rfl,h.len,λ j u b=>by rw[iq];exact hc j u b,I⟩
theorem Vh(K:cv E)(z:Mem E.T W ar X bl ρ w){t:Nat}{y:aD E.T.El}{l:List (E.T.El t)}{v:Value}(h:Br E bl t y=some l)(d:aq E.T (aW X bl ρ w) w ρ bl y v) :
 ∃A c b,v= .slice A l.length c/\wa w (E.T.ty t).size l.length A b/\cS (E.T.ty t) (aW X bl ρ w) w b l:=by
 unfold Br at h
 split at h
 ·obtain⟨rfl,rfl⟩:=wl h;simp only[aq]at d;obtain⟨A,c,rfl⟩:=jN _ d;obtain⟨b,I,J⟩:=Vi d;exact⟨A,c,b,rfl,I,J⟩
 ·obtain⟨rfl,rfl⟩:=wl h;simp only[aq]at d;obtain⟨A,c,rfl⟩:=jN _ d.1;obtain⟨b,I,J⟩:=Vi d.1;exact⟨A,c,b,rfl,I,J⟩
 ·simp only[aK]at h;subst h;simp only[aq]at d;exact⟨none,0,[],d,.inl ⟨rfl,rfl⟩,rfl⟩
 ·simp only[aK]at h;subst h;simp only[aq]at d;exact⟨_,_,[],d,.inl ⟨rfl,rfl⟩,rfl⟩
 ·rename_i j g;split at h;rename_i t' D k l' hi;rw[cr]at hi;split at h;rename_i ag;obtain⟨rfl,rfl⟩:=wl h;simp only[aq]at d;obtain⟨_,aE,r,F,i⟩:=d;rw[hi]at i;obtain⟨A,c,xs,o,al,aL⟩:=z.ok j _ _ hi r;rw[i (aZ ag),o];exact⟨A,c,xs,rfl,ME (o▸al) (vm _ aL),aL⟩;cases h
  ·rename_i t' sz D cs hi;rw[cr]at hi;split at h
   ·rename_i ag;simp only[bL]at ag;simp only[aq]at d;obtain⟨_,aE,r,F,i⟩:=d;rw[hi]at i;obtain⟨A,m,c,xs,o,al,aL⟩:=z.ok j _ _ hi r;have L:=bW ag.2;have e:=aL.len;have J:=al.len;have M:cs.length / sz=m:=by rw[<-e,J];exact Nat.mul_div_cancel _ L
    rw[M]at h;obtain⟨G,N⟩:=J3 K m aL J h;rw[i (aZ ag.1.1),o,N];have:=ME (o▸al) (vm _ G);rw[aZ ag.1.2]at this;exact⟨A,c,xs,rfl,this,G⟩
   ·cases h
  ·cases h
 ·rename_i j g lo p;split at h
  ·rename_i t' D k l' hi;rw[cr]at hi;split at h
   ·rename_i ag;obtain⟨rfl,rfl⟩:=wl h;simp only[aq]at d;obtain⟨_,aE,r,F,i⟩:=d;rw[hi]at i;obtain⟨U,V,Y,B,C,Z,l1,c5,O,Dp,P⟩:=i (aZ ag);obtain⟨A,c,xs,o,al,aL⟩:=z.ok j _ _ hi r;rw[o]at C al;simp only[Value.slice.injEq]at C;obtain⟨rfl,rfl,rfl⟩:=C;have e:((l'.take p.toNat).drop lo.toNat).length=p.toNat-lo.toNat:=by rw[kf,gf];omega
    refine⟨B,c-lo.toNat,(xs.take (p.toNat*(E.T.ty t').size)).drop (lo.toNat*(E.T.ty t').size),by rw[e];exact O,?_,o9 _ _ aL⟩;have s:=o9 lo.toNat p.toNat aL;rcases Int.lt_or_le lo p with Q |wV;right;obtain⟨R,rfl⟩:=xJ al (by omega);obtain⟨jv,S,_,hc,_⟩:=qY (by omega) al;cases S;refine⟨⟨R,lo.toNat*(E.T.ty t').size,none⟩,by rw[P Q];simp[iq,hB],nV _ s,λ q u x=>?_,vm _ s⟩;rw[ja,hG]at x;split at x;rw[iq];have:=hc _ u x;simpa using this;cases x
    ·left;have:p.toNat-lo.toNat=0:=by omega
     have H:((l'.take p.toNat).drop lo.toNat)=[]:=g_ (by rw[e];exact this);refine⟨by rw[H];rfl,?_⟩;rw[H]at s;exact s
   ·cases h
  ·cases h
 ·cases h
end
def Fk(E:Env)(bl:List (ay E.T.El))(t:Nat):aD E.T.El->Option (Option (Nat×Nat)×List (E.T.El t))
 | .p (.slice none 0 0)=>some (none,[])
 | .q _ []=>some (none,[])
 | .r i g=>match nth bl i with
   |some (.r t' a _ l)=>match bT g a,rL t' t l with
    |true,some l'=>some (some (i,g),l')
    |_,_=>none
   |_=>none
 | .v i g (.ofNat 0) hi=>match nth bl i with
   |some (.r t' a _ l)=>match bT g a,rL t' t (l.take hi.toNat)with
    |true,some l'=>some (some (i,g),l')
    |_,_=>none
   |_=>none
 |_=>none
def tl(E:Env)(bl:List (ay E.T.El))(e sz:Nat):aD E.T.El->Option (Option (Nat×Nat)×List (aD E.T.El))
 | .p (.slice none 0 0)=>some (none,[])
 | .q _ []=>some (none,[])
 | .r i g=>match nth bl i with
   |some (.k t' a b cs)=>match bT g b&&bT t' e&&bT a sz with
    |true=>some (some (i,g),cs)
    |false=>none
   |_=>none
 |_=>none
def Hr(E:Env)(bl:List (ay E.T.El))(t:Nat)(u v:aD E.T.El):D (dk E.T.El):=match ov E.P t with
 |some (e,sz,bC)=>match bT sz (E.T.ty e).size,Fk E bl e u,Br E bl e v with
  |true,some (none,_),some m=>.op (b2 bC [] m) λ l=>.ok ⟨some (.r bl.length 0),bl++[.r e 0 0 l],[]⟩
  |true,some (some (i,g),b),some m=>.op (b2 bC b m) λ l=>.ok ⟨some (.r i (g+1)),bl.set i (.r e (g+1) 0 l),[i]⟩
  |_,_,_=>match tl E bl e sz u,(match tl E bl e sz v with
   |some (_,m)=>match qS m with
    |true=>some m
    |false=>none
   |none=>none)with
    |some (none,_),some m=>.op (b2 bC [] (gl (m.length / sz) ())) λ _=>.ok ⟨some (.r bl.length 0),bl++[.k e sz 0 m],[]⟩
    |some (some (i,g),b),some m=>.op (b2 bC (gl (b.length / sz) ()) (gl (m.length / sz) ())) λ _=>.ok ⟨some (.r i (g+1)),bl.set i (.k e sz (g+1) (b++m)),[i]⟩
    |_,_=>.no
 |none=>.no
section
variable{E:Env}{W w w':World}{ar:List Nat}{X:Nat->Prop}{n:b'}{f:b5 E.T.El}{bl:List (ay E.T.El)}{ρ:List Value}{a:Act}{cur:List (Nat×Bool)}
def Gq(w:World)(bl:List (ay E.T.El))(ρ:List Value)(e sz n:Nat)(v:Value)(xs:List Value):Option (Nat×Nat)->Prop
 |none=>∃A,v= .slice A 0 0/\n=0/\xs=[]
 |some (i,g)=>∃A c h B,v= .slice A n c/\rowIs w e sz v n xs/\bl[i]? =some B/\ρ[i]? =some h/\a6 B h=a8.ag v/\kX h/\bI (some B)=g
theorem Vp(s:Mem E.T W ar X bl ρ w){e:Nat}{u:aD E.T.El}{v:Value}{p:Option (Nat×Nat)}{l:List (E.T.El e)}(h:Fk E bl e u=some (p,l))(b:aq E.T (aW X bl ρ w) w ρ bl u v) :
 ∃xs,Gq (E:=E) w bl ρ e (E.T.ty e).size l.length v xs p/\cS (E.T.ty e) (aW X bl ρ w) w xs l:=by
 unfold Fk at h
 split at h
 ·simp only[aK,cY]at h;obtain⟨rfl,rfl⟩:=h;simp only[aq]at b;exact⟨[],⟨none,b,rfl,rfl⟩,rfl⟩
 ·simp only[aK,cY]at h;obtain⟨rfl,rfl⟩:=h;simp only[aq]at b;obtain⟨A,x⟩:=b.2;exact⟨[],⟨A,x,rfl,rfl⟩,rfl⟩
 ·rename_i i g;split at h;rename_i t' y k l' hi;rw[cr]at hi;split at h;rename_i t ag hc;simp only[aK,cY]at h;obtain⟨rfl,rfl⟩:=h;obtain⟨rfl,rfl⟩:=wl hc;have ag:=aZ ag;simp only[aq]at b;obtain⟨_,aE,o,z,q⟩:=b;rw[hi]at q;have C:=q ag;obtain⟨A,c,xs,j,al,aL⟩:=s.ok i _ _ hi o;rw[C];exact⟨xs,⟨A,c,aE,_,j,al,hi,o,rfl,by rw[j];trivial,ag.symm⟩,aL⟩;cases h;cases h
 ·rename_i i g m;split at h
  ·rename_i t' y k l' hi;rw[cr]at hi;split at h
   ·rename_i t ag hc;simp only[aK,cY]at h;obtain⟨rfl,rfl⟩:=h;obtain⟨rfl,rfl⟩:=wl hc;have ag:=aZ ag;simp only[aq]at b;obtain⟨_,aE,o,z,q⟩:=b;rw[hi]at q;obtain⟨H,I,J,B,r,K,l1,t,D,F,_⟩:=q ag;obtain⟨A,c,xs,j,al,aL⟩:=s.ok i _ _ hi o;rw[j]at r al;simp only[Value.slice.injEq]at r;obtain⟨rfl,rfl,rfl⟩:=r;have G:=F rfl;subst G;have d:(l'.take m.toNat).length=m.toNat:=by rw[gf];omega
    have bB:=al.short (k:=m.toNat) (by omega);have ch:v= .slice B m.toNat c:=by rw[D];simp
    rw[ch];refine⟨xs.take (m.toNat*(E.T.ty t').size),⟨B,c,aE,_,by rw[d],by rw[d];exact bB,hi,o,by rw[j];cases B<;>cases c<;>rfl,by rw[j];trivial,ag.symm⟩,?_⟩;have:=o9 0 m.toNat aL;simpa using this
   ·cases h
  ·cases h
 ·cases h
theorem MY(q:Mem E.T W ar X bl ρ w){e sz:Nat}{u:aD E.T.El}{v:Value}{p:Option (Nat×Nat)}{cs:List (aD E.T.El)}(r:0<sz)(h:tl E bl e sz u=some (p,cs))(b:aq E.T (aW X bl ρ w) w ρ bl u v) :
 ∃xs,Gq (E:=E) w bl ρ e sz (cs.length / sz) v xs p/\aR E.T (aW X bl ρ w) w ρ bl cs xs:=by
 unfold tl at h
 split at h
 ·simp only[aK,cY]at h;obtain⟨rfl,rfl⟩:=h;simp only[aq]at b;exact⟨[],⟨none,b,by simp,rfl⟩,by simp[aR]⟩
 ·simp only[aK,cY]at h;obtain⟨rfl,rfl⟩:=h;simp only[aq]at b;obtain⟨A,s⟩:=b.2;exact⟨[],⟨A,s,by simp,rfl⟩,by simp[aR]⟩
 ·rename_i i g;split at h
  ·rename_i t' t D x hi;rw[cr]at hi;split at h
   ·rename_i ag;simp only[bL]at ag;simp only[aK,cY]at h;obtain⟨rfl,rfl⟩:=h;have j:=aZ ag.1.1;have y:=aZ ag.1.2;have z:=aZ ag.2;subst y;subst z;simp only[aq]at b;obtain⟨_,aE,k,F,l⟩:=b;rw[hi]at l;have B:=l j;obtain⟨A,m,c,xs,o,al,aL⟩:=q.ok i _ _ hi k;have d:=aL.len;have J:=al.len;have C:x.length / t=m:=by rw[<-d,J];exact Nat.mul_div_cancel _ r
    rw[B,C];exact⟨xs,⟨A,c,aE,_,o,al,hi,k,rfl,by rw[o];trivial,j.symm⟩,aL⟩
   ·cases h
  ·cases h
 ·cases h
theorem OD(u:Mem E.T W ar X bl ρ w){o:Oper}{t e sz bC:Nat}{x y:Operand}{p:Option (Nat×Nat)}{n m:Nat}{xs q:List Value}{G:Option Addr}{O:Nat}(B':Nat->ay E.T.El)(he:ov E.P t=some (e,sz,bC))(av:o.op= .call { callee:=.builtin .append,args:=#[x,y],argTypes:=#[t,t] })
 (P:Gq (E:=E) w bl ρ e sz n (a.eval x) xs p)(hy:a.eval y= .slice G m O)(Q:wa w sz m G q)(ag:(n+m)*bC<=140737488355328)
 (H:∀g,bI (some (B' g))=g)(R:∀g h,a6 (B' g) h=a8.ag h)
 (S:∀(bl':List (ay E.T.El))(ρ':List Value)(w':World)(g:Nat)(b:Option Addr)(d:Nat),To X bl bl' ρ ρ' w w'->rowIs w' e sz (.slice b (n+m) d) (n+m) (xs++q)->g4 E.T (aW X bl' ρ' w') w' ρ' bl' (B' g) (.slice b (n+m) d)) :
 fi E o a W ar X bl ρ w (match p with
  |none=>⟨some (.r bl.length 0),bl++[B' 0],[]⟩
  |some (i,g)=>⟨some (.r i (g+1)),bl.set i (B' (g+1)),[i]⟩):=by
 obtain⟨U,i0,z,hi,V,I,J,Y,Z,cO⟩:=rQ he
 have wN:n+m<=maxLen:=by have gQ:=k1 (n+m) cO;simp only[maxLen];omega
 have lC:∀ {A:Option Addr}{c:Nat}{K:Value}{w':World},a.eval x= .slice A n c->(Builtin.append_ #[t,t] o.type #[.slice A n c,.slice G m O]).run E.P w= .ok K w'->aS E.P o a w K w':=λ{A c K w'} r eF=>by simp only[aS,execOp,av,resolve,invoke,builtin,Sem.run_bind,Sem.run_pure,Result.andThen_ok,gu,fA,ib,r,hy,eF]
 cases p with
 |none=>
  obtain⟨A,r,rfl,rfl⟩:=P;obtain⟨b,d,w',L,M,j,v⟩:=OC (w:=w) (ty:=o.type) U hi V I J Y Z (show rowIs w e sz (.slice A 0 0) 0 [] from .inr ⟨rfl,rfl,A,rfl⟩) Q wN ag;have oE:a8.ag (.slice A 0 0)=[]:=by cases A<;>rfl
  rw[oE]at j v;have C:∀k∈a6 (B' 0) (.slice b (0+m) d),w.heap.size<=k/\k<w'.heap.size:=λ k l=>by rw[R]at l;rcases v k l with e |e;simp at e;exact e
  have s:=u.tm (B:=B' 0) (h:=.slice b (0+m) d) j C;refine⟨w',ρ++[.slice b (0+m) d],u.push j C (S _ _ _ _ _ _ s M),s,λ k l _=>j.block k l (by simp),_,lC r L,?_⟩;simp only[aq];refine⟨trivial,.slice b (0+m) d,by rw[<-u.len];simp,hh _,λ _=>rfl⟩
 |some SN=>obtain⟨i,g⟩:=SN;obtain⟨A,c,h,B,r,aC,D,F,iZ,N,ax⟩:=P;rw[r]at aC iZ;obtain⟨b,d,w',L,M,j,v⟩:=OC (w:=w) (ty:=o.type) U hi V I J Y Z aC Q wN ag;rw[<-iZ]at j v;have C:∀k∈a6 (B' (g+1)) (.slice b (n+m) d),k∈a6 B h\/(w.heap.size<=k/\k<w'.heap.size):=λ k l=>v k (by rw[R]at l;exact l);have s:=u.vw (B':=B' (g+1)) (h':=.slice b (n+m) d) D F j C ⟨λ aI=>absurd N aI,by rw[H,ax];omega,λ e=>by rw[H,ax]at e;omega⟩;refine⟨w',ρ.set i (.slice b (n+m) d),u.q2 D F j C s (S _ _ _ _ _ _ s M),s,λ k l ca=>j.block k l (ca i (by simp) B h D F),_,lC r L,?_⟩;simp only[aq];have l1:=(bb.1 D).1;have c5:=(bb.1 F).1;refine⟨trivial,_,gk c5,?_,λ _=>rfl⟩;rw[gk l1,H];exact da _
theorem abb(aP:cv E)(z:Mem E.T W ar X bl ρ w){o:Oper}{t:Nat}{x y:Operand}{u v:aD E.T.El}{r:dk E.T.El}(h:(Hr E bl t u v).out r)(Y:o.op= .call { callee:=.builtin .append,args:=#[x,y],argTypes:=#[t,t] })
 (F:aq E.T (aW X bl ρ w) w ρ bl u (a.eval x))(hy:aq E.T (aW X bl ρ w) w ρ bl v (a.eval y)):fi E o a W ar X bl ρ w r:=by
 unfold Hr at h
 split at h
 ·rename_i e sz bC M;obtain⟨_,_,_,_,_,_,_,_,N,_⟩:=rQ M
  have j:∀ {p:Option (Nat×Nat)}{b m l:List (E.T.El e)},bT sz (E.T.ty e).size=true->Fk E bl e u=some (p,b)->Br E bl e v=some m->b2 bC b m=some l->fi E o a W ar X bl ρ w (match p with
   |none=>⟨some (.r bl.length 0),bl++[.r e 0 0 l],[]⟩
   |some (i,g)=>⟨some (.r i (g+1)),bl.set i (.r e (g+1) 0 l),[i]⟩):=λ{p b m l} I J k s=>by
   have I:=aZ I
   subst I
   obtain⟨ag,rfl⟩:=Cx s
   obtain⟨xs,O,P⟩:=Vp z J F
   obtain⟨G,Q,C,H,K,gG⟩:=Vh aP z k hy
   have:=OD (B':=λ g=>ay.r e g 0 (b++m)) z M Y O H K ag (λ _=>rfl) (λ _ _=>rfl) (λ bl' ρ' w' g R S D U=>⟨R,S,xs++C,by rw[fD],by rw[fD];exact U,A2 _ (ki _ D.F gG) (ki _ D.F P)⟩)
   cases p<;>exact this
  have Z:∀ {p q:Option (Nat×Nat)}{b m:List (aD E.T.El)}{l:List Unit},tl E bl e sz u=some (p,b)->tl E bl e sz v=some (q,m)->qS m=true->b2 bC (gl (b.length / sz) ()) (gl (m.length / sz) ())=some l->fi E o a W ar X bl ρ w (match p with
   |none=>⟨some (.r bl.length 0),bl++[.k e sz 0 (b++m)],[]⟩
   |some (i,g)=>⟨some (.r i (g+1)),bl.set i (.k e sz (g+1) (b++m)),[i]⟩):=λ{p q b m l} I J JE k=>by
   obtain⟨ag,_⟩:=Cx k
   simp only[jp]at ag
   obtain⟨xs,O,P⟩:=MY z N I F
   obtain⟨ys,H,K⟩:=MY z N J hy
   have JO:∃G Q,a.eval y= .slice G (m.length / sz) Q/\wa w sz (m.length / sz) G ys:=by
    cases q with
    |none=>obtain⟨A,L,al,rfl⟩:=H;rw[al];exact⟨A,0,L,.inl ⟨rfl,rfl⟩⟩
    |some SN=>obtain⟨A,c,h,B,L,al,_⟩:=H;rw[L]at al;exact⟨A,c,L,ME al (λ u hu=>jK.1 (AN JE K) u hu)⟩
   obtain⟨G,Q,s1,s2⟩:=JO
   have:=OD (B':=λ g=>ay.k e sz g (b++m)) z M Y O s1 s2 ag (λ _=>rfl) (λ _ _=>rfl) (λ bl' ρ' w' g R S D U=>⟨R,_,S,xs++ys,rfl,U,aR.b2 (D.vs P) (D.vs K)⟩)
   cases p<;>exact this
  split at h
  ·rename_i b m I J k;obtain⟨l,s,d⟩:=h;have d:(⟨some (.r bl.length 0),bl++[.r e 0 0 l],[]⟩:dk E.T.El)=r:=d;subst d;have V:b=[]:=by obtain⟨xs,⟨A,_,al,_⟩,_⟩:=Vp z J F;exact g_ al
   subst V;exact j (p:=none) I J k s
  ·rename_i i g b m I J k;obtain⟨l,s,d⟩:=h;have d:(⟨some (.r i (g+1)),bl.set i (.r e (g+1) 0 l),[i]⟩:dk E.T.El)=r:=d;subst d;exact j I J k s
  ·have Vg:∀ {m:List (aD E.T.El)},(match tl E bl e sz v with
    |some (_,m)=>match qS m with
     |true=>some m
     |false=>none
    |none=>none)=some m->∃q,tl E bl e sz v=some (q,m)/\qS m=true:=λ{m} h=>by
    split at h
    ·rename_i q ha aH;split at h;rename_i kN;simp only[aK]at h;subst h;exact⟨q,aH,kN⟩;cases h
    ·cases h
   split at h
   ·rename_i b m I J;obtain⟨q,J,k⟩:=Vg J;obtain⟨l,s,d⟩:=h;have d:(⟨some (.r bl.length 0),bl++[.k e sz 0 m],[]⟩:dk E.T.El)=r:=d;subst d;have V:b=[]:=by obtain⟨xs,⟨A,_,al,aL⟩,bB⟩:=MY z N I F;subst aL;exact g_ bB.len.symm
    subst V;exact Z (p:=none) (b:=[]) I J k (by simpa using s)
   ·rename_i i g b m I J;obtain⟨q,J,k⟩:=Vg J;obtain⟨l,s,d⟩:=h;have d:(⟨some (.r i (g+1)),bl.set i (.k e sz (g+1) (b++m)),[i]⟩:dk E.T.El)=r:=d;subst d;exact Z I J k s
   ·exact h.elim
 ·exact h.elim
end
def jk{α:Type}(z:List α):Nat->List α
 |0=>[]
 |n+1=>z++jk z n
theorem F6{α:Type}(z:List α):∀n,(jk z n).length=n*z.length
 |0=>by simp[jk]
 |n+1=>by simp only[jk,fD,F6 z n,iU];omega
theorem W6{α:Type}{z:List α}:∀ {n i:Nat},i<n*z.length->(jk z n)[i]? =z[i%z.length]?
 |0,i,h=>by simp at h
 |n+1,i,h=>by simp only[jk];rcases gE i z.length with c |c;rw[eQ c,Nat.mod_eq_of_lt c];rw[eX c,W6 (by rw[iU]at h;omega),Nat.mod_eq_sub_mod c]
theorem W5(a:Array Value)(n:Nat)(h:0<a.size):((Array.range (n*a.size)).map (a[·%a.size]!))=⟨jk a.toList n⟩:=by rw[<-lr];apply jF;intro i;rcases gE i (n*a.size)with c |c;simp only;rw[W6 (by simpa using c)];have b:i%a.size<a.size:=Nat.mod_lt _ h;simp[c,b];rw[gV (by simpa using c),gV (by rw[F6];simpa using c)]
theorem W7{El:Nat->Type}(z:List Value):∀n,(jk z n).map (aD.p (El:=El))=jk (z.map .p) n
 |0=>rfl
 |n+1=>by simp[jk,W7 z n]
def QZ(E:Env)(bl:List (ay E.T.El))(t n:Nat)(ps:List (Nat×aD E.T.El)):Option (dk E.T.El):=match ov E.P t,n,ps with
 |some (e,sz,_),0,[]=>match bT sz (E.T.ty e).size with
  |true=>some ⟨some (.r bl.length 0),bl++[.r e 0 0 []],[]⟩
  |false=>some ⟨some (.r bl.length 0),bl++[.k e sz 0 []],[]⟩
 |_,_,_=>none
def HC(E:Env)(bl:List (ay E.T.El))(t n:Nat)(ps:List (Nat×aD E.T.El)):D (dk E.T.El):=match ov E.P t with
 |some (e,sz,_)=>match n7 E.P e,hX n 100000&&eM 0 n&&hX (n*sz) 16777216 with
  |some z,true=>match pP (λ i=>some (i*sz,sz)) (jk (z.map .p) n) ps with
   |some cs=>match kG bl cs with
    |(bl',a)=>match bT sz (E.T.ty e).size,w7 (E.T.e e) (wq sz n a)with
     |true,some l=>.ok ⟨some (.r bl'.length 0),bl'++[.r e 0 0 l],[]⟩
     |_,_=>.ok ⟨some (.r bl.length 0),bl++[.k e sz 0 cs],[]⟩
   |none=>.no
  |_,_=>.no
 |none=>.no
def HB(E:Env)(bl:List (ay E.T.El))(t n:Nat)(ps:List (Nat×aD E.T.El)):D (dk E.T.El):=match QZ E bl t n ps with
 |some r=>.ok r
 |none=>HC E bl t n ps
def MH:Operand->Operand->Bool
 | .tmp a,.tmp b=>bT a b
 | .const (.int .i64 m),.const (.int .i64 n)=>decide (m=n)
 |_,_=>false
theorem akx{a:Act}{x y:Operand}(h:MH x y=true):a.eval x=a.eval y:=by unfold MH at h;split at h;rw[aZ h];rw[of_decide_eq_true h];cases h
def HG(E:Env)(bl:List (ay E.T.El))(t:Nat)(x y:Operand)(u:aD E.T.El):D (dk E.T.El):=match ov E.P t,u with
 |some (e,sz,bC),.p (.int .i64 k)=>match bT sz (E.T.ty e).size,rh E e e,MH x y with
  |true,some a,true=>.op (KQ a bC k) λ l=>.ok ⟨some (.r bl.length 0),bl++[.r e 0 0 l],[]⟩
  |_,_,_=>.no
 |_,_=>.no
section
variable{E:Env}{W w w':World}{ar:List Nat}{X:Nat->Prop}{n:b'}{f:b5 E.T.El}{bl:List (ay E.T.El)}{ρ:List Value}{a:Act}{cur:List (Nat×Bool)}
theorem AI(c:Mem E.T W ar X bl ρ w){o:Oper}{e sz n:Nat}{vs:List Value}{B:ay E.T.El}(s:bI (some B)=0)(l:∀h,a6 B h=a8.ag h)(d:vs.length=n*sz)(m:n<=maxLen)
 (p:∀(bl':List (ay E.T.El))(ρ':List Value)(w':World),To X bl bl' ρ ρ' w w'->rowIs w' e sz (.slice (some ⟨w.heap.size,0,none⟩) n n) n vs->g4 E.T (aW X bl' ρ' w') w' ρ' bl' B (.slice (some ⟨w.heap.size,0,none⟩) n n))
 (hy:aS E.P o a w (.slice (some ⟨w.heap.size,0,none⟩) n n) (w.alloc (.cells ⟨vs⟩ e))):fi E o a W ar X bl ρ w ⟨some (.r bl.length 0),bl++[B],[]⟩:=by
 have g:aY [] w (w.alloc (.cells ⟨vs⟩ e)):=aY.alloc _ _ _
 have r:rowIs (w.alloc (.cells ⟨vs⟩ e)) e sz (.slice (some ⟨w.heap.size,0,none⟩) n n) n vs:= .inl ⟨d,.inr ⟨w.heap.size,n,⟨vs⟩,rfl,hh _,heap_alloc_new w _,da _,m,by simpa using d,by rw[<-d,kg]⟩⟩
 have i:∀k∈a6 B (.slice (some ⟨w.heap.size,0,none⟩) n n),w.heap.size<=k/\k<(w.alloc (.cells ⟨vs⟩ e)).heap.size:=λ k b=>by
  rw[l]at b;have:k=w.heap.size:=by
   cases n with
   |zero=>simp[a8.ag]at b
   |succ q=>simpa[a8.ag]using b
  subst this;simp
 have j:=c.tm (B:=B) (h:=.slice (some ⟨w.heap.size,0,none⟩) n n) g i
 refine⟨_,ρ++[.slice (some ⟨w.heap.size,0,none⟩) n n],c.push g i (p _ _ _ j r),j,λ k b _=>g.block k b (by simp),_,hy,?_⟩
 simp only[aq]
 exact⟨trivial,.slice (some ⟨w.heap.size,0,none⟩) n n,by rw[<-c.len];simp,hh _,λ _=>rfl⟩
theorem abn(O:cv E)(C:Mem E.T W ar X bl ρ w){o:Oper}{t n:Nat}{xs:List (Nat×Operand)}{ps:List (Nat×aD E.T.El)}{r:dk E.T.El}(h:(HC E bl t n ps).out r)(P:o.op= .buildSlice t n xs.toArray)
 (Q:nb E.T (aW X bl ρ w) w ρ bl ps (xs.map λ p=>(p.1,a.eval p.2))):fi E o a W ar X bl ρ w r:=by
 unfold HC at h
 split at h
 ·rename_i e sz bC R;obtain⟨S,i0,U,hi,V,I,J,j,Y,cO⟩:=rQ R;split at h
  ·rename_i z Z ag;simp only[bL]at ag;have zw:=bW ag.1.1;have R0:=bW ag.1.2;have anS:=bW ag.2;obtain⟨m,D,k⟩:=x_ Z;have Aa:m=U:=by have g:=D w;simp only[zeroValue,typeInfo,Sem.run_bind]at g;simp[go_sem,hi,V]at g;exact g.symm
   subst Aa;have s:z.length=sz:=by rw[<-j,k];simp
   split at h
   ·rename_i cs F;obtain⟨os,f1,u⟩:=HR (mW (jk z n)) Q (by rw[W7];exact F)
    have v:os.length=n*sz:=by
     have g:=u.len;have key:∀ {ps:List (Nat×aD E.T.El)}{c d:List (aD E.T.El)},pP (λ i=>some (i*sz,sz)) c ps=some d->d.length=c.length:=by
      intro ps;induction ps with
      |nil=>intro c d b;simp only[pP,aK]at b;rw[b]
      |cons p r bi=>intro c d b;obtain⟨i,y⟩:=p;simp only[pP]at b;split at b;rename_i G;simp only[bL]at G;rw[bi b,Kt (bW G.2)];cases b
     rw[g,key F,F6,iY,s]
    have H:=W5 m.cells n (by rw[j];exact Y);rw[j,k]at H;have K:aS E.P o a w (.slice (some ⟨w.heap.size,0,none⟩) n n) (w.alloc (.cells ⟨os⟩ e)):=by
     have a7: ¬(n*sz>2^24):=by omega
     have br:n*sz≠0:=by intro b;rcases Nat.mul_eq_zero.1 b with q |q<;>omega
     simp only[aS,execOp,P,Instr.buildSlice,Sem.run_bind,Sem.run_pure,run_sizeOf hi,I,D,Result.andThen_ok,run_underlying S,gu,lW a7,lW br];have L:m.cells.size=sz:=j;rw[k]at L;simp only[k];rw[L,H,f1];rfl
    have M:n<=maxLen:=by simp only[maxLen];omega
    split at h;rename_i bl' g6 ms;obtain⟨di,t1,v1⟩:=Df C ms u;split at h;rename_i l x au;have h:(⟨some (.r bl'.length 0),bl'++[.r e 0 0 l],[]⟩:dk E.T.El)=r:=h;subst h;have x:=aZ x;obtain⟨cB,N⟩:=J3 O n v1 v au;refine fi.first t1 (λ i hi=>by simp at hi) (AI (e:=e) (sz:=sz) (n:=n) (vs:=os) di rfl (λ _=>rfl) v M (λ rH gy cu A B=>?_) K);subst x;exact⟨_,_,os,by rw[N],by rw[N];exact B,ki _ A.F cB⟩;have h:(⟨some (.r bl.length 0),bl++[.k e sz 0 cs],[]⟩:dk E.T.El)=r:=h;subst h;exact AI (e:=e) (sz:=sz) (n:=n) (vs:=os) C rfl (λ _=>rfl) v M (λ rH gy cu A B=>⟨_,_,_,os,rfl,B,A.vs u⟩) K
   ·exact h.elim
  ·exact h.elim
 ·exact h.elim
theorem abo(j:cv E)(c:Mem E.T W ar X bl ρ w){o:Oper}{t n:Nat}{xs:List (Nat×Operand)}{ps:List (Nat×aD E.T.El)}{r:dk E.T.El}(h:(HB E bl t n ps).out r)(g:o.op= .buildSlice t n xs.toArray)
 (i:nb E.T (aW X bl ρ w) w ρ bl ps (xs.map λ p=>(p.1,a.eval p.2))):fi E o a W ar X bl ρ w r:=by
 unfold HB at h
 split at h
 ·rename_i k b;have h:k=r:=h;subst h;unfold QZ at b;split at b
  ·rename_i e sz bC l;obtain⟨m,s,A,hi,B,I,J,C,D,F⟩:=rQ l
   have u:xs=[]:=by
    cases xs with
    |nil=>rfl
    |cons p q=>simp[nb]at i
   subst u;have hy:aS E.P o a w _ _:=amU (sz:=s.size) m (λ w=>run_sizeOf hi w) g;split at b;rename_i ag;simp only[aK]at b;subst b;exact AI (e:=e) (sz:=sz) (n:=0) (vs:=[]) c rfl (λ _=>rfl) (by simp) (hh _) (λ v x y z d=>⟨_,_,[],rfl,by rw[<-aZ ag];exact d,rfl⟩) hy;simp only[aK]at b;subst b;exact AI (e:=e) (sz:=sz) (n:=0) (vs:=[]) c rfl (λ _=>rfl) (by simp) (hh _) (λ v x y z d=>⟨_,_,_,[],rfl,d,rfl⟩) hy
  ·cases b
 ·exact abn j c h g i
theorem UR{α:Type}{T:cE α}{F:Nat->Prop}{w:World}{z:List Value}{b:α}(h:T.rd F w z b):∀n,cS T F w (jk z n) (gl n b)
 |0=>rfl
 |n+1=>⟨z,jk z n,rfl,h,UR h n⟩
theorem abu(B:cv E)(C:Mem E.T W ar X bl ρ w){o:Oper}{t:Nat}{x y:Operand}{u:aD E.T.El}{r:dk E.T.El}(h:(HG E bl t x y u).out r)(D:o.op= .makeSlice t x y)(g:aq E.T (aW X bl ρ w) w ρ bl u (a.eval x)):fi E o a W ar X bl ρ w r:=by
 unfold HG at h;split at h
 ·rename_i e sz bC k F;obtain⟨G,v,b,hi,z,I,J,d,H,K⟩:=rQ F;split at h
  ·rename_i L i c M;obtain⟨l,N,j⟩:=h;have j:(⟨some (.r bl.length 0),bl++[.r e 0 0 l],[]⟩:dk E.T.El)=r:=j;subst j;have i:=aZ i;obtain⟨O,aT,rfl⟩:=ahs N;obtain⟨m,rfl⟩:=jI O;simp only[k9]at *
   have Q:m<=bC*m:=Nat.le_mul_of_pos_left m K;have A:m<=maxLen:=by simp only[maxLen];omega
   simp only[aq]at g;have hy:a.eval y= .int .i64 (m:Int):=by rw[<-akx M,g]
   have R:(E.T.ty e).rd (aW X bl ρ w) w b.cells.toList L:=by
    unfold rh at c;split at c
    ·rename_i S p;split at c
     ·have U:S=b:=by
       simp only[vP,hi]at p;rw[z]at p;exact(eR p).symm
      subst U;exact B.tb.fx _ _ _ c _ _ ρ bl _ (mW _)
     ·cases c
    ·cases c
   have V:(v.bytes:Int)*(m:Int)<=281474976710656:=by
    rw[J];have Y:((bC*m:Nat):Int)<=281474976710656:=by omega
    rwa [Int.natCast_mul]at Y
   have q:=run_make (P:=E.P) w t e v b G hi z .i64 .i64 (m:Int) (m:Int) (by omega) (lb _) V (by simp only[maxLen]at A;omega);simp only[k9]at q;have s:madeCells b.cells (m*sz)=⟨jk b.cells.toList m⟩:=by have:=W5 b.cells m (by rw[d];exact H);rw[d]at this;simp only[madeCells,d];exact this
   rw[I,s]at q;have Z:aS E.P o a w (.slice (some ⟨w.heap.size,0,none⟩) m m) (w.alloc (.cells ⟨jk b.cells.toList m⟩ e)):=by simp only[aS,execOp,D,g,hy,Sem.run_bind,q,Result.andThen_ok,Sem.run_pure]
   refine AI (e:=e) (sz:=sz) (n:=m) (vs:=jk b.cells.toList m) C rfl (λ _=>rfl) (by rw[F6];simp[d]) A (λ rH gy cu g9 aC=>?_) Z;subst i;exact⟨_,_,_,by rw[jp],by rw[jp];exact aC,UR ((E.T.ty e).law g9.F R) m⟩
  ·exact h.elim
 ·exact h.elim
end
def Vu(P:Program)(t:Nat):Bool:=match P.underlying t with
 |some (.int .u8)=>true
 |_=>false
def HL(E:Env)(bl:List (ay E.T.El))(s d:Nat)(u:aD E.T.El):D (dk E.T.El):=match E.P.underlying s,E.P.underlying d,u with
 |some .string,some (.slice e),.p (.string ⟨⟨l⟩⟩)=>match bT e E.iQ,Vu E.P E.iQ with
  |true,true=>.op (bytesOf l) λ r=>.ok ⟨some (.s E.iQ (E.om r)),bl,[]⟩
  |_,_=>.no
 |_,_,_=>.no
section
variable{E:Env}{W w w':World}{ar:List Nat}{X:Nat->Prop}{bl:List (ay E.T.El)}{ρ:List Value}{a:Act}
theorem abz(i:cv E)(g:Mem E.T W ar X bl ρ w){o:Oper}{s d:Nat}{x:Operand}{u:aD E.T.El}{r:dk E.T.El}(c:(HL E bl s d u).out r)(C:o.op= .convert s d x)(p:aq E.T (aW X bl ρ w) w ρ bl u (a.eval x)):fi E o a W ar X bl ρ w r:=by
 unfold HL at c;split at c
 ·rename_i e l D qc;split at c
  ·rename_i ag m;have ag:=aZ ag;subst ag;have F:E.P.underlying E.iQ=some (.int .u8):=by unfold Vu at m;split at m;assumption;cases m
   obtain⟨q,I,J⟩:=c;have J:(⟨some (.s E.iQ (E.om q)),bl,[]⟩:dk E.T.El)=r:=J;subst J;simp only[aq]at p;unfold bytesOf at I;split at I
   ·rename_i G;simp only[aK]at I;subst I;have t:=run_bytes_of_string (P:=E.P) w s d E.iQ ⟨⟨l⟩⟩ D qc F;have H:(⟨⟨l⟩⟩:ByteArray).size=l.length:=rfl;have hc:=grownCap_ge w l.length 0 E.iQ;have v:=grownCap_le_maxLen w l.length 0 E.iQ (by simp only[maxLen];omega);obtain⟨B,y⟩:∃B,B=bytesRow ⟨⟨l⟩⟩ (grownCap w l.length 0 E.iQ):=⟨_,rfl⟩
    obtain⟨dS,z⟩:∃dS,dS=grownCap w l.length 0 E.iQ:=⟨_,rfl⟩
    rw[H,<-y,<-z]at t;rw[<-z]at hc v;have hy:aS E.P o a w (.slice (some ⟨w.heap.size,0,none⟩) l.length dS) (w.drew.alloc (.cells B E.iQ (B.size,B.size+1))):=by simp only[aS,execOp,C,p,Sem.run_bind,t,Result.andThen_ok];rfl
    have n:aY [] w (w.drew.alloc (.cells B E.iQ (B.size,B.size+1))):=(aY.drew [] w).trans (aY.alloc [] _ _) (by simp);refine⟨_,ρ,g.ep n,Mem.Bv n,λ k f _=>n.block k f (by simp),_,hy,?_⟩;simp only[aq];refine⟨_,dS,by rw[i.OJ],by rw[i.OJ];exact hc,v,(λ h=>by cases h),λ _=>⟨rfl,⟨?_,?_,by show w.heap.size<_;simp⟩,_,i.YU _ _ _ _ (UP l),λ j u A=>?_⟩⟩;intro f;have I:w.heap.size<W.heap.size:=(g.fy _ f).1;have J:=g.bM.size;omega;intro f;have I:w.heap.size<w.heap.size:=(g.lt _ f).1;omega
    ·rw[j4,c9]at A;obtain⟨b,ag,rfl⟩:=A;obtain⟨K,L⟩:=bb.1 ag;have:=bytesRow_at ⟨⟨l⟩⟩ (grownCap w l.length 0 E.iQ) j (by simpa using K);rw[<-y]at this;show World.cell? _ ⟨w.heap.size,0+j,none⟩=_
     simp only[World.cell?,World.alloc];rw[show(w.drew.heap.push _)[w.heap.size]? =some _ from Array.getElem?_push_size (xs:=w.heap)];simp only[jw,this];simp[L]
   ·cases I
  ·exact c.elim
 ·exact c.elim
end
def Hs(E:Env)(bl:List (ay E.T.El))(t tn:Nat)(u v:aD E.T.El):D (dk E.T.El):=match ov E.P t,iC (E.P.underlying tn),u,v with
 |some (e,sz,bC),some (.i .i64),.p (.slice none 0 0),.p (.int .i64 k)=>match bT sz 1&&bT (E.T.ty e).size 1,rh E e e with
  |true,some a=>.op (GA a bC k) λ l=>.ok ⟨some (.r bl.length 0),bl++[.r e 0 0 l],[]⟩
  |_,_=>.no
 |_,_,_,_=>.no
section
variable{E:Env}{W w w':World}{ar:List Nat}{X:Nat->Prop}{n:b'}{f:b5 E.T.El}{bl:List (ay E.T.El)}{ρ:List Value}{a:Act}{cur:List (Nat×Bool)}
theorem aba(S:cv E)(p:Mem E.T W ar X bl ρ w){o:Oper}{t tn:Nat}{x y:Operand}{u v:aD E.T.El}{r:dk E.T.El}(h:(Hs E bl t tn u v).out r)(U:o.op= .call { callee:=.builtin .append,args:=#[x,y],argTypes:=#[t,tn] })
 (L:aq E.T (aW X bl ρ w) w ρ bl u (a.eval x))(M:aq E.T (aW X bl ρ w) w ρ bl v (a.eval y)):fi E o a W ar X bl ρ w r:=by
 unfold Hs at h
 split at h
 ·rename_i e sz bC k V s;obtain⟨Y,Z,b,hi,N,I,J,i,g8,cO⟩:=rQ V;have z:=qk s;split at h
  ·rename_i g ag d;simp only[bL]at ag;have ao:=aZ ag.1;have eB:=aZ ag.2;subst ao;obtain⟨l,gQ,A⟩:=h;have A:(⟨some (.r bl.length 0),bl++[.r e 0 0 l],[]⟩:dk E.T.El)=r:=A;subst A;obtain⟨eG,aT,rfl⟩:=YP gQ;obtain⟨m,rfl⟩:=jI (Int.le_of_lt eG);simp only[k9]at *
   have hle:m<=bC*m:=Nat.le_mul_of_pos_left m cO;simp only[aq]at L M;have eA:(E.T.ty e).rd (aW X bl ρ w) w b.cells.toList g:=by
    unfold rh at d;split at d
    ·rename_i B8 C;split at d
     ·have ak:B8=b:=by
       simp only[vP,hi]at C;rw[N]at C;exact(eR C).symm
      subst ak;exact S.tb.fx _ _ _ d _ _ ρ bl _ (mW _)
     ·cases d
    ·cases d
   obtain⟨dS,D⟩:∃dS,b.cells= #[dS]:=by
    revert i;generalize b.cells=cs;obtain⟨l⟩:=cs;intro i;cases l with
    |nil=>simp at i
    |cons c r=>cases r with
     |nil=>exact⟨c,rfl⟩
     |cons _ _=>simp at i
   have eF:=Lib.run_append_nil_zeros (P:=E.P) w t tn o.type e Z b .i64 .i64 Y z hi N m (by omega) (by omega) (by omega) (by rw[J,Nat.mul_comm];omega);let cap:=grownCap w m 0 e;have zx:m<=cap:=grownCap_ge w m 0 e;have uu:cap<=maxLen:=grownCap_le_maxLen w m 0 e (by simp only[maxLen];omega);have JX:∀q,(Builtin.zeroCells b.cells q).toList=gl q dS:=by intro q;rw[D];apply List.ext_getElem;simp[Builtin.zeroCells];intro j I J;simp[Builtin.zeroCells,Nat.mod_one]
   let cur:=Builtin.zeroCells b.cells m++Builtin.zeroCells b.cells (cap-m);have hcs:cur.size=cap:=by simp only[cur,Array.size_append,size_zeroCells,D];simp;omega
   have lC:aS E.P o a w (.slice (some ⟨w.heap.size,0,none⟩) m cap) (w.drew.alloc (.cells cur e)):=by simp only[aS,execOp,U,resolve,invoke,builtin,Sem.run_bind,Sem.run_pure,Result.andThen_ok,gu,fA,ib,L,M,eF,cap,cur]
   have G:aY [] w (w.drew.alloc (.cells cur e)):=(aY.drew [] w).trans (aY.alloc [] w.drew (.cells cur e)) (by simp);have H:w.drew.heap.size=w.heap.size:=rfl;have oM:rowIs (w.drew.alloc (.cells cur e)) e 1 (.slice (some ⟨w.heap.size,0,none⟩) m cap) m (gl m dS):=by refine .inl ⟨by simp,.inr ⟨w.heap.size,cap,cur,rfl,hh _,?_,zx,uu,by simp[hcs],?_⟩⟩;rw[<-H];exact heap_alloc_new w.drew _;simp only[cur,Array.toList_append,JX,jO];rw[List.take_append_of_le_length (by simp),hM (by simp)]
   have wR:cap=(cap-1)+1:=by omega
   have O:∀q∈a6 (ay.r (El:=E.T.El) e 0 0 (gl m g)) (.slice (some ⟨w.heap.size,0,none⟩) m cap),w.heap.size<=q/\q<(w.drew.alloc (.cells cur e)).heap.size:=λ q Q=>by
    rw[wR]at Q;have:q=w.heap.size:=by simpa[a6,a8.ag]using Q
    subst this;simp
   have R:=p.tm (B:=ay.r e 0 0 (gl m g)) (h:=.slice (some ⟨w.heap.size,0,none⟩) m cap) G O;have K:∀(q:Nat)(F:Nat->Prop)(w':World),(E.T.ty e).rd F w' [dS] g->cS (E.T.ty e) F w' (gl q dS) (gl q g):=λ q F w' h=>by
    induction q with
    |zero=>rfl
    |succ q bi=>exact⟨[dS],gl q dS,rfl,h,bi⟩
   refine⟨_,ρ++[.slice (some ⟨w.heap.size,0,none⟩) m cap],p.push G O ⟨some ⟨w.heap.size,0,none⟩,cap,gl m dS,by rw[jp],by rw[eB,jp];exact oM,K m _ _ ?_⟩,R,λ k s _=>G.block k s (by simp),_,lC,?_⟩;have:=(E.T.ty e).law R.F eA;rwa [D]at this;simp only[aq];exact⟨trivial,.slice (some ⟨w.heap.size,0,none⟩) m cap,by rw[<-p.len];simp,hh _,λ _=>rfl⟩
  ·exact h.elim
 ·exact h.elim
end
end a8
namespace ad
def fO{α:Type}(l:List α)(p:Nat)(ds:List α):List α:=l.take p++ds++l.drop (p+ds.length)
theorem EC{α:Type}{l:List α}{p:Nat}{ds:List α}(h:p+ds.length<=l.length):(fO l p ds).length=l.length:=by simp[fO];omega
end ad
namespace a8
open Go Go.RowKit aA ad
theorem Q3(b:Nat):∀(vs:List Value)(o:Nat)(w:World),aY [b] w (w.setCells b o vs)
 |[],_,w=>aY.refl _ w
 |v::r,o,w=>(aY.set w ⟨b,o,none⟩ v).trans (Q3 b r (o+1) _) (λ x a=>.inl a)
theorem U_(b:Nat)(e:TypeId)(a:Nat×Nat):∀(vs:List Value)(o:Nat)(w:World)(cur:List Value),w.heap[b]? =some (.cells cur.toArray e a)->o+vs.length<=cur.length ->
 (w.setCells b o vs).heap[b]? =some (.cells (fO cur o vs).toArray e a)
 |[],o,w,cur,h,_=>by simpa[World.setCells,fO]using h
 |v::r,o,w,cur,h,d=>by
  simp only[df]at d;have ag:b<w.heap.size:=by rcases gE b w.heap.size with h' |h';exact h';rw[hI h']at h;cases h
  have I:(w.setCell ⟨b,o,none⟩ v).heap[b]? =some (.cells (cur.set o v).toArray e a):=by simp only[World.setCell,j1,lX,h,fU];simp
  have:=U_ b e a r (o+1) _ (cur.set o v) I (by simp;omega);show((w.setCell ⟨b,o,none⟩ v).setCells b (o+1) r).heap[b]? =_
  rw[this];have f:cur.set o v=cur.take o++v::cur.drop (o+1):=by rw[List.set_eq_take_append_cons_drop,lX (by omega)]
  have c:(cur.take o).length=o:=by rw[gf];omega
  have g:(cur.set o v).take (o+1)=cur.take o++[v]:=by rw[f,ke,c,hM (by rw[c];omega)];simp
  have al:(cur.set o v).drop (o+1+r.length)=cur.drop (o+(v::r).length):=by rw[List.drop_set_of_lt (by omega)];congr 1;simp;omega
  simp only[fO];rw[g,al];simp
theorem aii{α:Type}{l ds:List α}{p n:Nat}(h:p+ds.length<=n)(a:n<=l.length):(fO l p ds).take n=fO (l.take n) p ds:=MS h a
structure Gj (El:Nat->Type) where
 i:Nat
 t:Nat
 g:Nat
 k:Nat
 l:List (El t)
 lo:Int
 hi:Int
def EK{El:Nat->Type}(bl:List (ay El)):aD El->Option (Gj El)
 | .v i g lo hi=>match nth bl i with
   |some (.r t a k l)=>match bT g a with
    |true=>some ⟨i,t,a,k,l,lo,hi⟩
    |false=>none
   |_=>none
 | .r i g=>match nth bl i with
   |some (.r t a k l)=>match bT g a with
    |true=>some ⟨i,t,a,k,l,0,(l.length:Int)⟩
    |false=>none
   |_=>none
 |_=>none
def Hw(E:Env)(bl:List (ay E.T.El))(t:Nat)(u v:aD E.T.El):D (dk E.T.El):=match ov E.P t,EK bl u with
 |some (_,n,_),some p=>match bT n 1&&bT (E.T.ty p.t).size 1,Br E bl p.t v with
  |true,some m=>.op (AH (decide (0<p.l.length))) λ _=>.ok ⟨some (.p (.int .i64 ((m.take (p.hi-p.lo).toNat).length:Int))),bl.set p.i (.r p.t p.g (p.k+1) (fO p.l p.lo.toNat (m.take (p.hi-p.lo).toNat))),[p.i]⟩
  |_,_=>.no
 |_,_=>.no
def Hv(E:Env)(bl:List (ay E.T.El))(t:Nat)(u:aD E.T.El):D (dk E.T.El):=match ov E.P t,EK bl u with
 |some (e,sz,_),some p=>match bT sz 1&&bT (E.T.ty p.t).size 1&& !(E.T.e p.t).agg,rh E p.t e with
  |true,some a=>.op (AH (decide (p.lo<p.hi))) λ _=>.ok ⟨some (.u []),bl.set p.i (.r p.t p.g (p.k+1) (fO p.l p.lo.toNat (gl (p.hi-p.lo).toNat a))),[p.i]⟩
  |_,_=>.no
 |_,_=>.no
section
variable{E:Env}{W w w':World}{ar:List Nat}{X:Nat->Prop}{n:b'}{f:b5 E.T.El}{bl:List (ay E.T.El)}{ρ:List Value}{a:Act}{cur:List (Nat×Bool)}
theorem Ug(s:Mem E.T W ar X bl ρ w){u:aD E.T.El}{v:Value}{p:Gj E.T.El}(h:EK bl u=some p)(I:(E.T.ty p.t).size=1)(q:aq E.T (aW X bl ρ w) w ρ bl u v) :
 bl[p.i]? =some (.r p.t p.g p.k p.l)/\0<=p.lo/\p.lo<=p.hi/\p.hi<=p.l.length/\∃A c B j,ρ[p.i]? =some (.slice A p.l.length c)/\v= .slice B (p.hi.toNat-p.lo.toNat) j/\(p.lo<p.hi->B=A.map (·.add p.lo.toNat)):=by
 unfold EK at h
 split at h
 ·rename_i i g lo hi;split at h;rename_i t y k l b;rw[cr]at b;split at h;rename_i ag;simp only[aK]at h;subst h;simp only[aq]at q;obtain⟨_,aE,m,z,o⟩:=q;rw[b]at o;obtain⟨A,n,c,B,x,al,aL,bB,ch,fH,C⟩:=o (aZ ag);obtain⟨r,j,xs,d,D,F⟩:=s.ok _ _ _ b m;rw[x]at d;simp only[Value.slice.injEq]at d;obtain⟨rfl,rfl,rfl⟩:=d;refine⟨b,al,aL,bB,A,c,B,_,x▸m,ch,λ G=>?_⟩;have:=C G;simp only[hB,I,jO]at this;exact this;cases h;cases h
 ·rename_i i g;split at h
  ·rename_i t y k l b;rw[cr]at b;split at h
   ·rename_i ag;simp only[aK]at h;subst h;simp only[aq]at q;obtain⟨_,aE,m,z,o⟩:=q;rw[b]at o;have e:=o (aZ ag);subst e;obtain⟨r,j,xs,d,D,F⟩:=s.ok _ _ _ b m;refine⟨b,lb _,by simp,lb _,r,j,r,j,d▸m,by simpa using d,λ _=>?_⟩;cases r with
    |none=>rfl
    |some dr=>simp[Addr.add]
   ·cases h
  ·cases h
 ·cases h
theorem U0(s:Mem E.T W ar X bl ρ w){o:Oper}{p:Gj E.T.El}{A:Option Addr}{c:Nat}(hi:bl[p.i]? =some (.r p.t p.g p.k p.l))(g:ρ[p.i]? =some (.slice A p.l.length c))(I:(E.T.ty p.t).size=1){q:Nat}{ds:List (E.T.El p.t)}{vs:List Value}(C:cS (E.T.ty p.t) (aW X bl ρ w) w vs ds)(D:0<p.l.length)(i:q+ds.length<=p.l.length) :
 ∃b,A=some ⟨b,0,none⟩/\vs.length=ds.length/\(∀j,j<p.l.length->(w.cell? ⟨b,j,none⟩).isSome=true)/\(∀j,w.frozen? ⟨b,j,none⟩=false)/\
  ∀ {r:Value}{y:aD E.T.El},(∀(F:Nat->Prop)(w:World)(ρ:List Value)(bl:List (ay E.T.El)),aq E.T F w ρ bl y r)->aS E.P o a w r (w.setCells b q vs)->fi E o a W ar X bl ρ w ⟨some y,bl.set p.i (.r p.t p.g (p.k+1) (fO p.l q ds)),[p.i]⟩:=by
 obtain⟨cJ,bn,xs,G,H,J⟩:=s.ok _ _ _ hi g
 simp only[Value.slice.injEq,true_and]at G
 obtain⟨rfl,rfl⟩:=G
 obtain⟨b,rfl,p1,hc,R⟩:=qY D H
 have t:=nV _ C
 rw[I,jO]at t
 have K:=nV _ J
 rw[I,jO]at K
 have L:=H.own D
 rw[I]at L
 rcases L.2 with⟨_,aJ⟩|⟨g',cap,cur,M,al,aL,bB,ch,fH,N⟩
 ·omega
 simp only[Value.slice.injEq,aK,Addr.mk.injEq,and_true,true_and]at M
 obtain⟨rfl,rfl⟩:=M
 rw[jO]at fH N
 have S:(⟨cur.toList⟩:Array Value)=cur:=by simp
 refine⟨b,rfl,t,λ j aB=>?_,λ j=>by simp[World.frozen?,aL],λ{r y} hy U=>?_⟩
 ·have:j<cur.size:=by omega
  simp[World.cell?,aL,this]
 have V:a6 (ay.r p.t p.g p.k p.l) (.slice (some ⟨b,0,none⟩) p.l.length c)=[b]:=R _
 have u:aY (a6 (ay.r p.t p.g p.k p.l) (.slice (some ⟨b,0,none⟩) p.l.length c)) w (w.setCells b q vs):=by rw[V];exact Q3 b vs q w
 have v:=U_ b p.t (0,0) vs q w cur.toList (by rw[<-S]at aL;exact aL) (by simp;omega)
 have Y:rowIs (w.setCells b q vs) p.t 1 (.slice (some ⟨b,0,none⟩) p.l.length c) p.l.length (fO xs q vs):=by refine .inl ⟨by rw[EC (by omega),K,jO],.inr ⟨b,c,_,rfl,al,v,bB,ch,?_,?_⟩⟩;have:=EC (l:=cur.toList) (p:=q) (ds:=vs) (by simp;omega);simpa[fH]using this;simp only[jO];rw[aii (by omega) (by simp;omega),N]
 have O:∀k∈a6 (ay.r p.t p.g (p.k+1) (fO p.l q ds)) (.slice (some ⟨b,0,none⟩) p.l.length c),k∈a6 (ay.r p.t p.g p.k p.l) (.slice (some ⟨b,0,none⟩) p.l.length c)\/(w.heap.size<=k/\k<(w.setCells b q vs).heap.size):=λ k x=>.inl x
 have Z:∀ {h:Value},(¬kX h->h=h)/\bI (some (ay.r p.t p.g p.k p.l))<=bI (some (ay.r p.t p.g (p.k+1) (fO p.l q ds)))/\(bI (some (ay.r p.t p.g (p.k+1) (fO p.l q ds)))=bI (some (ay.r p.t p.g p.k p.l))->h=h/\hB E.T (some (ay.r p.t p.g (p.k+1) (fO p.l q ds)))=hB E.T (some (ay.r p.t p.g p.k p.l))/\ff (some (ay.r p.t p.g p.k p.l))<=ff (some (ay.r p.t p.g (p.k+1) (fO p.l q ds)))/\(ff (some (ay.r p.t p.g (p.k+1) (fO p.l q ds)))=ff (some (ay.r p.t p.g p.k p.l))->nW (some (ay.r p.t p.g (p.k+1) (fO p.l q ds)))=nW (some (ay.r p.t p.g p.k p.l)))):=λ{h}=>⟨λ _=>rfl,da _,λ _=>⟨rfl,rfl,Nat.le_succ _,λ e=>by simp[ff]at e⟩⟩
 have d:=s.vw (B':=ay.r p.t p.g (p.k+1) (fO p.l q ds)) (h':=.slice (some ⟨b,0,none⟩) p.l.length c) hi g u O Z
 have z:=vq g
 have eA:cS (E.T.ty p.t) (aW X (bl.set p.i (.r p.t p.g (p.k+1) (fO p.l q ds))) ρ (w.setCells b q vs)) (w.setCells b q vs) (fO xs q vs) (fO p.l q ds):=by rw[z]at d;have P:=ki _ d.F J;have dE:=ki _ d.F C;have B:=o9 0 q P;have m:=o9 (q+ds.length) p.l.length P;rw[I]at B m;simp only[jO,Nat.zero_mul,kl]at B m;rw[hM (by omega),hM (by omega)]at m;have:=A2 _ m (A2 _ dE B);unfold fO;rw[t];exact this
 have Q:=s.q2 (B':=ay.r p.t p.g (p.k+1) (fO p.l q ds)) (h':=.slice (some ⟨b,0,none⟩) p.l.length c) hi g u O d (by rw[z];exact⟨some ⟨b,0,none⟩,c,fO xs q vs,by rw[EC i],by rw[I,EC i];exact Y,eA⟩)
 rw[z]at Q d
 exact⟨_,ρ,Q,d,λ k x ca=>u.block k x (ca p.i (by simp) _ _ hi g),r,U,hy _ _ _ _⟩
theorem abg(Q:cv E)(k:Mem E.T W ar X bl ρ w){o:Oper}{t:Nat}{x y:Operand}{u v:aD E.T.El}{r:dk E.T.El}(h:(Hw E bl t u v).out r)(D:o.op= .call { callee:=.builtin .copy,args:=#[x,y],argTypes:=#[t,t] })
 (R:aq E.T (aW X bl ρ w) w ρ bl u (a.eval x))(hy:aq E.T (aW X bl ρ w) w ρ bl v (a.eval y)):fi E o a W ar X bl ρ w r:=by
 unfold Hw at h
 split at h
 ·rename_i e n bC p S U;obtain⟨G,i0,dy,V,kU,Y,eB,DK,g8,Z⟩:=rQ S;split at h
  ·rename_i m ag JO;simp only[bL]at ag;have aI:=aZ ag.1;have I:=aZ ag.2;subst aI;obtain⟨_,l,h⟩:=h;have l:0<p.l.length:=of_decide_eq_true (Lc l);have h:(⟨some (.p (.int .i64 ((m.take (p.hi-p.lo).toNat).length:Int))),bl.set p.i (.r p.t p.g (p.k+1) (fO p.l p.lo.toNat (m.take (p.hi-p.lo).toNat))),[p.i]⟩:dk E.T.El)=r:=h;subst h;obtain⟨hi,l1,c5,kb,A,c,B,H,aX,J,al⟩:=Ug k U I R;obtain⟨ed,K,b,L,s2,M⟩:=Vh Q k JO hy;have w3:=nV _ M;rw[I,jO]at w3;have d:(m.take (p.hi-p.lo).toNat).length=Nat.min m.length (p.hi.toNat-p.lo.toNat):=by rw[gf,Nat.min_comm];congr 1;omega
   have s:=o9 0 (p.hi-p.lo).toNat M;rw[I]at s;simp only[jO,Nat.zero_mul,kl]at s;have N:(E.P.info? e).map (·.size)=some 1:=by rw[V];simp[Y]
   obtain⟨O,rfl,i,hp,Jb,fin⟩:=U0 (o:=o) (a:=a) (q:=p.lo.toNat) k hi aX I s l (by rw[d];have:=Nat.min_le_right m.length (p.hi.toNat-p.lo.toNat);have e:Nat.min m.length (p.hi.toNat-p.lo.toNat)=min m.length (p.hi.toNat-p.lo.toNat):=rfl;omega);refine fin (r:=.int .i64 ((m.take (p.hi-p.lo).toNat).length:Int)) (λ F w ρ bl=>by simp only[aq]) ?_;rcases kS (m.take (p.hi-p.lo).toNat).length with aJ |aJ;have z:=run_copy_none (P:=E.P) w t t o.type e B ed (p.hi.toNat-p.lo.toNat) H m.length K G N (by rw[<-d];exact aJ);have bY:b.take (p.hi-p.lo).toNat=[]:=g_ (i.trans aJ);rw[bY,aJ];simp only[aS,execOp,D,resolve,invoke,builtin,Sem.run_bind,Sem.run_pure,Result.andThen_ok,gu,fA,ib,J,L,z];rfl
   ·have bh:p.lo<p.hi:=by
     rw[d]at aJ;have e:Nat.min m.length (p.hi.toNat-p.lo.toNat)=min m.length (p.hi.toNat-p.lo.toNat):=rfl;omega
    rcases s2 with⟨a7,_⟩|⟨dr,rfl,br,bG,eV⟩
    ·rw[d,a7]at aJ;have e:Nat.min 0 (p.hi.toNat-p.lo.toNat)=min 0 (p.hi.toNat-p.lo.toNat):=rfl;omega
    ·have C:=al bh;have C:B=some ⟨O,p.lo.toNat,none⟩:=by rw[C];simp[Addr.add];try omega
     subst C;have z:=run_copy_cells (P:=E.P) w t t o.type e O p.lo.toNat (p.hi.toNat-p.lo.toNat) H dr m.length K (b.take (p.hi-p.lo).toNat) G N (by rw[i,d]) (λ j u g=>by
      rw[hG]at g;split at g;exact bG j u g
      ·cases g) (λ j g=>hp _ (by rw[i,d]at g;have e:Nat.min m.length (p.hi.toNat-p.lo.toNat)=min m.length (p.hi.toNat-p.lo.toNat):=rfl;omega)) (λ j _=>Jb _) (λ v ai=>eV v (List.mem_of_mem_take ai))
     rw[<-i];simp only[aS,execOp,D,resolve,invoke,builtin,Sem.run_bind,Sem.run_pure,Result.andThen_ok,gu,fA,ib,J,L,z];rfl
  ·exact h.elim
 ·exact h.elim
theorem abf(M:cv E)(C:Mem E.T W ar X bl ρ w){o:Oper}{t:Nat}{x:Operand}{u:aD E.T.El}{r:dk E.T.El}(h:(Hv E bl t u).out r)(N:o.op= .call { callee:=.builtin .clear,args:=#[x],argTypes:=#[t] })
 (O:aq E.T (aW X bl ρ w) w ρ bl u (a.eval x)):fi E o a W ar X bl ρ w r:=by
 unfold Hv at h
 split at h
 ·rename_i e n bC p Q R;obtain⟨S,i0,d,D,G,cH,eB,U,g8,V⟩:=rQ Q;split at h
  ·rename_i i ag b;simp only[bL]at ag;have Y:(E.T.e p.t).agg=false:=by simpa using ag.2
   have Z:=aZ ag.1.1;have I:=aZ ag.1.2;subst Z;obtain⟨_,p8,h⟩:=h;have bh:p.lo<p.hi:=of_decide_eq_true (Lc p8);have h:(⟨some (.u []),bl.set p.i (.r p.t p.g (p.k+1) (fO p.l p.lo.toNat (gl (p.hi-p.lo).toNat i))),[p.i]⟩:dk E.T.El)=r:=h;subst h;obtain⟨hi,l1,c5,kb,A,c,B,bn,aX,k,al⟩:=Ug C R I O;obtain⟨dS,m⟩:∃dS,d.cells= #[dS]:=by
    revert U;generalize d.cells=cs;obtain⟨l⟩:=cs;intro H;cases l with
    |nil=>simp at H
    |cons c r=>cases r with
     |nil=>exact⟨c,rfl⟩
     |cons _ _=>simp at H
   have g:(E.T.ty p.t).rd (aW X bl ρ w) w [dS] i/\d=dS:=by
    unfold rh at b;split at b
    ·rename_i B8 s;split at b
     ·rename_i v;have k:B8=d:=by simp only[vP,D]at s;rw[G]at s;exact(eR s).symm
      subst k;have:=M.tb.fx _ _ _ b (aW X bl ρ w) w ρ bl _ (mW _);rw[m]at this;have J:=W4 v;rw[Y,m]at J;exact⟨this,J⟩
     ·cases b
    ·cases b
   obtain⟨g,y⟩:=g;have p_:dS.oneCell'=true:=(E.T.ty p.t).one g dS (by simp);have hV:cS (E.T.ty p.t) (aW X bl ρ w) w (gl (p.hi-p.lo).toNat dS) (gl (p.hi-p.lo).toNat i):=by
    generalize(p.hi-p.lo).toNat=q;induction q with
    |zero=>rfl
    |succ q bi=>exact⟨[dS],gl q dS,rfl,g,bi⟩
   obtain⟨K,rfl,qd,hp,Jb,fin⟩:=U0 (o:=o) (a:=a) (q:=p.lo.toNat) C hi aX I hV (by omega) (by rw[jp];omega);refine fin (λ F w ρ bl=>by simp only[aq];exact⟨[],rfl,by simp[aR]⟩) ?_;have z:=al bh;have z:B=some ⟨K,p.lo.toNat,none⟩:=by rw[z];simp[Addr.add];try omega
   subst z;have L:=Lib.run_clear_slice (P:=E.P) w t e o.type d S (λ w=>by simp only[zeroValue,typeInfo,Sem.run_bind];simp[go_sem,D,G]) (by rw[m,y]) (by rw[y];exact p_) K p.lo.toNat (p.hi.toNat-p.lo.toNat) bn (by omega) (λ j aB=>hp _ (by omega)) (λ j _=>Jb _);have e:p.hi.toNat-p.lo.toNat=(p.hi-p.lo).toNat:=by omega
   rw[e,y]at L;simp only[aS,execOp,N,resolve,invoke,builtin,Sem.run_bind,Sem.run_pure,Result.andThen_ok,gu,fA,ib,k,e,L]
  ·exact h.elim
 ·exact h.elim
end
def qL{b6 β:Type}(K:gB b6)(d:List (b6×β))(k:b6):List (b6×β):=match hs K d k with
 |some i=>d.eraseIdx i
 |none=>d
section
variable{E:Env}{W w w':World}{ar:List Nat}{X:Nat->Prop}{n:b'}{f:b5 E.T.El}{bl:List (ay E.T.El)}{ρ:List Value}{a:Act}{cur:List (Nat×Bool)}
theorem Qh{F:Nat->Prop}{kt vt:Nat}{K:gB (E.T.El kt)}:∀ {es:List MapEntry}{d:List (E.T.El kt×E.T.El vt)}(p:Nat),gK E.T F w K es d->gK E.T F w K (es.eraseIdx p) (d.eraseIdx p)
 |[],[],_,_=>trivial
 |[],_::_,_,h=>h.elim
 |_::_,[],_,h=>h.elim
 |_::_,_::_,0,h=>h.2.2
 |_::_,_::_,p+1,h=>⟨h.1,h.2.1,Qh p h.2.2⟩
def Hz(E:Env)(bl:List (ay E.T.El))(t:Nat)(u k:aD E.T.El):D (dk E.T.El):=match u,mapOf E.P t with
 | .m i,some (b,_)=>match nth bl i with
   |some (.m kt vt d)=>match(E.T.e kt).key with
    |some K=>match y5 (E.P.underlying b) K.desc,(E.T.e kt).fx (cellsOf k),(match iA k with|true=>(E.T.e kt).agg |false=>!(E.T.e kt).agg)with
     |true,some key,true=>.ok ⟨some (.u []),bl.set i (.m kt vt (qL K d key)),[i]⟩
     |_,_,_=>.no
    |none=>.no
   |_=>.no
 |_,_=>.no
theorem abj(L:cv E)(z:Mem E.T W ar X bl ρ w){o:Oper}{t:Nat}{A:List TypeId}{x y:Operand}{u k:aD E.T.El}{e:dk E.T.El}(h:(Hz E bl t u k).out e)(M:o.op= .call { callee:=.builtin .delete,args:=#[x,y],argTypes:=⟨t::A⟩ })
 (N:aq E.T (aW X bl ρ w) w ρ bl u (a.eval x))(hy:aq E.T (aW X bl ρ w) w ρ bl k (a.eval y)):fi E o a W ar X bl ρ w e:=by
 unfold Hz at h
 split at h
 ·rename_i i O alb Jv;split at h
  ·rename_i kt vt d hi;rw[cr]at hi;split at h
   ·rename_i K B;split at h
    ·rename_i key aE zP j5;have h:(⟨some (.u []),bl.set i (.m kt vt (qL K d key)),[i]⟩:dk E.T.El)=e:=h;subst h;simp only[aq]at N;obtain⟨r,g,P⟩:=N;have Q:a.eval y=K.enc key:=by have l:=L.tb.fx _ _ _ zP _ _ _ _ _ (ku hy);exact(Cu hy j5).trans (L.tb.key _ _ B _ _ _ _ l)
     obtain⟨eW,l,bk,R,es,clock,j,m,S,U⟩:=z.ok i _ _ hi g;simp only[Value.map.injEq,aK]at l;subst l;rw[B]at R;cases R;have V:=Eb Jv;have Y:=GZ aE;have bh:r<w.heap.size:=(eL.1 j).1;have gS:∀C:Obj,aY [r] w { w with heap:=w.heap.setIfInBounds r C }:=λ C=>⟨rfl,rfl,rfl,by simp,λ q _ aI=>by
      show(w.heap.setIfInBounds r C)[q]? =_
      rw[eb,lW (λ e=>aI (by simp[e]))]⟩
     have fin:∀(c:Array MapEntry),aS E.P o a w (.tuple ⟨[]⟩) { w with heap:=w.heap.setIfInBounds r (.map c clock) } ->gK E.T (aW X bl ρ w) w K c.toList (qL K d key)->(c.toList.map (·.born)).Pairwise (·< ·)->(∀e∈c.toList,e.born<clock) ->
      fi E o a W ar X bl ρ w ⟨some (.u []),bl.set i (.m kt vt (qL K d key)),[i]⟩:=λ c z_ I J aw=>by
      have Z:∀k∈a6 (ay.m kt vt (qL K d key)) (.map (some r)),k∈a6 (ay.m kt vt d) (.map (some r))\/(w.heap.size<=k/\k<(World.heap { w with heap:=w.heap.setIfInBounds r (.map c clock) }).size):=λ k D=>.inl D
      have F:aY (a6 (ay.m kt vt d) (.map (some r))) w { w with heap:=w.heap.setIfInBounds r (.map c clock) }:=by simpa[a6,a8.ag]using gS (.map c clock)
      have s:=z.vw (B':=ay.m kt vt (qL K d key)) (h':=.map (some r)) hi g F Z ⟨λ _=>rfl,da _,λ _=>⟨rfl,rfl,da _,λ _=>rfl⟩⟩
      have ao:=vq g
      have dv:=z.q2 (B':=ay.m kt vt (qL K d key)) (h':=.map (some r)) hi g F Z s ⟨r,rfl,K,B,c,clock,by simp[bh],I.law s.F,J,aw⟩
      rw[ao]at dv s
      exact⟨_,ρ,dv,s,λ k D ca=>F.block k D (ca i (by simp) _ _ hi g),_,z_,by simp only[aq];exact⟨[],rfl,by simp only[aR]⟩⟩
     have eF:∀ {b:Bool},(Instr.checkKey b 10000 O (K.enc key)).run E.P w= .ok () w:=λ{b}=>@iJ.check _ K.dec K.mE E.P w b O key Y;rcases E9 (vt:=vt) key Y m w with⟨f1,v,f3⟩|⟨p,NK,vC,f1,v,f3,f4⟩
     ·refine fin es ?_ (by simpa only[qL,v]using m) S U;have G:(Builtin.delete_ ⟨t::A⟩ o.type #[.map (some r),K.enc key]).run E.P w= .ok (.tuple #[]) { w with heap:=w.heap.setIfInBounds r (.map es clock) }:=by simp[Builtin.delete_,go_sem,run_underlying V,MapKept.run_getObj_map j,eF,f3,MapKept.run_setObj_map _ j]
      simp only[aS,execOp,M,resolve,invoke,builtin,Sem.run_bind,Sem.run_pure,Result.andThen_ok,gu,fA,ib,P,Q,G]
     ·have ag:es.eraseIdxIfInBounds p=⟨es.toList.eraseIdx p⟩:=by
       obtain⟨e,H,_⟩:=Hg (k:=key) m v;have zS:p<es.size:=by simpa using(bb.1 H).1
       rw[Array.eraseIdxIfInBounds,dif_pos zS];apply lr.1;simp
      refine fin ⟨es.toList.eraseIdx p⟩ ?_ (by simpa only[qL,v]using Qh p m) ?_ (λ e H=>U e (List.mem_of_mem_eraseIdx H))
      ·have G:(Builtin.delete_ ⟨t::A⟩ o.type #[.map (some r),K.enc key]).run E.P w= .ok (.tuple #[]) { w with heap:=w.heap.setIfInBounds r (.map ⟨es.toList.eraseIdx p⟩ clock) }:=by
        simp[Builtin.delete_,go_sem,run_underlying V,MapKept.run_getObj_map j,eF,f4,MapKept.run_setObj_map _ j,ag]
       simp only[aS,execOp,M,resolve,invoke,builtin,Sem.run_bind,Sem.run_pure,Result.andThen_ok,gu,fA,ib,P,Q,G]
      ·exact List.Pairwise.sublist (List.Sublist.map _ (List.eraseIdx_sublist _ _)) S
    ·exact h.elim
   ·exact h.elim
  ·exact h.elim
 ·exact h.elim
end
def y_(E:Env)(bl:List (ay E.T.El))(f:b5 E.T.El)(cur:List (Nat×Bool)):Op->D (dk E.T.El)
 | .alloc t=>match n7 E.P t with
   |some z=>.ok ⟨some (.b bl.length 0),bl++[.c t (z.map .p)],[]⟩
   |none=>.no
 | .box t x=>match cd E bl f cur x with
   |some y=>.ok ⟨some (.b bl.length 0),bl++[.c t (cellsOf y)],[]⟩
   |none=>.no
 | .makeMap t none=>match mapOf E.P t with
   |some (k,e)=>match(E.T.e k).key with
    |some _=>.ok ⟨some (.m bl.length),bl++[.m k e []],[]⟩
    |none=>.no
   |none=>.no
 | .store t p x=>match cd E bl f cur p,cd E bl f cur x with
   |some u,some v=>HK E bl t u v
   |_,_=>.no
 | .mapUpdate t m k x=>match cd E bl f cur m,cd E bl f cur k,cd E bl f cur x with
   |some u,some v,some z=>C3 E bl t u v z
   |_,_,_=>.no
 | .insert t m k x=>match cd E bl f cur m,cd E bl f cur k,cd E bl f cur x with
   |some u,some v,some z=>C3 E bl t u v z
   |_,_,_=>.no
 | .buildSlice t n ⟨ps⟩=>match xo E bl f cur ps with
   |some ys=>HB E bl t n ys
   |none=>.no
 | .makeSlice t x y=>match cd E bl f cur x with
   |some u=>HG E bl t x y u
   |none=>.no
 | .convert s d x=>match cd E bl f cur x with
   |some u=>HL E bl s d u
   |none=>.no
 | .call ⟨.builtin .append,⟨[x,y]⟩,⟨[t,t']⟩⟩=>match bT t t',cd E bl f cur x,cd E bl f cur y with
   |true,some u,some v=>Hr E bl t u v
   |false,some u,some v=>Hs E bl t t' u v
   |_,_,_=>.no
 | .call ⟨.builtin .copy,⟨[x,y]⟩,⟨[t,t']⟩⟩=>match bT t t',cd E bl f cur x,cd E bl f cur y with
   |true,some u,some v=>Hw E bl t u v
   |_,_,_=>.no
 | .call ⟨.builtin .clear,⟨[x]⟩,⟨[t]⟩⟩=>match cd E bl f cur x with
   |some u=>Hv E bl t u
   |none=>.no
 | .call ⟨.builtin .delete,⟨[x,y]⟩,⟨t::a⟩⟩=>match cd E bl f cur x,cd E bl f cur y with
   |some u,some v=>Hz E bl t u v
   |_,_=>.no
 |_=>.no
section
variable{E:Env}{W w w':World}{ar:List Nat}{X:Nat->Prop}{n:b'}{f:b5 E.T.El}{bl:List (ay E.T.El)}{ρ:List Value}{a:Act}{cur:List (Nat×Bool)}
theorem abk(d:cv E)(h:R E W ar X n f bl ρ a w)(hc:hQ a cur){o:Oper}{op:Op}(c:o.op=op){r:dk E.T.El}(b:(y_ E bl f cur op).out r):fi E o a W ar X bl ρ w r:=by unfold y_ at b;split at b;rename_i t;split at b;rename_i z I;have b:(⟨some (.b bl.length 0),bl++[.c t (z.map .p)],[]⟩:dk E.T.El)=r:=b;subst b;obtain⟨l,i,j⟩:=x_ I;exact TM h.mem (mW z) (rf i j c);exact b.elim;rename_i t x;split at b;rename_i y I;have b:(⟨some (.b bl.length 0),bl++[.c t (cellsOf y)],[]⟩:dk E.T.El)=r:=b;subst b;exact TM h.mem (ku (cn h hc I)) (FZ (v:=a.eval x) (by simp) c rfl);exact b.elim;rename_i t;split at b;rename_i k e I;split at b;rename_i K J;have b:(⟨some (.m bl.length),bl++[.m k e []],[]⟩:dk E.T.El)=r:=b;subst b;exact ahC h.mem J (am' c);exact b.elim;exact b.elim;split at b;rename_i u v I J;exact aby d h.mem b c (cn h hc I) (cn h hc J);exact b.elim;split at b;rename_i u v z I J g;exact Q1 d h.mem b (.inl c) (cn h hc I) (cn h hc J) (cn h hc g);exact b.elim;split at b;rename_i u v z I J g;exact Q1 d h.mem b (.inr c) (cn h hc I) (cn h hc J) (cn h hc g);exact b.elim;split at b;rename_i ys I;exact abo d h.mem b c (Lk h hc I);exact b.elim;split at b;rename_i u I;exact abu d h.mem b c (cn h hc I);exact b.elim;split at b;rename_i u I;exact abz d h.mem b c (cn h hc I);exact b.elim;rename_i x y t t';split at b;rename_i u v I J g;have:=aZ I;subst this;exact abb d h.mem b c (cn h hc J) (cn h hc g);rename_i u v I J g;exact aba d h.mem b c (cn h hc J) (cn h hc g);exact b.elim;rename_i x y t t';split at b;rename_i u v I J g;have:=aZ I;subst this;exact abg d h.mem b c (cn h hc J) (cn h hc g);exact b.elim;split at b;rename_i u I;exact abf d h.mem b c (cn h hc I);exact b.elim;split at b;rename_i u v I J;exact abj d h.mem b c (cn h hc I) (cn h hc J);exact b.elim;exact b.elim
end
inductive Cm
 |q
 |e
 |c
 |no
def uT(P:Program):Op->Cm
 | .call c=>match c.callee with
   | .value _=>.c
   | .builtin .len=>.q
   | .builtin .cap=>.q
   | .builtin .append=>.e
   | .builtin .copy=>.e
   | .builtin .clear=>.e
   | .builtin .min=>.q
   | .builtin .delete=>.e
   |_=>.no
 | .alloc _ | .box _ _ | .makeMap _ _ | .store _ _ _ | .mapUpdate _ _ _ _ | .insert _ _ _ _ | .buildSlice _ _ _ | .makeSlice _ _ _=>.e
 | .convert s _ _=>match P.underlying s with
   |some .string=>.e
   |_=>.q
 | .panic _=>.c
 | .typeAssert _ _ _ _=>.q
 | .move _ | .assign _ | .pick _ _ _ | .binOp _ _ _ _ _ | .unOp _ _ _ | .load _ _ | .fieldAddr _ _ _ | .nilCheck _ | .extract _ _ | .makeFunc _ _ _ | .makeInterface _ _ | .indexAddr _ _ _ | .index _ _ _
   | .slice _ _ _ _ _ | .lookup _ _ _ _ | .field _ _ _ | .build _ _=>.q
 |_=>.no
inductive Ob
 |run
 |skip
 |maybe (a3:Nat) (want b:Bool)
 |cond (a3:Nat) (want:Bool)
 |no
def wh:Bool->Bool->Bool
 |true,true=>true
 |false,false=>true
 |_,_=>false
theorem rG{a b:Bool}:wh a b=true↔a=b:=by cases a<;>cases b<;>simp[wh]
def zh(E:Env)(ops:Array Oper)(f:b5 E.T.El)(n:Nat):Option (Nat×Bool)->Ob
 |none=>.run
 |some (j,want)=>match zl ops j with
  |none=>.no
  |some a3=>match eM a3 n with
   |false=>.no
   |true=>match c6 f.dh a3 with
    |some b=>match wh b want with
     |true=>.run
     |false=>.skip
    |none=>match c6 f.aQ a3 with
     |some (.p (.tuple ⟨[]⟩))=>.skip
     |some (.p (.bool b))=>match E.dA with
      |true=>match wh b want with
       |true=>.run
       |false=>.skip
      |false=>.maybe a3 want b
     |some _=>.no
     |none=>.cond a3 want
section
variable{E:Env}{W w w':World}{ar:List Nat}{X:Nat->Prop}{n:b'}{f:b5 E.T.El}{bl:List (ay E.T.El)}{ρ:List Value}{a:Act}{cur:List (Nat×Bool)}{ops:Array Oper}{o:Oper}
theorem aln{j a3:Nat}{want:Bool}(c:a.tmps.size=n.n)(d:o.guard=some (j,want))(e:(ops[j]?).bind (·.dst)=some a3)(g:eM a3 n.n=true) :
 Region.wanted o (yielded ops a.tmps)=true↔a.tmps.getD a3 undef= .bool want:=by
 have i:a3<n.n:=bW g
 have J:a.tmps[a3]? =some (a.tmps.getD a3 undef):=by rw[iy (by omega)];simp[dP,c,i]
 simp only[Region.wanted,d,yielded,e,ae,J,beq_iff_eq]
 constructor
 ·intro h;split at h;rename_i b ag;simp only[aK]at h ag;rw[ag,h];cases h
 ·intro h;rw[h]
def YA(E:Env)(ops:Array Oper)(o:Oper)(a:Act)(f:b5 E.T.El)(n:Nat):Ob->Prop
 | .run=>Region.wanted o (yielded ops a.tmps)=true
 | .skip=>Region.wanted o (yielded ops a.tmps)=false
 | .maybe a3 want b=>eM a3 n=true/\a.tmps.getD a3 undef= .bool b/\(Region.wanted o (yielded ops a.tmps)=true↔a.tmps.getD a3 undef= .bool want)
 | .cond a3 want=>eM a3 n=true/\(Region.wanted o (yielded ops a.tmps)=true↔a.tmps.getD a3 undef= .bool want)
 | .no=>True
theorem Rp(h:R E W ar X n f bl ρ a w):YA E ops o a f n.n (zh E ops f n.n o.guard):=by
 have l:=h.cV.dO.size;cases k:o.guard with
 |none=>exact xW k
 |some p=>obtain⟨j,want⟩:=p;simp only[zh];split;trivial;rename_i a3 m;have q:=RJ m;split;trivial;rename_i g;have c:=aln (ops:=ops) (o:=o) l k q g;split;rename_i b r;have e:=h.cV.dh _ (jE r);split;rename_i ag;rw[rG]at ag;subst ag;exact c.2 e;rename_i ag;refine(hA).2 λ d=>?_;have:=c.1 d;rw[e]at this;injection this with this;rw[rG.2 this]at ag;cases ag;split;rename_i i;have e:=h.cV.dO.get _ _ i;simp only[aq]at e;refine(hA).2 λ d=>?_;have:=c.1 d;rw[e]at this;cases this;rename_i b i;have e:=h.cV.dO.get _ _ i;simp only[aq]at e;split;split;rename_i ag;rw[rG]at ag;subst ag;exact c.2 e;rename_i ag;refine(hA).2 λ d=>?_;have:=c.1 d;rw[e]at this;injection this with this;rw[rG.2 this]at ag;cases ag;exact⟨g,e,c⟩;trivial;exact⟨g,c⟩
end
section
variable{α:Type}{β:Type 1}
def oy(l:List α)(k:List α->β):β:=List.rec (motive:=λ _=>(List α->β)->β) (λ k=>k []) (λ p _ a k=>a λ r=>k (p::r)) l k
theorem H3(l:List α):∀k:List α->β,oy l k=k l:=by
 induction l with
 |nil=>exact λ k=>rfl
 |cons p r a=>exact λ k=>a λ r=>k (p::r)
def mn(n:Nat)(k:Nat->β):β:=Nat.casesOn (motive:=λ _=>β) n (k 0) λ m=>k (Nat.succ m)
theorem Dc(n:Nat)(k:Nat->β):mn n k=k n:=by cases n<;>rfl
def Db(n:Int)(k:Int->β):β:=Int.casesOn (motive:=λ _=>β) n (λ m=>mn m λ m=>k (Int.ofNat m)) (λ m=>mn m λ m=>k (Int.negSucc m))
theorem Rh(n:Int)(k:Int->β):Db n k=k n:=by cases n;rename_i m;exact Dc m λ m=>k (Int.ofNat m);rename_i m;exact Dc m λ m=>k (Int.negSucc m)
def Rg(b:Bool)(k:Bool->β):β:=Bool.casesOn (motive:=λ _=>β) b (k false) (k true)
theorem abR(b:Bool)(k:Bool->β):Rg b k=k b:=by cases b<;>rfl
def H4(v:Value)(k:Value->β):β:=match v with
 | .int i n=>Db n λ n=>k (.int i n)
 | .bool b=>Rg b λ b=>k (.bool b)
 |v=>k v
theorem abV(v:Value)(k:Value->β):H4 v k=k v:=by unfold H4;split;exact Rh _ _;exact abR _ _;rfl
variable{El:Nat->Type}
def H5(y:aD El)(k:aD El->β):β:=match y with
 | .p v=>H4 v λ v=>k (.p v)
 | .b i o=>mn i λ i=>mn o λ o=>k (.b i o)
 | .r i g=>mn i λ i=>mn g λ g=>k (.r i g)
 | .v i g lo hi=>mn i λ i=>mn g λ g=>Db lo λ lo=>Db hi λ hi=>k (.v i g lo hi)
 | .s t l=>oy l λ l=>k (.s t l)
 | .a l=>oy l λ l=>k (.a l)
 |y=>k y
theorem abW(y:aD El)(k:aD El->β):H5 y k=k y:=by unfold H5;split<;>simp only[abV,Dc,Rh,H3]
def Da(B:ay El)(k:ay El->β):β:=match B with
 | .c ty cs=>oy cs λ cs=>k (.c ty cs)
 | .r t g n l=>mn g λ g=>mn n λ n=>oy l λ l=>k (.r t g n l)
 | .k t sz g cs=>mn g λ g=>oy cs λ cs=>k (.k t sz g cs)
 | .m kt vt d=>oy d λ d=>k (.m kt vt d)
 |B=>k B
theorem abT(B:ay El)(k:ay El->β):Da B k=k B:=by unfold Da;split<;>simp only[Dc,H3]
def C'(ws:List Nat)(b:Nat)(l:List (ay El)):Nat->(List (ay El)->β)->β:=List.rec (motive:=λ _=>Nat->(List (ay El)->β)->β) (λ _ k=>k []) (λ B _ a n k=>cond (ev ws n||hX b n) (Da B λ B=>a (n+1) λ r=>k (B::r)) (a (n+1) λ r=>k (B::r))) l
theorem abS(ws:List Nat)(a:Nat)(l:List (ay El)):∀(n:Nat)(k:List (ay El)->β),C' ws a l n k=k l:=by
 induction l with
 |nil=>exact λ n k=>rfl
 |cons B r b=>
  intro n k;show cond (ev ws n||hX a n) (Da B λ B=>C' ws a r (n+1) λ r=>k (B::r)) (C' ws a r (n+1) λ r=>k (B::r))=_
  rw[abT,b];cases ev ws n||hX a n<;>rfl
def H2(f:b5 El)(k:b5 El->β):β:=match f with
 |⟨(d,y)::r,gs,dh⟩=>H5 y λ y=>oy r λ r=>oy gs λ gs=>oy dh λ dh=>k ⟨(d,y)::r,gs,dh⟩
 |f=>k f
theorem abU(f:b5 El)(k:b5 El->β):H2 f k=k f:=by unfold H2;split<;>simp only[abW,H3]
end
def o5(E:Env){β:Type 1}(f:b5 E.T.El)(k:b5 E.T.El->β):β:=match E.dA with
 |true=>H2 f k
 |false=>k f
theorem mQ{E:Env}{β:Type 1}(f:b5 E.T.El)(k:b5 E.T.El->β):o5 E f k=k f:=by unfold o5;split;exact abU f k;rfl
def sS(E:Env){β:Type 1}(ws:List Nat)(a:Nat)(l:List (ay E.T.El))(k:List (ay E.T.El)->β):β:=match E.dA with
 |true=>C' ws a l 0 k
 |false=>k l
theorem vf{E:Env}{β:Type 1}(ws:List Nat)(a:Nat)(l:List (ay E.T.El))(k:List (ay E.T.El)->β):sS E ws a l k=k l:=by unfold sS;split;exact abS ws a l 0 k;rfl
end a8
