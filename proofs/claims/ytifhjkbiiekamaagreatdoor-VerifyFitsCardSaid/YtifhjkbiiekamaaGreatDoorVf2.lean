/- Part 2 of the proof that is ended in the last text: small logic, what the functions compute, walks, plain laws. -/
import Derived.Test.YtifhjkbiiekamaaGreatDoorVf1
import Derived.Lib.AppendStr
import Derived.Lib.UnsafeStr
import Derived.Lib.Builder
import Derived.Laws.Externs
import Derived.LaidEql
import Derived.WalkSmall
import Derived.Laws.IdiomCopy
import Derived.Lib.SliceRun
open Array renaming getD_eq_getD_getElem?->df,getElem?_eq_getElem->iH,getElem?_eq_none->hA,getElem?_eq_some_iff->ee,getElem?_modify->j0,getElem?_setIfInBounds->d_,getElem?_toList->g5,toList_inj->ll
open Bool renaming and_eq_true->bM,eq_false_iff->gA,false_eq_true->hT,or_eq_false_iff->ke,or_eq_true->h1
open Int renaming eq_ofNat_of_zero_le->jQ,le_refl->k2,toNat_natCast->kZ
open List renaming all_eq_true->jX,append_assoc->ja,cons.injEq->hH,cons_append->iQ,drop_zero->kv,eq_nil_of_length_eq_zero->g9,ext_getElem?->jO,getElem?_append->lq,getElem?_append_left->eF,getElem?_append_right->eW,getElem?_cons_zero->dm,getElem?_drop->je,getElem?_eq_getElem->bx,getElem?_eq_none->gM,getElem?_eq_some_iff->bg,getElem?_map->kc,getElem?_set_ne->iu,getElem?_set_self->fS,getElem?_take->ht,length_append->fz,length_cons->dp,length_drop->kp,length_map->jc,length_replicate->jp,length_set->lv,length_take->fM,map_cons->eZ,map_nil->h6,map_toArray->gg,mem_append->de,mem_cons->cU,mem_cons_of_mem->fD,mem_flatMap->hn,mem_map->kg,mem_of_getElem?->bR,mem_singleton->ft,replicate->f_,set_getElem_self->lp,take_append->kj,take_append_drop->iJ,take_length->jY,take_of_length_le->hF,take_succ_cons->jn
open Nat renaming add_assoc->jo,add_mul->iW,beq->b2,ble->hR,blt->eh,decEq->kJ,eq_of_beq_eq_true->a8,eq_zero_or_pos->kU,le_mul_of_pos_right->kY,le_of_ble_eq_true->b_,le_refl->cS,le_trans->eY,lt_of_lt_of_le->dr,lt_or_ge->gw,lt_succ_self->kA,min_eq_left->lu,mul_le_mul_right->jf,mul_one->jZ,zero_add->jJ,zero_le->g_
open Option renaming bind_some->ae,getD_none->iG,getD_some->h2,map_eq_some_iff->cQ,map_none->ie,map_some->fC,some.inj->eG,some.injEq->aM
open Prod renaming mk.injEq->cv
noncomputable section
namespace a9
open Go Go.RowKit aw ad
def ag:Value->List Nat
 | .pointer (some a)=>[a.block]
 | .map (some r)=>[r]
 | .slice (some a) _ (_+1)=>[a.block]
 |_=>[]
def a_{El:Nat->Type}:az El->Value->List Nat
 | .z _ _ _ _,_=>[]
 | .no _,_=>[]
 |_,h=>ag h
def lB{El:Nat->Type}(bl:List (az El))(ρ:List Value)(k:Nat):Prop:=∃(i:Nat)(B:az El)(h:Value),bl[i]? =some B/\ρ[i]? =some h/\k∈a_ B h
def aY{El:Nat->Type}(X:Nat->Prop)(bl:List (az El))(ρ:List Value)(w:World):Nat->Prop:=λ k=>¬X k/\¬lB bl ρ k/\k<w.heap.size
def rowIs(w:World)(t sz:Nat)(h:Value)(n:Nat)(xs:List Value):Prop:=w.ownsRow 0 t sz h n xs\/(n=0/\xs=[]/\∃A,h= .slice A 0 0)
section
variable(T:bD)(F:Nat->Prop)(w:World)
variable(ρ:List Value)(bl:List (az T.El))
def hf:az T.El->Value->Prop
 | .c ty cs,h=>∃g vs,h= .pointer (some ⟨g,0,none⟩)/\w.heap[g]? =some (.cells ⟨vs⟩ ty (0,0))/\aR T F w ρ bl cs vs
 | .r t _ _ l,h=>∃A c xs,h= .slice A l.length c/\rowIs w t (T.ty t).size h l.length xs/\c' (T.ty t) F w xs l
 | .k t sz _ cs,h=>∃A n c xs,h= .slice A n c/\rowIs w t sz h n xs/\aR T F w ρ bl cs xs
 | .z t _ _ l,h=>(bX (T.ty t)).rd F w [h] l
 | .m kt vt d,h=>∃r,h= .map (some r)/\r6 T F w kt vt r d
 | .o Mt,h=>∃g,h= .pointer (some ⟨g,0,none⟩)/\w.heap[g]? =some Mt
 | .no _,_=>True
end
section
variable{T:bD}{F F':Nat->Prop}{w w':World}{ρ ρ':List Value}{bl bl':List (az T.El)}
theorem rowIs.len{t sz n:Nat}{h:Value}{xs:List Value}(e:rowIs w t sz h n xs):xs.length=n*sz:=by rcases e with e |⟨rfl,rfl,_⟩;exact e.1;simp
theorem rowIs.own{t sz n:Nat}{h:Value}{xs:List Value}(e:rowIs w t sz h n xs)(a:0<n):w.ownsRow 0 t sz h n xs:=by rcases e with e |⟨rfl,_⟩;exact e;omega
theorem rowIs.cap{t sz n c:Nat}{A:Option Addr}{xs:List Value}(e:rowIs w t sz (.slice A n c) n xs):n<=c/\c<=maxLen/\(A=none->c=0)/\(0<c->∃g,A=some ⟨g,0,none⟩):=by rcases e with e |⟨rfl,_,b,e⟩;rcases e.2 with⟨I,d⟩|⟨g,cap,cur,I,_,_,J,a,_⟩;simp only[Value.slice.injEq]at I;obtain⟨rfl,rfl,rfl⟩:=I;exact⟨cS _,g_ _,λ _=>rfl,λ h=>by omega⟩;simp only[Value.slice.injEq]at I;obtain⟨rfl,_,rfl⟩:=I;exact⟨J,a,(λ h=>by cases h),λ _=>⟨g,rfl⟩⟩;simp only[Value.slice.injEq]at e;obtain⟨rfl,_,rfl⟩:=e;exact⟨cS _,g_ _,λ _=>rfl,λ h=>by omega⟩
theorem rowIs.later{t sz n c:Nat}{A:Option Addr}{xs:List Value}(e:rowIs w t sz (.slice A n c) n xs)(ap:∀k∈ag (.slice A n c),w'.heap[k]? =w.heap[k]?):rowIs w' t sz (.slice A n c) n xs:=by
 cases c with
 |zero=>
  have I:=e.cap.1;have J:=e.len;have d:n=0:=by omega
  subst d;exact .inr ⟨rfl,g9 (by rw[J];simp),A,rfl⟩
 |succ c=>rcases e with e |⟨rfl,_,f,e⟩;left;have:=(aX.row t sz (.slice A n (c+1)) (f_ n ()) xs).law w w' (λ k b=>ap k (by cases A with|none=>simp[aX.row,Value.ownBlock]at b |some a=>simpa[ag,aX.row,Value.ownBlock]using b));simpa[aX.row]using this (by simpa[aX.row]using e);simp at e
theorem hf.later(b:∀k,F k->F' k/\w'.heap[k]? =w.heap[k]?)(f:j3 T ρ ρ' bl bl'){B:az T.El}{h:Value}(ap:∀k∈a_ B h,w'.heap[k]? =w.heap[k]?)(a:hf T F w ρ bl B h):hf T F' w' ρ' bl' B h:=by
 cases B with
 |c ty cs=>obtain⟨g,vs,rfl,J,e⟩:=a;exact⟨g,vs,rfl,(ap g (by simp[a_,ag])).trans J,aR.later b f cs e⟩
 |r t g k l=>obtain⟨A,c,xs,rfl,J,e⟩:=a;exact⟨A,c,xs,rfl,J.later ap,kz _ b e⟩
 |k t sz g cs=>obtain⟨A,n,c,xs,rfl,J,e⟩:=a;exact⟨A,n,c,xs,rfl,J.later ap,aR.later b f cs e⟩
 |z t g k l=>exact(bX (T.ty t)).law b a
 |m kt vt d=>obtain⟨r,rfl,J⟩:=a;exact⟨r,rfl,J.law b (ap r (by simp[a_,ag]))⟩
 |o Mt=>obtain⟨g,rfl,J⟩:=a;exact⟨g,rfl,(ap g (by simp[a_,ag])).trans J⟩
 |no g=>trivial
end
structure Mem (T:bD) (W:World) (au:List Nat) (X:Nat->Prop) (bl:List (az T.El)) (ρ:List Value) (w:World):Prop where
 bO:a1 au W w
 len:ρ.length=bl.length
 fI:∀k,X k->k<W.heap.size/\k∉au
 lt:∀k,lB bl ρ k->k<w.heap.size/\(k∈au\/W.heap.size<=k)
 a6:∀(i j:Nat)(B C:az T.El)(h g:Value),bl[i]? =some B->ρ[i]? =some h->bl[j]? =some C->ρ[j]? =some g->i≠j->∀k∈a_ B h,k∉a_ C g
 ok:∀(i:Nat)(B:az T.El)(h:Value),bl[i]? =some B->ρ[i]? =some h->hf T (aY X bl ρ w) w ρ bl B h
section
variable{T:bD}{W w w':World}{au:List Nat}{X:Nat->Prop}{bl bl':List (az T.El)}{ρ ρ':List Value}
abbrev Mem.F(_:Mem T W au X bl ρ w):Nat->Prop:=aY X bl ρ w
structure To (X:Nat->Prop) (bl bl':List (az T.El)) (ρ ρ':List Value) (w w':World):Prop where
 F:∀k,aY X bl ρ w k->aY X bl' ρ' w' k/\w'.heap[k]? =w.heap[k]?
 L:j3 T ρ ρ' bl bl'
 sz:w.heap.size<=w'.heap.size
 kR:∀(i:Nat)(B':az T.El)(h':Value),bl'[i]? =some B'->ρ'[i]? =some h'->∀k∈a_ B' h',k<w.heap.size->∃B h,bl[i]? =some B/\ρ[i]? =some h/\k∈a_ B h
theorem To.v(h:To X bl bl' ρ ρ' w w'){y:aE T.El}{v:Value}(a:ar T (aY X bl ρ w) w ρ bl y v):ar T (aY X bl' ρ' w') w' ρ' bl' y v:=a.later h.F h.L
theorem To.vs(h:To X bl bl' ρ ρ' w w'){y:List (aE T.El)}{v:List Value}(a:aR T (aY X bl ρ w) w ρ bl y v):aR T (aY X bl' ρ' w') w' ρ' bl' y v:=aR.later h.F h.L y a
theorem To.trans{b:List (az T.El)}{c:List Value}{w'':World}(h:To X bl bl' ρ ρ' w w')(k:To X bl' b ρ' c w' w''):To X bl b ρ c w w'':=⟨λ q a=>⟨(k.F q (h.F q a).1).1,((k.F q (h.F q a).1).2).trans (h.F q a).2⟩,h.L.trans k.L,eY h.sz k.sz,λ i B' h' hi e q a d=>by obtain⟨uB,I,f,al,aN⟩:=k.kR i B' h' hi e q a (dr d h.sz);exact h.kR i uB I f al q aN d⟩
theorem To.refl:To X bl bl ρ ρ w w:=⟨λ _ h=>⟨h,rfl⟩,.refl,cS _,λ _ B h hi a _ b _=>⟨B,h,hi,a,b⟩⟩
theorem Mem.Bp(a:Mem T W au X bl ρ w){i:Nat}{B:az T.El}(hi:bl[i]? =some B):∃h,ρ[i]? =some h:=by have:=(bg.1 hi).1;exact⟨ρ[i]'(by rw[a.len];exact this),bx _⟩
theorem Mem.Cu(b:a1 [] w w'):To X bl bl ρ ρ w w':=⟨λ k a=>⟨⟨a.1,a.2.1,dr a.2.2 b.size⟩,b.block k a.2.2 (by simp)⟩,.refl,b.size,λ _ B h hi c _ a _=>⟨B,h,hi,c,a⟩⟩
theorem Mem.ez(a:Mem T W au X bl ρ w)(b:a1 [] w w'):Mem T W au X bl ρ w':=⟨a.bO.trans b (by simp),a.len,a.fI,λ k c=>⟨dr (a.lt k c).1 b.size,(a.lt k c).2⟩,a.a6,λ i B h hi d=>(a.ok i B h hi d).later (Mem.Cu b).F .refl λ k c=>b.block k (a.lt k ⟨i,B,h,hi,d,c⟩).1 (by simp)⟩
theorem Mem.wQ(q:Mem T W au X bl ρ w){i:Nat}{B B':az T.El}{h h':Value}(hi:bl[i]? =some B)(d:ρ[i]? =some h)(f:a1 (a_ B h) w w')
 (m:∀k∈a_ B' h',k∈a_ B h\/(w.heap.size<=k/\k<w'.heap.size))
 (o:(¬k6 h->h'=h)/\bJ (some B)<=bJ (some B')/\(bJ (some B')=bJ (some B)->h'=h/\hK T (some B')=hK T (some B)/\fs (some B)<=fs (some B')/\(fs (some B')=fs (some B)->ot (some B')=ot (some B)))) :
 To X bl (bl.set i B') ρ (ρ.set i h') w w':=by
 have l1:=(bg.1 hi).1
 have l:=(bg.1 d).1
 refine⟨λ k b=>⟨⟨b.1,?_,dr b.2.2 f.size⟩,f.block k b.2.2 λ p=>b.2.1 ⟨i,B,h,hi,d,p⟩⟩,⟨λ j u a=>?_⟩,f.size,λ j C g a c k b r=>?_⟩
 ·rintro⟨j,C,g,a,c,n⟩;by_cases e:j=i;subst e;rw[fS l1]at a;rw[fS l]at c;cases a;cases c;rcases m k n with e |e;exact b.2.1 ⟨j,B,h,hi,d,e⟩;have:=b.2.2;omega;rw[iu (Ne.symm e)]at a c;exact b.2.1 ⟨j,C,g,a,c,n⟩
 ·by_cases e:j=i;subst e;rw[d]at a;cases a;refine⟨h',fS l,?_⟩;rw[fS l1,hi];exact o;refine⟨u,by rw[iu (Ne.symm e)];exact a,λ _=>rfl,?_⟩;rw[iu (Ne.symm e)];exact⟨cS _,λ _=>⟨rfl,rfl,cS _,λ _=>rfl⟩⟩
 ·by_cases e:j=i;subst e;rw[fS l1]at a;rw[fS l]at c;cases a;cases c;rcases m k b with e |e;exact⟨B,h,hi,d,e⟩;omega;rw[iu (Ne.symm e)]at a c;exact⟨C,g,a,c,b⟩
theorem Mem.rJ(c:Mem T W au X bl ρ w){i:Nat}{B B':az T.El}{h h':Value}(hi:bl[i]? =some B)(m:ρ[i]? =some h)(n:a1 (a_ B h) w w')
 (s:∀k∈a_ B' h',k∈a_ B h\/(w.heap.size<=k/\k<w'.heap.size))(t:To X bl (bl.set i B') ρ (ρ.set i h') w w')
 (z:hf T (aY X (bl.set i B') (ρ.set i h') w') w' (ρ.set i h') (bl.set i B') B' h'):Mem T W au X (bl.set i B') (ρ.set i h') w':=by
 have l1:=(bg.1 hi).1
 have A:=(bg.1 m).1
 have key:∀ {j:Nat}{C:az T.El}{g:Value},(bl.set i B')[j]? =some C->(ρ.set i h')[j]? =some g->(j=i/\C=B'/\g=h')\/(j≠i/\bl[j]? =some C/\ρ[j]? =some g):=λ{j C g} l f=>by by_cases e:j=i;subst e;rw[fS l1]at l;rw[fS A]at f;cases l;cases f;exact .inl ⟨rfl,rfl,rfl⟩;rw[iu (Ne.symm e)]at l f;exact .inr ⟨e,l,f⟩
 refine⟨c.bO.trans n λ k d=>(c.lt k ⟨i,B,h,hi,m,d⟩).2,by simp[c.len],c.fI,?_,?_,?_⟩
 ·rintro k ⟨j,C,g,l,f,d⟩;rcases key l f with⟨rfl,rfl,rfl⟩|⟨_,I,J⟩;rcases s k d with e |e;have:=c.lt k ⟨j,B,h,hi,m,e⟩;exact⟨dr this.1 n.size,this.2⟩;exact⟨e.2,.inr (eY c.bO.size e.1)⟩;have:=c.lt k ⟨j,C,g,I,J,d⟩;exact⟨dr this.1 n.size,this.2⟩
 ·intro a b C D g u E f v x o k d p;rcases key E f with⟨rfl,rfl,rfl⟩|⟨y,I,J⟩;rcases key v x with⟨rfl,_⟩|⟨al,q,r⟩;exact o rfl;rcases s k d with e |e;exact c.a6 _ _ _ _ _ _ hi m q r o k e p;have:=(c.lt k ⟨b,D,u,q,r,p⟩).1;omega;rcases key v x with⟨rfl,rfl,rfl⟩|⟨al,q,r⟩;rcases s k p with e |e;exact c.a6 _ _ _ _ _ _ I J hi m o k d e;have:=(c.lt k ⟨a,C,g,I,J,d⟩).1;omega;exact c.a6 _ _ _ _ _ _ I J q r o k d p
 ·intro j C g l f;rcases key l f with⟨rfl,rfl,rfl⟩|⟨y,I,J⟩;exact z;exact(c.ok j C g I J).later t.F t.L λ k d=>n.block k (c.lt k ⟨j,C,g,I,J,d⟩).1 λ F=>c.a6 _ _ _ _ _ _ I J hi m y k d F
theorem Mem.uh(d:Mem T W au X bl ρ w){B:az T.El}{h:Value}(f:a1 [] w w')(i:∀k∈a_ B h,w.heap.size<=k/\k<w'.heap.size):To X bl (bl++[B]) ρ (ρ++[h]) w w':=by
 refine⟨λ k c=>⟨⟨c.1,?_,dr c.2.2 f.size⟩,f.block k c.2.2 (by simp)⟩,⟨λ j u a=>?_⟩,f.size,λ j C g a b k c m=>?_⟩
 ·rintro⟨j,C,g,a,b,l⟩;rcases gw j bl.length with e |e;rw[eF e]at a;rw[eF (by rw[d.len];exact e)]at b;exact c.2.1 ⟨j,C,g,a,b,l⟩
  ·rw[eW e]at a;rw[eW (by rw[d.len];exact e),d.len]at b;cases aC:j-bl.length with
   |zero=>rw[aC]at a b;simp only[dm,aM]at a b;subst a;subst b;have:=(i k l).1;have:=c.2.2;omega
   |succ q=>rw[aC]at a;simp at a
 ·have e:=(bg.1 a).1;have e':j<bl.length:=by rw[<-d.len];exact e
  refine⟨u,by rw[eF e];exact a,λ _=>rfl,?_⟩;rw[eF e'];exact⟨cS _,λ _=>⟨rfl,rfl,cS _,λ _=>rfl⟩⟩
 ·rcases gw j bl.length with e |e;rw[eF e]at a;rw[eF (by rw[d.len];exact e)]at b;exact⟨C,g,a,b,c⟩
  ·rw[eW e]at a;rw[eW (by rw[d.len];exact e),d.len]at b;cases aC:j-bl.length with
   |zero=>rw[aC]at a b;simp only[dm,aM]at a b;subst a;subst b;have:=(i k c).1;omega
   |succ q=>rw[aC]at a;simp at a
theorem Mem.push(c:Mem T W au X bl ρ w){B:az T.El}{h:Value}(m:a1 [] w w')(l:∀k∈a_ B h,w.heap.size<=k/\k<w'.heap.size)
 (x:hf T (aY X (bl++[B]) (ρ++[h]) w') w' (ρ++[h]) (bl++[B]) B h):Mem T W au X (bl++[B]) (ρ++[h]) w':=by
 have r:=c.uh m l (B:=B) (h:=h)
 have key:∀ {j:Nat}{C:az T.El}{g:Value},(bl++[B])[j]? =some C->(ρ++[h])[j]? =some g->(j=bl.length/\C=B/\g=h)\/(j<bl.length/\bl[j]? =some C/\ρ[j]? =some g):=λ{j C g} d f=>by
  rcases gw j bl.length with e |e;rw[eF e]at d;rw[eF (by rw[c.len];exact e)]at f;exact .inr ⟨e,d,f⟩
  ·rw[eW e]at d;rw[eW (by rw[c.len];exact e),c.len]at f;cases aC:j-bl.length with
   |zero=>rw[aC]at d f;simp only[dm,aM]at d f;exact .inl ⟨by omega,d.symm,f.symm⟩
   |succ q=>rw[aC]at d;simp at d
 refine⟨c.bO.trans m (by simp),by simp[c.len],c.fI,?_,?_,?_⟩
 ·rintro k ⟨j,C,g,d,f,i⟩;rcases key d f with⟨rfl,rfl,rfl⟩|⟨_,I,J⟩;exact⟨(l k i).2,.inr (eY c.bO.size (l k i).1)⟩;have:=c.lt k ⟨j,C,g,I,J,i⟩;exact⟨dr this.1 m.size,this.2⟩
 ·intro a b C D g u y f s t v k i n;rcases key y f with⟨rfl,rfl,rfl⟩|⟨z,I,J⟩;rcases key s t with⟨rfl,_⟩|⟨al,o,p⟩;exact v rfl;have:=(c.lt k ⟨b,D,u,o,p,n⟩).1;have:=(l k i).1;omega;rcases key s t with⟨rfl,rfl,rfl⟩|⟨al,o,p⟩;have:=(c.lt k ⟨a,C,g,I,J,i⟩).1;have:=(l k n).1;omega;exact c.a6 _ _ _ _ _ _ I J o p v k i n
 ·intro j C g d f;rcases key d f with⟨rfl,rfl,rfl⟩|⟨z,I,J⟩;exact x;exact(c.ok j C g I J).later r.F r.L λ k i=>m.block k (c.lt k ⟨j,C,g,I,J,i⟩).1 (by simp)
end
def dk{α:Type}:List (Nat×α)->Nat->Option α
 |[],_=>none
 |p::r,t=>match b2 p.1 t with
  |true=>some p.2
  |false=>dk r t
structure oF (T:bD) (F:Nat->Prop) (w:World) (ρ:List Value) (bl:List (az T.El)) (n:cm) (aQ:List (Nat×aE T.El)) (a:Act):Prop where
 size:a.tmps.size=n.n
 defers:a.defers=n.ds
 get:∀t y,dk aQ t=some y->ar T F w ρ bl y (a.tmps.getD t undef)
section
variable{T:bD}{F F':Nat->Prop}{w w':World}{ρ ρ':List Value}{bl bl':List (az T.El)}{n:cm}{aQ:List (Nat×aE T.El)}{a:Act}
theorem oF.later(b:∀k,F k->F' k/\w'.heap[k]? =w.heap[k]?)(c:j3 T ρ ρ' bl bl')(h:oF T F w ρ bl n aQ a):oF T F' w' ρ' bl' n aQ a:=⟨h.size,h.defers,λ t y hy=>(h.get t y hy).later b c⟩
theorem sC{a:Act}{d t:Nat}{v:Value}(aC:d<a.tmps.size):(a.put (some d) v).tmps.getD t undef=if d=t then v else a.tmps.getD t undef:=by simp only[Act.put,df,d_];by_cases e:d=t;subst e;simp[aC];simp[e]
theorem oF.put{d:Nat}{y:aE T.El}{v:Value}(h:oF T F w ρ bl n aQ a)(aC:eh d n.n=true)(c:ar T F w ρ bl y v):oF T F w ρ bl n ((d,y)::aQ) (a.put (some d) v):=by
 have f:d<n.n:=b_ aC;refine⟨by simpa[Act.put]using h.size,h.defers,λ t z b=>?_⟩;rw[sC (by rw[h.size];exact f)];simp only[dk]at b;cases ag:b2 d t with
 |true=>rw[ag]at b;simp only[aM]at b;rw[lH (a8 ag),<-b];exact c
 |false=>rw[ag]at b;rw[lG (λ e=>by subst e;simp at ag)];exact h.get t z b
def lg{α:Type}:List (Nat×α)->Nat->List (Nat×α)
 |[],_=>[]
 |p::r,t=>match b2 p.1 t with
  |true=>lg r t
  |false=>p::lg r t
theorem E_{α:Type}{d t:Nat}{y:α}:∀ {aQ:List (Nat×α)},dk (lg aQ d) t=some y->t≠d/\dk aQ t=some y
 |[],h=>by simp[lg,dk]at h
 |p::r,h=>by
  simp only[lg]at h;cases ag:b2 p.1 d with
  |true=>
   rw[ag]at h;obtain⟨I,J⟩:=E_ h;refine⟨I,?_⟩;simp only[dk];cases hc:b2 p.1 t with
   |true=>exact absurd ((a8 hc).symm.trans (a8 ag)) I
   |false=>exact J
  |false=>
   rw[ag]at h;simp only[dk]at h⊢;cases hc:b2 p.1 t with
   |true=>rw[hc]at h;refine⟨λ e=>?_,h⟩;rw[a8 hc,e]at ag;simp at ag
   |false=>rw[hc]at h;exact E_ h
theorem oF.Gi{d:Nat}{v:Value}(h:oF T F w ρ bl n aQ a)(aC:eh d n.n=true):oF T F w ρ bl n (lg aQ d) (a.put (some d) v):=by have b:d<n.n:=b_ aC;refine⟨by simpa[Act.put]using h.size,h.defers,λ t z c=>?_⟩;obtain⟨I,J⟩:=E_ c;rw[sC (by rw[h.size];exact b),lG (Ne.symm I)];exact h.get t z J
end
end a9
namespace ad
def dK{α β cx:Type}(o:Option (α⊕β))(k:α->Option cx)(l:β->Option cx):Option cx:=match o with
 |none=>none
 |some (.inl a)=>k a
 |some (.inr b)=>l b
end ad
namespace a9
open Go Go.RowKit aw ad
inductive D (α:Type):Type 1
 |ok (a:α)
 |no
 |op {β:Type} (o:Option β) (k:β->D α)
 |mB (c:Bool) (x y:D α)
 |pL {β cx:Type} (o:Option (β⊕cx)) (k:β->D α) (l:cx->D α)
def D.bind{α β:Type}:D α->(α->D β)->D β
 | .ok a,f=>f a
 | .no,_=>.no
 | .op o k,f=>.op o λ b=>(k b).bind f
 | .mB c x y,f=>.mB c (x.bind f) (y.bind f)
 | .pL o k l,f=>.pL o (λ b=>(k b).bind f) (λ c=>(l c).bind f)
def D.run{α ρ:Type}:D α->(α->Option ρ)->Option ρ
 | .ok a,K=>K a
 | .no,_=>none
 | .op o k,K=>o.bind λ b=>(k b).run K
 | .mB c x y,K=>cond c (x.run K) (y.run K)
 | .pL o k l,K=>dK o (λ b=>(k b).run K) (λ c=>(l c).run K)
def D.out{α:Type}:D α->α->Prop
 | .ok b,a=>b=a
 | .no,_=>False
 | .op o k,a=>∃b,o=some b/\(k b).out a
 | .mB c x y,a=>(c=true/\x.out a)\/(c=false/\y.out a)
 | .pL o k l,a=>(∃b,o=some (.inl b)/\(k b).out a)\/(∃c,o=some (.inr c)/\(l c).out a)
theorem D.rG{α ρ:Type}{r:ρ}:∀ {d:D α}{K:α->Option ρ},d.run K=some r->∃a,d.out a/\K a=some r
 | .ok a,K,h=>⟨a,rfl,h⟩
 | .no,K,h=>by cases h
 | .op o k,K,h=>by obtain⟨b,I,J⟩:=fR h;obtain⟨a,e,f⟩:=D.rG J;exact⟨a,⟨b,I,e⟩,f⟩
 | .mB c x y,K,h=>by
   cases c with
   |true=>obtain⟨a,e,f⟩:=D.rG (d:=x) h;exact⟨a,.inl ⟨rfl,e⟩,f⟩
   |false=>obtain⟨a,e,f⟩:=D.rG (d:=y) h;exact⟨a,.inr ⟨rfl,e⟩,f⟩
 | .pL o k l,K,h=>by
   cases o with
   |none=>cases h
   |some s=>
    cases s with
    |inl b=>obtain⟨a,e,f⟩:=D.rG (d:=k b) h;exact⟨a,.inl ⟨b,rfl,e⟩,f⟩
    |inr c=>obtain⟨a,e,f⟩:=D.rG (d:=l c) h;exact⟨a,.inr ⟨c,rfl,e⟩,f⟩
theorem D.fc{α β:Type}:∀ {d:D α}{f:α->D β}{b:β},(d.bind f).out b->∃a,d.out a/\(f a).out b
 | .ok a,f,b,h=>⟨a,rfl,h⟩
 | .no,f,b,h=>h.elim
 | .op o k,f,b,h=>by obtain⟨x,I,J⟩:=h;obtain⟨a,e,g⟩:=D.fc J;exact⟨a,⟨x,I,e⟩,g⟩
 | .mB c x y,f,b,h=>by rcases h with⟨I,J⟩|⟨I,J⟩;obtain⟨a,e,g⟩:=D.fc J;exact⟨a,.inl ⟨I,e⟩,g⟩;obtain⟨a,e,g⟩:=D.fc J;exact⟨a,.inr ⟨I,e⟩,g⟩
 | .pL o k l,f,b,h=>by rcases h with⟨x,I,J⟩|⟨x,I,J⟩;obtain⟨a,e,g⟩:=D.fc J;exact⟨a,.inl ⟨x,I,e⟩,g⟩;obtain⟨a,e,g⟩:=D.fc J;exact⟨a,.inr ⟨x,I,e⟩,g⟩
def D.of{α:Type}:Option α->D α
 |some a=>.ok a
 |none=>.no
theorem D.mb{α:Type}{o:Option α}{a:α}(h:(D.of o).out a):o=some a:=by
 cases o with
 |none=>exact h.elim
 |some b=>exact congrArg some h
structure Env where
 P:Program
 T:bD
 eg:List (Nat×aE T.El)
 dO:Bool
 b3:List Nat
 iY:Nat
 zR:List UInt8->List (T.El iY)
def lay(P:Program)(t:TypeId):Option (Bool×Nat):=match P.underlying t,P.info? t with
 |some (.struct _),some i=>some (true,i.size)
 |some (.array _ _),some i=>some (true,i.size)
 |some _,some i=>some (false,i.size)
 |_,_=>none
theorem run_sizeOf{P:Program}{t:TypeId}{i:TypeInfo}(h:P.info? t=some i)(w:World):(Go.sizeOf t).run P w= .ok i.size w:=by simp[Go.sizeOf,typeInfo,go_sem,h]
theorem Bo{P:Program}{t:TypeId}{b:Bool}{n:Nat}(h:lay P t=some (b,n)):(∀w,(isAgg t).run P w= .ok b w)/\∀w,(Go.sizeOf t).run P w= .ok n w:=by
 unfold lay at h;split at h;rename_i I J;simp only[aM,cv]at h;obtain⟨rfl,rfl⟩:=h;exact⟨λ w=>by simp[isAgg,run_underlying I],run_sizeOf J⟩;rename_i I J;simp only[aM,cv]at h;obtain⟨rfl,rfl⟩:=h;exact⟨λ w=>by simp[isAgg,run_underlying I],run_sizeOf J⟩;rename_i d i a c I J;simp only[aM,cv]at h;obtain⟨rfl,rfl⟩:=h;refine⟨λ w=>?_,run_sizeOf J⟩;simp only[isAgg,Sem.run_bind,run_underlying I,Result.andThen_ok];cases d<;>first |rfl |(exact absurd I (by simpa using a _))|(exact absurd I (by simpa using c _ _))
 ·cases h
def iM:Option TypeDesc->Option kF
 |some (.int k)=>some (.i k)
 |some .bool=>some .b
 |some .string=>some .s
 |some (.slice _)=>some .cd
 |_=>none
theorem qY{P:Program}{t:TypeId}{k:kF}(h:iM (P.underlying t)=some k):k.ok P t:=by unfold iM at h;split at h<;>simp only[aM,reduceCtorEq]at h<;>subst h;rename_i h;exact h;rename_i h;exact h;rename_i h;exact h;rename_i e h;exact⟨e,h⟩
def Ea(P:Program)(s j:Nat):Option (Nat×Nat×Nat):=match P.underlying s with
 |some (.struct b3)=>match nth b3.toList j with
  |some f=>match P.info? f.type with
   |some i=>match b2 i.size 0 with
    |true=>none
    |false=>some (f.offset,f.type,i.size)
   |none=>none
  |none=>none
 |_=>none
theorem Sn{P:Program}{s j off t n:Nat}(h:Ea P s j=some (off,t,n)):∃b3 f,P.underlying s=some (.struct b3)/\b3[j]? =some f/\f.offset=off/\f.type=t/\(∀w,(Go.sizeOf f.type).run P w= .ok n w)/\b2 n 0=false:=by unfold Ea at h;split at h;rename_i b3 I;split at h;rename_i f J;split at h;rename_i i a;split at h;cases h;rename_i b;simp only[aM,cv]at h;obtain⟨rfl,rfl,rfl⟩:=h;rw[cH,g5]at J;exact⟨b3,f,I,J,rfl,rfl,run_sizeOf a,b⟩;cases h;cases h;cases h
section
variable{El:Nat->Type}
def j8(cs:List (aE El))(o:Nat):Bool×Nat->Option (aE El)
 |(false,_)=>nth cs o
 |(true,n)=>match hR (o+n) cs.length with
  |true=>some (.a ((cs.drop o).take n))
  |false=>none
end
section
variable{T:bD}{F:Nat->Prop}{w:World}{ρ:List Value}{bl:List (az T.El)}{P:Program}
theorem xH{cs:List (aE T.El)}{o a q t:Nat}{d:Bool×Nat}{y:aE T.El}{vs:List Value}(m:lay P t=some d)(h:j8 cs o d=some y)(e:aR T F w ρ bl cs vs)(hc:ev w ⟨a,q,none⟩ vs) :
 ∃v us,ar T F w ρ bl y v/\ev w ⟨a,q+o,none⟩ us/\∀(op:Oper)(ac:Act)(x:Operand)(w':World),op.op= .load t x->ac.eval x= .pointer (some ⟨a,q+o,none⟩)->ev w' ⟨a,q+o,none⟩ us->aS P op ac w' v w':=by
 obtain⟨b,n⟩:=d
 have f:=Bo m
 cases b with
 |false=>
  simp only[j8]at h;rw[cH]at h;obtain⟨v,I,J⟩:=e.at_ h;refine⟨v,[v],J,λ j u c=>?_,λ op ac x w' g i k=>O9 f.1 g i (by simpa using k 0 v rfl)⟩;cases j with
  |zero=>simp only[dm,aM]at c;subst c;simpa using hc o v I
  |succ j=>simp at c
 |true=>simp only[j8]at h;split at h;rename_i ag;simp only[aM]at h;subst h;have p:=b_ ag;have l:=e.len;refine⟨.agg ⟨(vs.drop o).take n⟩,(vs.drop o).take n,?_,λ j u c=>?_,λ op ac x w' g i k=>X4 f.1 f.2 (by simp;omega) g i k⟩;simp only[ar];exact⟨_,rfl,aR.take n (aR.drop o e)⟩;rw[ht]at c;split at c;rw[je]at c;have:=hc (o+j) u c;simpa[jo]using this;cases c;cases h
end
structure p_ (T:bD):Prop where
 cs:∀t d F w xs,(T.ty t).rd F w xs d->aR T F w [] [] ((T.e t).cs d) xs
 fH:∀t aO d,(T.e t).fH aO=some d->∀F w ρ bl xs,aR T F w ρ bl aO xs->(T.ty t).rd F w xs d
 key:∀t K,(T.e t).key=some K->∀F w xs k,(T.ty t).rd F w xs k->tK (T.e t).agg xs= @iU.enc _ K.dec K.mZ k
 one:∀t,(T.e t).agg=false->∀d,((T.e t).cs d).length=1
 vl:∀t e f,(T.e t).vl=some ⟨e,f⟩->∀d F w xs,(T.ty t).rd F w xs d->c' (T.ty e) F w xs (f d)
def bD.val(T:bD)(t:Nat)(d:T.El t):aE T.El:=match(T.e t).agg with
 |true=>.a ((T.e t).cs d)
 |false=>((T.e t).cs d).headD (.p undef)
structure cJ (E:Env):Prop where
 tb:p_ E.T
 call:∀f∈E.b3,∀args w,(callFunc f args).run E.P w= .ok (.enter f args) w
 ajA:E.P.follows .mixedOrders=true
 PY:∀l,(E.zR l).length=l.length
 aa5:∀F w l xs,c' GB F w xs l->c' (E.T.ty E.iY) F w xs (E.zR l)
 eq:∀t f,(E.T.e t).eq=some f->∀F w xs ys d e,(E.T.ty t).rd F w xs d->(E.T.ty t).rd F w ys e->∀(o:Oper)(a:Act)(x y:Operand)(t':TypeId)(b:Bool),o.op= .binOp (cond b .eql .neq) t x y t'->a.eval x= .agg ⟨xs⟩->a.eval y= .agg ⟨ys⟩->∀w',aS E.P o a w' (.bool (cond b (f d e) (!f d e))) w'
section
variable{T:bD}{F:Nat->Prop}{w:World}{ρ:List Value}{bl:List (az T.El)}
theorem aiU{w:World}{F:Nat->Prop}{l:List (aE T.El)}{vs:List Value}(h:aR T F w [] [] l vs):aR T F w ρ bl l vs:=aR.later (λ _ h=>⟨h,rfl⟩) ⟨λ i h hi=>by simp at hi⟩ l h
theorem p_.cells(a:p_ T){t:Nat}{d:T.El t}{xs:List Value}(h:(T.ty t).rd F w xs d):aR T F w ρ bl ((T.e t).cs d) xs:=aiU (a.cs t d F w xs h)
theorem p_.val(a:p_ T){t:Nat}{d:T.El t}{xs:List Value}(h:(T.ty t).rd F w xs d):ar T F w ρ bl (T.val t d) (tK (T.e t).agg xs):=by
 have hc:=a.cells (ρ:=ρ) (bl:=bl) h;unfold bD.val;cases b:(T.e t).agg with
 |true=>simp only[ar,tK];exact⟨xs,rfl,hc⟩
 |false=>
  have I:=a.one t b d;cases hcs:(T.e t).cs d with
  |nil=>rw[hcs]at I;simp at I
  |cons y r=>rw[hcs]at hc;simp only[aR]at hc;obtain⟨u,us,rfl,c,_⟩:=hc;exact c
def MI{El:Nat->Type}:aE El->Nat->Option (aE El)
 | .b i o,n=>some (.b i (o+n))
 | .x t d o,n=>some (.x t d (o+n))
 | .e i g k t j d o,n=>some (.e i g k t j d (o+n))
 | .w i g o,n=>some (.w i g (o+n))
 |_,_=>none
def FX{El:Nat->Type}(gs:Nat->Nat):aE El->Bool
 | .b _ _=>true
 | .x _ _ _=>true
 | .e i g _ _ _ _ _=>b2 g (gs i)
 | .w i g _=>b2 g (gs i)
 |_=>false
def o3{El:Nat->Type}(bl:List (az El))(i:Nat):Nat:=bJ (nth bl i)
theorem vx{El:Nat->Type}(bl:List (az El))(i:Nat):o3 bl i=bJ bl[i]? :=by rw[o3,cH]
theorem akG{y k:aE T.El}{n:Nat}{v:Value}(hi:FX (o3 bl) y=true)(h:MI y n=some k)(b:ar T F w ρ bl y v):∃g o,v= .pointer (some ⟨g,o,none⟩)/\ar T F w ρ bl k (.pointer (some ⟨g,o+n,none⟩)):=by cases y<;>simp only[MI,aM,reduceCtorEq]at h<;>subst h;simp only[ar]at b;obtain⟨g,I,J⟩:=b;refine⟨g,_,J,?_⟩;simp only[ar];exact⟨g,I,rfl⟩;simp only[ar]at b;obtain⟨a,q,cs,I,J,d,l⟩:=b;refine⟨a,_,I,?_⟩;simp only[ar];exact⟨a,q,cs,by rw[jo],J,d,l⟩;simp only[ar]at b;obtain⟨_,u,I,J,d⟩:=b;simp only[FX]at hi;have hi:=a8 hi;rw[vx]at hi;obtain⟨⟨A,e,c,f,i,m,j⟩,p,r⟩:=d hi;refine⟨_,_,j,?_⟩;simp only[ar];exact⟨trivial,u,I,J,λ _=>⟨⟨A,e,c,f,i,m,by rw[jo]⟩,p,r⟩⟩;simp only[ar]at b;obtain⟨_,u,I,J,d⟩:=b;simp only[FX]at hi;have hi:=a8 hi;rw[vx]at hi;obtain⟨A,e,c,f,i,j⟩:=d hi;refine⟨_,_,j,?_⟩;simp only[ar];exact⟨trivial,u,I,J,λ _=>⟨A,e,c,f,i,rfl⟩⟩
def nm{El:Nat->Type}(bl:List (az El)):aE El->aE El
 | .r i g=>match nth bl i with
   |some (.z t g' _ l)=>match b2 g g' with
    |true=>.s t l
    |false=>.r i g
   |_=>.r i g
 |y=>y
end
section
variable{T:bD}{W w:World}{au:List Nat}{X:Nat->Prop}{bl:List (az T.El)}{ρ:List Value}
theorem FE(c:Mem T W au X bl ρ w){y:aE T.El}{v:Value}(a:ar T (aY X bl ρ w) w ρ bl y v):ar T (aY X bl ρ w) w ρ bl (nm bl y) v:=by
 cases y with
 |r i g=>simp only[nm];split;rename_i t g' k l hi;rw[cH]at hi;split;rename_i ag;have ag:=a8 ag;simp only[ar]at a⊢;obtain⟨_,h,I,J,b⟩:=a;rw[hi]at b;have:=b ag;subst this;exact c.ok i _ _ hi I;exact a;exact a
 |_=>exact a
def xR(E:Env)(bl:List (az E.T.El))(t:Nat):aE E.T.El->D (aE E.T.El)
 | .b i o=>match nth bl i,lay E.P t with
   |some (.c _ cs),some a=>.of (j8 cs o a)
   |_,_=>.no
 | .x t' d o=>match lay E.P t with
   |some a=>.of (j8 ((E.T.e t').cs d) o a)
   |none=>.no
 | .e i g k t' j d o=>match nth bl i,lay E.P t with
   |some (.r c b e l),some a=>match b2 g b,b2 k e with
    |true,true=>.of (j8 ((E.T.e t').cs d) o a)
    |true,false=>.op (idx l j) λ d'=>.of (j8 ((E.T.e c).cs d') o a)
    |_,_=>.no
   |_,_=>.no
 | .w i g o=>match nth bl i,lay E.P t with
   |some (.k _ _ b cs),some a=>match b2 g b with
    |true=>.of (j8 cs o a)
    |false=>.no
   |_,_=>.no
 | .tR i g sz q=>match nth bl i,lay E.P t with
   |some (.r c b e l),some a=>match b2 g b&&b2 sz (E.T.ty c).size with
    |true=>.op (idx l q) λ d=>.of (j8 [.e i g e c q d 0] 0 a)
    |false=>.no
   |_,_=>.no
 |_=>.no
def LH{El:Nat->Type}:aE El->Option Nat
 | .b i _=>some i
 | .e i _ _ _ _ _ _=>some i
 | .w i _ _=>some i
 |_=>none
def Dn(X:Nat->Prop)(bl:List (az T.El))(ρ:List Value)(w:World)(k:Nat):Option Nat->Prop
 |none=>aY X bl ρ w k
 |some i=>∃B h,bl[i]? =some B/\ρ[i]? =some h/\k∈a_ B h
def zB(P:Program)(t:Nat)(dD:Addr)(us:List Value)(v:Value):Prop:=∀(op:Oper)(ac:Act)(x:Operand)(w':World),op.op= .load t x->ac.eval x= .pointer (some dD)->ev w' dD us->aS P op ac w' v w'
theorem rF{w:World}{t sz n c:Nat}{A:Option Addr}{xs:List Value}(b:0<n)(h:rowIs w t sz (.slice A n c) n xs):∃g,A=some ⟨g,0,none⟩/\dh A=g/\ev w ⟨g,0,none⟩ xs/\∀m:Nat,ag (.slice A m c)=[g]:=by
 have hc:=h.cap;have h:=h.own b;rcases h.2 with⟨I,e⟩|⟨g,cap,cur,I,_⟩;omega
 ·simp only[Value.slice.injEq]at I;obtain⟨rfl,_,rfl⟩:=I;refine⟨g,rfl,rfl,λ j u d=>?_,λ m=>?_⟩;have a:=h.cells (g:=g) rfl j u d;rw[iF]at a;exact a
  ·cases c with
   |zero=>omega
   |succ c=>rfl
theorem Wa{α:Type}{T:cR α}{F:Nat->Prop}{w:World}{g:Nat}{l:List α}{xs:List Value}{j:Int}{d:α}(hc:ev w ⟨g,0,none⟩ xs)(a:c' T F w xs l)(hi:idx l j=some d):∃cs,T.rd F w cs d/\ev w ⟨g,j.toNat*T.size,none⟩ cs:=by obtain⟨_,_,J⟩:=il hi;obtain⟨cs,b,c⟩:=yR T a J;refine⟨cs,b,λ q u e=>?_⟩;have:=hc (j.toNat*T.size+q) u (c q u e);simpa using this
theorem adQ{E:Env}(O:p_ E.T){W w:World}{au:List Nat}{X:Nat->Prop}{bl:List (az E.T.El)}{ρ:List Value}(P:Mem E.T W au X bl ρ w){t:Nat}{p y:aE E.T.El}{V:Value}(f:ar E.T (aY X bl ρ w) w ρ bl p V)(h:(xR E bl t p).out y) :
 ∃dD us v,V= .pointer (some dD)/\ar E.T (aY X bl ρ w) w ρ bl y v/\ev w dD us/\zB E.P t dD us v/\Dn X bl ρ w dD.block (LH p):=by
 unfold xR at h
 split at h
 ·rename_i i o;split at h
  ·rename_i ty cs N I J;rw[cH]at I;have h:=D.mb h;simp only[ar]at f;obtain⟨g,m,rfl⟩:=f;obtain⟨g',vs,G,al,aN⟩:=P.ok i _ _ I m;simp only[Value.pointer.injEq,aM,Addr.mk.injEq,and_true]at G;subst G;have hc:ev w ⟨g,0,none⟩ vs:=λ j u aA=>by have ag:(aX.dl g ty vs).ok w:=al;simpa using sk ag aA
   obtain⟨v,us,b,H,e⟩:=xH J h aN hc;refine⟨⟨g,o,none⟩,us,v,rfl,b,by simpa using H,λ op ac x w' av aa jd=>e op ac x w' av (by simpa using aa) (by simpa using jd),_,_,I,m,by simp[a_,ag]⟩
  ·exact h.elim
 ·rename_i t' d o;split at h;rename_i N J;have h:=D.mb h;simp only[ar]at f;obtain⟨a,q,cs,rfl,ax,a5,cZ⟩:=f;obtain⟨v,us,b,H,e⟩:=xH J h (O.cells a5) cZ;exact⟨_,us,v,rfl,b,H,e,ax⟩;exact h.elim
 ·rename_i i g k t' j d o;split at h;rename_i Q Y H l N I J;rw[cH]at I;simp only[ar]at f;obtain⟨_,u,B,s,z⟩:=f;rw[I]at z;obtain⟨A,c,xs,G,al,aN⟩:=P.ok i _ _ I B;subst G;split at h;rename_i m Z;have h:=D.mb h;obtain⟨⟨c2,fa,bs,r,K,R,e3⟩,MK,ML⟩:=z (a8 m);obtain⟨l',cE,C⟩:=ML (a8 Z);simp only[ot,aM,Sigma.mk.injEq]at cE;obtain⟨gC,cE⟩:=cE;subst gC;have cE:=eq_of_heq cE;subst cE;simp only[Value.slice.injEq]at r;obtain⟨rfl,rfl,rfl⟩:=r;obtain⟨dq,rfl,L,hc,M⟩:=rF (by have:=(il C).2.1;omega) al;obtain⟨cs,S,U⟩:=Wa hc aN C;obtain⟨v,us,b,F,e⟩:=xH J h (O.cells S) U;refine⟨_,us,v,e3,b,?_,?_,_,_,I,B,by simp[a_,M,L,dh]⟩;simpa[hK,dh]using F;simpa[hK,dh,zB]using e;rename_i m Z;obtain⟨d',C,h⟩:=h;have h:=D.mb h;obtain⟨⟨c2,fa,bs,r,K,R,e3⟩,_,_⟩:=z (a8 m);simp only[Value.slice.injEq]at r;obtain⟨rfl,rfl,rfl⟩:=r;obtain⟨dq,rfl,L,hc,M⟩:=rF (by have:=(il C).2.1;omega) al;obtain⟨cs,S,U⟩:=Wa hc aN C;obtain⟨v,us,b,F,e⟩:=xH J h (O.cells S) U;refine⟨_,us,v,e3,b,?_,?_,_,_,I,B,by simp[a_,M,L,dh]⟩;simpa[hK,dh]using F;simpa[hK,dh,zB]using e;exact h.elim;exact h.elim
 ·rename_i i g o;split at h;rename_i Q sz Y cs N I J;rw[cH]at I;split at h;rename_i m;have h:=D.mb h;simp only[ar]at f;obtain⟨_,u,B,s,z⟩:=f;rw[I]at z;obtain⟨A,n,c,xs,G,al,aN⟩:=P.ok i _ _ I B;subst G;obtain⟨c2,fa,bs,r,K,e3⟩:=z (a8 m);simp only[Value.slice.injEq]at r;obtain⟨rfl,rfl,rfl⟩:=r;obtain⟨dq,rfl,L,hc,M⟩:=rF K al;obtain⟨v,us,b,F,e⟩:=xH J h aN hc;refine⟨_,us,v,e3,b,?_,?_,_,_,I,B,by simp[a_,M,L,dh]⟩;simpa[dh]using F;simpa[dh,zB]using e;exact h.elim;exact h.elim
 ·rename_i i g sz q;split at h
  ·rename_i Q Y H l N I J;rw[cH]at I;split at h
   ·rename_i ag;simp only[bM]at ag;have m:=a8 ag.1;have aj:=a8 ag.2;obtain⟨d,C,h⟩:=h;have h:=D.mb h;simp only[ar]at f;obtain⟨a,o,Vv,rfl,aG,⟨gB,u,B,s,z⟩,hc⟩:=f;have yb:=s;rw[I]at z yb;obtain⟨A,n,c,r,K,R,e3⟩:=z m;have aD:aR E.T (aY X bl ρ w) w ρ bl [.e i g H Q q d 0] [Vv]:=by simp only[aR,ar];refine⟨Vv,[],rfl,⟨gB,u,B,s,λ _=>⟨⟨A,n,c,r,K,R,?_⟩,by rw[I];exact cS _,λ _=>⟨l,by rw[I];rfl,C⟩⟩⟩,rfl⟩;rw[I,e3,aj];rfl
    obtain⟨v,us,b,F,e⟩:=xH J h aD hc;exact⟨_,us,v,rfl,b,by simpa using F,by simpa[zB]using e,aG⟩
   ·exact h.elim
  ·exact h.elim
 ·exact h.elim
end
def cellsOf{El:Nat->Type}:aE El->List (aE El)
 | .a l=>l
 | .p (.agg ⟨vs⟩)=>vs.map .p
 |y=>[y]
def eQ{α:Type}:List α->Nat->List α->List α
 |l,0,cs=>cs++l.drop cs.length
 |[],_+1,_=>[]
 |u::l,n+1,cs=>u::eQ l n cs
theorem rb{α:Type}:∀(l:List α)(n:Nat)(cs:List α),n+cs.length<=l.length->eQ l n cs=l.take n++cs++l.drop (n+cs.length)
 |l,0,cs,_=>by simp[eQ]
 |[],n+1,cs,h=>by simp at h
 |u::l,n+1,cs,h=>by
  have:=rb l n cs (by simp at h;omega);simp only[eQ,this,jn,iQ];have e:n+1+cs.length=(n+cs.length)+1:=by omega
  rw[e,List.drop_succ_cons]
theorem LF{α:Type}{l:List α}{n:Nat}{cs:List α}(h:n+cs.length<=l.length):(eQ l n cs).length=l.length:=by rw[rb l n cs h];simp;omega
theorem Sp(off:Nat):∀(cs:List Value)(k:Nat)(l:Array Value),off+k+cs.length<=l.size->((cs.zipIdx k).foldl (λ(a:Array Value)(x:Value×Nat)=>a.setIfInBounds (off+x.2) x.1) l).toList=eQ l.toList (off+k) cs
 |[],k,l,h=>by rw[rb _ _ _ (by simpa using h)];simp
 |c::r,k,l,h=>by
  simp only[List.zipIdx_cons,List.foldl_cons];have h':off+(k+1)+r.length<=(l.setIfInBounds (off+k) c).size:=by simp at h⊢;omega
  rw[Sp off r (k+1) _ h',rb _ _ _ (by simpa using h'),rb _ _ _ (by simpa using h)];have b:off+k<l.toList.length:=by simp at h⊢;omega
  simp only[Array.toList_setIfInBounds,dp];apply jO;intro i;simp only[lq,fM,lv,ht,List.getElem?_set,je,fz,dp];have f:min (off+(k+1)) l.toList.length=off+k+1:=by simp at h b⊢;omega
  have al:min (off+k) l.toList.length=off+k:=by omega
  rw[f,al];by_cases d:i<off+k;simp[d,show i<off+k+1 by omega,show i<off+k+1+r.length by omega,show i<off+k+(r.length+1) by omega,show i<off+(k+1) by omega,show¬off+k=i by omega]
  ·by_cases g:i=off+k;subst g;simp only[show off+k<off+k+1 by omega,show off+k<off+k+1+r.length by omega,show off+k<off+k+(r.length+1) by omega,show off+k<off+(k+1) by omega,if_true,b,Nat.lt_irrefl,if_false,Nat.sub_self,dm]
   ·by_cases e:i<off+k+1+r.length
    ·simp only[show¬i<off+k+1 by omega,e,show i<off+k+(r.length+1) by omega,d,if_false,if_true];have:i- (off+k)=(i- (off+k+1))+1:=by omega
     rw[this,List.getElem?_cons_succ]
    ·simp only[show¬i<off+k+1 by omega,e,show¬i<off+k+(r.length+1) by omega,if_false,show¬(off+k=off+(k+1)+r.length+(i- (off+k+1+r.length))) by omega];congr 1;omega
def qq{El:Nat->Type}(a:Nat->Option (Nat×Nat)):List (aE El)->List (Nat×aE El)->Option (List (aE El))
 |cs,[]=>some cs
 |cs,(i,y)::r=>match a i with
  |some (off,size)=>match b2 (cellsOf y).length size&&hR (off+(cellsOf y).length) cs.length with
   |true=>qq a (eQ cs off (cellsOf y)) r
   |false=>none
  |none=>none
section
variable{T:bD}{F:Nat->Prop}{w:World}{ρ:List Value}{bl:List (az T.El)}
theorem nj:∀(vs:List Value),aR T F w ρ bl (vs.map .p) vs
 |[]=>by simp[aR]
 |v::r=>by simp only[eZ,aR];exact⟨v,r,rfl,rfl,nj r⟩
theorem jq{z:aE T.El}{u:Value}(a:ar T F w ρ bl z u):aR T F w ρ bl [z] [u]:=by simp only[aR];exact⟨u,[],rfl,a,rfl⟩
theorem DO{v:Value}(h:k6 v):v.cells.toList=[v]:=by cases v<;>simp[k6]at h;rfl
theorem DN{v:Value}(h:qW v):v.cells.toList=[v]:=by cases v<;>simp[qW]at h;rfl
theorem kH{y:aE T.El}{v:Value}(h:ar T F w ρ bl y v):aR T F w ρ bl (cellsOf y) v.cells.toList:=by
 cases y with
 |a l=>simp only[ar]at h;obtain⟨vs,rfl,h⟩:=h;exact h
 |p u=>
  simp only[ar]at h;subst h;cases v with
  |agg cs=>obtain⟨vs⟩:=cs;exact nj vs
  |_=>exact jq (by simp[ar])
 |b i o=>have h':=h;simp only[ar]at h';obtain⟨g,_,rfl⟩:=h';exact jq h
 |x t d o=>have h':=h;simp only[ar]at h';obtain⟨a,q,cs,rfl,_⟩:=h';exact jq h
 |s t l=>have h':=h;simp only[ar]at h';obtain⟨A,c,e⟩:=jU _ h';subst e;exact jq h
 |q t l=>have h':=h;simp only[ar]at h';obtain⟨_,A,rfl⟩:=h';exact jq h
 |r i g=>have h':=h;simp only[ar]at h';rw[DO h'.1];exact jq h
 |v i g lo hi=>have h':=h;simp only[ar]at h';rw[DO h'.1];exact jq h
 |e i g k t j d o=>have h':=h;simp only[ar]at h';rw[DN h'.1];exact jq h
 |w i g o=>have h':=h;simp only[ar]at h';rw[DN h'.1];exact jq h
 |m i=>have h':=h;simp only[ar]at h';obtain⟨g,_,rfl⟩:=h';exact jq h
 |n _ _ _=>have h':=h;simp only[ar]at h';obtain⟨g,rfl,_⟩:=h';exact jq h
 |f fn cs=>have h':=h;simp only[ar]at h';obtain⟨g,rfl,_⟩:=h';exact jq h
 |h fn us=>have h':=h;simp only[ar]at h';obtain⟨g,rfl,_⟩:=h';exact jq h
 |u l=>have h':=h;simp only[ar]at h';obtain⟨g,rfl,_⟩:=h';exact jq h
 |i t z=>have h':=h;simp only[ar]at h';obtain⟨g,rfl,_⟩:=h';exact jq h
 |pp i g sz dI=>have h':=h;simp only[ar]at h';obtain⟨_,_,rfl,_⟩:=h';exact jq h
 |tR i g sz q=>have h':=h;simp only[ar]at h';obtain⟨_,_,_,rfl,_⟩:=h';exact jq h
theorem aR.lay{l cs:List (aE T.El)}{vs us:List Value}{n:Nat}(h:aR T F w ρ bl l vs)(h':aR T F w ρ bl cs us)(a:n+cs.length<=l.length):aR T F w ρ bl (eQ l n cs) (eQ vs n us):=by have b:=h.len;have al:=h'.len;rw[rb _ _ _ a,rb _ _ _ (by omega),al];exact aR.cc (aR.cc (aR.take n h) h') (aR.drop _ h)
def nD(T:bD)(F:Nat->Prop)(w:World)(ρ:List Value)(bl:List (az T.El)):List (Nat×aE T.El)->List (Nat×Value)->Prop
 |[],vs=>vs=[]
 |(i,y)::r,vs=>∃v ws,vs=(i,v)::ws/\ar T F w ρ bl y v/\nD T F w ρ bl r ws
theorem I8{c:Nat->Option (Nat×Nat)}:∀ {ps:List (Nat×aE T.El)}{vs:List (Nat×Value)}{cs out:List (aE T.El)}{us:List Value},aR T F w ρ bl cs us->nD T F w ρ bl ps vs->qq c cs ps=some out->∃os,Instr.fill c ⟨us⟩ vs=some ⟨os⟩/\aR T F w ρ bl out os
 |[],vs,cs,out,us,h,b,a=>by simp only[nD]at b;subst b;simp only[qq,aM]at a;subst a;exact⟨us,rfl,h⟩
 |(i,y)::r,vs,cs,out,us,h,b,a=>by
  simp only[nD]at b;obtain⟨v,ws,rfl,hy,d⟩:=b;simp only[qq]at a;split at a
  ·rename_i off size e;split at a
   ·rename_i ag;simp only[bM]at ag;have g:=a8 ag.1;have al:=b_ ag.2;have hc:=kH hy;have l1:=hc.len;have j:=h.len;have k:v.cells.size=(cellsOf y).length:=by rw[<-l1];simp
    obtain⟨os,I,J⟩:=I8 (h.lay hc al) d a;refine⟨os,?_,J⟩;simp only[Instr.fill,e];rw[lG (by simp only[h1,decide_eq_true_eq,bne_iff_ne,not_or];simp only[List.size_toArray];omega)];have f:v.cells.zipIdx.toList=v.cells.toList.zipIdx:=by simp
    rw[<-Array.foldl_toList,f];have:=Sp off v.cells.toList 0 ⟨us⟩ (by simp;omega);simp only[Nat.add_zero]at this;rw[<-I];congr 1;rw[<-ll];exact this
   ·cases a
  ·cases a
end
def BQ(P:Program):List Go.Field->Option (List (Nat×Nat))
 |[]=>some []
 |f::r=>match P.info? f.type,BQ P r with
  |some i,some l=>some ((f.offset,i.size)::l)
  |_,_=>none
theorem Vs{P:Program}{w:World}:∀ {b3:List Go.Field}{l:List (Nat×Nat)},BQ P b3=some l->(b3.mapM λ(f:Go.Field)=>(do pure (f.offset,<-Go.sizeOf f.type):Sem (Nat×Nat))).run P w= .ok l w
 |[],l,h=>by simp only[BQ,aM]at h;subst h;rfl
 |f::r,l,h=>by simp only[BQ]at h;split at h;rename_i i l' I J;simp only[aM]at h;subst h;rw[List.mapM_cons];simp only[Sem.run_bind,run_sizeOf I,Vs J,Result.andThen_ok,Sem.run_pure];cases h
def oB(P:Program)(t:TypeId):Option (List Value):=match P.info? t with
 |some i=>match i.zero with
  |some z=>some z.cells.toList
  |none=>none
 |none=>none
theorem zo{P:Program}{t:TypeId}{l:List Value}(h:oB P t=some l):∃z,(∀w,(zeroValue t).run P w= .ok z w)/\z.cells=⟨l⟩:=by unfold oB at h;split at h;rename_i i I;split at h;rename_i z J;simp only[aM]at h;subst h;refine⟨z,λ w=>?_,by simp⟩;simp only[zeroValue,typeInfo,Sem.run_bind];simp[go_sem,I,J];cases h;cases h
def IG(E:Env)(t:Nat)(ps:List (Nat×aE E.T.El)):D (aE E.T.El):=match E.P.underlying t,oB E.P t with
 |some (.struct b3),some z=>match BQ E.P b3.toList with
  |some a=>match qq (λ i=>nth a i) (z.map .p) ps with
   |some cs=>.ok (.a cs)
   |none=>.no
  |none=>.no
 |_,_=>.no
section
variable{E:Env}{F:Nat->Prop}{w:World}{ρ:List Value}{bl:List (az E.T.El)}
theorem adD{t:Nat}{ps:List (Nat×aE E.T.El)}{vs:List (Nat×Value)}{y:aE E.T.El}(g:nD E.T F w ρ bl ps vs)(h:(IG E t ps).out y) :
 ∃v,ar E.T F w ρ bl y v/\∀(o:Oper)(a:Act)(xs:List (Nat×Operand))(w':World),o.op= .build t xs.toArray->xs.map (λ p=>(p.1,a.eval p.2))=vs->aS E.P o a w' v w':=by
 unfold IG at h
 split at h
 ·rename_i b3 z I J;split at h
  ·rename_i b j;split at h
   ·rename_i cs k;have h:aE.a cs=y:=h;subst h;obtain⟨x,l,m⟩:=zo J;obtain⟨os,d,n⟩:=I8 (nj z) g k;refine⟨.agg ⟨os⟩,by simp only[ar];exact⟨os,rfl,n⟩,λ o a xs w' q r=>?_⟩;have c:(λ i=>nth b i)=(λ i=>(⟨b⟩:Array (Nat×Nat))[i]?):=by funext i;rw[cH];simp
    have s:(b3.mapM λ(f:Go.Field)=>(do pure (f.offset,<-Go.sizeOf f.type):Sem (Nat×Nat))).run E.P w'= .ok ⟨b⟩ w':=by
     have u:=Vs (w:=w') j;have e:b3.mapM (λ(f:Go.Field)=>(do pure (f.offset,<-Go.sizeOf f.type):Sem (Nat×Nat)))=List.toArray <$> b3.toList.mapM (λ(f:Go.Field)=>(do pure (f.offset,<-Go.sizeOf f.type):Sem (Nat×Nat))):=by rw[<-List.mapM_toArray]
     rw[e,map_eq_pure_bind,Sem.run_bind,u];rfl
    rw[c]at d;simp only[aS,execOp,q,Instr.build,Sem.run_bind,l,Result.andThen_ok,run_underlying I,s,gg,r,m,d];rfl
   ·exact h.elim
  ·exact h.elim
 ·exact h.elim
end
end a9
namespace aw
open Go Go.RowKit ad
section
variable{P:Program}{ops:Array Oper}{Q:Exit->Act->World->Prop}{a:Act}{w:World}{rest:List Oper}{o:Oper}{n:cm}{d:Nat}{l:List (Nat×Value)}
 {W:World}{au X:List Nat}{E:List aX}{D:List bh}
def aX.nil:aX:=⟨[],λ _=>True,λ _ _ _ _=>trivial⟩
theorem bd.z6{x:aX}{w':World}(b:bd W au X w E D)(i:Nat)(hi:E[i]? =some x)(c:a1 [] w w'):x.ok w':=x.law w w' (λ k e=>c.block k (b.lt k (hn.2 ⟨x,bR hi,e⟩)).1 (by simp)) (b.e i hi)
theorem aqc{t:TypeId}{x:Operand}{lo hi:Option Operand}{p r:List UInt8}{i j:Int}(q:P.underlying t=some .string)(v:o.op= .slice t x lo hi none)(y:a.eval x=bW p)
 (A:(lo=none/\i=0)\/∃z,lo=some z/\a.eval z= .int .i64 i)(B:(hi=none/\j=p.length)\/∃z,hi=some z/\a.eval z= .int .i64 j)(C:cut p i j=some r):aS P o a w (bW r) w:=by
 obtain⟨⟨I,J,M⟩,rfl⟩:=H7 C
 have b:(⟨p.toArray⟩:ByteArray).size=p.length:=by simp[ByteArray.size]
 have f:∀code,(Instr.sliceBound (.int .i64 j) (⟨p.toArray⟩:ByteArray).size code).run P w= .ok j.toNat w:=λ code=>tW rfl (by rw[b];omega)
 rw[b]at f
 have F:∀code,(Instr.sliceBound (.int .i64 i) j.toNat code).run P w= .ok i.toNat w:=λ code=>tW rfl (by omega)
 have s:∀code,(Instr.sliceBound (.int .i64 i) (⟨p.toArray⟩:ByteArray).size code).run P w= .ok i.toNat w:=λ code=>tW rfl (by rw[b];omega)
 rw[b]at s
 have G:(⟨p.toArray⟩:ByteArray).extract i.toNat j.toNat=⟨((p.take j.toNat).drop i.toNat).toArray⟩:=by apply ByteArray.ext;simp[ByteArray.data_extract,List.drop_take]
 have key:∀c e:Option Value,((c=none/\i=0)\/c=some (.int .i64 i))->((e=none/\j=p.length)\/e=some (.int .i64 j)) ->
  (Instr.slice t (.string ⟨p.toArray⟩) c e none).run P w= .ok (bW ((p.take j.toNat).drop i.toNat)) w:=by
  intro c e H K
  have ag:∃m,(Instr.sliceBounds false (⟨p.toArray⟩:ByteArray).size (⟨p.toArray⟩:ByteArray).size c e none).run P w= .ok (i.toNat,j.toNat,m) w:=by rcases H with⟨rfl,rfl⟩|rfl<;>rcases K with⟨rfl,u⟩|rfl;exact⟨_,by simp[Instr.sliceBounds,u,b];rfl⟩;exact⟨_,by simp[Instr.sliceBounds,b,f];rfl⟩;exact⟨_,by simp[Instr.sliceBounds,s,u,b];rfl⟩;exact⟨_,by simp[Instr.sliceBounds,b,f,F];rfl⟩
  obtain⟨m,ag⟩:=ag
  simp only[Instr.slice,Sem.run_bind,run_underlying q,Result.andThen_ok,Option.isSome_none,hT,if_false,ag,Sem.run_pure,G,bW]
 have L:=key (lo.map a.eval) (hi.map a.eval) (A.imp (λ h=>⟨by rw[h.1];rfl,h.2⟩) (λ⟨z,g,k⟩=>by rw[g,fC,k])) (B.imp (λ h=>⟨by rw[h.1];rfl,h.2⟩) (λ⟨z,g,k⟩=>by rw[g,fC,k]))
 simp only[aS,execOp,v,y,bW,Instr.sliceAt,Sem.run_bind,run_underlying q,Result.andThen_ok,ie,L]
 rfl
theorem aqj{t:TypeId}{x:Operand}{v:Value}(hc:P.concrete t=true)(b:o.op= .makeInterface t x)(c:a.eval x=v):aS P o a w (.iface t v) w:=by simp only[aS,execOp,b,c];simp[go_sem,run_makeInterface _ _ _ hc]
end
end aw
namespace a9
open Go Go.RowKit aw ad
abbrev iR(P:Program)(o:Oper)(a:Act)(v:Value):Prop:=∀w,aS P o a w v w
section
variable{E:Env}{W w:World}{au:List Nat}{X:Nat->Prop}{bl:List (az E.T.El)}{ρ:List Value}
def MD(E:Env)(x y:Operand)(b:Bool):aE E.T.El->aE E.T.El->D (aE E.T.El)
 | .p u,.p v=>match FU x y b u v with
   |some r=>.ok (.p r)
   |none=>.mB b (.ok (.p u)) (.ok (.p v))
 |u,v=>.mB b (.ok u) (.ok v)
theorem akz{F:Nat->Prop}{a:Act}{x y:Operand}{b:Bool}{u v z:aE E.T.El}(h:(MD E x y b u v).out z)(c:b=true->ar E.T F w ρ bl u (a.eval x))(hy:b=false->ar E.T F w ρ bl v (a.eval y)) :
 ∃r,(if b then a.eval x else a.eval y)=r/\ar E.T F w ρ bl z r:=by
 have key:(D.mB b (.ok u) (.ok v)).out z->∃r,(if b then a.eval x else a.eval y)=r/\ar E.T F w ρ bl z r:=λ h=>by rcases h with⟨ag,h⟩|⟨ag,h⟩;have h:u=z:=h;subst h;subst ag;exact⟨_,rfl,by simpa using c rfl⟩;have h:v=z:=h;subst h;subst ag;exact⟨_,rfl,by simpa using hy rfl⟩
 unfold MD at h
 split at h
 ·rename_i u v;split at h;rename_i r d;have h:aE.p r=z:=h;subst h;refine⟨r,Vp (a:=a) d (λ ag=>?_) (λ ag=>?_),by simp[ar]⟩;simpa[ar]using c ag;simpa[ar]using hy ag;exact key h
 ·exact key h
theorem aqw{P:Program}{o:Oper}{a:Act}{c x y:Operand}{b:Bool}{r:Value}(d:o.op= .pick c x y)(hc:a.eval c= .bool b)(h:(if b then a.eval x else a.eval y)=r):aS P o a w r w:=by
 cases b with
 |true=>exact Hl d hc (by simpa using h)
 |false=>exact Hk d hc (by simpa using h)
def vY(P:Program)(t:TypeId):Bool:=match P.underlying t with
 |some (.struct _)=>true
 |_=>false
def iL{El:Nat->Type}:aE El->Bool
 | .a _=>true
 | .p (.agg _)=>true
 |_=>false
def DV(E:Env)(t:Nat)(b:Bool)(u v:aE E.T.El):D (aE E.T.El):=match iL u&&iL v with
 |true=>match(E.T.e t).eq,(E.T.e t).fH (cellsOf u),(E.T.e t).fH (cellsOf v)with
  |some f,some d,some e=>.ok (.p (.bool (cond b (f d e) (!f d e))))
  |_,_,_=>.no
 |false=>.no
def T_:Value->Bool
 | .pointer none=>true
 |_=>false
def EZ{El:Nat->Type}:aE El->Bool
 | .b _ _=>true
 | .x _ _ _=>true
 | .e _ _ _ _ _ _ _=>true
 | .w _ _ _=>true
 |_=>false
def MH(P:Program)(t:TypeId):Bool:=match P.underlying t with
 |some (.pointer _)=>true
 |_=>false
def wD(op:BinOp)(b:Bool):Option Bool:=match op with
 | .eql=>some b
 | .neq=>some (!b)
 |_=>none
def QJ(op:BinOp)(m n:Int):Option Value:=match op with
 | .quo=>some (.int .i64 (bj (m.tdiv n)))
 | .rem=>some (.int .i64 (m.tmod n))
 |_=>none
def IF(E:Env)(t:Nat)(op:BinOp)(fX:Bool)(u v:aE E.T.El):D (aE E.T.El):=match vY E.P t,op with
 |true,.eql=>DV E t true u v
 |true,.neq=>DV E t false u v
 |_,_=>match u,v with
  | .p x,.p y=>match bin (iM (E.P.underlying t)) fX op x y with
    |some r=>.ok (.p r)
    |none=>match x,y with
     | .int .i64 m,.int .i64 n=>match QJ op m n with
       |some r=>.op (BE (!decide (n=0))) λ _=>.ok (.p r)
       |none=>.no
     | .int .u64 m,.int _ (.ofNat n)=>match op,hR n 64 with
       | .shr,true=>.ok (.p (.int .u64 (Gt m n)))
       |_,_=>.no
     | .int .i64 m,.int .u64 (.ofNat n)=>match op,hR n 64 with
       | .shl,true=>.ok (.p (.int .i64 (Gs m n)))
       |_,_=>.no
     |_,_=>.no
  |u,.p y=>match MH E.P t&&EZ u&&T_ y,wD op false with
   |true,some b=>.ok (.p (.bool b))
   |_,_=>.no
  |_,_=>.no
theorem aqx{P:Program}{o:Oper}{a:Act}{t t':TypeId}{x y:Operand}{p:Addr}{op:BinOp}{b:Bool}(c:MH P t=true)(ag:wD op false=some b)(g:o.op= .binOp op t x y t')(i:a.eval x= .pointer (some p))(hy:a.eval y= .pointer none):aS P o a w (.bool b) w:=by
 have f:∃e,P.underlying t=some (.pointer e):=by unfold MH at c;split at c;rename_i e h;exact⟨e,h⟩;cases c
 obtain⟨e,f⟩:=f;have h:∀d:Nat,(Op.equalIn (d+1) t (.pointer (some p)) (.pointer none)).run P w= .ok false w:=λ d=>by simp[Op.equalIn,run_underlying f]
 cases op<;>simp only[wD,aM,reduceCtorEq]at ag<;>subst ag
 ·have J:(binOp .eql t (.pointer (some p)) (.pointer none)).run P w= .ok (.bool false) w:=by
   simp only[binOp];simp[Op.equal,Op.maxDepth,h 9999]
  simp only[aS,execOp,g,i,hy];simp[go_sem,J]
 ·have J:(binOp .neq t (.pointer (some p)) (.pointer none)).run P w= .ok (.bool true) w:=by
   simp only[binOp];simp[Op.equal,Op.maxDepth,h 9999]
  simp only[aS,execOp,g,i,hy];simp[go_sem,J]
theorem T'{F:Nat->Prop}{y:aE E.T.El}{v:Value}(h:EZ y=true)(a:ar E.T F w ρ bl y v):∃p,v= .pointer (some p):=by cases y<;>simp only[EZ,reduceCtorEq]at h;simp only[ar]at a;obtain⟨g,_,rfl⟩:=a;exact⟨_,rfl⟩;simp only[ar]at a;obtain⟨_,_,_,rfl,_⟩:=a;exact⟨_,rfl⟩;simp only[ar]at a;cases v<;>simp[qW]at a;rename_i p;cases p<;>simp at a;exact⟨_,rfl⟩;simp only[ar]at a;cases v<;>simp[qW]at a;rename_i p;cases p<;>simp at a;exact⟨_,rfl⟩
theorem Bd{F:Nat->Prop}{y:aE E.T.El}{v:Value}(h:iL y=true)(a:ar E.T F w ρ bl y v):v= .agg ⟨v.cells.toList⟩:=by cases y<;>simp only[iL,reduceCtorEq]at h;rename_i u;simp only[ar]at a;subst a;cases v<;>simp only[iL,reduceCtorEq]at h;simp[Value.cells];simp only[ar]at a;obtain⟨vs,rfl,_⟩:=a;simp[Value.cells]
theorem adC(j:cJ E){F:Nat->Prop}{o:Oper}{a:Act}{t:Nat}{op:BinOp}{fX:Bool}{x y:Operand}{t':TypeId}{u v z:aE E.T.El}(h:(IF E t op fX u v).out z)(i:o.op= .binOp op t x y t')(C:fX=true->∀k n,a.eval y= .int k n->n≠0)
 (c:ar E.T F w ρ bl u (a.eval x))(hy:ar E.T F w ρ bl v (a.eval y)):∃r,iR E.P o a r/\ar E.T F w ρ bl z r:=by
 have fl:∀ {b:Bool},op=cond b .eql .neq->(DV E t b u v).out z->∃r,iR E.P o a r/\ar E.T F w ρ bl z r:=λ{b} ag h=>by unfold DV at h;split at h;rename_i l;simp only[bM]at l;split at h;rename_i f d e I J D;have h:aE.p (.bool (cond b (f d e) (!f d e)))=z:=h;subst h;have s:=j.tb.fH _ _ _ J _ _ _ _ _ (kH c);have A:=j.tb.fH _ _ _ D _ _ _ _ _ (kH hy);exact⟨.bool (cond b (f d e) (!f d e)),λ w'=>j.eq t f I _ _ _ _ d e s A o a x y t' b (by rw[i,ag]) (Bd l.1 c) (Bd l.2 hy) w',by simp only[ar]⟩;exact h.elim;exact h.elim
 unfold IF at h
 split at h
 ·exact fl (b:=true) rfl h
 ·exact fl (b:=false) rfl h
 ·split at h;rename_i p q;simp only[ar]at c hy;split at h;rename_i r g;have h:aE.p r=z:=h;subst h;exact⟨r,λ w'=>P4 (λ k G=>qY G) C g i c hy,by simp only[ar]⟩;split at h;rename_i m n;split at h;rename_i r g;obtain⟨b,I,J⟩:=h;have J:aE.p r=z:=J;subst J;have B:=Mn I;refine⟨r,λ w'=>?_,by simp only[ar]⟩;unfold QJ at g;split at g;simp only[aM]at g;subst g;exact X8 i c hy B;simp only[aM]at g;subst g;exact X9 i c hy B;cases g;exact h.elim;rename_i m k n _;split at h;rename_i ag _;have h:aE.p (.int .u64 (Gt m n))=z:=h;subst h;exact⟨_,λ w'=>aqA (by assumption) i c hy,by simp only[ar]⟩;exact h.elim;rename_i m n _;split at h;rename_i ag _;have h:aE.p (.int .i64 (Gs m n))=z:=h;subst h;exact⟨_,λ w'=>aqz (by assumption) i c hy,by simp only[ar]⟩;exact h.elim;exact h.elim
  ·rename_i q _;split at h
   ·rename_i b I J;have h:aE.p (.bool b)=z:=h;subst h;simp only[bM]at I;simp only[ar]at hy;obtain⟨p,H⟩:=T' I.1.2 c;have K:q= .pointer none:=by cases q<;>simp only[T_,reduceCtorEq,and_false]at I;rename_i oi;cases oi<;>simp at I⊢
    exact⟨_,λ w'=>aqx I.1.1 J i H (by rw[hy,K]),by simp only[ar]⟩
   ·exact h.elim
  ·exact h.elim
end
def lj(P:Program)(t:TypeId):Option (Nat×Nat):=match P.underlying t with
 |some (.slice e)=>match P.info? e with
  |some i=>some (e,i.size)
  |none=>none
 |_=>none
theorem ow{P:Program}{t e n:Nat}(h:lj P t=some (e,n)):P.underlying t=some (.slice e)/\∀w,(Go.sizeOf e).run P w= .ok n w:=by unfold lj at h;split at h;rename_i e' I;split at h;rename_i i J;simp only[aM,cv]at h;obtain⟨rfl,rfl⟩:=h;exact⟨I,run_sizeOf J⟩;cases h;cases h
def HQ(P:Program)(t:TypeId):Option (Nat×Nat):=match P.underlying t with
 |some (.array n e)=>match P.info? e with
  |some i=>some (n,i.size)
  |none=>none
 |_=>none
theorem aa1{P:Program}{t n m:Nat}(h:HQ P t=some (n,m)):∃e,P.underlying t=some (.array n e)/\∀w,(Go.sizeOf e).run P w= .ok m w:=by unfold HQ at h;split at h;rename_i a e I;split at h;rename_i i J;simp only[aM,cv]at h;obtain⟨rfl,rfl⟩:=h;exact⟨e,I,run_sizeOf J⟩;cases h;cases h
theorem aqi{P:Program}{o:Oper}{a:Act}{w:World}{x y:Operand}{t e g q n m:Nat}{i:Int}(b:P.underlying t=some (.array n e))(ap:∀w,(Go.sizeOf e).run P w= .ok m w)(c:o.op= .indexAddr t x y)(d:a.eval x= .pointer (some ⟨g,q,none⟩))(hy:a.eval y= .int .i64 i)
 (f:0<=i)(I:i<n):aS P o a w (.pointer (some ⟨g,q+i.toNat*m,none⟩)) w:=by
 obtain⟨k,rfl⟩:=jQ f
 simp only[kZ]
 have h:k<n:=by omega
 simp only[aS,execOp,c,d,hy]
 simp[go_sem,Instr.indexAt,run_underlying b,h,ap,iF]
def IP(E:Env)(bl:List (az E.T.El))(t:Nat):aE E.T.El->aE E.T.El->D (aE E.T.El)
 | .s t' l,.p (.int .i64 j)=>match lj E.P t with
   |some (_,n)=>match b2 n (E.T.ty t').size with
    |true=>.op (idx l j) λ d=>.ok (.x t' d 0)
    |false=>.no
   |none=>.no
 | .q t' l,.p (.int .i64 j)=>match lj E.P t with
   |some (_,n)=>match b2 n (E.T.ty t').size with
    |true=>.op (idx l j) λ d=>.ok (.x t' d 0)
    |false=>.no
   |none=>.no
 | .r i g,.p (.int .i64 j)=>match lj E.P t,nth bl i with
   |some (_,n),some (.r t' a k l)=>match b2 g a&&b2 n (E.T.ty t').size with
    |true=>.op (idx l j) λ d=>.ok (.e i g k t' j d 0)
    |false=>.no
   |some (_,n),some (.k _ sz a cs)=>match b2 g a&&b2 n sz&&decide (0<=j)&&hR ((j.toNat+1)*sz) cs.length&&eh 0 sz with
    |true=>.ok (.w i g (j.toNat*sz))
    |false=>.no
   |_,_=>.no
 | .v i g lo hi,.p (.int .i64 j)=>match lj E.P t,nth bl i with
   |some (_,n),some (.r t' a k l)=>match b2 g a&&b2 n (E.T.ty t').size with
    |true=>.op (idx ((l.take hi.toNat).drop lo.toNat) j) λ d=>.ok (.e i g k t' (lo+j) d 0)
    |false=>.no
   |_,_=>.no
 | .pp i g sz dI,.p (.int .i64 j)=>match lj E.P t with
   |some (_,n)=>match b2 n 1 with
    |true=>.op (idx dI j) λ q=>.ok (.tR i g sz q)
    |false=>.no
   |none=>.no
 | .x t' d 0,.p (.int .i64 j)=>match HQ E.P t,(E.T.e t').vl with
   |some (n,m),some s=>match b2 m (E.T.ty s.1).size&&b2 (n*m) (E.T.ty t').size&&eh 0 m with
    |true=>.op (idx (s.2 d) j) λ v=>.ok (.x s.1 v 0)
    |false=>.no
   |_,_=>.no
 |_,_=>.no
theorem ahx{α:Type}{l:List α}{lo hi j:Int}{d:α}(e:0<=lo)(I:hi<=l.length)(h:idx ((l.take hi.toNat).drop lo.toNat) j=some d):idx l (lo+j)=some d/\0<=j/\lo+j<hi:=by obtain⟨a,b,c⟩:=il h;simp only[kp,fM]at b;rw[je,ht]at c;split at c;refine⟨?_,a,by omega⟩;unfold idx;rw[lH (by omega),show(lo+j).toNat=lo.toNat+j.toNat by omega];exact c;cases c
section
variable{E:Env}{W w:World}{au:List Nat}{X:Nat->Prop}{bl:List (az E.T.El)}{ρ:List Value}
theorem yV{t sz n c:Nat}{A:Option Addr}{xs:List Value}(h:rowIs w t sz (.slice A n c) n xs)(a:0<n):∃g,A=some ⟨g,0,none⟩:=h.cap.2.2.2 (by have:=h.cap.1;omega)
theorem Gj{t sz n c:Nat}{A:Option Addr}{xs:List Value}(h:rowIs w t sz (.slice A n c) n xs):n<=c:=h.cap.1
theorem R6{F:Nat->Prop}{t':Nat}{l:List (E.T.El t')}{o:Oper}{a:Act}{t e n:Nat}{x y:Operand}{j:Int}{d:E.T.El t'}{A:Option Addr}{c:Nat}(ap:lj E.P t=some (e,n))(g:n=(E.T.ty t').size)(I:idx l j=some d)(h:o.op= .indexAddr t x y)
 (i:a.eval x= .slice A l.length c)(b:(bX (E.T.ty t')).rd F w [.slice A l.length c] l)(hy:a.eval y= .int .i64 j):∃r,iR E.P o a r/\ar E.T F w ρ bl (.x t' d 0) r:=by
 have k:=I
 obtain⟨m,p⟩:=ow ap
 obtain⟨q,s,cs,u,v⟩:=wO _ b I
 refine⟨_,λ w'=>nu m p h i hy q s,?_⟩
 simp only[ar]
 obtain⟨C,D,f,al,aN,bI,b'⟩:=(b:(bX _).rd _ w _ l)
 have z:l≠[]:=by intro e;subst e;have:=(il k).2.1;simp at this
 have B:=(b' z).2.1
 simp only[hH,Value.slice.injEq,and_true,true_and]at f
 obtain⟨rfl,rfl⟩:=f
 exact⟨dh A,fA A+j.toNat*(E.T.ty t').size,cs,by rw[g];simp,B,u,v⟩
theorem adK(e8:p_ E.T){o:Oper}{a:Act}{t:Nat}{x y:Operand}{u v z:aE E.T.El}(L:Mem E.T W au X bl ρ w)(h:(IP E bl t u v).out z)(M:o.op= .indexAddr t x y)
 (b:ar E.T (aY X bl ρ w) w ρ bl u (a.eval x))(hy:ar E.T (aY X bl ρ w) w ρ bl v (a.eval y)):∃r,iR E.P o a r/\ar E.T (aY X bl ρ w) w ρ bl z r:=by
 unfold IP at h
 split at h
 ·rename_i t' l j;split at h;rename_i e n ap;split at h;rename_i ag;obtain⟨d,I,J⟩:=h;have J:aE.x t' d 0=z:=J;subst J;simp only[ar]at b hy;obtain⟨A,c,p⟩:=jU _ b;rw[p]at b;exact R6 ap (a8 ag) I M p b hy;exact h.elim;exact h.elim
 ·rename_i t' l j;split at h;rename_i e n ap;split at h;rename_i ag;obtain⟨d,I,J⟩:=h;have J:aE.x t' d 0=z:=J;subst J;simp only[ar]at b hy;obtain⟨A,c,p⟩:=jU _ b.1;have b:=b.1;rw[p]at b;exact R6 ap (a8 ag) I M p b hy;exact h.elim;exact h.elim
 ·rename_i i g j;split at h;rename_i e n t' bp k l ap hi;rw[cH]at hi;split at h;rename_i ag;simp only[bM]at ag;obtain⟨d,I,J⟩:=h;have J:aE.e i g k t' j d 0=z:=J;subst J;simp only[ar]at b hy;obtain⟨_,aC,F,G,H⟩:=b;rw[hi]at G H;have N:=H (a8 ag.1);obtain⟨A,c,xs,P,al,aN⟩:=L.ok i _ _ hi F;subst P;obtain⟨Q,R,S⟩:=il I;obtain⟨dq,rfl⟩:=yV al (by omega);obtain⟨C,D⟩:=ow ap;have O:=a8 ag.2;refine⟨_,λ w'=>nu C D M N hy rfl ⟨Q,by omega⟩,?_⟩;simp only[ar];refine⟨trivial,_,F,by rw[hi];exact G,λ _=>⟨⟨_,_,_,rfl,Q,by omega,by simp[dh,fA,hi,hK,O]⟩,by rw[hi];exact cS _,λ _=>⟨l,by rw[hi];rfl,I⟩⟩⟩;exact h.elim
  ·rename_i e n t' sz bp cs ap hi;rw[cH]at hi;split at h
   ·rename_i ag;simp only[bM,decide_eq_true_eq]at ag;obtain⟨⟨⟨⟨bt,dN⟩,fQ⟩,U⟩,DB⟩:=ag;have h:aE.w i g (j.toNat*sz)=z:=h;subst h;simp only[ar]at b hy;obtain⟨_,aC,F,G,H⟩:=b;rw[hi]at G H;have N:=H (a8 bt);obtain⟨A,m,c,xs,P,al,aN⟩:=L.ok i _ _ hi F;subst P;have U:=b_ U;have DB:=b_ DB;have K:=aN.len;have Tx:=al.len;have mQ:j.toNat<m:=by rcases gw j.toNat m with q |q;exact q;have:=jf sz q;rw[iW]at U;omega
    obtain⟨dq,rfl⟩:=yV al (by omega);obtain⟨C,D⟩:=ow ap;have O:=a8 dN;refine⟨_,λ w'=>nu C D M N hy rfl ⟨fQ,by omega⟩,?_⟩;simp only[ar];exact⟨trivial,_,F,by rw[hi];exact G,λ _=>⟨_,_,_,rfl,by omega,by simp[dh,fA,O]⟩⟩
   ·exact h.elim
  ·exact h.elim
 ·rename_i i g lo cN j;split at h
  ·rename_i e n t' bp k l ap hi;rw[cH]at hi;split at h
   ·rename_i ag;simp only[bM]at ag;obtain⟨d,I,J⟩:=h;have J:aE.e i g k t' (lo+j) d 0=z:=J;subst J;simp only[ar]at b hy;obtain⟨_,aC,F,G,H⟩:=b;rw[hi]at G H;obtain⟨c2,hp,bs,B,V,Bi,l1,da,N,_,bK⟩:=H (a8 ag.1);obtain⟨A,c,xs,P,al,aN⟩:=L.ok i _ _ hi F;rw[P]at V al;simp only[Value.slice.injEq]at V;obtain⟨rfl,rfl,rfl⟩:=V;obtain⟨sG,Ub,sV⟩:=ahx Bi da I;obtain⟨dq,rfl⟩:=yV al (by omega);have x5:=Gj al;obtain⟨C,D⟩:=ow ap;have O:=a8 ag.2;rw[bK (by omega)]at N;simp only[fC,iF]at N;refine⟨_,λ w'=>nu C D M N hy rfl ⟨Ub,by omega⟩,?_⟩;simp only[ar];refine⟨trivial,_,F,by rw[hi];exact G,λ _=>⟨⟨_,_,_,P,by omega,by omega,?_⟩,by rw[hi];exact cS _,λ _=>⟨l,by rw[hi];rfl,sG⟩⟩⟩;rw[hi];have:(lo+j).toNat=lo.toNat+j.toNat:=by omega
    simp[dh,fA,hK,O,this,iW]
   ·exact h.elim
  ·exact h.elim
 ·rename_i i g sz dI j;split at h
  ·rename_i e n ap;split at h
   ·rename_i ag;obtain⟨q,I,J⟩:=h;have J:aE.tR i g sz q=z:=J;subst J;simp only[ar]at b hy;obtain⟨A,c,p,_,_,a5⟩:=b;obtain⟨Q,R,S⟩:=il I;have bH:dI≠[]:=by intro e;subst e;simp at R
    obtain⟨e0,Y,xs,aT,aV⟩:=a5 bH;obtain⟨u,Z,pP⟩:=aT.at_ S;obtain⟨C,D⟩:=ow ap;have O:=a8 ag;refine⟨_,λ w'=>nu C D M p hy e0 ⟨Q,by omega⟩,?_⟩;simp only[ar];refine⟨dh A,fA A+j.toNat,u,by rw[O];simp,Y,pP,λ m y L=>?_⟩;cases m with
    |zero=>simp only[dm,aM]at L;subst L;simpa using aV _ _ Z
    |succ m=>simp at L
   ·exact h.elim
  ·exact h.elim
 ·rename_i t' d j;split at h
  ·rename_i n m s aZ ap;obtain⟨e,f⟩:=s;split at h
   ·rename_i ag;simp only[bM]at ag;obtain⟨v,I,J⟩:=h;have J:aE.x e v 0=z:=J;subst J;simp only[ar]at b hy;obtain⟨g,q,cs,p,Y,eL,hcs⟩:=b;obtain⟨Q,R,S⟩:=il I;have R:j.toNat<(f d).length:=R;have qB:=e8.vl t' e f ap d _ _ _ eL;have K:=oo _ qB;have Tx:=(E.T.ty t').len eL;have dG:=a8 ag.1.1;have nY:=a8 ag.1.2;have J1:=b_ ag.2
    have yf:n=(f d).length:=by
     have:n*m=(f d).length*m:=by rw[nY,<-Tx,K,dG]
     exact Nat.eq_of_mul_eq_mul_right J1 this
    obtain⟨e',C,D⟩:=aa1 aZ;obtain⟨us,Z,pP⟩:=yR _ qB S;refine⟨_,λ w'=>aqi C D M p hy Q (by omega),?_⟩;simp only[ar];refine⟨g,q+j.toNat*m,us,by simp,Y,Z,λ k u ah=>?_⟩;have:=hcs _ _ (pP k u ah);rw[<-dG,<-jo]at this;exact this
   ·exact h.elim
  ·exact h.elim
 ·exact h.elim
def IU(E:Env)(bl:List (az E.T.El))(t:Nat):aE E.T.El->D (aE E.T.El)
 | .p (.string ⟨⟨p⟩⟩)=>match iM (E.P.underlying t)with
   |some .s=>.ok (.p (.int .i64 (p.length:Int)))
   |_=>.no
 | .p (.slice _ n _)=>match iM (E.P.underlying t)with
   |some .cd=>.ok (.p (.int .i64 (n:Int)))
   |_=>.no
 | .s _ l=>match iM (E.P.underlying t)with
   |some .cd=>.ok (.p (.int .i64 (l.length:Int)))
   |_=>.no
 | .q _ l=>match iM (E.P.underlying t)with
   |some .cd=>.ok (.p (.int .i64 (l.length:Int)))
   |_=>.no
 | .pp _ _ _ l=>match iM (E.P.underlying t)with
   |some .cd=>.ok (.p (.int .i64 (l.length:Int)))
   |_=>.no
 | .r i g=>match iM (E.P.underlying t),nth bl i with
   |some .cd,some (.r _ a _ l)=>match b2 g a with
    |true=>.ok (.p (.int .i64 (l.length:Int)))
    |false=>.no
   |some .cd,some (.k _ sz a cs)=>match b2 g a&&eh 0 sz with
    |true=>.ok (.p (.int .i64 ((cs.length / sz:Nat):Int)))
    |false=>.no
   |_,_=>.no
 | .v i g lo hi=>match iM (E.P.underlying t)with
   |some .cd=>match b2 g (o3 bl i)with
    |true=>.ok (.p (.int .i64 (hi-lo)))
    |false=>.no
   |_=>.no
 |_=>.no
theorem adP{o:Oper}{a:Act}{t:Nat}{x:Operand}{u z:aE E.T.El}(C:Mem E.T W au X bl ρ w)(h:(IU E bl t u).out z)(F:o.op= .call { callee:=.builtin .len,args:=#[x],argTypes:=#[t] })
 (d:ar E.T (aY X bl ρ w) w ρ bl u (a.eval x)):∃r,iR E.P o a r/\ar E.T (aY X bl ρ w) w ρ bl z r:=by
 have fin:∀ {A:Option Addr}{n c:Nat},iM (E.P.underlying t)=some .cd->a.eval x= .slice A n c->(D.ok (aE.p (.int .i64 (n:Int)))).out z->∃r,iR E.P o a r/\ar E.T (aY X bl ρ w) w ρ bl z r:=λ{A n c} b f h=>by
  have h:aE.p (.int .i64 (n:Int))=z:=h;subst h;obtain⟨e,H⟩:=(qY b:kF.ok E.P t .cd)
  exact⟨_,λ w'=>X2 H F f,by simp only[ar]⟩
 unfold IU at h
 split at h
 ·rename_i p;split at h;rename_i b;have h:aE.p (.int .i64 (p.length:Int))=z:=h;subst h;simp only[ar]at d;exact⟨_,λ w'=>X3 (qY b) F d,by simp only[ar]⟩;exact h.elim
 ·split at h;rename_i b;simp only[ar]at d;exact fin b d h;exact h.elim
 ·split at h;rename_i b;simp only[ar]at d;obtain⟨A,c,f⟩:=jU _ d;exact fin b f h;exact h.elim
 ·split at h;rename_i b;simp only[ar]at d;obtain⟨A,f⟩:=d.2;exact fin b f h;exact h.elim
 ·split at h;rename_i b;simp only[ar]at d;obtain⟨A,c,f,_⟩:=d;exact fin b f h;exact h.elim
 ·rename_i i g;split at h;rename_i t' I k l b hi;rw[cH]at hi;split at h;rename_i ag;simp only[ar]at d;obtain⟨_,aC,s,G,j⟩:=d;rw[hi]at j;obtain⟨A,c,xs,v,_⟩:=C.ok i _ _ hi s;exact fin b ((j (a8 ag)).trans v) h;exact h.elim
  ·rename_i t' sz I cs b hi;rw[cH]at hi;split at h
   ·rename_i ag;simp only[bM]at ag;simp only[ar]at d;obtain⟨_,aC,s,G,j⟩:=d;rw[hi]at j;obtain⟨A,m,c,xs,v,al,aN⟩:=C.ok i _ _ hi s;have q:=aN.len;have J:=al.len;have K:=b_ ag.2;have L:cs.length / sz=m:=by rw[<-q,J];exact Nat.mul_div_cancel _ K
    rw[L]at h;exact fin b ((j (a8 ag.1)).trans v) h
   ·exact h.elim
  ·exact h.elim
 ·rename_i i g lo y;split at h;rename_i b;split at h;rename_i ag;have ag:=a8 ag;rw[vx]at ag;simp only[ar]at d;obtain⟨_,aC,s,G,j⟩:=d;obtain⟨A,m,c,B,M,N,l1,O,f,_⟩:=j ag;refine fin b f ?_;have h:aE.p (.int .i64 (y-lo))=z:=h;rw[<-h,show((y.toNat-lo.toNat:Nat):Int)=y-lo by omega];exact rfl;exact h.elim;exact h.elim
 ·exact h.elim
end
theorem abY{α:Type}{T:cR α}{F:Nat->Prop}{w:World}{A:Option Addr}{c:Nat}{li r:List α}{i j:Int}(h:(bX T).rd F w [.slice A li.length c] li)(g:cut li i j=some r) :
 (bX T).rd F w [.slice (if c=i.toNat then A else A.map (·.add (i.toNat*T.size))) (j.toNat-i.toNat) (c-i.toNat)] r/\j.toNat-i.toNat=r.length/\li.length<=c:=by
 obtain⟨⟨x,I,J⟩,rfl⟩:=H7 g
 obtain⟨gd,y,f,al,aN,bI,b'⟩:=h
 simp only[hH,Value.slice.injEq,and_true,true_and]at f
 obtain⟨rfl,rfl⟩:=f
 have a:((li.take j.toNat).drop i.toNat).length=j.toNat-i.toNat:=by rw[kp,fM];omega
 refine⟨?_,a.symm,al⟩
 refine⟨_,c-i.toNat,by rw[a],by rw[a];omega,by omega,λ d=>?_,λ k=>?_⟩
 ·split at d;have:=bI d;omega
  ·cases A with
   |none=>have:=bI rfl;omega
   |some dD=>cases d
 ·have l:0<((li.take j.toNat).drop i.toNat).length:=List.length_pos_iff.2 k;have m:li≠[]:=by intro e;subst e;simp at l
  obtain⟨n,o,xs,p,s⟩:=b' m;have t:c≠i.toNat:=by omega
  rw[lG t,n];refine⟨?_,?_⟩;simp only[fC,iF];rfl;simp only[fC,iF];refine⟨o,_,pI i.toNat j.toNat p,λ q u v=>?_⟩;have b:(xs.take (j.toNat*T.size))[i.toNat*T.size+q]? =some u:=by rwa [je]at v
  rw[ht]at b;split at b;have:=s (i.toNat*T.size+q) u b;simpa[dh,fA,jo]using this;cases b
def nI{El:Nat->Type}(z:Int):Option (aE El)->Option Int
 |none=>some z
 |some (.p (.int .i64 n))=>some n
 |_=>none
def GK(n:Nat)(lo hi:Int):Option Unit:=if 0<=lo/\lo<=hi/\hi<=(n:Int)then some ()else none
theorem W5{n:Nat}{lo hi:Int}{u:Unit}(h:GK n lo hi=some u):0<=lo/\lo<=hi/\hi<=(n:Int):=by unfold GK at h;split at h;assumption;cases h
def zp{El:Nat->Type}:Option (aE El)->Bool
 |none=>true
 |some (.p (.int .i64 (.ofNat 0)))=>true
 |_=>false
def IJ(E:Env)(bl:List (az E.T.El))(t:Nat)(u:aE E.T.El)(lo hi:Option (aE E.T.El)):D (aE E.T.El):=match u with
 | .s t' l=>match lj E.P t,nI 0 lo,nI (l.length:Int) hi with
   |some (_,n),some i,some j=>match b2 n (E.T.ty t').size with
    |true=>.op (cut l i j) λ r=>.ok (.s t' r)
    |false=>.no
   |_,_,_=>.no
 | .p (.string ⟨⟨p⟩⟩)=>match iM (E.P.underlying t),nI 0 lo,nI (p.length:Int) hi with
   |some .s,some i,some j=>.op (cut p i j) λ r=>.ok (.p (bW r))
   |_,_,_=>.no
 | .r i g=>match lj E.P t,nth bl i with
   |some (_,n),some (.r t' c _ l)=>match nI 0 lo,nI (l.length:Int) hi,b2 g c&&b2 n (E.T.ty t').size with
    |some a,some b,true=>.op (GK l.length a b) λ _=>.ok (.v i g a b)
    |_,_,_=>.no
   |_,_=>.no
 | .v i g p q=>match lj E.P t,nth bl i with
   |some (_,n),some (.r t' c _ l)=>match nI 0 lo,nI (q-p) hi,b2 g c&&b2 n (E.T.ty t').size with
    |some a,some b,true=>.op (GK (q-p).toNat a b) λ _=>.ok (.v i g (p+a) (p+b))
    |_,_,_=>.no
   |_,_=>.no
 | .p (.slice none 0 0)=>match lj E.P t,zp lo&&zp hi with
   |some _,true=>.ok (.p (.slice none 0 0))
   |_,_=>.no
 |_=>.no
section
variable{E:Env}{W w:World}{au:List Nat}{X:Nat->Prop}{bl:List (az E.T.El)}{ρ:List Value}{a:Act}
def vb(E:Env)(F:Nat->Prop)(w:World)(ρ:List Value)(bl:List (az E.T.El))(a:Act):Option Operand->Option (aE E.T.El)->Prop
 |none,none=>True
 |some x,some y=>ar E.T F w ρ bl y (a.eval x)
 |_,_=>False
theorem qh{F:Nat->Prop}{lo:Option Operand}{u:Option (aE E.T.El)}{z i:Int}(h:vb E F w ρ bl a lo u)(ag:nI z u=some i):(lo=none/\i=z)\/∃x,lo=some x/\a.eval x= .int .i64 i:=by
 cases lo with
 |none=>
  cases u with
  |none=>simp only[nI,aM]at ag;exact .inl ⟨rfl,ag.symm⟩
  |some y=>exact h.elim
 |some x=>
  cases u with
  |none=>exact h.elim
  |some y=>right;refine⟨x,rfl,?_⟩;have h:ar E.T F w ρ bl y (a.eval x):=h;unfold nI at ag;split at ag;rename_i e;cases e;rename_i n e;simp only[aM]at e ag;subst e;subst ag;simpa only[ar]using h;cases ag
theorem Hm{F:Nat->Prop}{lo:Option Operand}{u:Option (aE E.T.El)}(h:vb E F w ρ bl a lo u)(ag:zp u=true):(lo=none/\(0 :Int)=0)\/∃x,lo=some x/\a.eval x= .int .i64 0:=by refine qh (z:=0) (i:=0) h ?_;unfold zp at ag;split at ag;rfl;rfl;cases ag
theorem adG{o:Oper}{t:Nat}{x:Operand}{lo hi:Option Operand}{u z:aE E.T.El}{R S:Option (aE E.T.El)}(U:Mem E.T W au X bl ρ w)(h:(IJ E bl t u R S).out z)(C:o.op= .slice t x lo hi none)
 (d:ar E.T (aY X bl ρ w) w ρ bl u (a.eval x))(D:vb E (aY X bl ρ w) w ρ bl a lo R)(F:vb E (aY X bl ρ w) w ρ bl a hi S):∃r,iR E.P o a r/\ar E.T (aY X bl ρ w) w ρ bl z r:=by
 unfold IJ at h
 split at h
 ·rename_i t' l;split at h;rename_i e n i j ap I J;split at h;rename_i ag;obtain⟨r,m,b⟩:=h;have b:aE.s t' r=z:=b;subst b;obtain⟨v,y⟩:=ow ap;simp only[ar]at d;obtain⟨A,c,V⟩:=jU _ d;rw[V]at d;obtain⟨aT,aV,bQ⟩:=abY d m;have G:=a8 ag;subst G;exact⟨_,λ w'=>Hh v y C V (qh D I) (qh F J) (H7 m).1 bQ,by simp only[ar];exact aT⟩;exact h.elim;exact h.elim
 ·rename_i p;split at h;rename_i i j ah I J;obtain⟨r,m,b⟩:=h;have b:aE.p (bW r)=z:=b;subst b;simp only[ar]at d;exact⟨_,λ w'=>aqc (qY ah) C d (qh D I) (qh F J) m,by simp only[ar]⟩;exact h.elim
 ·rename_i i g;split at h
  ·rename_i e n t' bp k l ap f;rw[cH]at f;split at h
   ·rename_i p q I J ag;simp only[bM]at ag;obtain⟨r,m,b⟩:=h;have b:aE.v i g p q=z:=b;subst b;obtain⟨v,y⟩:=ow ap;simp only[ar]at d;obtain⟨_,aC,H,K,L⟩:=d;rw[f]at K L;have N:=L (a8 ag.1);obtain⟨A,c,xs,M,al,aN⟩:=U.ok i _ _ f H;rw[M]at N al;obtain⟨O,v1,P⟩:=W5 m;have G:=a8 ag.2;subst G;refine⟨_,λ w'=>Hh v y C N (qh D I) (qh F J) ⟨O,v1,P⟩ (Gj al),?_⟩;simp only[ar];have e0:A=A.map (·.add (0*(E.T.ty t').size)):=by cases A<;>simp[Addr.add]
    refine⟨trivial,aC,H,by rw[f];exact K,λ _=>⟨A,_,c,_,M,O,v1,P,rfl,λ e=>?_,λ e=>?_⟩⟩;subst e;split;rfl;exact e0.symm;rw[lG (by have:=Gj al;omega),f];rfl
   ·exact h.elim
  ·exact h.elim
 ·rename_i i g p q;split at h
  ·rename_i e n t' bp k l ap f;rw[cH]at f;split at h
   ·rename_i s r I J ag;simp only[bM]at ag;obtain⟨_,m,b⟩:=h;have b:aE.v i g (p+s) (p+r)=z:=b;subst b;obtain⟨v,y⟩:=ow ap;simp only[ar]at d;obtain⟨_,aC,H,K,L⟩:=d;rw[f]at K L;obtain⟨c2,hp,bs,B,Q,Bi,l1,da,N,Eu,bK⟩:=L (a8 ag.1);obtain⟨A,c,xs,M,al,aN⟩:=U.ok i _ _ f H;rw[M]at Q al;simp only[Value.slice.injEq]at Q;obtain⟨rfl,rfl,rfl⟩:=Q;have x5:=Gj al;obtain⟨O,v1,P⟩:=W5 m;have G:=a8 ag.2;subst G;have Y:=qh F J;rw[show q-p=((q.toNat-p.toNat:Nat):Int) by omega]at Y;refine⟨_,λ w'=>Hh v y C N (qh D I) Y ⟨O,v1,by omega⟩ (by omega),?_⟩;simp only[ar];have Z:(p+s).toNat=p.toNat+s.toNat:=by omega
    have iK:(p+r).toNat=p.toNat+r.toNat:=by omega
    refine⟨trivial,aC,H,by rw[f];exact K,λ _=>⟨A,_,c,(if c-p.toNat=s.toNat then B else B.map (·.add (s.toNat*(E.T.ty t').size))),M,by omega,by omega,by omega,?_,λ e=>?_,λ e=>?_⟩⟩;rw[Z,iK,show p.toNat+r.toNat- (p.toNat+s.toNat)=r.toNat-s.toNat by omega,show c-p.toNat-s.toNat=c- (p.toNat+s.toNat) by omega]
    ·have KQ:p=0:=by omega
     have qQ:s=0:=by omega
     subst KQ;subst qQ;rw[Eu rfl];split;rfl;cases A<;>simp[Addr.add]
    ·obtain⟨dq,rfl⟩:=yV al (by omega);rw[lG (by omega),bK (by omega),f];simp[iF,hK,Z,iW]
   ·exact h.elim
  ·exact h.elim
 ·split at h;rename_i e ap ag;have h:aE.p (.slice none 0 0)=z:=h;subst h;simp only[bM]at ag;obtain⟨v,y⟩:=ow ap;simp only[ar]at d;exact⟨_,λ w'=>aqb v y C d (Hm D ag.1) ((Hm F ag.2).imp (λ h=>⟨h.1,rfl⟩) id),by simp only[ar]⟩;exact h.elim
 ·exact h.elim
end
def pt{cj β:Type}(K:gI cj)(d:List (cj×β))(k:cj):Option β:=@e2 cj β K.dec d k
def hE{cj β:Type}(K:gI cj)(d:List (cj×β))(k:cj):Option Nat:=@l7 cj β K.dec d k
def pu{cj β:Type}(K:gI cj)(d:List (cj×β))(k:cj)(v:β):List (cj×β):=@la cj β K.dec d k v
abbrev gI.enc{cj:Type}(K:gI cj):cj->Value:=@iU.enc cj K.dec K.mZ
abbrev gI.desc{cj:Type}(K:gI cj):TypeDesc:=@iU.desc cj K.dec K.mZ
section
variable{T:bD}{F:Nat->Prop}{w:World}{kt vt:Nat}{K:gI (T.El kt)}
theorem I9(k:T.El kt):∀ {es:List MapEntry}{d:List (T.El kt×T.El vt)}(i:Nat),gS T F w K es d ->
 (pt K d k=none/\hE K d k=none/\Instr.findNow K.desc (K.enc k) es i=some none)\/(∃p x v,pt K d k=some x/\hE K d k=some p/\vd T F w vt x v/\Instr.findNow K.desc (K.enc k) es i=some (some (i+p,v)))
 |[],[],i,_=>.inl ⟨rfl,rfl,rfl⟩
 |[],_::_,_,h=>h.elim
 |_::_,[],_,h=>h.elim
 |e::es,p::d,i,h=>by
  obtain⟨I,J,j⟩:=h;have ap:Instr.sameNow K.desc (K.enc k) e.key=some (@decide (p.1=k) (K.dec p.1 k)):=by rw[I];exact @iU.same _ K.dec K.mZ k p.1
  by_cases a:p.1=k;right;refine⟨0,p.2,e.val,?_,?_,J,?_⟩;simp only[pt,e2,lH a];simp only[hE,l7,lH a];simp only[Instr.findNow,ap,a,decide_true,Nat.add_zero]
  ·have g:Instr.findNow K.desc (K.enc k) (e::es) i=Instr.findNow K.desc (K.enc k) es (i+1):=by simp only[Instr.findNow,ap,a,decide_false]
   rcases I9 k (i+1) j with⟨c,b,f⟩|⟨q,x,v,c,b,f,e3⟩;left;refine⟨?_,?_,by rw[g];exact f⟩;simp only[pt,e2,lG a];exact c;simp only[hE,l7,lG a];simp only[hE]at b;rw[b];rfl;right;refine⟨q+1,x,v,?_,?_,f,?_⟩;simp only[pt,e2,lG a];exact c;simp only[hE,l7,lG a];simp only[hE]at b;rw[b];rfl;rw[g,e3,show i+1+q=i+(q+1) by omega]
theorem gS.len:∀ {es:List MapEntry}{d:List (T.El kt×T.El vt)},gS T F w K es d->es.length=d.length
 |[],[],_=>rfl
 |[],_::_,h=>h.elim
 |_::_,[],h=>h.elim
 |_::_,_::_,h=>by simp[gS.len h.2.2]
theorem Gl{P:Program}{es:Array MapEntry}{d:List (T.El kt×T.El vt)}{t:Nat}(k:T.El kt)(b:P.underlying t=some K.desc)(c:gS T F w K es.toList d)(w':World) :
 (pt K d k=none/\hE K d k=none/\(Instr.findKey t (K.enc k) es.toList).run P w'= .ok none w')\/(∃p x v,pt K d k=some x/\hE K d k=some p/\vd T F w vt x v/\(Instr.findKey t (K.enc k) es.toList).run P w'= .ok (some (p,v)) w'):=by
 rcases I9 k 0 c with⟨I,J,a⟩|⟨p,x,v,I,J,a,e⟩
 ·left;refine⟨I,J,?_⟩;simp only[Instr.findKey,Sem.run_bind,run_underlying b,Result.andThen_ok,a];rfl
 ·right;refine⟨p,x,v,I,J,a,?_⟩;simp only[Instr.findKey,Sem.run_bind,run_underlying b,Result.andThen_ok,e,jJ];rfl
end
def z0:Option TypeDesc->TypeDesc->Bool
 |some (.int k),.int k'=>ko k k'
 |some .string,.string=>true
 |_,_=>false
theorem H_{o:Option TypeDesc}{d:TypeDesc}(h:z0 o d=true):o=some d:=by unfold z0 at h;split at h;rw[l2 h];rfl;cases h
def O':Value->Bool->Bool
 | .agg _,b=>b
 |_,b=>!b
def xa(P:Program)(t:TypeId):Option Value:=match P.info? t with
 |some i=>i.zero
 |none=>none
theorem Pc{P:Program}{t:TypeId}{z:Value}(h:xa P t=some z):∀w,(zeroValue t).run P w= .ok z w:=by unfold xa at h;split at h;rename_i i I;intro w;simp only[zeroValue,typeInfo,Sem.run_bind];simp[go_sem,I,h];cases h
theorem Yc{z:Value}{b:Bool}(h:O' z b=true):z=tK b z.cells.toList:=by
 unfold O' at h;split at h;rename_i cs;subst h;obtain⟨vs⟩:=cs;rfl
 ·rename_i a;have ag:b=false:=by simpa using h
  subst ag;cases z<;>first |rfl |exact(a _ rfl).elim
def rW(E:Env)(vt a:Nat):Option (E.T.El vt):=match xa E.P a with
 |some z=>match O' z (E.T.e vt).agg with
  |true=>(E.T.e vt).fH (z.cells.toList.map .p)
  |false=>none
 |none=>none
def mapOf(P:Program)(t:TypeId):Option (Nat×Nat):=match P.underlying t with
 |some (.map k e)=>some (k,e)
 |_=>none
theorem Fh{P:Program}{t k e:Nat}(h:mapOf P t=some (k,e)):P.underlying t=some (.map k e):=by unfold mapOf at h;split at h;rename_i I;simp only[aM,cv]at h;obtain⟨rfl,rfl⟩:=h;exact I;cases h
def Fg{El:Nat->Type}(bl:List (az El)):aE El->Option (Σ a:Nat×Nat,List (El a.1×El a.2))
 | .m i=>match nth bl i with
   |some (.m kt vt d)=>some ⟨(kt,vt),d⟩
   |_=>none
 | .n kt vt d=>some ⟨(kt,vt),d⟩
 |_=>none
def yw(E:Env)(ok:Bool){kt vt:Nat}(K:gI (E.T.El kt))(d:List (E.T.El kt×E.T.El vt))(k:E.T.El kt)(z:E.T.El vt):aE E.T.El:=match ok with
 |true=>.u [E.T.val vt ((pt K d k).getD z),.p (.bool (pt K d k).isSome)]
 |false=>E.T.val vt ((pt K d k).getD z)
def IW(E:Env)(bl:List (az E.T.El))(t:Nat)(ok:Bool)(u v:aE E.T.El):D (aE E.T.El):=match mapOf E.P t,Fg bl u with
 |some (k,e),some ⟨(kt,vt),d⟩=>match(E.T.e kt).key with
  |some K=>match z0 (E.P.underlying k) K.desc,(E.T.e kt).fH (cellsOf v),rW E vt e,(match iL v with|true=>(E.T.e kt).agg |false=>!(E.T.e kt).agg)with
   |true,some key,some z,true=>.ok (yw E ok K d key z)
   |_,_,_,_=>.no
  |none=>.no
 |_,_=>.no
section
variable{E:Env}{W w:World}{au:List Nat}{X:Nat->Prop}{bl:List (az E.T.El)}{ρ:List Value}{a:Act}
def wv{El:Nat->Type}:aE El->Option Nat
 | .m i=>some i
 |_=>none
theorem UE(g:Mem E.T W au X bl ρ w){u:aE E.T.El}{v:Value}{kt vt:Nat}{d:List (E.T.El kt×E.T.El vt)}(h:Fg bl u=some ⟨(kt,vt),d⟩)(b:ar E.T (aY X bl ρ w) w ρ bl u v) :
 ∃r,v= .map (some r)/\r6 E.T (aY X bl ρ w) w kt vt r d/\Dn X bl ρ w r (wv u):=by
 cases u<;>simp only[Fg,reduceCtorEq]at h
 ·rename_i i;split at h;rename_i c e d' hi;simp only[aM,Sigma.mk.injEq,cv]at h;obtain⟨⟨rfl,rfl⟩,h⟩:=h;have h:=eq_of_heq h;subst h;rw[cH]at hi;simp only[ar]at b;obtain⟨r,I,rfl⟩:=b;obtain⟨e4,f,al⟩:=g.ok i _ _ hi I;simp only[Value.map.injEq,aM]at f;subst f;exact⟨r,rfl,al,_,_,hi,I,by simp[a_,ag]⟩;cases h
 ·rename_i c e d';simp only[aM,Sigma.mk.injEq,cv]at h;obtain⟨⟨rfl,rfl⟩,h⟩:=h;have h:=eq_of_heq h;subst h;simp only[ar]at b;obtain⟨r,rfl,I,J⟩:=b;exact⟨r,rfl,J,I⟩
theorem Dw{F:Nat->Prop}{u:aE E.T.El}{v:Value}{b:Bool}(y:ar E.T F w ρ bl u v)(h:(match iL u with|true=>b |false=>!b)=true):v=tK b v.cells.toList:=by
 cases B:iL u with
 |true=>rw[B]at h;have h:b=true:=h;subst h;exact Bd B y
 |false=>
  rw[B]at h;have h:b=false:=by simpa using h
  subst h;have hc:=kH y;have:v.cells.toList=[v]:=by
   cases u with
   |p u=>simp only[ar]at y;subst y;cases v<;>first |rfl |(simp[iL]at B)
   |a l=>simp[iL]at B
   |b i o=>simp only[ar]at y;obtain⟨g,_,rfl⟩:=y;rfl
   |x t d o=>simp only[ar]at y;obtain⟨_,_,_,rfl,_⟩:=y;rfl
   |s t l=>simp only[ar]at y;obtain⟨A,c,e⟩:=jU _ y;subst e;rfl
   |q t l=>simp only[ar]at y;obtain⟨_,A,rfl⟩:=y;rfl
   |r i g=>simp only[ar]at y;exact DO y.1
   |v i g lo hi=>simp only[ar]at y;exact DO y.1
   |e i g k t j d o=>simp only[ar]at y;exact DN y.1
   |w i g o=>simp only[ar]at y;exact DN y.1
   |m i=>simp only[ar]at y;obtain⟨g,_,rfl⟩:=y;rfl
   |n _ _ _=>simp only[ar]at y;obtain⟨g,rfl,_⟩:=y;rfl
   |f fn cs=>simp only[ar]at y;obtain⟨g,rfl,_⟩:=y;rfl
   |h fn us=>simp only[ar]at y;obtain⟨g,rfl,_⟩:=y;rfl
   |u l=>simp only[ar]at y;obtain⟨g,rfl,_⟩:=y;rfl
   |i t z=>simp only[ar]at y;obtain⟨g,rfl,_⟩:=y;rfl
   |pp i g sz dI=>simp only[ar]at y;obtain⟨_,_,rfl,_⟩:=y;rfl
   |tR i g sz q=>simp only[ar]at y;obtain⟨_,_,_,rfl,_⟩:=y;rfl
  rw[this];rfl
theorem W4(b:cJ E){F:Nat->Prop}{vt:Nat}{x:E.T.El vt}{v:Value}(h:vd E.T F w vt x v):ar E.T F w ρ bl (E.T.val vt x) v:=by obtain⟨xs,I,rfl⟩:=h;exact b.tb.val I
theorem val_zero(c:cJ E){F:Nat->Prop}{vt d:Nat}{z:E.T.El vt}(h:rW E vt d=some z):∃b,(∀w,(zeroValue d).run E.P w= .ok b w)/\ar E.T F w ρ bl (E.T.val vt z) b:=by unfold rW at h;split at h;rename_i b I;split at h;rename_i J;refine⟨b,Pc I,?_⟩;have:=c.tb.fH _ _ _ h F w ρ bl _ (nj b.cells.toList);rw[Yc J];have e:=c.tb.val (ρ:=ρ) (bl:=bl) this;exact e;cases h;cases h
theorem adR(f:cJ E)(M:Mem E.T W au X bl ρ w){o:Oper}{t:Nat}{ok:Bool}{x y:Operand}{u v z:aE E.T.El}(h:(IW E bl t ok u v).out z)(n:o.op= .lookup t x y ok)
 (N:ar E.T (aY X bl ρ w) w ρ bl u (a.eval x))(hy:ar E.T (aY X bl ρ w) w ρ bl v (a.eval y)) :
 ∃r q,ar E.T (aY X bl ρ w) w ρ bl z r/\Dn X bl ρ w q (wv u)/\∀w',w'.heap[q]? =w.heap[q]? ->aS E.P o a w' r w':=by
 unfold IW at h
 split at h
 ·rename_i k e kt vt d I J;split at h
  ·rename_i K s;split at h
   ·rename_i key O aC AL P Q;have h:yw E ok K d key O=z:=h;subst h;obtain⟨q,A,⟨bV,B,es,dO,R,j,oa⟩,C⟩:=UE M J N;rw[s]at B;cases B;have sO:a.eval y=K.enc key:=by have S:=f.tb.fH _ _ _ AL _ _ _ _ _ (kH hy);have al:=f.tb.key _ _ s _ _ _ _ S;exact(Dw hy Q).trans al
    have U:=Fh I;have mR:=H_ aC;obtain⟨l,V,D⟩:=val_zero f (w:=w) (F:=aY X bl ρ w) (ρ:=ρ) (bl:=bl) P
    have G:∀w',w'.heap[q]? =w.heap[q]? ->(Instr.lookup t (.map (some q)) (K.enc key) ok).run E.P w'=(do
     let(v,m) <-match<-Instr.findKey k (K.enc key) es.toList with
      |some (_,v)=>pure (v,true)
      |none=>pure (<-zeroValue e,false)
     pure (if ok then Value.tuple #[v,.bool m]else v):Sem Value).run E.P w':=λ w' g=>by
     simp only[Instr.lookup,Sem.run_bind,Sem.run_pure,run_underlying U,Result.andThen_ok,MapKept.run_getObj_map (g.trans R),@iU.check _ K.dec K.mZ E.P w' es.isEmpty k key mR]
     rfl
    rcases Gl (vt:=vt) key mR j w with⟨b,Y,_⟩|⟨p,Z,i,b,Y,H,f6⟩
    ·refine⟨if ok then .tuple #[l,.bool false]else l,q,?_,C,λ w' g=>?_⟩
     ·cases ok with
      |true=>simp only[yw,b,iG,Option.isSome_none,ar,if_true];exact⟨[l,.bool false],rfl,by simp only[aR];exact⟨_,_,rfl,D,_,_,rfl,by simp only[ar],rfl⟩⟩
      |false=>simp only[yw,b,iG];exact D
     ·simp only[aS,execOp,n,A,sO,Sem.run_bind,G w' g];rcases Gl (vt:=vt) key mR j w' with⟨_,_,f4⟩|⟨p,Z,i,c,_⟩;simp only[f4,Result.andThen_ok,Sem.run_bind,V,Sem.run_pure];rw[b]at c;cases c
    ·refine⟨if ok then .tuple #[i,.bool true]else i,q,?_,C,λ w' g=>?_⟩
     ·cases ok with
      |true=>simp only[yw,b,h2,Option.isSome_some,ar,if_true];exact⟨[i,.bool true],rfl,by simp only[aR];exact⟨_,_,rfl,W4 f H,_,_,rfl,by simp only[ar],rfl⟩⟩
      |false=>simp only[yw,b,h2];exact W4 f H
     ·simp only[aS,execOp,n,A,sO,Sem.run_bind,G w' g]
      have f5:∀w',(Instr.findKey k (K.enc key) es.toList).run E.P w'= .ok (some (p,i)) w':=by
       intro w';rcases I9 (vt:=vt) key 0 j with⟨c,_⟩|⟨oi,ff,eO,c,bp,fj,L⟩;rw[b]at c;cases c
       ·have:(Instr.findKey k (K.enc key) es.toList).run E.P w= .ok (some (oi,eO)) w:=by
         simp only[Instr.findKey,Sem.run_bind,run_underlying mR,Result.andThen_ok,L,jJ];rfl
        rw[f6]at this;simp only[Result.ok.injEq,aM,cv,and_true]at this;obtain⟨rfl,rfl⟩:=this;simp only[Instr.findKey,Sem.run_bind,run_underlying mR,Result.andThen_ok,L,jJ];rfl
      simp only[f5,Result.andThen_ok,Sem.run_bind,Sem.run_pure]
   ·exact h.elim
  ·exact h.elim
 ·exact h.elim
def IV(E:Env)(bl:List (az E.T.El))(t:Nat)(u:aE E.T.El):D (aE E.T.El):=match mapOf E.P t,Fg bl u with
 |some _,some ⟨_,d⟩=>.ok (.p (.int .i64 (d.length:Int)))
 |_,_=>.no
theorem adO(b:Mem E.T W au X bl ρ w){o:Oper}{t:Nat}{x:Operand}{u z:aE E.T.El}(h:(IV E bl t u).out z)(c:o.op= .call { callee:=.builtin .len,args:=#[x],argTypes:=#[t] })
 (e:ar E.T (aY X bl ρ w) w ρ bl u (a.eval x)):∃r q,ar E.T (aY X bl ρ w) w ρ bl z r/\Dn X bl ρ w q (wv u)/\∀w',w'.heap[q]? =w.heap[q]? ->aS E.P o a w' r w':=by
 unfold IV at h
 split at h
 ·rename_i n p d I J;have h:aE.p (.int .i64 (d.length:Int))=z:=h;subst h;obtain⟨q,f,⟨K,s,es,dO,g,i,v⟩,j⟩:=UE b J e;have k:=Fh I;have l:es.size=d.length:=by have:=i.len;simpa using this
  refine⟨.int .i64 (d.length:Int),q,by simp only[ar],j,λ w' m=>?_⟩;simp only[aS,execOp,c,resolve,invoke,gg,eZ,h6,f];simp[go_sem,Builtin.len_,run_underlying k,goInt,MapKept.run_getObj_map (m.trans g),l]
 ·exact h.elim
def IZ(E:Env)(t j:Nat)(u:aE E.T.El):D (aE E.T.El):=match iL u,Ea E.P t j with
 |true,some (off,kR,_)=>match lay E.P kR with
  |some b=>.of (j8 (cellsOf u) off b)
  |none=>.no
 |_,_=>.no
theorem adU{F:Nat->Prop}{o:Oper}{t j:Nat}{x:Operand}{u z:aE E.T.El}(h:(IZ E t j u).out z)(d:o.op= .field t x j)(e:ar E.T F w ρ bl u (a.eval x)):∃r,iR E.P o a r/\ar E.T F w ρ bl z r:=by
 unfold IZ at h;split at h
 ·rename_i off kR sz m p;split at h
  ·rename_i q s;have h:=D.mb h;obtain⟨b3,f,g,i,y,A,G,H⟩:=Sn p;have k:=Bd m e;have hc:=kH e;obtain⟨b,n⟩:=q;have c:=Bo s;subst A;subst y;cases b with
   |false=>
    simp only[j8]at h;rw[cH]at h;obtain⟨v,I,J⟩:=hc.at_ h;have B:(a.eval x).cells[f.offset]? =some v:=by rw[<-g5];exact I
    refine⟨v,λ w'=>?_,J⟩;simp only[aS,execOp,d,Instr.field,Sem.run_bind,run_underlying g,Result.andThen_ok,i];rw[k];simp[asAgg,part,c.1,B]
   |true=>simp only[j8]at h;split at h;rename_i ag;simp only[aM]at h;subst h;have C:=b_ ag;have l:=hc.len;refine⟨.agg ⟨((a.eval x).cells.toList.drop f.offset).take n⟩,λ w'=>?_,?_⟩;simp only[aS,execOp,d,Instr.field,Sem.run_bind,run_underlying g,Result.andThen_ok,i];rw[k];simp only[asAgg,part,Sem.run_bind,Sem.run_pure,c.1,c.2,Result.andThen_ok,if_true];congr 2;apply congrArg Value.agg;rw[<-ll];simp[List.extract_eq_take_drop,Nat.add_sub_cancel_left,Value.cells];simp only[ar];exact⟨_,rfl,aR.take n (aR.drop _ hc)⟩;cases h
  ·exact h.elim
 ·exact h.elim
end
structure cf (El:Nat->Type) where
 aQ:List (Nat×aE El)
 gs:List (Nat×Nat×Bool×aE El)
 du:List (Nat×Bool)
def yv{El:Nat->Type}:List (Nat×Nat×Bool×aE El)->List (Nat×Bool)->Nat->Option (aE El)
 |[],_,_=>none
 |p::r,cur,t=>match b2 p.1 t&&vA cur p.2.1 p.2.2.1 with
  |true=>some p.2.2.2
  |false=>yv r cur t
def tV{El:Nat->Type}:List (Nat×Nat×Bool×aE El)->Nat->List (Nat×Nat×Bool×aE El)
 |[],_=>[]
 |p::r,d=>match b2 p.1 d||b2 p.2.1 d with
  |true=>tV r d
  |false=>p::tV r d
structure lz (T:bD) (F:Nat->Prop) (w:World) (ρ:List Value) (bl:List (az T.El)) (n:cm) (f:cf T.El) (a:Act):Prop where
 dX:oF T F w ρ bl n f.aQ a
 gs:∀p∈f.gs,a.tmps.getD p.2.1 undef= .bool p.2.2.1 ->ar T F w ρ bl p.2.2.2 (a.tmps.getD p.1 undef)
 du:∀p∈f.du,a.tmps.getD p.1 undef= .bool p.2
section
variable{T:bD}{F F':Nat->Prop}{w w':World}{ρ ρ':List Value}{bl bl':List (az T.El)}{n:cm}{f:cf T.El}{a:Act}
theorem lz.later(b:∀k,F k->F' k/\w'.heap[k]? =w.heap[k]?)(c:j3 T ρ ρ' bl bl')(h:lz T F w ρ bl n f a):lz T F' w' ρ' bl' n f a:=⟨h.dX.later b c,λ p d ag=>(h.gs p d ag).later b c,h.du⟩
theorem LP(h:lz T F w ρ bl n f a){cur:List (Nat×Bool)}(hc:hX a cur):∀ {gs:List (Nat×Nat×Bool×aE T.El)}{t:Nat}{y:aE T.El},(∀p∈gs,p∈f.gs)->yv gs cur t=some y->ar T F w ρ bl y (a.tmps.getD t undef)
 |[],_,_,_,J=>by simp[yv]at J
 |p::r,t,y,I,J=>by simp only[yv]at J;split at J;rename_i ag;simp only[bM,aM]at ag J;subst J;have:=h.gs p (I p (by simp)) (S_ hc ag.2);rwa [a8 ag.1]at this;exact LP h hc (λ q b=>I q (by simp[b])) J
theorem NP{d:Nat}{p:Nat×Nat×Bool×aE T.El}:∀ {gs:List (Nat×Nat×Bool×aE T.El)},p∈tV gs d->p∈gs/\p.1≠d/\p.2.1≠d
 |[],h=>by simp[tV]at h
 |q::r,h=>by simp only[tV]at h;split at h;obtain⟨I,J⟩:=NP h;exact⟨by simp[I],J⟩;rename_i ag;simp only[ke]at ag;rcases cU.1 h with rfl |h;exact⟨by simp,λ e=>by rw[e]at ag;simp at ag,λ e=>by rw[e]at ag;simp at ag⟩;obtain⟨I,J⟩:=NP h;exact⟨by simp[I],J⟩
theorem NN{α:Type}{d:Nat}{p:Nat×α}:∀ {l:List (Nat×α)},p∈lg l d->p∈l/\p.1≠d
 |[],h=>by simp[lg]at h
 |q::r,h=>by simp only[lg]at h;split at h;obtain⟨I,J⟩:=NN h;exact⟨by simp[I],J⟩;rename_i ag;rcases cU.1 h with rfl |h;exact⟨by simp,λ e=>by rw[e]at ag;simp at ag⟩;obtain⟨I,J⟩:=NN h;exact⟨by simp[I],J⟩
def cf.put(f:cf T.El)(d:Nat)(y:aE T.El):cf T.El:=⟨(d,y)::lg f.aQ d,tV f.gs d,lg f.du d⟩
def cf.nd(f:cf T.El)(d j:Nat)(b:Bool)(y:aE T.El):cf T.El:=⟨lg f.aQ d,(d,j,b,y)::tV f.gs d,lg f.du d⟩
theorem lz.Vz{d:Nat}{v:Value}(h:lz T F w ρ bl n f a)(aC:eh d n.n=true):(∀p∈tV f.gs d,(a.put (some d) v).tmps.getD p.2.1 undef= .bool p.2.2.1 ->ar T F w ρ bl p.2.2.2 ((a.put (some d) v).tmps.getD p.1 undef))/\∀p∈lg f.du d,(a.put (some d) v).tmps.getD p.1 undef= .bool p.2:=by
 have b:d<a.tmps.size:=by rw[h.dX.size];exact b_ aC
 refine⟨λ p c ag=>?_,λ p c=>?_⟩;obtain⟨I,J,e⟩:=NP c;rw[sC b,lG (Ne.symm e)]at ag;rw[sC b,lG (Ne.symm J)];exact h.gs p I ag;obtain⟨I,J⟩:=NN c;rw[sC b,lG (Ne.symm J)];exact h.du p I
theorem lz.put{d:Nat}{y:aE T.El}{v:Value}(h:lz T F w ρ bl n f a)(aC:eh d n.n=true)(c:ar T F w ρ bl y v):lz T F w ρ bl n (f.put d y) (a.put (some d) v):=by obtain⟨I,J⟩:=h.Vz (v:=v) aC;refine⟨⟨(h.dX.put aC c).size,(h.dX.put aC c).defers,λ t z b=>(h.dX.put aC c).get t z ?_⟩,I,J⟩;simp only[cf.put,dk]at b⊢;split at b;exact b;exact(E_ b).2
theorem lz.nd{d j:Nat}{b:Bool}{y:aE T.El}{v:Value}(h:lz T F w ρ bl n f a)(aC:eh d n.n=true)(i:b2 j d=false)(k:a.tmps.getD j undef= .bool b->ar T F w ρ bl y v):lz T F w ρ bl n (f.nd d j b y) (a.put (some d) v):=by
 obtain⟨I,J⟩:=h.Vz (v:=v) aC;have g:d<a.tmps.size:=by rw[h.dX.size];exact b_ aC
 have c:d≠j:=λ e=>by subst e;simp at i
 refine⟨h.dX.Gi aC,λ p aB ag=>?_,J⟩;rcases cU.1 aB with rfl |aB;simp only at ag⊢;rw[sC g,lG c]at ag;rw[sC g,lH rfl];exact k ag;exact I p aB ag
end
def cq(E:Env)(bl:List (az E.T.El))(f:cf E.T.El)(cur:List (Nat×Bool)):Operand->Option (aE E.T.El)
 | .const v=>some (.p v)
 | .global g=>dk E.eg g
 | .func g=>some (.f (.func g) [])
 | .tmp t=>match dk f.aQ t with
   |some y=>some (nm bl y)
   |none=>match yv f.gs cur t with
    |some y=>some (nm bl y)
    |none=>match yv f.gs f.du t with
     |some y=>some (nm bl y)
     |none=>none
def ma(E:Env)(bl:List (az E.T.El))(f:cf E.T.El)(cur:List (Nat×Bool)):List Operand->Option (List (aE E.T.El))
 |[]=>some []
 |x::r=>match cq E bl f cur x,ma E bl f cur r with
  |some y,some ys=>some (y::ys)
  |_,_=>none
def BH(E:Env)(bl:List (az E.T.El))(f:cf E.T.El)(cur:List (Nat×Bool)):Option Operand->Option (Option (aE E.T.El))
 |none=>some none
 |some x=>match cq E bl f cur x with
  |some y=>some (some y)
  |none=>none
def yE(E:Env)(bl:List (az E.T.El))(f:cf E.T.El)(cur:List (Nat×Bool)):List (Nat×Operand)->Option (List (Nat×aE E.T.El))
 |[]=>some []
 |(i,x)::r=>match cq E bl f cur x,yE E bl f cur r with
  |some y,some ys=>some ((i,y)::ys)
  |_,_=>none
structure R (E:Env) (W:World) (au:List Nat) (X:Nat->Prop) (n:cm) (f:cf E.T.El) (bl:List (az E.T.El)) (ρ:List Value) (a:Act) (w:World):Prop where
 mem:Mem E.T W au X bl ρ w
 db:lz E.T (aY X bl ρ w) w ρ bl n f a
 eg:∀g y,dk E.eg g=some y->ar E.T (aY X bl ρ w) w ρ bl y (.pointer (some ⟨g,0,none⟩))
section
variable{E:Env}{W w w':World}{au:List Nat}{X:Nat->Prop}{n:cm}{f:cf E.T.El}{bl bl':List (az E.T.El)}{ρ ρ':List Value}{a:Act}{cur:List (Nat×Bool)}
theorem R.to(h:R E W au X n f bl ρ a w)(b:To X bl bl' ρ ρ' w w')(c:Mem E.T W au X bl' ρ' w'):R E W au X n f bl' ρ' a w':=⟨c,h.db.later b.F b.L,λ g y d=>b.v (h.eg g y d)⟩
theorem R.put{d:Nat}{y:aE E.T.El}{v:Value}(h:R E W au X n f bl ρ a w)(aC:eh d n.n=true)(b:ar E.T (aY X bl ρ w) w ρ bl y v):R E W au X n (f.put d y) bl ρ (a.put (some d) v) w:=⟨h.mem,h.db.put aC b,h.eg⟩
theorem QE{a:Act}:∀ {l:List (Nat×Bool)},(∀p∈l,a.tmps.getD p.1 undef= .bool p.2)->hX a l
 |[],_=>trivial
 |p::r,h=>⟨h p (by simp),QE λ q b=>h q (by simp[b])⟩
theorem cB(h:R E W au X n f bl ρ a w)(hc:hX a cur){x:Operand}{y:aE E.T.El}(b:cq E bl f cur x=some y):ar E.T (aY X bl ρ w) w ρ bl y (a.eval x):=by
 cases x with
 |const v=>simp only[cq,aM]at b;subst b;simp only[ar];rfl
 |global g=>exact h.eg g y b
 |func g=>simp only[cq,aM]at b;subst b;simp only[ar];exact⟨[],rfl,by simp[aR]⟩
 |tmp t=>simp only[cq]at b;split at b;rename_i z c;simp only[aM]at b;subst b;exact FE h.mem (h.db.dX.get t z c);split at b;rename_i z c;simp only[aM]at b;subst b;exact FE h.mem (LP h.db hc (λ p d=>d) c);split at b;rename_i z c;simp only[aM]at b;subst b;exact FE h.mem (LP h.db (QE h.db.du) (λ p d=>d) c);cases b
theorem yF(h:R E W au X n f bl ρ a w)(hc:hX a cur):∀ {xs:List Operand}{ys:List (aE E.T.El)},ma E bl f cur xs=some ys->aR E.T (aY X bl ρ w) w ρ bl ys (xs.map a.eval)
 |[],ys,b=>by simp only[ma,aM]at b;subst b;simp[aR]
 |x::r,ys,b=>by simp only[ma]at b;split at b;rename_i y c I J;simp only[aM]at b;subst b;simp only[eZ,aR];exact⟨_,_,rfl,cB h hc I,yF h hc J⟩;cases b
theorem U5(h:R E W au X n f bl ρ a w)(hc:hX a cur){x:Option Operand}{y:Option (aE E.T.El)}(b:BH E bl f cur x=some y):vb E (aY X bl ρ w) w ρ bl a x y:=by
 cases x with
 |none=>simp only[BH,aM]at b;subst b;trivial
 |some x=>simp only[BH]at b;split at b;rename_i z c;simp only[aM]at b;subst b;exact cB h hc c;cases b
theorem Mu(h:R E W au X n f bl ρ a w)(hc:hX a cur):∀ {xs:List (Nat×Operand)}{ys:List (Nat×aE E.T.El)},yE E bl f cur xs=some ys->nD E.T (aY X bl ρ w) w ρ bl ys (xs.map λ p=>(p.1,a.eval p.2))
 |[],ys,b=>by simp only[yE,aM]at b;subst b;simp[nD]
 |(i,x)::r,ys,b=>by simp only[yE]at b;split at b;rename_i y c I J;simp only[aM]at b;subst b;simp only[eZ,nD];exact⟨_,_,rfl,cB h hc I,Mu h hc J⟩;cases b
end
def I0(E:Env)(bl:List (az E.T.El))(f:cf E.T.El)(cur:List (Nat×Bool))(c x y:Operand):D (aE E.T.El):=
 match cq E bl f cur c with
 |some (.p (.bool b))=>match E.dO,c with
  |true,_=>match b with
   |true=>.of (cq E bl f cur x)
   |false=>.of (cq E bl f cur y)
  |false,.tmp a=>match dk f.du a with
   |some true=>.of (cq E bl f cur x)
   |some false=>.of (cq E bl f cur y)
   |none=>match cq E bl f ((a,true)::cur) x,cq E bl f ((a,false)::cur) y with
    |some u,some v=>MD E x y b u v
    |_,_=>.no
  |false,_=>.no
 |_=>.no
def Ow:IntKind->Int->Option Int
 | .i64,m=>some (bj m)
 | .u64,m=>some (an8 m)
 | .u8,m=>some ((xB m).toNat:Int)
 |_,_=>none
def IK(P:Program)(s d:Nat):Value->Option Value
 | .int k m=>match iM (P.underlying s),iM (P.underlying d)with
   |some (.i j),some (.i k')=>match ko j k,Ow k' m with
    |true,some r=>some (.int k' r)
    |_,_=>none
   |_,_=>none
 |_=>none
def Jj(E:Env)(bl:List (az E.T.El))(t:Nat)(u:aE E.T.El)(hi a:Option (aE E.T.El)):D (aE E.T.El):=match lj E.P t,zp hi&&zp a with
 |some (e,n),true=>match b2 n (E.T.ty e).size with
  |true=>match u with
   | .s _ _=>.ok (.q e [])
   | .q _ _=>.ok (.q e [])
   | .r i g=>match b2 g (o3 bl i)with
     |true=>.ok (.q e [])
     |false=>.no
   | .p (.slice none 0 0)=>.ok (.p (.slice none 0 0))
   | .p (.slice (some _) 0 _)=>.ok (.q e [])
   |_=>.no
  |false=>.no
 |_,_=>.no
def Mp{El:Nat->Type}(bl:List (az El)):aE El->Bool
 | .s _ (_::_)=>true
 | .q _ (_::_)=>true
 | .p (.slice (some _) _ _)=>true
 | .r i g=>match nth bl i with
   |some (.r _ a _ (_::_))=>b2 g a
   |_=>false
 |_=>false
def FD{El:Nat->Type}:aE El->Bool
 | .p (.slice none _ _)=>true
 |_=>false
def IY(P:Program){El:Nat->Type}(bl:List (az El))(t:Nat)(op:BinOp)(u v:aE El):Option Bool:=match iM (P.underlying t),FD v,wD op true with
 |some .cd,true,some b=>match FD u with
  |true=>some b
  |false=>match Mp bl u with
   |true=>some (!b)
   |false=>none
 |_,_,_=>none
def xS(E:Env)(bl:List (az E.T.El))(f:cf E.T.El)(cur:List (Nat×Bool)):Op->D (aE E.T.El)
 | .move x=>.of (cq E bl f cur x)
 | .assign x=>.of (cq E bl f cur x)
 | .pick c x y=>I0 E bl f cur c x y
 | .binOp op t x y _=>match cq E bl f cur x,cq E bl f cur y with
   |some u,some v=>match IY E.P bl t op u v with
    |some b=>.ok (.p (.bool b))
    |none=>IF E t op (Bf y) u v
   |_,_=>.no
 | .unOp .not _ x=>match cq E bl f cur x with
   |some (.p (.bool p))=>.ok (.p (.bool (!p)))
   |_=>.no
 | .unOp .neg _ x=>match cq E bl f cur x with
   |some (.p (.int .i64 m))=>.ok (.p (.int .i64 (bj (0-m))))
   |_=>.no
 | .convert s d x=>match cq E bl f cur x with
   |some (.p u)=>match IK E.P s d u with
    |some r=>.ok (.p r)
    |none=>.no
   |_=>.no
 | .load t x=>match cq E bl f cur x with
   |some p=>xR E bl t p
   |none=>.no
 | .fieldAddr s x j=>match cq E bl f cur x,Ea E.P s j with
   |some p,some (off,_,_)=>match FX (o3 bl) p with
    |true=>.of (MI p off)
    |false=>.no
   |_,_=>.no
 | .nilCheck x=>match cq E bl f cur x with
   |some p=>match EZ p with
    |true=>.ok p
    |false=>.no
   |none=>.no
 | .extract x i=>match cq E bl f cur x with
   |some (.u l)=>.of (nth l i)
   |_=>.no
 | .makeFunc fn ⟨[]⟩ ⟨ys⟩=>match ma E bl f cur ys with
   |some us=>.ok (.f fn us)
   |none=>.no
 | .makeFunc fn ⟨xs⟩ ⟨[]⟩=>match ma E bl f cur xs with
   |some us=>.ok (.h fn us)
   |none=>.no
 | .makeInterface t x=>match cq E bl f cur x,E.P.concrete t with
   |some y,true=>.ok (.i t y)
   |_,_=>.no
 | .indexAddr t x y=>match cq E bl f cur x,cq E bl f cur y with
   |some u,some v=>IP E bl t u v
   |_,_=>.no
 | .index t x y=>match cq E bl f cur x,cq E bl f cur y,iM (E.P.underlying t)with
   |some (.p (.string ⟨⟨p⟩⟩)),some (.p (.int .i64 j)),some .s=>.op (idx p j) λ b=>.ok (.p (.int .u8 (b.toNat:Int)))
   |_,_,_=>.no
 | .slice t x lo hi none=>match cq E bl f cur x,BH E bl f cur lo,BH E bl f cur hi with
   |some u,some a,some b=>IJ E bl t u a b
   |_,_,_=>.no
 | .slice t x none (some hi) (some e)=>match cq E bl f cur x,cq E bl f cur hi,cq E bl f cur e with
   |some u,some a,some b=>Jj E bl t u (some a) (some b)
   |_,_,_=>.no
 | .lookup t x y ok=>match cq E bl f cur x,cq E bl f cur y with
   |some u,some v=>IW E bl t ok u v
   |_,_=>.no
 | .field t x j=>match cq E bl f cur x with
   |some u=>IZ E t j u
   |none=>.no
 | .build t ⟨ps⟩=>match yE E bl f cur ps with
   |some ys=>IG E t ys
   |none=>.no
 | .call ⟨.builtin .len,⟨[x]⟩,⟨[t]⟩⟩=>match cq E bl f cur x with
   |some u=>match mapOf E.P t with
    |some _=>IV E bl t u
    |none=>IU E bl t u
   |none=>.no
 | .call ⟨.builtin .cap,⟨[x]⟩,⟨[t]⟩⟩=>match lj E.P t,cq E bl f cur x with
   |some _,some (.p (.slice _ _ c))=>.ok (.p (.int .i64 (c:Int)))
   |_,_=>.no
 | .call ⟨.builtin .min,⟨[x,y]⟩,_⟩=>match cq E bl f cur x,cq E bl f cur y with
   |some (.p (.int .i64 m)),some (.p (.int .i64 k))=>.ok (.p (.int .i64 (if k<m then k else m)))
   |_,_=>.no
 | .typeAssert x _ t true=>match cq E bl f cur x,xa E.P t,vY E.P t with
   |some (.p .nilIface),some z,true=>.ok (.u [.p z,.p (.bool false)])
   |some (.i s y),some z,true=>match b2 s t with
    |true=>.ok (.u [y,.p (.bool true)])
    |false=>.ok (.u [.p z,.p (.bool false)])
   |_,_,_=>.no
 |_=>.no
def m4(E:Env)(bl:List (az E.T.El))(f:cf E.T.El)(cur:List (Nat×Bool)):Op->Option (Option Nat)
 | .load _ x=>match cq E bl f cur x with
   |some p=>some (LH p)
   |none=>none
 | .lookup _ x _ _=>match cq E bl f cur x with
   |some u=>some (wv u)
   |none=>none
 | .call ⟨.builtin .len,⟨[x]⟩,⟨[t]⟩⟩=>match mapOf E.P t,cq E bl f cur x with
   |some _,some u=>some (wv u)
   |_,_=>none
 |_=>none
def sg(P:Program)(o:Oper)(a:Act)(X:Nat->Prop){El:Nat->Type}(bl:List (az El))(ρ:List Value)(w:World)(r:Value):Option (Option Nat)->Prop
 |none=>iR P o a r
 |some i=>∃(q:Nat)(S:World->Prop),(match i with
  |none=>aY X bl ρ w q
  |some i=>∃B h,bl[i]? =some B/\ρ[i]? =some h/\q∈a_ B h)/\S w/\(∀w',w'.heap[q]? =w.heap[q]? ->S w')/\∀w',S w'->aS P o a w' r w'
theorem sg.now{P:Program}{o:Oper}{a:Act}{X:Nat->Prop}{El:Nat->Type}{bl:List (az El)}{ρ:List Value}{w:World}{r:Value}:∀ {i:Option (Option Nat)},sg P o a X bl ρ w r i->aS P o a w r w
 |none,h=>h w
 |some _,⟨_,_,_,I,_,J⟩=>J w I
theorem jK{α:Type}{t:Nat}{y:α}:∀ {l:List (Nat×α)},dk l t=some y->(t,y)∈l
 |[],h=>by simp[dk]at h
 |p::r,h=>by simp only[dk]at h;split at h;rename_i ag;simp only[aM]at h;subst h;rw[<-a8 ag];simp;exact fD _ (jK h)
section
variable{E:Env}{W w w':World}{au:List Nat}{X:Nat->Prop}{n:cm}{f:cf E.T.El}{bl:List (az E.T.El)}{ρ:List Value}{a:Act}{cur:List (Nat×Bool)}
theorem X1{P:Program}{o:Oper}{A:Option Addr}{m c sz t e:Nat}{x hi b:Operand}(d:P.underlying t=some (.slice e))(ap:∀w,(Go.sizeOf e).run P w= .ok sz w)(g:o.op= .slice t x none (some hi) (some b))(h:a.eval x= .slice A m c)(I:a.eval hi= .int .i64 0)(J:a.eval b= .int .i64 0)(w:World):aS P o a w (.slice A 0 0) w:=by have i:=amY (P:=P) (w:=w) (A:=A) (m:=m) (c:=c) (j:=0) d ap ⟨k2 _,by omega⟩;simp only[aS,execOp,g,h,Instr.sliceAt,Sem.run_bind,run_underlying d,Result.andThen_ok,ie,fC,I,J,i];rfl
theorem ak6{F:Nat->Prop}{t:Nat}(A:Option Addr):ar E.T F w ρ bl (.q t []) (.slice A 0 0):=by simp only[ar];exact⟨⟨A,0,rfl,cS _,g_ _,λ _=>rfl,λ h=>absurd rfl h⟩,A,rfl⟩
theorem NY{v:Value}(h:k6 v):∃A m c,v= .slice A m c:=by cases v<;>simp[k6]at h;exact⟨_,_,_,rfl⟩
theorem aej(y:Mem E.T W au X bl ρ w){o:Oper}{t:Nat}{x hi g:Operand}{u z i j:aE E.T.El}(h:(Jj E bl t u (some i) (some j)).out z)(l:o.op= .slice t x none (some hi) (some g))
 (b:ar E.T (aY X bl ρ w) w ρ bl u (a.eval x))(I:ar E.T (aY X bl ρ w) w ρ bl i (a.eval hi))(J:ar E.T (aY X bl ρ w) w ρ bl j (a.eval g)):∃r,iR E.P o a r/\ar E.T (aY X bl ρ w) w ρ bl z r:=by
 unfold Jj at h
 split at h
 ·rename_i e B ap ag;simp only[bM]at ag;have p:a.eval hi= .int .i64 0:=by rcases Hm (lo:=some hi) (u:=some i) (show vb E _ w ρ bl a (some hi) (some i) from I) ag.1 with⟨e,_⟩|⟨_,e,k⟩;cases e;cases e;exact k
  have q:a.eval g= .int .i64 0:=by rcases Hm (lo:=some g) (u:=some j) (show vb E _ w ρ bl a (some g) (some j) from J) ag.2 with⟨e,_⟩|⟨_,e,k⟩;cases e;cases e;exact k
  obtain⟨s,v⟩:=ow ap;have fin:∀ {A:Option Addr}{m c:Nat},a.eval x= .slice A m c->(D.ok (aE.q e ([]:List (E.T.El e)))).out z->∃r,iR E.P o a r/\ar E.T (aY X bl ρ w) w ρ bl z r:=λ{A m c} d h=>by have h:aE.q e []=z:=h;subst h;exact⟨_,λ w'=>X1 s v l d p q w',ak6 A⟩
  split at h;split at h;simp only[ar]at b;obtain⟨A,c,d⟩:=jU _ b;exact fin d h;simp only[ar]at b;obtain⟨A,d⟩:=b.2;exact fin d h;split at h;simp only[ar]at b;obtain⟨A,m,c,d⟩:=NY b.1;exact fin d h;exact h.elim;have h:aE.p (.slice none 0 0)=z:=h;subst h;simp only[ar]at b;exact⟨_,λ w'=>X1 s v l b p q w',by simp only[ar]⟩;simp only[ar]at b;exact fin b h;exact h.elim;exact h.elim
 ·exact h.elim
theorem an5{k:IntKind}{m r:Int}(h:Ow k m=some r):k.wrap m=r:=by unfold Ow at h;split at h<;>simp only[aM,reduceCtorEq]at h<;>subst h;exact pR m;rw[IntKind.wrap_u64];rfl;exact WJ m
theorem adH{P:Program}{o:Oper}{s d:Nat}{x:Operand}{u r:Value}(h:IK P s d u=some r)(b:o.op= .convert s d x)(c:a.eval x=u):iR P o a r:=by unfold IK at h;split at h;rename_i k m;split at h;rename_i j k' I J;split at h;rename_i e4 e g;simp only[aM]at h;subst h;have:=l2 e;subst this;rw[<-an5 g];exact λ w=>O8 (qY I) (qY J) b c;cases h;cases h;cases h
theorem ahL{y:Operand}(b:Bf y=true)(k:IntKind)(n:Int)(c:a.eval y= .int k n):n≠0:=by unfold Bf at b;split at b;rename_i k' d;have:a.eval (.const (.int k' d))= .int k' d:=rfl;rw[this]at c;injection c with _ e;subst e;simpa using b;cases b
theorem adV(h:R E W au X n f bl ρ a w)(hc:hX a cur){o:Oper}{c x y:Operand}{z:aE E.T.El}(d:(I0 E bl f cur c x y).out z)(j:o.op= .pick c x y):∃r,iR E.P o a r/\ar E.T (aY X bl ρ w) w ρ bl z r:=by
 unfold I0 at d;split at d
 ·rename_i b m;have g:=cB h hc m;simp only[ar]at g;have tk:b=true->(D.of (cq E bl f cur x)).out z->∃r,iR E.P o a r/\ar E.T (aY X bl ρ w) w ρ bl z r:=λ ag d=>by have:=cB h hc (D.mb d);exact⟨_,λ w'=>Hl j (by rw[g,ag]) rfl,this⟩
  have l:b=false->(D.of (cq E bl f cur y)).out z->∃r,iR E.P o a r/\ar E.T (aY X bl ρ w) w ρ bl z r:=λ ag d=>by have:=cB h hc (D.mb d);exact⟨_,λ w'=>Hk j (by rw[g,ag]) rfl,this⟩
  split at d
  ·cases b with
   |true=>exact tk rfl d
   |false=>exact l rfl d
  ·rename_i i _;split at d;rename_i k;have:=h.db.du _ (jK k);have e:a.eval (.tmp i)= .bool true:=this;rw[g]at e;exact tk (by injection e) d;rename_i k;have:=h.db.du _ (jK k);have e:a.eval (.tmp i)= .bool false:=this;rw[g]at e;exact l (by injection e) d;split at d;rename_i u v p q;obtain⟨r,I,J⟩:=akz (a:=a) (x:=x) (y:=y) d (λ ag=>cB h (show hX a ((i,true)::cur) from⟨by subst ag;exact g,hc⟩) p) (λ ag=>cB h (show hX a ((i,false)::cur) from⟨by subst ag;exact g,hc⟩) q);exact⟨r,λ w'=>aqw j g I,J⟩;exact d.elim
  ·exact d.elim
 ·exact d.elim
theorem X_{P:Program}{o:Oper}{t t':TypeId}{x y:Operand}{A:Option Addr}{m c g i:Nat}{op:BinOp}{b:Bool}(l:iM (P.underlying t)=some .cd)(ag:wD op A.isNone=some b)(j:o.op= .binOp op t x y t')(k:a.eval x= .slice A m c)(hy:a.eval y= .slice none g i)(w:World):aS P o a w (.bool b) w:=by
 obtain⟨e,p⟩:=qY l;have h:∀d:Nat,(Op.equalIn (d+1) t (.slice A m c) (.slice none g i)).run P w= .ok A.isNone w:=λ d=>by cases A<;>simp[Op.equalIn,run_underlying p]
 cases op<;>simp only[wD,aM,reduceCtorEq]at ag<;>subst ag
 ·have J:(binOp .eql t (.slice A m c) (.slice none g i)).run P w= .ok (.bool A.isNone) w:=by
   simp only[binOp];simp[Op.equal,Op.maxDepth,h 9999]
  simp only[aS,execOp,j,k,hy];simp[go_sem,J]
 ·have J:(binOp .neq t (.slice A m c) (.slice none g i)).run P w= .ok (.bool (!A.isNone)) w:=by
   simp only[binOp];simp[Op.equal,Op.maxDepth,h 9999]
  simp only[aS,execOp,j,k,hy];simp[go_sem,J]
theorem Wq{α:Type}{T:cR α}{F:Nat->Prop}{v:Value}{d:α}{l:List α}(h:(bX T).rd F w [v] (d::l)):∃g m c,v= .slice (some g) m c:=by obtain⟨A,c,e,_,_,_,J⟩:=h;simp only[hH,and_true]at e;subst e;rw[(J (by simp)).1];exact⟨_,_,_,rfl⟩
theorem akc(j:Mem E.T W au X bl ρ w){u:aE E.T.El}{v:Value}(h:Mp bl u=true)(b:ar E.T (aY X bl ρ w) w ρ bl u v):∃g m c,v= .slice (some g) m c:=by unfold Mp at h;split at h;simp only[ar]at b;exact Wq b;simp only[ar]at b;exact Wq b.1;simp only[ar]at b;exact⟨_,_,_,b⟩;split at h;rename_i t' p k d l hi;rw[cH]at hi;simp only[ar]at b;obtain⟨_,aC,o,q,e⟩:=b;rw[hi]at e;obtain⟨A,c,xs,i,al,aN⟩:=j.ok _ _ _ hi o;rw[e (a8 h),i];rw[i]at al;obtain⟨g,rfl⟩:=yV al (by simp);exact⟨_,_,_,rfl⟩;cases h;cases h
theorem U0{F:Nat->Prop}{u:aE E.T.El}{v:Value}(h:FD u=true)(b:ar E.T F w ρ bl u v):∃m c,v= .slice none m c:=by unfold FD at h;split at h;simp only[ar]at b;exact⟨_,_,b⟩;cases h
theorem adT(l:Mem E.T W au X bl ρ w){t:Nat}{op:BinOp}{u v:aE E.T.El}{o:Oper}{x y:Operand}{t':TypeId}{b:Bool}(h:IY E.P bl t op u v=some b)(i:o.op= .binOp op t x y t')(j:ar E.T (aY X bl ρ w) w ρ bl u (a.eval x))(hy:ar E.T (aY X bl ρ w) w ρ bl v (a.eval y)):iR E.P o a (.bool b):=by unfold IY at h;split at h;rename_i b0 I J d;obtain⟨p,q,k⟩:=U0 J hy;split at h;rename_i e;simp only[aM]at h;subst h;obtain⟨m,c,ex⟩:=U0 e j;exact λ w'=>X_ (A:=none) I d i ex k w';split at h;rename_i e;simp only[aM]at h;subst h;obtain⟨g,m,c,ex⟩:=akc l e j;refine λ w'=>X_ (A:=some g) I ?_ i ex k w';cases op<;>simp only[wD,aM,reduceCtorEq]at d⊢ <;>subst d<;>rfl;cases h;cases h
theorem N4{P:Program}{t:TypeId}(h:vY P t=true):∃b3,P.underlying t=some (.struct b3):=by unfold vY at h;split at h;exact⟨_,‹_›⟩;cases h
theorem X5{P:Program}{o:Oper}{x y:Operand}{b:Array TypeId}{m k:Int}{w:World}(c:o.op= .call { callee:=.builtin .min,args:=#[x,y],argTypes:=b })(d:a.eval x= .int .i64 m)(hy:a.eval y= .int .i64 k):aS P o a w (.int .i64 (if k<m then k else m)) w:=by simp only[aS,execOp,c,resolve,invoke,builtin,gg,eZ,h6,d,hy,Builtin.min_];simp[go_sem,Builtin.min2]
theorem aqE{P:Program}{o:Oper}{x:Operand}{s t:TypeId}{z:Value}(c:vY P t=true)(b:∀w,(zeroValue t).run P w= .ok z w)(d:o.op= .typeAssert x s t true)(e:a.eval x= .nilIface)(w:World):aS P o a w (.tuple ⟨[z,.bool false]⟩) w:=by obtain⟨b3,g⟩:=N4 c;simp only[aS,execOp,d,e,Instr.typeAssert,Sem.run_bind,run_underlying g,Result.andThen_ok,b,if_true];simp[go_sem,b]
theorem aqF{P:Program}{o:Oper}{x:Operand}{s t:TypeId}{u:Value}(b:vY P t=true)(c:o.op= .typeAssert x s t true)(d:a.eval x= .iface t u)(w:World):aS P o a w (.tuple ⟨[u,.bool true]⟩) w:=by obtain⟨b3,e⟩:=N4 b;simp only[aS,execOp,c,d,Instr.typeAssert,Sem.run_bind,run_underlying e,Result.andThen_ok,if_true];simp[go_sem]
theorem aqD{P:Program}{o:Oper}{x:Operand}{s t t':TypeId}{u z:Value}(b:vY P t=true)(c:∀w,(zeroValue t).run P w= .ok z w)(d:t'≠t)(e:o.op= .typeAssert x s t true)(g:a.eval x= .iface t' u)(w:World):aS P o a w (.tuple ⟨[z,.bool false]⟩) w:=by obtain⟨b3,h⟩:=N4 b;simp only[aS,execOp,e,g,Instr.typeAssert,Sem.run_bind,run_underlying h,Result.andThen_ok,if_true,lG d];simp[go_sem,c]
theorem R'(M:cJ E)(h:R E W au X n f bl ρ a w)(hc:hX a cur){o:Oper}{op:Op}(i:o.op=op){z:aE E.T.El}(d:(xS E bl f cur op).out z):∃r,ar E.T (aY X bl ρ w) w ρ bl z r/\sg E.P o a X bl ρ w r (m4 E bl f cur op):=by
 have B:(∃r,iR E.P o a r/\ar E.T (aY X bl ρ w) w ρ bl z r)->∃r,ar E.T (aY X bl ρ w) w ρ bl z r/\sg E.P o a X bl ρ w r none:=λ⟨r,I,J⟩=>⟨r,J,I⟩
 unfold xS at d;split at d;exact B ⟨_,λ w'=>Hj i rfl,cB h hc (D.mb d)⟩;exact B ⟨_,λ w'=>Hf i rfl,cB h hc (D.mb d)⟩;exact B (adV h hc d i);split at d;rename_i u v I J;split at d;rename_i b ag;have d:aE.p (.bool b)=z:=d;subst d;exact B ⟨_,adT h.mem ag i (cB h hc I) (cB h hc J),by simp only[ar]⟩;exact B (adC M d i (λ K=>ahL K) (cB h hc I) (cB h hc J));exact d.elim;split at d;rename_i p I;have d:aE.p (.bool (!p))=z:=d;subst d;have:=cB h hc I;simp only[ar]at this;exact B ⟨_,λ w'=>X7 i this,by simp only[ar]⟩;exact d.elim;split at d;rename_i m I;have d:aE.p (.int .i64 (bj (0-m)))=z:=d;subst d;have:=cB h hc I;simp only[ar]at this;exact B ⟨_,λ w'=>aqu i this,by simp only[ar]⟩;exact d.elim;split at d;rename_i u I;split at d;rename_i r J;have d:aE.p r=z:=d;subst d;have:=cB h hc I;simp only[ar]at this;exact B ⟨_,adH J i this,by simp only[ar]⟩;exact d.elim;exact d.elim;rename_i t x;split at d;rename_i p I;obtain⟨dD,us,v,L,G,N,S,O⟩:=adQ M.tb h.mem (cB h hc I) d;refine⟨v,G,?_⟩;simp only[m4,I,sg];refine⟨dD.block,λ w'=>ev w' dD us,?_,N,λ w' H=>N.law H,λ w' H=>S o a x w' i L H⟩;revert O;cases LH p<;>exact λ h=>h;exact d.elim;split at d;rename_i p off kR sz I J;split at d;rename_i P;obtain⟨g,q,C,al⟩:=akG P (D.mb d) (cB h hc I);obtain⟨b3,Y,L,G,N,S,O,V⟩:=Sn J;subst N;exact B ⟨_,λ w'=>X0 L G O V i C,al⟩;exact d.elim;exact d.elim;split at d;rename_i p I;split at d;rename_i P;have d:p=z:=d;subst d;have:=cB h hc I;obtain⟨q,e⟩:=T' P this;exact B ⟨_,λ w'=>X6 i e,by rw[<-e];exact this⟩;exact d.elim;exact d.elim;split at d;rename_i l I;have:=cB h hc I;simp only[ar]at this;obtain⟨vs,C,al⟩:=this;have hi:=D.mb d;rw[cH]at hi;obtain⟨v,aN,bI⟩:=al.at_ hi;exact B ⟨v,λ w'=>C7 (vs:=vs) i C aN,bI⟩;exact d.elim;split at d;rename_i us I;have d:aE.f _ us=z:=d;subst d;have:=yF h hc I;refine B ⟨_,λ w'=>?_,by simp only[ar];exact⟨_,rfl,this⟩⟩;simp only[aS,execOp,i,Instr.makeFunc];simp only[gg,h6];rfl;exact d.elim;split at d;rename_i us I;have d:aE.h _ us=z:=d;subst d;have:=yF h hc I;refine B ⟨_,λ w'=>?_,by simp only[ar];exact⟨_,rfl,this⟩⟩;simp only[aS,execOp,i,Instr.makeFunc];simp only[gg,h6];rfl;exact d.elim;split at d;rename_i y I J;have d:aE.i _ y=z:=d;subst d;exact B ⟨_,λ w'=>aqj J i rfl,by simp only[ar];exact⟨_,rfl,cB h hc I⟩⟩;exact d.elim;split at d;rename_i u v I J;exact B (adK M.tb h.mem d i (cB h hc I) (cB h hc J));exact d.elim;split at d;rename_i p j I J F;obtain⟨b,L,G⟩:=d;have G:aE.p (.int .u8 (b.toNat:Int))=z:=G;subst G;have C:=cB h hc I;have al:=cB h hc J;simp only[ar]at C al;exact B ⟨_,λ w'=>aql (qY F) i C al L,by simp only[ar]⟩;exact d.elim;split at d;rename_i u lo hi I J F;exact B (adG h.mem d i (cB h hc I) (U5 h hc J) (U5 h hc F));exact d.elim;split at d;rename_i u lo hi I J F;exact B (aej h.mem d i (cB h hc I) (cB h hc J) (cB h hc F));exact d.elim;split at d;rename_i u v I J;obtain⟨r,q,C,al,aN⟩:=adR M h.mem d i (cB h hc I) (cB h hc J);refine⟨r,C,?_⟩;simp only[m4,I,sg];refine⟨q,λ w'=>w'.heap[q]? =w.heap[q]?,?_,rfl,λ w' H=>H,aN⟩;revert al;cases wv u<;>exact λ h=>h;exact d.elim;split at d;rename_i u I;exact B (adU d i (cB h hc I));exact d.elim;split at d;rename_i ys I;obtain⟨v,C,al⟩:=adD (Mu h hc I) d;exact B ⟨v,λ w'=>al o a _ w' i rfl,C⟩;exact d.elim;split at d;rename_i x t _ u I;split at d;rename_i Z K;obtain⟨r,q,C,al,aN⟩:=adO h.mem d i (cB h hc I);refine⟨r,C,?_⟩;simp only[m4,K,I,sg];refine⟨q,λ w'=>w'.heap[q]? =w.heap[q]?,?_,rfl,λ w' H=>H,aN⟩;revert al;cases wv u<;>exact λ h=>h;rename_i K;have:=B (adP h.mem d i (cB h hc I));simpa only[m4,K]using this;exact d.elim;split at d;rename_i e A m c ap I;have d:aE.p (.int .i64 (c:Int))=z:=d;subst d;have U:=cB h hc I;simp only[ar]at U;exact B ⟨_,λ w'=>aqa (ow (e:=e.1) (n:=e.2) ap).1 i U,by simp only[ar]⟩;exact d.elim;split at d;rename_i m k I J;have d:aE.p (.int .i64 (if k<m then k else m))=z:=d;subst d;have C:=cB h hc I;have al:=cB h hc J;simp only[ar]at C al;exact B ⟨_,λ w'=>X5 i C al,by simp only[ar]⟩;exact d.elim;split at d;rename_i Q I J F;have d:aE.u [.p Q,.p (.bool false)]=z:=d;subst d;have C:=cB h hc I;simp only[ar]at C;exact B ⟨_,λ w'=>aqE F (Pc J) i C w',by simp only[ar,aR];exact⟨_,rfl,_,_,rfl,rfl,_,_,rfl,rfl,rfl⟩⟩;rename_i s y Q I J F;have C:=cB h hc I;simp only[ar]at C;obtain⟨u,C,al⟩:=C;split at d;rename_i ag;have d:aE.u [y,.p (.bool true)]=z:=d;subst d;have:=a8 ag;subst this;exact B ⟨_,λ w'=>aqF F i C w',by simp only[ar,aR];exact⟨_,rfl,_,_,rfl,al,_,_,rfl,rfl,rfl⟩⟩;rename_i ag;have d:aE.u [.p Q,.p (.bool false)]=z:=d;subst d;exact B ⟨_,λ w'=>aqD F (Pc J) (λ e=>by rw[e,Nat.beq_refl]at ag;cases ag) i C w',by simp only[ar,aR];exact⟨_,rfl,_,_,rfl,rfl,_,_,rfl,rfl,rfl⟩⟩;exact d.elim;exact d.elim
end
structure dv (El:Nat->Type) where
 y:Option (aE El)
 bl:List (az El)
 ws:List Nat
section
variable{T:bD}{W w w':World}{au:List Nat}{X:Nat->Prop}{bl:List (az T.El)}{ρ:List Value}
theorem Mem.yC(a:Mem T W au X bl ρ w){k:Nat}(h:lB bl ρ k): ¬X k:=λ b=>by have I:=a.fI k b;rcases(a.lt k h).2 with e |e;exact I.2 e;omega
theorem wN{α:Type}{l:List α}{i:Nat}{x:α}(h:l[i]? =some x):l.set i x=l:=by obtain⟨I,J⟩:=bg.1 h;rw[<-J,lp]
theorem Mem.freeze(a:Mem T W au X bl ρ w){i t g k:Nat}{l:List (T.El t)}(hi:bl[i]? =some (.r t g k l)):Mem T W au X (bl.set i (.z t g k l)) ρ w/\To X bl (bl.set i (.z t g k l)) ρ ρ w w:=by
 obtain⟨h,b⟩:=a.Bp hi;have d:=a.wQ (B':=az.z t g k l) (h':=h) (w':=w) hi b (a1.refl _ _) (λ q m=>by simp[a_]at m) ⟨λ _=>rfl,cS _,λ _=>⟨rfl,rfl,cS _,λ _=>rfl⟩⟩;have o:=a.rJ (B':=az.z t g k l) (h':=h) (w':=w) hi b (a1.refl _ _) (λ q m=>by simp[a_]at m) d (by
  obtain⟨A,c,xs,rfl,J,v⟩:=a.ok i _ _ hi b;obtain⟨x,y,z,E⟩:=J.cap;refine⟨A,c,rfl,x,y,z,λ C=>?_⟩;have D:0<l.length:=List.length_pos_iff.2 C;obtain⟨n,rfl,F,hc,p⟩:=rF D J;refine⟨rfl,?_,xs,kz _ d.F v,by simpa[dh,fA]using hc⟩;have r:lB bl ρ n:=⟨i,_,_,hi,b,by simp only[a_];rw[p];simp⟩
  refine⟨by simpa[dh]using a.yC r,?_,by simpa[dh]using(a.lt n r).1⟩;rintro⟨j,B,g',f,s,u⟩;by_cases e:j=i;subst e;rw[fS (bg.1 hi).1]at f;cases f;simp[a_]at u
  ·rw[iu (Ne.symm e)]at f;rw[iu (Ne.symm e)]at s
   exact a.a6 i j _ _ _ _ hi b f s (Ne.symm e) n (by simp only[a_];rw[p];simp) (by simpa[dh]using u))
 rw[wN b]at o d;exact⟨o,d⟩
end
def fi{El:Nat->Type}(bl:List (az El)):aE El->List (az El)×aE El
 | .r i g=>match nth bl i with
   |some (.r t a k l)=>match b2 g a with
    |true=>(bl.set i (.z t a k l),.s t l)
    |false=>(bl,.r i g)
   |some (.z t a _ l)=>match b2 g a with
    |true=>(bl,.s t l)
    |false=>(bl,.r i g)
   |_=>(bl,.r i g)
 | .q t l=>(bl,.s t l)
 |y=>(bl,y)
def kQ{El:Nat->Type}:List (az El)->List (aE El)->List (az El)×List (aE El)
 |bl,[]=>(bl,[])
 |bl,y::r=>match fi bl y with
  |(bl',a)=>match kQ bl' r with
   |(b,e4)=>(b,a::e4)
section
variable{T:bD}{W w w':World}{au:List Nat}{X:Nat->Prop}{bl:List (az T.El)}{ρ:List Value}
theorem St(c:Mem T W au X bl ρ w){y b:aE T.El}{bl':List (az T.El)}{v:Value}(h:fi bl y=(bl',b))(a:ar T (aY X bl ρ w) w ρ bl y v):Mem T W au X bl' ρ w/\To X bl bl' ρ ρ w w/\ar T (aY X bl' ρ w) w ρ bl' b v:=by
 have same:∀ {u:aE T.El},(bl,u)=(bl',b)->ar T (aY X bl ρ w) w ρ bl u v->Mem T W au X bl' ρ w/\To X bl bl' ρ ρ w w/\ar T (aY X bl' ρ w) w ρ bl' b v:=λ{u} h j=>by simp only[cv]at h;obtain⟨rfl,rfl⟩:=h;exact⟨c,.refl,j⟩
 unfold fi at h;split at h;rename_i i g;split at h;rename_i t m k l hi;rw[cH]at hi;split at h;rename_i ag;have ag:=a8 ag;subst ag;simp only[cv]at h;obtain⟨rfl,rfl⟩:=h;obtain⟨I,J⟩:=c.freeze hi;refine⟨I,J,?_⟩;have d:=J.v a;simp only[ar]at d⊢;obtain⟨_,aC,n,o,e⟩:=d;have f:(bl.set i (az.z t g k l))[i]? =some (az.z t g k l):=fS (bg.1 hi).1;rw[f]at e;rw[e rfl];exact I.ok i _ _ f n;exact same h a;rename_i t m k l hi;rw[cH]at hi;split at h;rename_i ag;refine same h ?_;have:=FE c a;simp only[nm,cH,hi,ag]at this;exact this;exact same h a;exact same h a;refine same h ?_;simp only[ar]at a⊢;exact a.1;exact same h a
theorem Ej:∀ {ys a:List (aE T.El)}{bl bl':List (az T.El)}{vs:List Value},Mem T W au X bl ρ w->kQ bl ys=(bl',a)->aR T (aY X bl ρ w) w ρ bl ys vs->Mem T W au X bl' ρ w/\To X bl bl' ρ ρ w w/\aR T (aY X bl' ρ w) w ρ bl' a vs
 |[],a,bl,bl',vs,c,h,b=>by simp only[kQ,cv]at h;obtain⟨rfl,rfl⟩:=h;exact⟨c,.refl,b⟩
 |y::r,a,bl,bl',vs,c,h,b=>by
  simp only[aR]at b;obtain⟨u,us,rfl,f,g⟩:=b;simp only[kQ]at h;cases I:fi bl y with
  |mk i m=>
   rw[I]at h;cases J:kQ i r with
   |mk n o=>rw[J]at h;simp only[cv]at h;obtain⟨rfl,rfl⟩:=h;obtain⟨j,d,v1⟩:=St c I f;obtain⟨k,e,l⟩:=Ej j J (d.vs g);refine⟨k,d.trans e,?_⟩;simp only[aR];exact⟨u,us,rfl,e.v v1,l⟩
end
section
variable{E:Env}{W w w':World}{au:List Nat}{X:Nat->Prop}{n:cm}{f:cf E.T.El}{bl:List (az E.T.El)}{ρ:List Value}{a:Act}{cur:List (Nat×Bool)}
def fv(E:Env)(o:Oper)(a:Act)(W:World)(au:List Nat)(X:Nat->Prop)(bl:List (az E.T.El))(ρ:List Value)(w:World)(e:dv E.T.El):Prop:=
 ∃w' ρ',Mem E.T W au X e.bl ρ' w'/\To X bl e.bl ρ ρ' w w'/\(∀k,k<w.heap.size->(∀i∈e.ws,∀B h,bl[i]? =some B->ρ[i]? =some h->k∉a_ B h)->w'.heap[k]? =w.heap[k]?)/\
  match e.y with
  |some y=>∃v,aS E.P o a w v w'/\ar E.T (aY X e.bl ρ' w') w' ρ' e.bl y v
  |none=>nF E.P o a w w'
theorem UZ(c:Mem E.T W au X bl ρ w){o:Oper}{t:Nat}{cs:List (aE E.T.El)}{vs:List Value}(i:aR E.T (aY X bl ρ w) w ρ bl cs vs)(hy:aS E.P o a w (.pointer (some ⟨w.heap.size,0,none⟩)) (w.alloc (.cells ⟨vs⟩ t))) :
 fv E o a W au X bl ρ w ⟨some (.b bl.length 0),bl++[.c t cs],[]⟩:=by
 have d:a1 [] w (w.alloc (.cells ⟨vs⟩ t)):=a1.alloc _ _ _
 have e:∀k∈a_ (az.c t cs) (.pointer (some ⟨w.heap.size,0,none⟩)),w.heap.size<=k/\k<(w.alloc (.cells ⟨vs⟩ t)).heap.size:=λ k b=>by simp only[a_,ag,ft]at b;subst b;simp
 have g:=c.uh (B:=az.c t cs) (h:=.pointer (some ⟨w.heap.size,0,none⟩)) d e
 refine⟨_,ρ++[.pointer (some ⟨w.heap.size,0,none⟩)],c.push d e ⟨_,vs,rfl,heap_alloc_new w _,g.vs i⟩,g,λ k b _=>d.block k b (by simp),_,hy,?_⟩
 simp only[ar]
 exact⟨_,by rw[<-c.len];simp,rfl⟩
theorem ajO(c:Mem E.T W au X bl ρ w){o:Oper}{kt vt:Nat}{K:gI (E.T.El kt)}(g:(E.T.e kt).key=some K)(hy:aS E.P o a w (.map (some w.heap.size)) (w.alloc (.map #[] 0))) :
 fv E o a W au X bl ρ w ⟨some (.m bl.length),bl++[.m kt vt []],[]⟩:=by
 have d:a1 [] w (w.alloc (.map #[] 0)):=a1.alloc _ _ _
 have e:∀k∈a_ (az.m kt vt ([]:List (E.T.El kt×E.T.El vt))) (.map (some w.heap.size)),w.heap.size<=k/\k<(w.alloc (.map #[] 0)).heap.size:=λ k b=>by simp only[a_,ag,ft]at b;subst b;simp
 have i:=c.uh (B:=az.m kt vt ([]:List (E.T.El kt×E.T.El vt))) (h:=.map (some w.heap.size)) d e
 refine⟨_,ρ++[.map (some w.heap.size)],c.push d e ⟨_,rfl,K,g,#[],0,heap_alloc_new w _,trivial,by simp,by simp⟩,i,λ k b _=>d.block k b (by simp),_,hy,?_⟩
 simp only[ar]
 exact⟨_,by rw[<-c.len];simp,rfl⟩
def FK{El:Nat->Type}:aE El->Bool
 | .a _=>false
 | .u _=>false
 | .p v=>v.oneCell'
 |_=>true
theorem akq{F:Nat->Prop}{y:aE E.T.El}{v:Value}(h:FK y=true)(B:ar E.T F w ρ bl y v):v.oneCell'=true:=by
 cases y with
 |p u=>simp only[ar]at B;subst B;exact h
 |a l=>simp[FK]at h
 |b i o=>simp only[ar]at B;obtain⟨g,_,rfl⟩:=B;rfl
 |x t d o=>simp only[ar]at B;obtain⟨_,_,_,rfl,_⟩:=B;rfl
 |s t l=>simp only[ar]at B;obtain⟨A,c,e⟩:=jU _ B;subst e;rfl
 |q t l=>simp only[ar]at B;obtain⟨_,A,rfl⟩:=B;rfl
 |r i g=>simp only[ar]at B;obtain⟨A,m,c,rfl⟩:=NY B.1;rfl
 |v i g lo hi=>simp only[ar]at B;obtain⟨A,m,c,rfl⟩:=NY B.1;rfl
 |e i g k t j d o=>simp only[ar]at B;have:=B.1;cases v<;>simp[qW]at this;rfl
 |w i g o=>simp only[ar]at B;have:=B.1;cases v<;>simp[qW]at this;rfl
 |m i=>simp only[ar]at B;obtain⟨g,_,rfl⟩:=B;rfl
 |n _ _ _=>simp only[ar]at B;obtain⟨g,rfl,_⟩:=B;rfl
 |f fn cs=>simp only[ar]at B;obtain⟨g,rfl,_⟩:=B;rfl
 |h fn us=>simp only[ar]at B;obtain⟨g,rfl,_⟩:=B;rfl
 |u l=>simp[FK]at h
 |i t z=>simp only[ar]at B;obtain⟨g,rfl,_⟩:=B;rfl
 |pp i g sz dI=>simp only[ar]at B;obtain⟨_,_,rfl,_⟩:=B;rfl
 |tR i g sz q=>simp only[ar]at B;obtain⟨_,_,_,rfl,_⟩:=B;rfl
def rz{El:Nat->Type}:List (aE El)->Bool
 |[]=>true
 |y::r=>FK y&&rz r
theorem BK{F:Nat->Prop}:∀ {ys:List (aE E.T.El)}{vs:List Value},rz ys=true->aR E.T F w ρ bl ys vs->vs.all (·.oneCell')=true
 |[],vs,_,b=>by simp only[aR]at b;subst b;rfl
 |y::r,vs,h,b=>by simp only[aR]at b;obtain⟨u,us,rfl,I,J⟩:=b;simp only[rz,bM]at h;simp only[List.all_cons,bM];exact⟨akq h.1 I,BK h.2 J⟩
theorem E4:∀(l:List Value)(n:Nat)(cs:List Value),aw.lay l n cs=eQ l n cs
 |l,0,cs=>by cases l<;>rfl
 |[],n+1,cs=>rfl
 |u::l,n+1,cs=>by simp only[aw.lay,eQ,E4 l n cs]
def Gw{El:Nat->Type}(bl:List (az El))(i:Nat):Bool:=match nth bl i with
 |some (.r _ _ _ _)=>true
 |_=>false
def I1(E:Env)(bl:List (az E.T.El))(t:Nat)(p y:aE E.T.El):D (dv E.T.El):=match lay E.P t,rz (cellsOf y)with
 |some (_,sz),true=>match b2 (cellsOf y).length sz with
  |true=>match p with
   | .b i o=>match nth bl i with
     |some (.c ty cs)=>match hR (o+(cellsOf y).length) cs.length with
      |true=>.ok ⟨none,bl.set i (.c ty (eQ cs o (cellsOf y))),[i]⟩
      |false=>.no
     |_=>.no
   | .e i g k t' j d o=>match nth bl i with
     |some (.r b c e l)=>match b2 g c,b2 k e with
      |true,true=>match kQ bl (eQ ((E.T.e t').cs d) o (cellsOf y)),kJ t' b,hR (o+(cellsOf y).length) ((E.T.e t').cs d).length with
       |(bl',cs),.isTrue h,true=>match(E.T.e t').fH cs,Gw bl' i with
        |some d',true=>.ok ⟨none,bl'.set i (.r b c (e+1) (l.set j.toNat (h▸d'))),[i]⟩
        |_,_=>.no
       |_,_,_=>.no
      |true,false=>.op (idx l j) λ d=>match kQ bl (eQ ((E.T.e b).cs d) o (cellsOf y)),hR (o+(cellsOf y).length) ((E.T.e b).cs d).length with
       |(bl',cs),true=>match(E.T.e b).fH cs,Gw bl' i with
        |some d',true=>.ok ⟨none,bl'.set i (.r b c (e+1) (l.set j.toNat d')),[i]⟩
        |_,_=>.no
       |_,_=>.no
      |_,_=>.no
     |_=>.no
   | .w i g o=>match nth bl i with
     |some (.k b m c cs)=>match b2 g c&&hR (o+(cellsOf y).length) cs.length with
      |true=>.ok ⟨none,bl.set i (.k b m c (eQ cs o (cellsOf y))),[i]⟩
      |false=>.no
     |_=>.no
   |_=>.no
  |false=>.no
 |_,_=>.no
theorem Wb{o:Oper}{t g c m sz n q tb:Nat}{x y:Operand}{v:Value}{xs vs:List Value}(j:v.cells=vs.toArray)(ap:∀w,(Go.sizeOf t).run E.P w= .ok sz w)(k:b2 vs.length sz=true)(I:vs.all (·.oneCell')=true)
 (l:0<n)(e:rowIs w tb m (.slice (some ⟨g,0,none⟩) n c) n xs)(b:q+vs.length<=xs.length)(p:o.op= .store t x y)(r:a.eval x= .pointer (some ⟨g,q,none⟩))(hy:a.eval y=v) :
 ∃w',nF E.P o a w w'/\a1 [g] w w'/\rowIs w' tb m (.slice (some ⟨g,0,none⟩) n c) n (eQ xs q vs):=by
 have d:=e.len
 have e:=e.own l
 rcases e.2 with⟨_,C⟩|⟨g',cap,cur,h,al,aN,bI,b',eD,i⟩
 ·omega
 ·simp only[Value.slice.injEq,aM,Addr.mk.injEq,and_true,true_and]at h;obtain⟨rfl,rfl⟩:=h;have s:xs.length<=cur.toList.length:=by rw[<-i,fM];omega
  obtain⟨w',u,z,A⟩:=O_ (tb:=tb) (cs:=cur.toList) j ap k I (by simpa using eY b (by simpa using s)) (show(aX.dl g tb cur.toList).ok w by simpa[aX.dl]using aN) p r hy;refine⟨w',u,z,.inl ⟨by rw[LF b,d],.inr ⟨g,c,⟨aw.lay cur.toList q vs⟩,rfl,al,A,bI,b',?_,?_⟩⟩⟩;rw[E4];simp only[List.size_toArray];rw[LF (by omega)];simpa using eD
  ·rw[E4];simp only;subst i;rw[rb _ _ _ (by omega),rb _ _ _ b];have B:n*m<=cur.toList.length:=by have:=eD;have D:n*m<=c*m:=jf m bI;simp;omega
   exact N3 (by rw[d]at b;exact b) B
theorem UA{j n sz o k:Nat}(h:j<n)(J:o+k<=sz):j*sz+o+k<=n*sz:=by have:(j+1)*sz<=n*sz:=jf sz h;rw[iW]at this;omega
end
section
variable{E:Env}{W w w':World}{au:List Nat}{X:Nat->Prop}{n:cm}{f:cf E.T.El}{bl:List (az E.T.El)}{ρ:List Value}{a:Act}{cur:List (Nat×Bool)}
theorem EU(g:Mem E.T W au X bl ρ w){o:Oper}{i:Nat}{B B':az E.T.El}{h:Value}(hi:bl[i]? =some B)(c:ρ[i]? =some h)(d:a1 (a_ B h) w w')(p:a_ B' h=a_ B h)
 (j:bJ (some B')=bJ (some B)/\hK E.T (some B')=hK E.T (some B)/\fs (some B)<=fs (some B')/\(fs (some B')=fs (some B)->ot (some B')=ot (some B)))(hy:nF E.P o a w w')
 (q:To X bl (bl.set i B') ρ ρ w w'->hf E.T (aY X (bl.set i B') ρ w') w' ρ (bl.set i B') B' h):fv E o a W au X bl ρ w ⟨none,bl.set i B',[i]⟩:=by
 have l:∀k∈a_ B' h,k∈a_ B h\/(w.heap.size<=k/\k<w'.heap.size):=λ k e=>.inl (p▸e)
 have b:=g.wQ (B':=B') (h':=h) hi c d l ⟨λ _=>rfl,by rw[j.1];exact cS _,λ _=>⟨rfl,j.2⟩⟩
 have ap:=wN c
 have m:=g.rJ (B':=B') (h':=h) hi c d l b (by rw[ap]at b⊢;exact q b)
 rw[ap]at m b
 exact⟨w',ρ,m,b,λ k e r=>d.block k e (r i (by simp) B h hi c),hy⟩
theorem fv.first{o:Oper}{bl':List (az E.T.El)}{e:dv E.T.El}(c:To X bl bl' ρ ρ w w)(d:∀i∈e.ws,∀B' h k,bl'[i]? =some B'->ρ[i]? =some h->k∈a_ B' h->∃B,bl[i]? =some B/\k∈a_ B h)(h:fv E o a W au X bl' ρ w e):fv E o a W au X bl ρ w e:=by obtain⟨w',ρ',I,J,j,l⟩:=h;refine⟨w',ρ',I,c.trans J,λ k m p=>j k m λ i hi B' g ag b q=>?_,l⟩;obtain⟨B,r,s⟩:=d i hi B' g k ag b q;exact p i hi B g r b s
theorem aeh{bl bl':List (az E.T.El)}{y c:aE E.T.El}(h:fi bl y=(bl',c))(i:Nat):bl'[i]? =bl[i]? \/∃t g k l,bl[i]? =some (.r t g k l)/\bl'[i]? =some (.z t g k l):=by
 unfold fi at h;split at h
 ·rename_i j g;split at h;rename_i t d k l b;rw[cH]at b;split at h;simp only[cv]at h;obtain⟨rfl,_⟩:=h;by_cases e:i=j;subst e;exact .inr ⟨t,d,k,l,b,fS (bg.1 b).1⟩;exact .inl (iu (Ne.symm e));simp only[cv]at h;exact .inl (by rw[h.1]);split at h<;>(simp only[cv]at h;exact .inl (by rw[h.1]))
  ·simp only[cv]at h;exact .inl (by rw[h.1])
 ·simp only[cv]at h;exact .inl (by rw[h.1])
 ·simp only[cv]at h;exact .inl (by rw[h.1])
theorem Ei:∀ {ys c:List (aE E.T.El)}{bl bl':List (az E.T.El)},kQ bl ys=(bl',c)->∀i:Nat,bl'[i]? =bl[i]? \/∃t g k l,bl[i]? =some (.r t g k l)/\bl'[i]? =some (.z t g k l)
 |[],c,bl,bl',h,i=>by simp only[kQ,cv]at h;exact .inl (by rw[h.1])
 |y::r,c,bl,bl',h,i=>by
  simp only[kQ]at h;cases I:fi bl y with
  |mk d e=>
   rw[I]at h;cases J:kQ d r with
   |mk j m=>rw[J]at h;simp only[cv]at h;obtain⟨rfl,_⟩:=h;rcases aeh I i with b |⟨t,g,k,l,b,al⟩;rcases Ei J i with aN |⟨t,g,k,l,aN,bI⟩;exact .inl (aN.trans b);exact .inr ⟨t,g,k,l,by rw[<-b];exact aN,bI⟩;rcases Ei J i with aN |⟨t',g',k',l',aN,bI⟩;exact .inr ⟨t,g,k,l,b,by rw[aN,al]⟩;rw[al]at aN;cases aN
theorem Us{α:Type}:∀(l:List α)(q:Nat)(cs b:List α),q+cs.length<=l.length->eQ (l++b) q cs=eQ l q cs++b
 |l,0,cs,b,h=>by
  have e:∀m:List α,eQ m 0 cs=cs++m.drop cs.length:=λ m=>by cases m<;>rfl
  rw[e,e,List.drop_append_of_le_length (by simpa using h),ja]
 |[],q+1,cs,b,h=>by simp at h
 |u::l,q+1,cs,b,h=>by simp only[iQ,eQ,Us l q cs b (by simp at h;omega)]
theorem Ut{α:Type}:∀(a l:List α)(q:Nat)(cs:List α),eQ (a++l) (a.length+q) cs=a++eQ l q cs
 |[],l,q,cs=>by simp
 |u::a,l,q,cs=>by
  have e:(u::a).length+q=(a.length+q)+1:=by simp only[dp];omega
  rw[e];simp only[iQ,eQ,Ut a l q cs]
theorem aiW{α:Type}{xs cs0 vs:List α}{p q:Nat}(h:(xs.drop p).take cs0.length=cs0)(g:p+cs0.length<=xs.length)(b:q+vs.length<=cs0.length):xs.take p++eQ cs0 q vs++xs.drop (p+cs0.length)=eQ xs (p+q) vs:=by
 have c:xs=xs.take p++(cs0++xs.drop (p+cs0.length)):=by
  have I:xs.drop p=cs0++xs.drop (p+cs0.length):=by rw[<-List.drop_drop];have:=(iJ cs0.length (xs.drop p)).symm;rwa [h]at this
  rw[<-I,iJ]
 have d:(xs.take p).length=p:=by rw[fM];omega
 have e:=Ut (xs.take p) (cs0++xs.drop (p+cs0.length)) q vs;rw[<-c,d,Us _ _ _ _ b,<-ja]at e;exact e.symm
theorem Rp(G:cJ E)(H:Mem E.T W au X bl ρ w){o:Oper}{t sz i b g k q:Nat}{l:List (E.T.El b)}{x y:Operand}{j:Int}{d d':E.T.El b}{u:aE E.T.El}{bl':List (az E.T.El)}{cs:List (aE E.T.El)}{h:Value}{A:Option Addr}{c m:Nat}
 (ap:∀w,(Go.sizeOf t).run E.P w= .ok sz w)(I:rz (cellsOf u)=true)(J:b2 (cellsOf u).length sz=true)(hi:bl[i]? =some (.r b g k l))(K:ρ[i]? =some h)(aC:idx l j=some d)(s:q+(cellsOf u).length<=((E.T.e b).cs d).length)
 (fl:Gw bl' i=true)(L:kQ bl (eQ ((E.T.e b).cs d) q (cellsOf u))=(bl',cs))(h4:(E.T.e b).fH cs=some d')(r:h= .slice A m c)(av:o.op= .store t x y)(aa:a.eval x= .pointer (some ⟨dh A,j.toNat*(E.T.ty b).size+q,none⟩))(hu:ar E.T (aY X bl ρ w) w ρ bl u (a.eval y)) :
 fv E o a W au X bl ρ w ⟨none,bl'.set i (.r b g (k+1) (l.set j.toNat d')),[i]⟩:=by
 have z:=kH hu
 have M:=z.len
 obtain⟨c2,bs,xs,B,al,aN⟩:=H.ok i _ _ hi K
 rw[r]at B
 simp only[Value.slice.injEq]at B
 obtain⟨rfl,rfl,rfl⟩:=B
 obtain⟨Ub,C,ym⟩:=il aC
 obtain⟨N,rfl,qE,hc,jh⟩:=rF (by omega) (r▸al)
 obtain⟨cs0,O,bw⟩:=yR (E.T.ty b) aN ym
 have P:=G.tb.cells (ρ:=ρ) (bl:=bl) O
 have qL:=P.len
 have Q:=(E.T.ty b).len O
 obtain⟨dP,R,v1⟩:=Ej H L (P.lay z s)
 have eL:=G.tb.fH _ _ _ h4 _ _ _ _ _ v1
 have S:=oo _ aN
 have p:j.toNat*(E.T.ty b).size+q+(a.eval y).cells.toList.length<=xs.length:=by rw[S,M];exact UA C (by omega)
 obtain⟨w',aT,aV,bQ⟩:=Wb (E:=E) (a:=a) (v:=a.eval y) (vs:=(a.eval y).cells.toList) (by simp) ap (by rw[M];exact J) (BK I z) (show 0<l.length by omega) (r▸al) p av (by simpa[dh]using aa) rfl
 have U:bl'[i]? =some (.r b g k l):=by rcases Ei L i with e |⟨t',g',k',l',bI,b'⟩;exact e.trans hi;unfold Gw at fl;rw[cH,b']at fl;cases fl
 have aG:a_ (az.r b g k l) h=[N]:=by subst r;simpa[a_]using jh _
 have D:=EU (B':=az.r b g (k+1) (l.set j.toNat d')) (w':=w') (o:=o) (a:=a) dP U K (by rw[aG];exact aV) rfl ⟨rfl,rfl,Nat.le_succ _,λ e=>absurd e (by simp[fs])⟩ aT (λ V=>by
  refine⟨some ⟨N,0,none⟩,c,eQ xs (j.toNat*(E.T.ty b).size+q) (a.eval y).cells.toList,by subst r;simp,by subst r;simpa using bQ,?_⟩;have F:c' (E.T.ty b) (aY X (bl'.set i (az.r b g (k+1) (l.set j.toNat d'))) ρ w') w' xs l:=kz _ (R.trans V).F aN;have qP:=(E.T.ty b).law V.F eL;have cZ:=NB qP F C;have e:xs.take (j.toNat*(E.T.ty b).size)++eQ cs0 q (a.eval y).cells.toList++xs.drop (j.toNat*(E.T.ty b).size+(E.T.ty b).size)=eQ xs (j.toNat*(E.T.ty b).size+q) (a.eval y).cells.toList:=by have gZ:=Sc bw;have Y:=aiW (q:=q) (vs:=(a.eval y).cells.toList) gZ (by rw[Q,S];have:=UA (o:=0) (k:=(E.T.ty b).size) (sz:=(E.T.ty b).size) C (by omega);omega) (by omega);rw[Q]at Y;exact Y
  rw[<-e];exact cZ)
 refine fv.first R (λ cD Z B' g' yO ag ay aI=>?_) D
 simp only[ft]at Z
 subst Z
 exact⟨_,hi,by rw[U]at ag;cases ag;exact aI⟩
end
section
variable{E:Env}{W w w':World}{au:List Nat}{X:Nat->Prop}{n:cm}{f:cf E.T.El}{bl:List (az E.T.El)}{ρ:List Value}{a:Act}{cur:List (Nat×Bool)}
theorem adW(aP:cJ E)(z:Mem E.T W au X bl ρ w){o:Oper}{t:Nat}{x y:Operand}{p u:aE E.T.El}{e:dv E.T.El}(h:(I1 E bl t p u).out e)(M:o.op= .store t x y)
 (B:ar E.T (aY X bl ρ w) w ρ bl p (a.eval x))(Q:ar E.T (aY X bl ρ w) w ρ bl u (a.eval y)):fv E o a W au X bl ρ w e:=by
 unfold I1 at h
 split at h
 ·rename_i b sz aq I;have ap:=(Bo aq).2;split at h
  ·rename_i J;have F:=kH Q;have N:=F.len;split at h;rename_i i r;split at h;rename_i ty cs hi;rw[cH]at hi;split at h;rename_i ag;have h:(⟨none,bl.set i (.c ty (eQ cs r (cellsOf u))),[i]⟩:dv E.T.El)=e:=h;subst h;have ag:=b_ ag;simp only[ar]at B;obtain⟨g,q,R⟩:=B;obtain⟨g',vs,G,al,aN⟩:=z.ok i _ _ hi q;simp only[Value.pointer.injEq,aM,Addr.mk.injEq,and_true]at G;subst G;have S:=aN.len;obtain⟨w',U,H,V⟩:=O_ (tb:=ty) (cs:=vs) (v:=a.eval y) (vs:=(a.eval y).cells.toList) (by simp) ap (by rw[N];exact J) (BK I F) (by rw[N,S];exact Nat.ble_eq_true_of_le ag) (show(aX.dl g ty vs).ok w from al) M R rfl;refine EU (B':=az.c ty (eQ cs r (cellsOf u))) z hi q (by simpa[a_,a9.ag]using H) rfl ⟨rfl,rfl,cS _,λ _=>rfl⟩ U (λ K=>⟨g,aw.lay vs r (a.eval y).cells.toList,rfl,V,?_⟩);rw[E4];exact(K.vs aN).lay (K.vs F) ag;exact h.elim;exact h.elim;rename_i i g k t' j d r;split at h;rename_i C bp H l hi;rw[cH]at hi;simp only[ar]at B;obtain⟨_,aC,L,Y,D⟩:=B;rw[hi]at D;split at h;rename_i q O;have q:=a8 q;have O:=a8 O;subst q;subst O;obtain⟨⟨A,m,c,s,P,Z,e3⟩,MK,ML⟩:=D rfl;obtain⟨l',cE,dJ⟩:=ML rfl;split at h;rename_i bl' cs arq mO arh qD;simp only[ot,aM,Sigma.mk.injEq]at cE;obtain⟨gC,cE⟩:=cE;subst gC;have cE:=eq_of_heq cE;subst cE;split at h;rename_i d' h4 fl;have h:(⟨none,bl'.set i (.r C g (k+1) (l.set j.toNat d')),[i]⟩:dv E.T.El)=e:=h;subst h;exact Rp aP z ap I J hi L dJ (b_ qD) fl mO h4 s M (by simpa[hK]using e3) Q;exact h.elim;exact h.elim;rename_i q O;have q:=a8 q;subst q;obtain⟨⟨A,m,c,s,P,Z,e3⟩,_⟩:=D rfl;obtain⟨d1,dJ,h⟩:=h;dsimp only at h;split at h;rename_i bl' cs mO qD;split at h;rename_i d' h4 fl;have h:(⟨none,bl'.set i (.r C g (H+1) (l.set j.toNat d')),[i]⟩:dv E.T.El)=e:=h;subst h;exact Rp aP z ap I J hi L dJ (b_ qD) fl mO h4 s M (by simpa[hK]using e3) Q;exact h.elim;exact h.elim;exact h.elim;exact h.elim
   ·rename_i i g r;split at h
    ·rename_i C s2 bp cs hi;rw[cH]at hi;split at h
     ·rename_i ag;simp only[bM]at ag;have h:(⟨none,bl.set i (.k C s2 bp (eQ cs r (cellsOf u))),[i]⟩:dv E.T.El)=e:=h;subst h;simp only[ar]at B;obtain⟨_,aC,L,Y,D⟩:=B;rw[hi]at D;have q:=a8 ag.1;subst q;obtain⟨A,m,c,s,P,Z⟩:=D rfl;obtain⟨c2,hp,bs,xs,G,al,aN⟩:=z.ok i _ _ hi L;rw[G]at s;simp only[Value.slice.injEq]at s;obtain⟨rfl,rfl,rfl⟩:=s;subst G;have Ta:=b_ ag.2;have agv:=aN.len;obtain⟨dq,rfl,qE,hc,jh⟩:=rF P al;obtain⟨w',U,H,V⟩:=Wb (E:=E) (a:=a) (v:=a.eval y) (vs:=(a.eval y).cells.toList) (by simp) ap (by rw[N];exact J) (BK I F) P al (by rw[N,agv];exact Ta) M (by simpa[dh]using Z) rfl;have aG:a_ (az.k C s2 g cs) (.slice (some ⟨dq,0,none⟩) hp bs)=[dq]:=by simpa[a_]using jh _
      exact EU (B':=az.k C s2 g (eQ cs r (cellsOf u))) z hi L (by rw[aG];exact H) rfl ⟨rfl,rfl,cS _,λ _=>rfl⟩ U (λ K=>⟨_,_,_,_,rfl,V,(K.vs aN).lay (K.vs F) Ta⟩)
     ·exact h.elim
    ·exact h.elim
   ·exact h.elim
  ·exact h.elim
 ·exact h.elim
theorem Ru{F:Nat->Prop}{kt vt:Nat}{K:gI (E.T.El kt)}{k:E.T.El kt}{v:E.T.El vt}{u:Value}(g:vd E.T F w vt v u):∀ {es:List MapEntry}{d:List (E.T.El kt×E.T.El vt)}{p:Nat},gS E.T F w K es d->hE K d k=some p->gS E.T F w K (es.modify p λ e=>{ e with key:=K.enc k,val:=u }) (pu K d k v)
 |[],[],_,_,b=>by simp[hE,l7]at b
 |[],_::_,_,h,_=>h.elim
 |_::_,[],_,h,_=>h.elim
 |e::es,q::d,p,h,b=>by obtain⟨I,J,i⟩:=h;by_cases c:q.1=k;simp only[hE,l7,lH c,aM]at b;subst b;simp only[pu,la,lH c,List.modify_zero_cons];exact⟨rfl,g,i⟩;simp only[hE,l7,lG c,cQ]at b;obtain⟨oi,j,rfl⟩:=b;simp only[pu,la,lG c,List.modify_succ_cons];exact⟨I,J,Ru g i j⟩
theorem Rt{F:Nat->Prop}{kt vt:Nat}{K:gI (E.T.El kt)}{k:E.T.El kt}{v:E.T.El vt}{u:Value}{c:Nat}(i:vd E.T F w vt v u):∀ {es:List MapEntry}{d:List (E.T.El kt×E.T.El vt)},gS E.T F w K es d->hE K d k=none->gS E.T F w K (es++[{ key:=K.enc k,val:=u,born:=c }]) (pu K d k v)
 |[],[],_,_=>⟨rfl,i,trivial⟩
 |[],_::_,h,_=>h.elim
 |_::_,[],h,_=>h.elim
 |e::es,q::d,h,b=>by obtain⟨I,J,j⟩:=h;by_cases g:q.1=k;simp[hE,l7,lH g]at b;simp only[hE,l7,lG g,Option.map_eq_none_iff]at b;simp only[pu,la,lG g,iQ];exact⟨I,J,Rt i j b⟩
theorem Is{F:Nat->Prop}{kt vt:Nat}{K:gI (E.T.El kt)}{k:E.T.El kt}:∀ {es:List MapEntry}{d:List (E.T.El kt×E.T.El vt)}{p:Nat},gS E.T F w K es d->hE K d k=some p->∃e,es[p]? =some e/\e.key=K.enc k
 |[],[],_,_,b=>by simp[hE,l7]at b
 |[],_::_,_,h,_=>h.elim
 |_::_,[],_,h,_=>h.elim
 |e::es,q::d,p,h,b=>by obtain⟨I,J,g⟩:=h;by_cases c:q.1=k;simp only[hE,l7,lH c,aM]at b;subst b;exact⟨e,rfl,by rw[I,c]⟩;simp only[hE,l7,lG c,cQ]at b;obtain⟨oi,i,rfl⟩:=b;simpa using Is g i
def D6(E:Env)(bl:List (az E.T.El))(t:Nat)(u k v:aE E.T.El):D (dv E.T.El):=match u,mapOf E.P t with
 | .m i,some (b,_)=>match nth bl i with
   |some (.m kt vt d)=>match(E.T.e kt).key with
    |some K=>match kQ bl (cellsOf v)with
     |(bl',cs)=>match z0 (E.P.underlying b) K.desc,(E.T.e kt).fH (cellsOf k),(E.T.e vt).fH cs,(match iL k with|true=>(E.T.e kt).agg |false=>!(E.T.e kt).agg)&&(match iL v with|true=>(E.T.e vt).agg |false=>!(E.T.e vt).agg)with
      |true,some key,some val,true=>.ok ⟨none,bl'.set i (.m kt vt (pu K d key val)),[i]⟩
      |_,_,_,_=>.no
    |none=>.no
   |_=>.no
 |_,_=>.no
theorem R_(C:cJ E)(hm:Mem E.T W au X bl ρ w){o:Oper}{t:Nat}{x y z:Operand}{u k v:aE E.T.El}{e:dv E.T.El}(h:(D6 E bl t u k v).out e)(av:o.op= .mapUpdate t x y z\/o.op= .insert t x y z)
 (O:ar E.T (aY X bl ρ w) w ρ bl u (a.eval x))(hy:ar E.T (aY X bl ρ w) w ρ bl k (a.eval y))(P:ar E.T (aY X bl ρ w) w ρ bl v (a.eval z)):fv E o a W au X bl ρ w e:=by
 unfold D6 at h
 split at h
 ·rename_i i Q anO KG;split at h
  ·rename_i kt vt d hi;rw[cH]at hi;split at h
   ·rename_i K D;split at h;rename_i bl' cs R;split at h
    ·rename_i key val aC AL pf F;have h:(⟨none,bl'.set i (.m kt vt (pu K d key val)),[i]⟩:dv E.T.El)=e:=h;subst h;simp only[bM]at F;simp only[ar]at O;obtain⟨r,S,U⟩:=O;have sO:a.eval y=K.enc key:=by have j:=C.tb.fH _ _ _ AL _ _ _ _ _ (kH hy);exact(Dw hy F.1).trans (C.tb.key _ _ D _ _ _ _ j)
     obtain⟨V,t1,v1⟩:=Ej hm R (kH P);have eL:=C.tb.fH _ _ _ pf _ _ _ _ _ v1;have G:bl'[i]? =some (.m kt vt d):=by rcases Ei R i with e |⟨t',g',k',l',bI,b'⟩;exact e.trans hi;rw[hi]at bI;cases bI
     have Y:vd E.T (aY X bl' ρ w) w vt val (a.eval z):=⟨_,eL,Dw P F.2⟩
     obtain⟨e4,j,bV,Z,es,clock,m,A,bL,e3⟩:=V.ok i _ _ G S;simp only[Value.map.injEq,aM]at j;subst j;rw[D]at Z;cases Z;have hu:=Fh KG;have mR:=H_ aC;have bk:r<w.heap.size:=(ee.1 m).1;have g1:∀H:Obj,a1 [r] w { w with heap:=w.heap.setIfInBounds r H }:=λ H=>⟨rfl,rfl,rfl,by simp,λ q _ aL=>by
      show(w.heap.setIfInBounds r H)[q]? =_
      rw[d_,lG (λ e=>aL (by simp[e]))]⟩
     refine fv.first t1 (λ cD AF B' g' yO ag ay aI=>?_) ?_;simp only[ft]at AF;subst AF;rw[G]at ag;cases ag;exact⟨_,hi,aI⟩
     have fin:∀(l:Array MapEntry)(s:Nat),nF E.P o a w { w with heap:=w.heap.setIfInBounds r (.map l s) } ->gS E.T (aY X bl' ρ w) w K l.toList (pu K d key val)->(l.toList.map (·.born)).Pairwise (·< ·)->(∀e∈l.toList,e.born<s) ->
      fv E o a W au X bl' ρ w ⟨none,bl'.set i (.m kt vt (pu K d key val)),[i]⟩:=λ l s A8 I J ax=>by
      refine EU (B':=az.m kt vt (pu K d key val)) (w':={ w with heap:=w.heap.setIfInBounds r (.map l s) }) V G S (by simpa[a_,a9.ag]using g1 _) rfl ⟨rfl,rfl,cS _,λ _=>rfl⟩ A8 (λ aF=>⟨r,rfl,K,D,l,s,by simp[bk],I.law aF.F,J,ax⟩)
     rcases Gl (vt:=vt) key mR A w with⟨f1,B,f3⟩|⟨p,O7,wW,f1,B,f3,f4⟩
     ·refine fin (es.push { key:=K.enc key,val:=a.eval z,born:=clock }) (clock+1) ?_ ?_ ?_ ?_
      ·rcases av with av |av<;>
       ·simp only[nF,execOp,av,U,sO,Instr.mapUpdate,Sem.run_bind,run_underlying hu,Result.andThen_ok,MapKept.run_getObj_map m,@iU.check _ K.dec K.mZ E.P w false Q key mR,f3,MapKept.run_setObj_map _ m];rfl
      ·simpa using Rt Y A B
      ·simp only[Array.toList_push,List.map_append,eZ,h6,List.pairwise_append];refine⟨bL,by simp,λ b ag c hc=>?_⟩;obtain⟨e,g,rfl⟩:=kg.1 ag;simp only[ft]at hc;subst hc;exact e3 e g
      ·intro e g;simp only[Array.toList_push,de,ft]at g;rcases g with g |rfl;exact Nat.lt_succ_of_lt (e3 e g);exact kA _
     ·obtain⟨e,g,L⟩:=Is (k:=key) A B;have M:es[p]? =some e:=by simpa using g
      have Ey:((es.modify p λ e=>{ e with key:=K.enc key,val:=a.eval z }).toList.map (·.born))=es.toList.map (·.born):=by
       rw[Array.toList_modify];apply jO;intro i;simp only[kc,List.getElem?_modify];cases hi:es.toList[i]? with
       |none=>simp
       |some e'=>by_cases EC:p=i<;>simp[EC]
      refine fin (es.modify p λ e=>{ e with key:=K.enc key,val:=a.eval z }) clock ?_ ?_ ?_ ?_
      ·have KB:(Instr.keyThatStays e.key (K.enc key)).run E.P w= .ok (K.enc key) w:=by
        rw[L];simp only[Instr.keyThatStays,@iU.bits _ K.dec K.mZ,if_true];rfl
       rcases av with av |av<;>
       ·simp only[nF,execOp,av,U,sO,Instr.mapUpdate,Sem.run_bind,run_underlying hu,Result.andThen_ok,MapKept.run_getObj_map m,@iU.check _ K.dec K.mZ E.P w false Q key mR,f4,M,fC,h2,KB,MapKept.run_setObj_map _ m];rfl
      ·rw[Array.toList_modify];exact Ru Y A B
      ·rw[Ey];exact bL
      ·intro j Kk;have:j.born∈es.toList.map (·.born):=by rw[<-Ey];exact kg.2 ⟨j,Kk,rfl⟩
       obtain⟨al,N,heq⟩:=kg.1 this;rw[<-heq];exact e3 al N
    ·exact h.elim
   ·exact h.elim
  ·exact h.elim
 ·exact h.elim
end
section
variable{P:Program}{w w':World}
def xy(w:World)(sz m:Nat)(A:Option Addr)(a:List Value):Prop:=(m=0/\a=[])\/∃dD,A=some dD/\a.length=m*sz/\(∀j u,a[j]? =some u->w.cell? (dD.add j)=some u)/\∀u∈a,u.oneCell'=true
theorem amW{t ty e:TypeId}{i:TypeInfo}(d:P.underlying t=some (.slice e))(hi:P.info? e=some i)(A b:Option Addr)(n c f:Nat)(a:n<=c):(Builtin.append_ #[t,t] ty #[.slice A n c,.slice b 0 f]).run P w= .ok (.slice A n c) w:=by cases A<;>cases b<;>simp[Builtin.append_,run_underlying d,Go.sizeOf,typeInfo,hi,Builtin.lenOf,Builtin.firstCells,a,storeCells,loadCells,loadCellsFrom]
theorem rowIs.short{t sz n c k:Nat}{A:Option Addr}{xs:List Value}(e:rowIs w t sz (.slice A n c) n xs)(a:k<=n):rowIs w t sz (.slice A k c) k (xs.take (k*sz)):=by
 have j:=e.len;have b:k*sz<=n*sz:=jf sz a;rcases e with e |⟨rfl,rfl,l,e⟩
 ·rcases e.2 with⟨I,m⟩|⟨g,cap,cur,I,J,d,o,f,h,i⟩
  ·simp only[Value.slice.injEq]at I;obtain⟨rfl,rfl,rfl⟩:=I;have:k=0:=by omega
   subst this;exact .inl ⟨by simp,.inl ⟨rfl,rfl⟩⟩
  ·simp only[Value.slice.injEq]at I;obtain⟨rfl,_,rfl⟩:=I;refine .inl ⟨by rw[fM];omega,.inr ⟨g,c,cur,rfl,J,d,by omega,f,h,?_⟩⟩;rw[<-i,List.take_take,lu b]
 ·have:k=0:=by omega
  subst this;simp only[Value.slice.injEq]at e;obtain⟨rfl,_,rfl⟩:=e;exact .inr ⟨rfl,by simp,A,rfl⟩
theorem PS{t ty e:TypeId}{i:TypeInfo}{z:Value}{bytes sz:Nat}(x:P.underlying t=some (.slice e))(hi:P.info? e=some i)(F:i.zero=some z)(G:i.size=sz)(H:i.bytes=bytes)(K:z.cells.size=sz)(L:0<sz)
 {A y:Option Addr}{n c m r:Nat}{xs a:List Value}(B:rowIs w e sz (.slice A n c) n xs)(ap:xy w sz m y a)(M:n+m<=maxLen)(ag:(n+m)*bytes<=140737488355328) :
 ∃C N w',(Builtin.append_ #[t,t] ty #[.slice A n c,.slice y m r]).run P w= .ok (.slice C (n+m) N) w'/\rowIs w' e sz (.slice C (n+m) N) (n+m) (xs++a)/\a1 (a9.ag (.slice A n c)) w w'/\∀k∈a9.ag (.slice C (n+m) N),k∈a9.ag (.slice A n c)\/(w.heap.size<=k/\k<w'.heap.size):=by
 have S:=B.cap
 rcases kU m with T |hm
 ·subst T;have O:a=[]:=by rcases ap with⟨_,h⟩|⟨_,_,h,_⟩;exact h;exact g9 (by simpa using h)
  subst O;exact⟨A,c,w,amW x hi A y n c r S.1,by simpa using B,a1.refl _ _,λ k f=>.inl f⟩
 ·obtain⟨dD,rfl,Q,R,U⟩:∃dD,y=some dD/\a.length=m*sz/\(∀j u,a[j]? =some u->w.cell? (dD.add j)=some u)/\∀u∈a,u.oneCell'=true:=by
   rcases ap with⟨h,_⟩|h
   ·omega
   ·exact h
  have d:∀ {l:Value}{w':World}{b:Nat},w'.ownsRow b e sz l (n+m) (xs++a)->∃g cap cur,l= .slice (some ⟨g,0,none⟩) (n+m) cap/\b<=g/\w'.heap[g]? =some (.cells cur e (0,0))/\n+m<=cap:=λ{l w' b} h=>by rcases h.2 with⟨_,T⟩|⟨g,cap,cur,I,J,X,Y,_⟩;omega;exact⟨g,cap,cur,I,J,X,Y⟩
  have V:∀ {l:Value}{w':World}{b:Nat},w'.ownsRow b e sz l (n+m) (xs++a)->w'.ownsRow 0 e sz l (n+m) (xs++a):=λ{l w' b} h=>⟨h.1,h.2.imp id λ⟨g,cap,cur,Z,_,p⟩=>⟨g,cap,cur,Z,g_ _,p⟩⟩
  rcases kU c with hc |hc
  ·subst hc;have O:n=0:=by omega
   subst O;have aa:xs=[]:=g9 (by rw[B.len];simp);subst aa;have o7:a9.ag (.slice A 0 0)=[]:=by cases A<;>rfl
   rw[o7];cases A with
   |none=>
    obtain⟨l,w',s,o,v,_,W⟩:=run_append_own_at (P:=P) w w.heap.size t ty e i z sz bytes x hi F G H K L (.slice none 0 0) 0 [] ⟨by simp,.inl ⟨rfl,rfl⟩⟩ dD m r a Q R U M ag (cS _);obtain⟨g,cap,cur,rfl,D,p,e3⟩:=d (b:=w.heap.size) o;refine⟨_,_,w',s,.inl (V o),a1.grown v,λ k f=>?_⟩;right;have:k=g:=by
     cases cap with
     |zero=>simp[a9.ag]at f
     |succ q=>simpa[a9.ag]using f
    subst this;exact⟨D,(ee.1 p).1⟩
   |some b=>
    obtain⟨l,w',s,o,v⟩:=run_append_arg_grows (P:=P) w t ty e i z sz bytes x hi F G H K L b 0 0 [] (by simp) (λ j u hu=>by simp at hu) dD m r a Q R (by omega) M ag;obtain⟨g,cap,cur,rfl,D,p,e3⟩:=d (b:=w.heap.size) o;refine⟨_,_,w',s,.inl (V o),a1.grown v,λ k f=>?_⟩;right;have:k=g:=by
     cases cap with
     |zero=>simp[a9.ag]at f
     |succ q=>simpa[a9.ag]using f
    subst this;exact⟨D,(ee.1 p).1⟩
  ·obtain⟨E,rfl⟩:=S.2.2.2 hc;have jj:w.ownsRow 0 e sz (.slice (some ⟨E,0,none⟩) n c) n xs:=by rcases B with h |⟨_,_,C,h⟩;exact h;simp only[Value.slice.injEq]at h;omega
   obtain⟨l,w',s,o,v,_,W⟩:=run_append_own_at (P:=P) w 0 t ty e i z sz bytes x hi F G H K L (.slice (some ⟨E,0,none⟩) n c) n xs jj dD m r a Q R U M ag (g_ _);obtain⟨g,cap,cur,rfl,D,p,e3⟩:=d (b:=0) o;have As:a9.ag (.slice (some ⟨E,0,none⟩) n c)=[E]:=by
    cases c with
    |zero=>omega
    |succ c=>rfl
   rw[As];refine⟨_,_,w',s,.inl o,a1.grown v,λ k f=>?_⟩;have:k=g:=by
    cases cap with
    |zero=>simp[a9.ag]at f
    |succ q=>simpa[a9.ag]using f
   subst this;rcases W with b' |b';left;simp only[Value.ownBlock,aM]at b';simp[b'];right;simp only[Value.ownBlock,aM]at b';rw[b'];refine⟨cS _,?_⟩;rw[<-b'];exact(ee.1 p).1
end
def oY(P:Program)(t:TypeId):Option (Nat×Nat×Nat):=match P.underlying t with
 |some (.slice e)=>match P.info? e with
  |some i=>match i.zero with
   |some z=>match b2 z.cells.size i.size&&eh 0 i.size&&eh 0 i.bytes with
    |true=>some (e,i.size,i.bytes)
    |false=>none
   |none=>none
  |none=>none
 |_=>none
theorem sv{P:Program}{t e sz bF:Nat}(h:oY P t=some (e,sz,bF)):P.underlying t=some (.slice e)/\∃i z,P.info? e=some i/\i.zero=some z/\i.size=sz/\i.bytes=bF/\z.cells.size=sz/\0<sz/\0<bF:=by unfold oY at h;split at h;rename_i e' I;split at h;rename_i i J;split at h;rename_i z b;split at h;rename_i a;simp only[aM,cv]at h;obtain⟨rfl,rfl,rfl⟩:=h;simp only[bM]at a;exact⟨I,i,z,J,b,rfl,rfl,a8 a.1.1,b_ a.1.2,b_ a.2⟩;cases h;cases h;cases h;cases h
def sn{El:Nat->Type}(t t':Nat)(l:List (El t)):Option (List (El t')):=match kJ t t' with
 | .isTrue h=>some (h▸l)
 | .isFalse _=>none
def yk{El:Nat->Type}{t:Nat}(e:bz El t):List (List (aE El))->Option (List (El t))
 |[]=>some []
 |c::r=>match e.fH c,yk e r with
  |some d,some ds=>some (d::ds)
  |_,_=>none
def xJ{α:Type}(sz:Nat):Nat->List α->List (List α)
 |0,_=>[]
 |n+1,l=>l.take sz::xJ sz n (l.drop sz)
def Cq(E:Env)(bl:List (az E.T.El))(t:Nat):aE E.T.El->Option (List (E.T.El t))
 | .s t' l=>sn t' t l
 | .q t' l=>sn t' t l
 | .p (.slice none 0 0)=>some []
 | .p (.slice (some _) 0 _)=>some []
 | .r j g=>match nth bl j with
   |some (.r t' a _ l)=>match b2 g a with
    |true=>sn t' t l
    |false=>none
   |some (.k _ sz a cs)=>match b2 g a&&b2 sz (E.T.ty t).size&&eh 0 sz with
    |true=>yk (E.T.e t) (xJ sz (cs.length / sz) cs)
    |false=>none
   |_=>none
 | .v j g lo hi=>match nth bl j with
   |some (.r t' a _ l)=>match b2 g a with
    |true=>sn t' t ((l.take hi.toNat).drop lo.toNat)
    |false=>none
   |_=>none
 |_=>none
section
variable{E:Env}{W w w':World}{au:List Nat}{X:Nat->Prop}{n:cm}{f:cf E.T.El}{bl:List (az E.T.El)}{ρ:List Value}{a:Act}{cur:List (Nat×Bool)}
theorem xG{El:Nat->Type}{t t':Nat}{l:List (El t)}{l':List (El t')}(h:sn t t' l=some l'):∃e:t=t',e▸l=l':=by unfold sn at h;split at h;rename_i e _;simp only[aM]at h;exact⟨e,h⟩;cases h
theorem Lc(c:cJ E){F:Nat->Prop}{t sz:Nat}:∀(n:Nat){cs:List (aE E.T.El)}{vs:List Value}{l:List (E.T.El t)},aR E.T F w ρ bl cs vs->vs.length=n*sz->yk (E.T.e t) (xJ sz n cs)=some l->c' (E.T.ty t) F w vs l/\l.length=n
 |0,cs,vs,l,h,b,hi=>by simp only[xJ,yk,aM]at hi;subst hi;exact⟨g9 (by simpa using b),rfl⟩
 |n+1,cs,vs,l,h,b,hi=>by simp only[xJ,yk]at hi;split at hi;rename_i d ds I J;simp only[aM]at hi;subst hi;have e:=c.tb.fH _ _ _ I _ _ _ _ _ (aR.take sz h);obtain⟨g,i⟩:=Lc c n (aR.drop sz h) (by rw[kp,b,iW];omega) J;exact⟨⟨vs.take sz,vs.drop sz,(iJ sz vs).symm,e,g⟩,by simp[i]⟩;cases hi
theorem Ww{F:Nat->Prop}{t:Nat}{l:List (E.T.El t)}{A:Option Addr}{c:Nat}(h:(bX (E.T.ty t)).rd F w [.slice A l.length c] l):∃b,xy w (E.T.ty t).size l.length A b/\c' (E.T.ty t) F w b l:=by
 obtain⟨o,p,e,al,aN,bI,b'⟩:=h;simp only[hH,Value.slice.injEq,and_true,true_and]at e;obtain⟨rfl,rfl⟩:=e;by_cases g:l=[]
 ·subst g;exact⟨[],.inl ⟨rfl,rfl⟩,rfl⟩
 ·obtain⟨i,q,xs,d,k⟩:=b' g;exact⟨xs,.inr ⟨_,i,oo _ d,λ j u m=>by rw[iF];exact k j u m,wL _ d⟩,d⟩
theorem NQ{t sz n c:Nat}{A:Option Addr}{xs:List Value}(h:rowIs w t sz (.slice A n c) n xs)(I:∀u∈xs,u.oneCell'=true):xy w sz n A xs:=by rcases kU n with aK |aK;subst aK;exact .inl ⟨rfl,g9 (by rw[h.len];simp)⟩;obtain⟨g,rfl,_,hc,_⟩:=rF aK h;exact .inr ⟨_,rfl,h.len,λ j u b=>by rw[iF];exact hc j u b,I⟩
theorem Wv(H:cJ E)(z:Mem E.T W au X bl ρ w){t:Nat}{y:aE E.T.El}{l:List (E.T.El t)}{v:Value}(h:Cq E bl t y=some l)(d:ar E.T (aY X bl ρ w) w ρ bl y v) :
 ∃A c b,v= .slice A l.length c/\xy w (E.T.ty t).size l.length A b/\c' (E.T.ty t) (aY X bl ρ w) w b l:=by
 unfold Cq at h
 split at h
 ·obtain⟨rfl,rfl⟩:=xG h;simp only[ar]at d;obtain⟨A,c,rfl⟩:=jU _ d;obtain⟨b,I,J⟩:=Ww d;exact⟨A,c,b,rfl,I,J⟩
 ·obtain⟨rfl,rfl⟩:=xG h;simp only[ar]at d;obtain⟨A,c,rfl⟩:=jU _ d.1;obtain⟨b,I,J⟩:=Ww d.1;exact⟨A,c,b,rfl,I,J⟩
 ·simp only[aM]at h;subst h;simp only[ar]at d;exact⟨none,0,[],d,.inl ⟨rfl,rfl⟩,rfl⟩
 ·simp only[aM]at h;subst h;simp only[ar]at d;exact⟨_,_,[],d,.inl ⟨rfl,rfl⟩,rfl⟩
 ·rename_i j g;split at h;rename_i t' D k l' hi;rw[cH]at hi;split at h;rename_i ag;obtain⟨rfl,rfl⟩:=xG h;simp only[ar]at d;obtain⟨_,aC,r,F,i⟩:=d;rw[hi]at i;obtain⟨A,c,xs,o,al,aN⟩:=z.ok j _ _ hi r;rw[i (a8 ag),o];exact⟨A,c,xs,rfl,NQ (o▸al) (wL _ aN),aN⟩;cases h
  ·rename_i t' sz D cs hi;rw[cH]at hi;split at h
   ·rename_i ag;simp only[bM]at ag;simp only[ar]at d;obtain⟨_,aC,r,F,i⟩:=d;rw[hi]at i;obtain⟨A,m,c,xs,o,al,aN⟩:=z.ok j _ _ hi r;have K:=b_ ag.2;have e:=aN.len;have J:=al.len;have L:cs.length / sz=m:=by rw[<-e,J];exact Nat.mul_div_cancel _ K
    rw[L]at h;obtain⟨cE,M⟩:=Lc H m aN J h;rw[i (a8 ag.1.1),o,M];have:=NQ (o▸al) (wL _ cE);rw[a8 ag.1.2]at this;exact⟨A,c,xs,rfl,this,cE⟩
   ·cases h
  ·cases h
 ·rename_i j g lo p;split at h
  ·rename_i t' D k l' hi;rw[cH]at hi;split at h
   ·rename_i ag;obtain⟨rfl,rfl⟩:=xG h;simp only[ar]at d;obtain⟨_,aC,r,F,i⟩:=d;rw[hi]at i;obtain⟨S,U,V,B,C,Y,l1,Z,N,Eu,O⟩:=i (a8 ag);obtain⟨A,c,xs,o,al,aN⟩:=z.ok j _ _ hi r;rw[o]at C al;simp only[Value.slice.injEq]at C;obtain⟨rfl,rfl,rfl⟩:=C;have e:((l'.take p.toNat).drop lo.toNat).length=p.toNat-lo.toNat:=by rw[kp,fM];omega
    refine⟨B,c-lo.toNat,(xs.take (p.toNat*(E.T.ty t').size)).drop (lo.toNat*(E.T.ty t').size),by rw[e];exact N,?_,pI _ _ aN⟩;have s:=pI lo.toNat p.toNat aN;rcases Int.lt_or_le lo p with P |x9;right;obtain⟨Q,rfl⟩:=yV al (by omega);obtain⟨jB,R,_,hc,_⟩:=rF (by omega) al;cases R;refine⟨⟨Q,lo.toNat*(E.T.ty t').size,none⟩,by rw[O P];simp[iF,hK],oo _ s,λ q u x=>?_,wL _ s⟩;rw[je,ht]at x;split at x;rw[iF];have:=hc _ u x;simpa using this;cases x
    ·left;have:p.toNat-lo.toNat=0:=by omega
     have G:((l'.take p.toNat).drop lo.toNat)=[]:=g9 (by rw[e];exact this);refine⟨by rw[G];rfl,?_⟩;rw[G]at s;exact s
   ·cases h
  ·cases h
 ·cases h
end
def Gx(E:Env)(bl:List (az E.T.El))(t:Nat):aE E.T.El->Option (Option (Nat×Nat)×List (E.T.El t))
 | .p (.slice none 0 0)=>some (none,[])
 | .q _ []=>some (none,[])
 | .r i g=>match nth bl i with
   |some (.r t' a _ l)=>match b2 g a,sn t' t l with
    |true,some l'=>some (some (i,g),l')
    |_,_=>none
   |_=>none
 | .v i g (.ofNat 0) hi=>match nth bl i with
   |some (.r t' a _ l)=>match b2 g a,sn t' t (l.take hi.toNat)with
    |true,some l'=>some (some (i,g),l')
    |_,_=>none
   |_=>none
 |_=>none
def ug(E:Env)(bl:List (az E.T.El))(e sz:Nat):aE E.T.El->Option (Option (Nat×Nat)×List (aE E.T.El))
 | .p (.slice none 0 0)=>some (none,[])
 | .q _ []=>some (none,[])
 | .r i g=>match nth bl i with
   |some (.k t' a b cs)=>match b2 g b&&b2 t' e&&b2 a sz with
    |true=>some (some (i,g),cs)
    |false=>none
   |_=>none
 |_=>none
def ID(E:Env)(bl:List (az E.T.El))(t:Nat)(u v:aE E.T.El):D (dv E.T.El):=match oY E.P t with
 |some (e,sz,bF)=>match b2 sz (E.T.ty e).size,Gx E bl e u,Cq E bl e v with
  |true,some (none,_),some m=>.op (cc bF [] m) λ l=>.ok ⟨some (.r bl.length 0),bl++[.r e 0 0 l],[]⟩
  |true,some (some (i,g),b),some m=>.op (cc bF b m) λ l=>.ok ⟨some (.r i (g+1)),bl.set i (.r e (g+1) 0 l),[i]⟩
  |_,_,_=>match ug E bl e sz u,(match ug E bl e sz v with
   |some (_,m)=>match rz m with
    |true=>some m
    |false=>none
   |none=>none)with
    |some (none,_),some m=>.op (cc bF [] (f_ (m.length / sz) ())) λ _=>.ok ⟨some (.r bl.length 0),bl++[.k e sz 0 m],[]⟩
    |some (some (i,g),b),some m=>.op (cc bF (f_ (b.length / sz) ()) (f_ (m.length / sz) ())) λ _=>.ok ⟨some (.r i (g+1)),bl.set i (.k e sz (g+1) (b++m)),[i]⟩
    |_,_=>.no
 |none=>.no
section
variable{E:Env}{W w w':World}{au:List Nat}{X:Nat->Prop}{n:cm}{f:cf E.T.El}{bl:List (az E.T.El)}{ρ:List Value}{a:Act}{cur:List (Nat×Bool)}
def HE(w:World)(bl:List (az E.T.El))(ρ:List Value)(e sz n:Nat)(v:Value)(xs:List Value):Option (Nat×Nat)->Prop
 |none=>∃A,v= .slice A 0 0/\n=0/\xs=[]
 |some (i,g)=>∃A c h B,v= .slice A n c/\rowIs w e sz v n xs/\bl[i]? =some B/\ρ[i]? =some h/\a_ B h=a9.ag v/\k6 h/\bJ (some B)=g
theorem WC(s:Mem E.T W au X bl ρ w){e:Nat}{u:aE E.T.El}{v:Value}{p:Option (Nat×Nat)}{l:List (E.T.El e)}(h:Gx E bl e u=some (p,l))(b:ar E.T (aY X bl ρ w) w ρ bl u v) :
 ∃xs,HE (E:=E) w bl ρ e (E.T.ty e).size l.length v xs p/\c' (E.T.ty e) (aY X bl ρ w) w xs l:=by
 unfold Gx at h
 split at h
 ·simp only[aM,cv]at h;obtain⟨rfl,rfl⟩:=h;simp only[ar]at b;exact⟨[],⟨none,b,rfl,rfl⟩,rfl⟩
 ·simp only[aM,cv]at h;obtain⟨rfl,rfl⟩:=h;simp only[ar]at b;obtain⟨A,x⟩:=b.2;exact⟨[],⟨A,x,rfl,rfl⟩,rfl⟩
 ·rename_i i g;split at h;rename_i t' y k l' hi;rw[cH]at hi;split at h;rename_i t ag hc;simp only[aM,cv]at h;obtain⟨rfl,rfl⟩:=h;obtain⟨rfl,rfl⟩:=xG hc;have ag:=a8 ag;simp only[ar]at b;obtain⟨_,aC,o,z,q⟩:=b;rw[hi]at q;have C:=q ag;obtain⟨A,c,xs,j,al,aN⟩:=s.ok i _ _ hi o;rw[C];exact⟨xs,⟨A,c,aC,_,j,al,hi,o,rfl,by rw[j];trivial,ag.symm⟩,aN⟩;cases h;cases h
 ·rename_i i g m;split at h
  ·rename_i t' y k l' hi;rw[cH]at hi;split at h
   ·rename_i t ag hc;simp only[aM,cv]at h;obtain⟨rfl,rfl⟩:=h;obtain⟨rfl,rfl⟩:=xG hc;have ag:=a8 ag;simp only[ar]at b;obtain⟨_,aC,o,z,q⟩:=b;rw[hi]at q;obtain⟨H,I,J,B,r,K,l1,t,D,F,_⟩:=q ag;obtain⟨A,c,xs,j,al,aN⟩:=s.ok i _ _ hi o;rw[j]at r al;simp only[Value.slice.injEq]at r;obtain⟨rfl,rfl,rfl⟩:=r;have G:=F rfl;subst G;have d:(l'.take m.toNat).length=m.toNat:=by rw[fM];omega
    have bI:=al.short (k:=m.toNat) (by omega);have b':v= .slice B m.toNat c:=by rw[D];simp
    rw[b'];refine⟨xs.take (m.toNat*(E.T.ty t').size),⟨B,c,aC,_,by rw[d],by rw[d];exact bI,hi,o,by rw[j];cases B<;>cases c<;>rfl,by rw[j];trivial,ag.symm⟩,?_⟩;have:=pI 0 m.toNat aN;simpa using this
   ·cases h
  ·cases h
 ·cases h
theorem N9(q:Mem E.T W au X bl ρ w){e sz:Nat}{u:aE E.T.El}{v:Value}{p:Option (Nat×Nat)}{cs:List (aE E.T.El)}(r:0<sz)(h:ug E bl e sz u=some (p,cs))(b:ar E.T (aY X bl ρ w) w ρ bl u v) :
 ∃xs,HE (E:=E) w bl ρ e sz (cs.length / sz) v xs p/\aR E.T (aY X bl ρ w) w ρ bl cs xs:=by
 unfold ug at h
 split at h
 ·simp only[aM,cv]at h;obtain⟨rfl,rfl⟩:=h;simp only[ar]at b;exact⟨[],⟨none,b,by simp,rfl⟩,by simp[aR]⟩
 ·simp only[aM,cv]at h;obtain⟨rfl,rfl⟩:=h;simp only[ar]at b;obtain⟨A,s⟩:=b.2;exact⟨[],⟨A,s,by simp,rfl⟩,by simp[aR]⟩
 ·rename_i i g;split at h
  ·rename_i t' t D x hi;rw[cH]at hi;split at h
   ·rename_i ag;simp only[bM]at ag;simp only[aM,cv]at h;obtain⟨rfl,rfl⟩:=h;have j:=a8 ag.1.1;have y:=a8 ag.1.2;have z:=a8 ag.2;subst y;subst z;simp only[ar]at b;obtain⟨_,aC,k,F,l⟩:=b;rw[hi]at l;have B:=l j;obtain⟨A,m,c,xs,o,al,aN⟩:=q.ok i _ _ hi k;have d:=aN.len;have J:=al.len;have C:x.length / t=m:=by rw[<-d,J];exact Nat.mul_div_cancel _ r
    rw[B,C];exact⟨xs,⟨A,c,aC,_,o,al,hi,k,rfl,by rw[o];trivial,j.symm⟩,aN⟩
   ·cases h
  ·cases h
 ·cases h
theorem PT(u:Mem E.T W au X bl ρ w){o:Oper}{t e sz bF:Nat}{x y:Operand}{p:Option (Nat×Nat)}{n m:Nat}{xs q:List Value}{F:Option Addr}{N:Nat}(B':Nat->az E.T.El)(he:oY E.P t=some (e,sz,bF))(av:o.op= .call { callee:=.builtin .append,args:=#[x,y],argTypes:=#[t,t] })
 (O:HE (E:=E) w bl ρ e sz n (a.eval x) xs p)(hy:a.eval y= .slice F m N)(ap:xy w sz m F q)(ag:(n+m)*bF<=140737488355328)
 (G:∀g,bJ (some (B' g))=g)(P:∀g h,a_ (B' g) h=a9.ag h)
 (Q:∀(bl':List (az E.T.El))(ρ':List Value)(w':World)(g:Nat)(b:Option Addr)(d:Nat),To X bl bl' ρ ρ' w w'->rowIs w' e sz (.slice b (n+m) d) (n+m) (xs++q)->hf E.T (aY X bl' ρ' w') w' ρ' bl' (B' g) (.slice b (n+m) d)) :
 fv E o a W au X bl ρ w (match p with
  |none=>⟨some (.r bl.length 0),bl++[B' 0],[]⟩
  |some (i,g)=>⟨some (.r i (g+1)),bl.set i (B' (g+1)),[i]⟩):=by
 obtain⟨R,i0,z,hi,S,I,J,U,V,cZ⟩:=sv he
 have Y:n+m<=maxLen:=by have gZ:=kY (n+m) cZ;simp only[maxLen];omega
 have Z:∀ {A:Option Addr}{c:Nat}{H:Value}{w':World},a.eval x= .slice A n c->(Builtin.append_ #[t,t] o.type #[.slice A n c,.slice F m N]).run E.P w= .ok H w'->aS E.P o a w H w':=λ{A c H w'} r eP=>by simp only[aS,execOp,av,resolve,invoke,builtin,Sem.run_bind,Sem.run_pure,Result.andThen_ok,gg,eZ,h6,r,hy,eP]
 cases p with
 |none=>
  obtain⟨A,r,rfl,rfl⟩:=O;obtain⟨b,d,w',K,L,j,v⟩:=PS (w:=w) (ty:=o.type) R hi S I J U V (show rowIs w e sz (.slice A 0 0) 0 [] from .inr ⟨rfl,rfl,A,rfl⟩) ap Y ag;have o7:a9.ag (.slice A 0 0)=[]:=by cases A<;>rfl
  rw[o7]at j v;have C:∀k∈a_ (B' 0) (.slice b (0+m) d),w.heap.size<=k/\k<w'.heap.size:=λ k l=>by rw[P]at l;rcases v k l with e |e;simp at e;exact e
  have s:=u.uh (B:=B' 0) (h:=.slice b (0+m) d) j C;refine⟨w',ρ++[.slice b (0+m) d],u.push j C (Q _ _ _ _ _ _ s L),s,λ k l _=>j.block k l (by simp),_,Z r K,?_⟩;simp only[ar];refine⟨trivial,.slice b (0+m) d,by rw[<-u.len];simp,g_ _,λ _=>rfl⟩
 |some T1=>obtain⟨i,g⟩:=T1;obtain⟨A,c,h,B,r,aD,vC,D,jh,M,ay⟩:=O;rw[r]at aD jh;obtain⟨b,d,w',K,L,j,v⟩:=PS (w:=w) (ty:=o.type) R hi S I J U V aD ap Y ag;rw[<-jh]at j v;have C:∀k∈a_ (B' (g+1)) (.slice b (n+m) d),k∈a_ B h\/(w.heap.size<=k/\k<w'.heap.size):=λ k l=>v k (by rw[P]at l;exact l);have s:=u.wQ (B':=B' (g+1)) (h':=.slice b (n+m) d) vC D j C ⟨λ aL=>absurd M aL,by rw[G,ay];omega,λ e=>by rw[G,ay]at e;omega⟩;refine⟨w',ρ.set i (.slice b (n+m) d),u.rJ vC D j C s (Q _ _ _ _ _ _ s L),s,λ k l cn=>j.block k l (cn i (by simp) B h vC D),_,Z r K,?_⟩;simp only[ar];have l1:=(bg.1 vC).1;have da:=(bg.1 D).1;refine⟨trivial,_,fS da,?_,λ _=>rfl⟩;rw[fS l1,G];exact cS _
theorem adB(Z:cJ E)(z:Mem E.T W au X bl ρ w){o:Oper}{t:Nat}{x y:Operand}{u v:aE E.T.El}{r:dv E.T.El}(h:(ID E bl t u v).out r)(V:o.op= .call { callee:=.builtin .append,args:=#[x,y],argTypes:=#[t,t] })
 (F:ar E.T (aY X bl ρ w) w ρ bl u (a.eval x))(hy:ar E.T (aY X bl ρ w) w ρ bl v (a.eval y)):fv E o a W au X bl ρ w r:=by
 unfold ID at h
 split at h
 ·rename_i e sz bF L;obtain⟨_,_,_,_,_,_,_,_,M,_⟩:=sv L
  have j:∀ {p:Option (Nat×Nat)}{b m l:List (E.T.El e)},b2 sz (E.T.ty e).size=true->Gx E bl e u=some (p,b)->Cq E bl e v=some m->cc bF b m=some l->fv E o a W au X bl ρ w (match p with
   |none=>⟨some (.r bl.length 0),bl++[.r e 0 0 l],[]⟩
   |some (i,g)=>⟨some (.r i (g+1)),bl.set i (.r e (g+1) 0 l),[i]⟩):=λ{p b m l} I J k s=>by
   have I:=a8 I
   subst I
   obtain⟨ag,rfl⟩:=Dz s
   obtain⟨xs,N,O⟩:=WC z J F
   obtain⟨G,P,C,cE,H,gD⟩:=Wv Z z k hy
   have:=PT (B':=λ g=>az.r e g 0 (b++m)) z L V N cE H ag (λ _=>rfl) (λ _ _=>rfl) (λ bl' ρ' w' g Q R D S=>⟨Q,R,xs++C,by rw[fz],by rw[fz];exact S,B0 _ (kz _ D.F gD) (kz _ D.F O)⟩)
   cases p<;>exact this
  have Qo:∀ {p q:Option (Nat×Nat)}{b m:List (aE E.T.El)}{l:List Unit},ug E bl e sz u=some (p,b)->ug E bl e sz v=some (q,m)->rz m=true->cc bF (f_ (b.length / sz) ()) (f_ (m.length / sz) ())=some l->fv E o a W au X bl ρ w (match p with
   |none=>⟨some (.r bl.length 0),bl++[.k e sz 0 (b++m)],[]⟩
   |some (i,g)=>⟨some (.r i (g+1)),bl.set i (.k e sz (g+1) (b++m)),[i]⟩):=λ{p q b m l} I J KP k=>by
   obtain⟨ag,_⟩:=Dz k
   simp only[jp]at ag
   obtain⟨xs,N,O⟩:=N9 z M I F
   obtain⟨ys,cE,H⟩:=N9 z M J hy
   have KZ:∃G P,a.eval y= .slice G (m.length / sz) P/\xy w sz (m.length / sz) G ys:=by
    cases q with
    |none=>obtain⟨A,K,al,rfl⟩:=cE;rw[al];exact⟨A,0,K,.inl ⟨rfl,rfl⟩⟩
    |some T1=>obtain⟨A,c,h,B,K,al,_⟩:=cE;rw[K]at al;exact⟨A,c,K,NQ al (λ u hu=>jX.1 (BK KP H) u hu)⟩
   obtain⟨G,P,s1,s2⟩:=KZ
   have:=PT (B':=λ g=>az.k e sz g (b++m)) z L V N s1 s2 ag (λ _=>rfl) (λ _ _=>rfl) (λ bl' ρ' w' g Q R D S=>⟨Q,_,R,xs++ys,rfl,S,aR.cc (D.vs O) (D.vs H)⟩)
   cases p<;>exact this
  split at h
  ·rename_i b m I J k;obtain⟨l,s,d⟩:=h;have d:(⟨some (.r bl.length 0),bl++[.r e 0 0 l],[]⟩:dv E.T.El)=r:=d;subst d;have U:b=[]:=by obtain⟨xs,⟨A,_,al,_⟩,_⟩:=WC z J F;exact g9 al
   subst U;exact j (p:=none) I J k s
  ·rename_i i g b m I J k;obtain⟨l,s,d⟩:=h;have d:(⟨some (.r i (g+1)),bl.set i (.r e (g+1) 0 l),[i]⟩:dv E.T.El)=r:=d;subst d;exact j I J k s
  ·have Y:∀ {m:List (aE E.T.El)},(match ug E bl e sz v with
    |some (_,m)=>match rz m with
     |true=>some m
     |false=>none
    |none=>none)=some m->∃q,ug E bl e sz v=some (q,m)/\rz m=true:=λ{m} h=>by
    split at h
    ·rename_i q hp aI;split at h;rename_i kX;simp only[aM]at h;subst h;exact⟨q,aI,kX⟩;cases h
    ·cases h
   split at h
   ·rename_i b m I J;obtain⟨q,J,k⟩:=Y J;obtain⟨l,s,d⟩:=h;have d:(⟨some (.r bl.length 0),bl++[.k e sz 0 m],[]⟩:dv E.T.El)=r:=d;subst d;have U:b=[]:=by obtain⟨xs,⟨A,_,al,aN⟩,bI⟩:=N9 z M I F;subst aN;exact g9 bI.len.symm
    subst U;exact Qo (p:=none) (b:=[]) I J k (by simpa using s)
   ·rename_i i g b m I J;obtain⟨q,J,k⟩:=Y J;obtain⟨l,s,d⟩:=h;have d:(⟨some (.r i (g+1)),bl.set i (.k e sz (g+1) (b++m)),[i]⟩:dv E.T.El)=r:=d;subst d;exact Qo I J k s
   ·exact h.elim
 ·exact h.elim
end
def jr{α:Type}(z:List α):Nat->List α
 |0=>[]
 |n+1=>z++jr z n
theorem Ho{α:Type}(z:List α):∀n,(jr z n).length=n*z.length
 |0=>by simp[jr]
 |n+1=>by simp only[jr,fz,Ho z n,iW];omega
theorem Yf{α:Type}{z:List α}:∀ {n i:Nat},i<n*z.length->(jr z n)[i]? =z[i%z.length]?
 |0,i,h=>by simp at h
 |n+1,i,h=>by simp only[jr];rcases gw i z.length with c |c;rw[eF c,Nat.mod_eq_of_lt c];rw[eW c,Yf (by rw[iW]at h;omega),Nat.mod_eq_sub_mod c]
theorem Yd(a:Array Value)(n:Nat)(h:0<a.size):((Array.range (n*a.size)).map (a[·%a.size]!))=⟨jr a.toList n⟩:=by rw[<-ll];apply jO;intro i;rcases gw i (n*a.size)with c |c;simp only;rw[Yf (by simpa using c)];have b:i%a.size<a.size:=Nat.mod_lt _ h;simp[c,b];rw[gM (by simpa using c),gM (by rw[Ho];simpa using c)]
theorem Yg{El:Nat->Type}(z:List Value):∀n,(jr z n).map (aE.p (El:=El))=jr (z.map .p) n
 |0=>rfl
 |n+1=>by simp[jr,Yg z n]
def R8(E:Env)(bl:List (az E.T.El))(t n:Nat)(ps:List (Nat×aE E.T.El)):Option (dv E.T.El):=match oY E.P t,n,ps with
 |some (e,sz,_),0,[]=>match b2 sz (E.T.ty e).size with
  |true=>some ⟨some (.r bl.length 0),bl++[.r e 0 0 []],[]⟩
  |false=>some ⟨some (.r bl.length 0),bl++[.k e sz 0 []],[]⟩
 |_,_,_=>none
def IR(E:Env)(bl:List (az E.T.El))(t n:Nat)(ps:List (Nat×aE E.T.El)):D (dv E.T.El):=match oY E.P t with
 |some (e,sz,_)=>match oB E.P e,hR n 100000&&eh 0 n&&hR (n*sz) 16777216 with
  |some z,true=>match qq (λ i=>some (i*sz,sz)) (jr (z.map .p) n) ps with
   |some cs=>match kQ bl cs with
    |(bl',a)=>match b2 sz (E.T.ty e).size,yk (E.T.e e) (xJ sz n a)with
     |true,some l=>.ok ⟨some (.r bl'.length 0),bl'++[.r e 0 0 l],[]⟩
     |_,_=>.ok ⟨some (.r bl.length 0),bl++[.k e sz 0 cs],[]⟩
   |none=>.no
  |_,_=>.no
 |none=>.no
def IQ(E:Env)(bl:List (az E.T.El))(t n:Nat)(ps:List (Nat×aE E.T.El)):D (dv E.T.El):=match R8 E bl t n ps with
 |some r=>.ok r
 |none=>IR E bl t n ps
def NS:Operand->Operand->Bool
 | .tmp a,.tmp b=>b2 a b
 | .const (.int .i64 m),.const (.int .i64 n)=>decide (m=n)
 |_,_=>false
theorem am7{a:Act}{x y:Operand}(h:NS x y=true):a.eval x=a.eval y:=by unfold NS at h;split at h;rw[a8 h];rw[of_decide_eq_true h];cases h
def IX(E:Env)(bl:List (az E.T.El))(t:Nat)(x y:Operand)(u:aE E.T.El):D (dv E.T.El):=match oY E.P t,u with
 |some (e,sz,bF),.p (.int .i64 k)=>match b2 sz (E.T.ty e).size,rW E e e,NS x y with
  |true,some a,true=>.op (L2 a bF k) λ l=>.ok ⟨some (.r bl.length 0),bl++[.r e 0 0 l],[]⟩
  |_,_,_=>.no
 |_,_=>.no
section
variable{E:Env}{W w w':World}{au:List Nat}{X:Nat->Prop}{n:cm}{f:cf E.T.El}{bl:List (az E.T.El)}{ρ:List Value}{a:Act}{cur:List (Nat×Bool)}
theorem BF(c:Mem E.T W au X bl ρ w){o:Oper}{e sz n:Nat}{vs:List Value}{B:az E.T.El}(s:bJ (some B)=0)(l:∀h,a_ B h=a9.ag h)(d:vs.length=n*sz)(m:n<=maxLen)
 (p:∀(bl':List (az E.T.El))(ρ':List Value)(w':World),To X bl bl' ρ ρ' w w'->rowIs w' e sz (.slice (some ⟨w.heap.size,0,none⟩) n n) n vs->hf E.T (aY X bl' ρ' w') w' ρ' bl' B (.slice (some ⟨w.heap.size,0,none⟩) n n))
 (hy:aS E.P o a w (.slice (some ⟨w.heap.size,0,none⟩) n n) (w.alloc (.cells ⟨vs⟩ e))):fv E o a W au X bl ρ w ⟨some (.r bl.length 0),bl++[B],[]⟩:=by
 have g:a1 [] w (w.alloc (.cells ⟨vs⟩ e)):=a1.alloc _ _ _
 have r:rowIs (w.alloc (.cells ⟨vs⟩ e)) e sz (.slice (some ⟨w.heap.size,0,none⟩) n n) n vs:= .inl ⟨d,.inr ⟨w.heap.size,n,⟨vs⟩,rfl,g_ _,heap_alloc_new w _,cS _,m,by simpa using d,by rw[<-d,jY]⟩⟩
 have i:∀k∈a_ B (.slice (some ⟨w.heap.size,0,none⟩) n n),w.heap.size<=k/\k<(w.alloc (.cells ⟨vs⟩ e)).heap.size:=λ k b=>by
  rw[l]at b;have:k=w.heap.size:=by
   cases n with
   |zero=>simp[a9.ag]at b
   |succ q=>simpa[a9.ag]using b
  subst this;simp
 have j:=c.uh (B:=B) (h:=.slice (some ⟨w.heap.size,0,none⟩) n n) g i
 refine⟨_,ρ++[.slice (some ⟨w.heap.size,0,none⟩) n n],c.push g i (p _ _ _ j r),j,λ k b _=>g.block k b (by simp),_,hy,?_⟩
 simp only[ar]
 exact⟨trivial,.slice (some ⟨w.heap.size,0,none⟩) n n,by rw[<-c.len];simp,g_ _,λ _=>rfl⟩
theorem adM(N:cJ E)(B:Mem E.T W au X bl ρ w){o:Oper}{t n:Nat}{xs:List (Nat×Operand)}{ps:List (Nat×aE E.T.El)}{r:dv E.T.El}(h:(IR E bl t n ps).out r)(O:o.op= .buildSlice t n xs.toArray)
 (P:nD E.T (aY X bl ρ w) w ρ bl ps (xs.map λ p=>(p.1,a.eval p.2))):fv E o a W au X bl ρ w r:=by
 unfold IR at h
 split at h
 ·rename_i e sz bF Q;obtain⟨R,i0,S,hi,U,I,J,j,V,cZ⟩:=sv Q;split at h
  ·rename_i z Y ag;simp only[bM]at ag;have As:=b_ ag.1.1;have S':=b_ ag.1.2;have Z:=b_ ag.2;obtain⟨Pb,C,k⟩:=zo Y;have A_:Pb=S:=by have g:=C w;simp only[zeroValue,typeInfo,Sem.run_bind]at g;simp[go_sem,hi,U]at g;exact g.symm
   subst A_;have m:z.length=sz:=by rw[<-j,k];simp
   split at h
   ·rename_i cs D;obtain⟨os,f1,s⟩:=I8 (nj (jr z n)) P (by rw[Yg];exact D)
    have u:os.length=n*sz:=by
     have g:=s.len;have key:∀ {ps:List (Nat×aE E.T.El)}{c d:List (aE E.T.El)},qq (λ i=>some (i*sz,sz)) c ps=some d->d.length=c.length:=by
      intro ps;induction ps with
      |nil=>intro c d b;simp only[qq,aM]at b;rw[b]
      |cons p r bn=>intro c d b;obtain⟨i,y⟩:=p;simp only[qq]at b;split at b;rename_i F;simp only[bM]at F;rw[bn b,LF (b_ F.2)];cases b
     rw[g,key D,Ho,jc,m]
    have G:=Yd Pb.cells n (by rw[j];exact V);rw[j,k]at G;have H:aS E.P o a w (.slice (some ⟨w.heap.size,0,none⟩) n n) (w.alloc (.cells ⟨os⟩ e)):=by
     have ba: ¬(n*sz>2^24):=by omega
     have bw:n*sz≠0:=by intro b;rcases Nat.mul_eq_zero.1 b with q |q<;>omega
     simp only[aS,execOp,O,Instr.buildSlice,Sem.run_bind,Sem.run_pure,run_sizeOf hi,I,C,Result.andThen_ok,run_underlying R,gg,lG ba,lG bw];have K:Pb.cells.size=sz:=j;rw[k]at K;simp only[k];rw[K,G,f1];rfl
    have L:n<=maxLen:=by simp only[maxLen];omega
    split at h;rename_i bl' hh mO;obtain⟨dP,t1,v1⟩:=Ej B mO s;split at h;rename_i l v aq;have h:(⟨some (.r bl'.length 0),bl'++[.r e 0 0 l],[]⟩:dv E.T.El)=r:=h;subst h;have v:=a8 v;obtain⟨cE,M⟩:=Lc N n v1 u aq;refine fv.first t1 (λ i hi=>by simp at hi) (BF (e:=e) (sz:=sz) (n:=n) (vs:=os) dP rfl (λ _=>rfl) u L (λ sj gG cC x A=>?_) H);subst v;exact⟨_,_,os,by rw[M],by rw[M];exact A,kz _ x.F cE⟩;have h:(⟨some (.r bl.length 0),bl++[.k e sz 0 cs],[]⟩:dv E.T.El)=r:=h;subst h;exact BF (e:=e) (sz:=sz) (n:=n) (vs:=os) B rfl (λ _=>rfl) u L (λ sj gG cC x A=>⟨_,_,_,os,rfl,A,x.vs s⟩) H
   ·exact h.elim
  ·exact h.elim
 ·exact h.elim
theorem adN(j:cJ E)(c:Mem E.T W au X bl ρ w){o:Oper}{t n:Nat}{xs:List (Nat×Operand)}{ps:List (Nat×aE E.T.El)}{r:dv E.T.El}(h:(IQ E bl t n ps).out r)(g:o.op= .buildSlice t n xs.toArray)
 (i:nD E.T (aY X bl ρ w) w ρ bl ps (xs.map λ p=>(p.1,a.eval p.2))):fv E o a W au X bl ρ w r:=by
 unfold IQ at h
 split at h
 ·rename_i e4 b;have h:e4=r:=h;subst h;unfold R8 at b;split at b
  ·rename_i e sz bF k;obtain⟨l,m,z,hi,A,I,J,B,C,D⟩:=sv k
   have s:xs=[]:=by
    cases xs with
    |nil=>rfl
    |cons p q=>simp[nD]at i
   subst s;have hy:aS E.P o a w _ _:=ap9 (sz:=m.size) l (λ w=>run_sizeOf hi w) g;split at b;rename_i ag;simp only[aM]at b;subst b;exact BF (e:=e) (sz:=sz) (n:=0) (vs:=[]) c rfl (λ _=>rfl) (by simp) (g_ _) (λ u v x y d=>⟨_,_,[],rfl,by rw[<-a8 ag];exact d,rfl⟩) hy;simp only[aM]at b;subst b;exact BF (e:=e) (sz:=sz) (n:=0) (vs:=[]) c rfl (λ _=>rfl) (by simp) (g_ _) (λ u v x y d=>⟨_,_,_,[],rfl,d,rfl⟩) hy
  ·cases b
 ·exact adM j c h g i
theorem V5{α:Type}{T:cR α}{F:Nat->Prop}{w:World}{z:List Value}{b:α}(h:T.rd F w z b):∀n,c' T F w (jr z n) (f_ n b)
 |0=>rfl
 |n+1=>⟨z,jr z n,rfl,h,V5 h n⟩
theorem adS(B:cJ E)(C:Mem E.T W au X bl ρ w){o:Oper}{t:Nat}{x y:Operand}{u:aE E.T.El}{r:dv E.T.El}(h:(IX E bl t x y u).out r)(D:o.op= .makeSlice t x y)(g:ar E.T (aY X bl ρ w) w ρ bl u (a.eval x)):fv E o a W au X bl ρ w r:=by
 unfold IX at h;split at h
 ·rename_i e sz bF k F;obtain⟨G,v,b,hi,z,I,J,d,H,K⟩:=sv F;split at h
  ·rename_i L i c ap;obtain⟨l,M,j⟩:=h;have j:(⟨some (.r bl.length 0),bl++[.r e 0 0 l],[]⟩:dv E.T.El)=r:=j;subst j;have i:=a8 i;obtain⟨N,aT,rfl⟩:=ajC M;obtain⟨m,rfl⟩:=jQ N;simp only[kZ]at *
   have O:m<=bF*m:=Nat.le_mul_of_pos_left m K;have A:m<=maxLen:=by simp only[maxLen];omega
   simp only[ar]at g;have hy:a.eval y= .int .i64 (m:Int):=by rw[<-am7 ap,g]
   have Q:(E.T.ty e).rd (aY X bl ρ w) w b.cells.toList L:=by
    unfold rW at c;split at c
    ·rename_i R p;split at c
     ·have S:R=b:=by
       simp only[xa,hi]at p;rw[z]at p;exact(eG p).symm
      subst S;exact B.tb.fH _ _ _ c _ _ ρ bl _ (nj _)
     ·cases c
    ·cases c
   have U:(v.bytes:Int)*(m:Int)<=281474976710656:=by
    rw[J];have V:((bF*m:Nat):Int)<=281474976710656:=by omega
    rwa [Int.natCast_mul]at V
   have q:=run_make (P:=E.P) w t e v b G hi z .i64 .i64 (m:Int) (m:Int) (by omega) (k2 _) U (by simp only[maxLen]at A;omega);simp only[kZ]at q;have s:madeCells b.cells (m*sz)=⟨jr b.cells.toList m⟩:=by have:=Yd b.cells m (by rw[d];exact H);rw[d]at this;simp only[madeCells,d];exact this
   rw[I,s]at q;have Y:aS E.P o a w (.slice (some ⟨w.heap.size,0,none⟩) m m) (w.alloc (.cells ⟨jr b.cells.toList m⟩ e)):=by simp only[aS,execOp,D,g,hy,Sem.run_bind,q,Result.andThen_ok,Sem.run_pure]
   refine BF (e:=e) (sz:=sz) (n:=m) (vs:=jr b.cells.toList m) C rfl (λ _=>rfl) (by rw[Ho];simp[d]) A (λ sj gG cC Z aD=>?_) Y;subst i;exact⟨_,_,_,by rw[jp],by rw[jp];exact aD,V5 ((E.T.ty e).law Z.F Q) m⟩
  ·exact h.elim
 ·exact h.elim
end
def WI(P:Program)(t:Nat):Bool:=match P.underlying t with
 |some (.int .u8)=>true
 |_=>false
def I2(E:Env)(bl:List (az E.T.El))(s d:Nat)(u:aE E.T.El):D (dv E.T.El):=match E.P.underlying s,E.P.underlying d,u with
 |some .string,some (.slice e),.p (.string ⟨⟨l⟩⟩)=>match b2 e E.iY,WI E.P E.iY with
  |true,true=>.op (bytesOf l) λ r=>.ok ⟨some (.s E.iY (E.zR r)),bl,[]⟩
  |_,_=>.no
 |_,_,_=>.no
section
variable{E:Env}{W w w':World}{au:List Nat}{X:Nat->Prop}{bl:List (az E.T.El)}{ρ:List Value}{a:Act}
theorem adX(i:cJ E)(g:Mem E.T W au X bl ρ w){o:Oper}{s d:Nat}{x:Operand}{u:aE E.T.El}{r:dv E.T.El}(c:(I2 E bl s d u).out r)(C:o.op= .convert s d x)(p:ar E.T (aY X bl ρ w) w ρ bl u (a.eval x)):fv E o a W au X bl ρ w r:=by
 unfold I2 at c;split at c
 ·rename_i e l D F;split at c
  ·rename_i ag m;have ag:=a8 ag;subst ag;have G:E.P.underlying E.iY=some (.int .u8):=by unfold WI at m;split at m;assumption;cases m
   obtain⟨q,I,J⟩:=c;have J:(⟨some (.s E.iY (E.zR q)),bl,[]⟩:dv E.T.El)=r:=J;subst J;simp only[ar]at p;unfold bytesOf at I;split at I
   ·rename_i H;simp only[aM]at I;subst I;have t:=run_bytes_of_string (P:=E.P) w s d E.iY ⟨⟨l⟩⟩ D F G;have K:(⟨⟨l⟩⟩:ByteArray).size=l.length:=rfl;have hc:=grownCap_ge w l.length 0 E.iY;have v:=grownCap_le_maxLen w l.length 0 E.iY (by simp only[maxLen];omega);obtain⟨B,y⟩:∃B,B=bytesRow ⟨⟨l⟩⟩ (grownCap w l.length 0 E.iY):=⟨_,rfl⟩
    obtain⟨ef,z⟩:∃ef,ef=grownCap w l.length 0 E.iY:=⟨_,rfl⟩
    rw[K,<-y,<-z]at t;rw[<-z]at hc v;have hy:aS E.P o a w (.slice (some ⟨w.heap.size,0,none⟩) l.length ef) (w.drew.alloc (.cells B E.iY (B.size,B.size+1))):=by simp only[aS,execOp,C,p,Sem.run_bind,t,Result.andThen_ok];rfl
    have n:a1 [] w (w.drew.alloc (.cells B E.iY (B.size,B.size+1))):=(a1.drew [] w).trans (a1.alloc [] _ _) (by simp);refine⟨_,ρ,g.ez n,Mem.Cu n,λ k f _=>n.block k f (by simp),_,hy,?_⟩;simp only[ar];refine⟨_,ef,by rw[i.PY],by rw[i.PY];exact hc,v,(λ h=>by cases h),λ _=>⟨rfl,⟨?_,?_,by show w.heap.size<_;simp⟩,_,i.aa5 _ _ _ _ (V3 l),λ j u A=>?_⟩⟩;intro f;have I:w.heap.size<W.heap.size:=(g.fI _ f).1;have J:=g.bO.size;omega;intro f;have I:w.heap.size<w.heap.size:=(g.lt _ f).1;omega
    ·rw[kc,cQ]at A;obtain⟨b,ag,rfl⟩:=A;obtain⟨L,M⟩:=bg.1 ag;have:=bytesRow_at ⟨⟨l⟩⟩ (grownCap w l.length 0 E.iY) j (by simpa using L);rw[<-y]at this;show World.cell? _ ⟨w.heap.size,0+j,none⟩=_
     simp only[World.cell?,World.alloc];rw[show(w.drew.heap.push _)[w.heap.size]? =some _ from Array.getElem?_push_size (xs:=w.heap)];simp only[jJ,this];simp[M]
   ·cases I
  ·exact c.elim
 ·exact c.elim
end
def IE(E:Env)(bl:List (az E.T.El))(t tn:Nat)(u v:aE E.T.El):D (dv E.T.El):=match oY E.P t,iM (E.P.underlying tn),u,v with
 |some (e,sz,bF),some (.i .i64),.p (.slice none 0 0),.p (.int .i64 k)=>match b2 sz 1&&b2 (E.T.ty e).size 1,rW E e e with
  |true,some a=>.op (HP a bF k) λ l=>.ok ⟨some (.r bl.length 0),bl++[.r e 0 0 l],[]⟩
  |_,_=>.no
 |_,_,_,_=>.no
section
variable{E:Env}{W w w':World}{au:List Nat}{X:Nat->Prop}{n:cm}{f:cf E.T.El}{bl:List (az E.T.El)}{ρ:List Value}{a:Act}{cur:List (Nat×Bool)}
theorem adA(S:cJ E)(p:Mem E.T W au X bl ρ w){o:Oper}{t tn:Nat}{x y:Operand}{u v:aE E.T.El}{r:dv E.T.El}(h:(IE E bl t tn u v).out r)(U:o.op= .call { callee:=.builtin .append,args:=#[x,y],argTypes:=#[t,tn] })
 (L:ar E.T (aY X bl ρ w) w ρ bl u (a.eval x))(M:ar E.T (aY X bl ρ w) w ρ bl v (a.eval y)):fv E o a W au X bl ρ w r:=by
 unfold IE at h
 split at h
 ·rename_i e sz bF k V s;obtain⟨Y,Z,b,hi,N,I,J,i,hk,cZ⟩:=sv V;have z:=qY s;split at h
  ·rename_i g ag d;simp only[bM]at ag;have ap:=a8 ag.1;have eM:=a8 ag.2;subst ap;obtain⟨l,gZ,A⟩:=h;have A:(⟨some (.r bl.length 0),bl++[.r e 0 0 l],[]⟩:dv E.T.El)=r:=A;subst A;obtain⟨ey,aT,rfl⟩:=aa0 gZ;obtain⟨m,rfl⟩:=jQ (Int.le_of_lt ey);simp only[kZ]at *
   have hle:m<=bF*m:=Nat.le_mul_of_pos_left m cZ;simp only[ar]at L M;have eL:(E.T.ty e).rd (aY X bl ρ w) w b.cells.toList g:=by
    unfold rW at d;split at d
    ·rename_i C_ C;split at d
     ·have ak:C_=b:=by
       simp only[xa,hi]at C;rw[N]at C;exact(eG C).symm
      subst ak;exact S.tb.fH _ _ _ d _ _ ρ bl _ (nj _)
     ·cases d
    ·cases d
   obtain⟨ef,D⟩:∃ef,b.cells= #[ef]:=by
    revert i;generalize b.cells=cs;obtain⟨l⟩:=cs;intro i;cases l with
    |nil=>simp at i
    |cons c r=>cases r with
     |nil=>exact⟨c,rfl⟩
     |cons _ _=>simp at i
   have eP:=Lib.run_append_nil_zeros (P:=E.P) w t tn o.type e Z b .i64 .i64 Y z hi N m (by omega) (by omega) (by omega) (by rw[J,Nat.mul_comm];omega);let cap:=grownCap w m 0 e;have At:m<=cap:=grownCap_ge w m 0 e;have vE:cap<=maxLen:=grownCap_le_maxLen w m 0 e (by simp only[maxLen];omega);have K8:∀q,(Builtin.zeroCells b.cells q).toList=f_ q ef:=by intro q;rw[D];apply List.ext_getElem;simp[Builtin.zeroCells];intro j I J;simp[Builtin.zeroCells,Nat.mod_one]
   let cur:=Builtin.zeroCells b.cells m++Builtin.zeroCells b.cells (cap-m);have hcs:cur.size=cap:=by simp only[cur,Array.size_append,size_zeroCells,D];simp;omega
   have lX:aS E.P o a w (.slice (some ⟨w.heap.size,0,none⟩) m cap) (w.drew.alloc (.cells cur e)):=by simp only[aS,execOp,U,resolve,invoke,builtin,Sem.run_bind,Sem.run_pure,Result.andThen_ok,gg,eZ,h6,L,M,eP,cap,cur]
   have G:a1 [] w (w.drew.alloc (.cells cur e)):=(a1.drew [] w).trans (a1.alloc [] w.drew (.cells cur e)) (by simp);have H:w.drew.heap.size=w.heap.size:=rfl;have pd:rowIs (w.drew.alloc (.cells cur e)) e 1 (.slice (some ⟨w.heap.size,0,none⟩) m cap) m (f_ m ef):=by refine .inl ⟨by simp,.inr ⟨w.heap.size,cap,cur,rfl,g_ _,?_,At,vE,by simp[hcs],?_⟩⟩;rw[<-H];exact heap_alloc_new w.drew _;simp only[cur,Array.toList_append,K8,jZ];rw[List.take_append_of_le_length (by simp),hF (by simp)]
   have x5:cap=(cap-1)+1:=by omega
   have O:∀q∈a_ (az.r (El:=E.T.El) e 0 0 (f_ m g)) (.slice (some ⟨w.heap.size,0,none⟩) m cap),w.heap.size<=q/\q<(w.drew.alloc (.cells cur e)).heap.size:=λ q Q=>by
    rw[x5]at Q;have:q=w.heap.size:=by simpa[a_,a9.ag]using Q
    subst this;simp
   have R:=p.uh (B:=az.r e 0 0 (f_ m g)) (h:=.slice (some ⟨w.heap.size,0,none⟩) m cap) G O;have K:∀(q:Nat)(F:Nat->Prop)(w':World),(E.T.ty e).rd F w' [ef] g->c' (E.T.ty e) F w' (f_ q ef) (f_ q g):=λ q F w' h=>by
    induction q with
    |zero=>rfl
    |succ q bn=>exact⟨[ef],f_ q ef,rfl,h,bn⟩
   refine⟨_,ρ++[.slice (some ⟨w.heap.size,0,none⟩) m cap],p.push G O ⟨some ⟨w.heap.size,0,none⟩,cap,f_ m ef,by rw[jp],by rw[eM,jp];exact pd,K m _ _ ?_⟩,R,λ k s _=>G.block k s (by simp),_,lX,?_⟩;have:=(E.T.ty e).law R.F eL;rwa [D]at this;simp only[ar];exact⟨trivial,.slice (some ⟨w.heap.size,0,none⟩) m cap,by rw[<-p.len];simp,g_ _,λ _=>rfl⟩
  ·exact h.elim
 ·exact h.elim
end
end a9
namespace ad
def fZ{α:Type}(l:List α)(p:Nat)(ds:List α):List α:=l.take p++ds++l.drop (p+ds.length)
theorem FN{α:Type}{l:List α}{p:Nat}{ds:List α}(h:p+ds.length<=l.length):(fZ l p ds).length=l.length:=by simp[fZ];omega
end ad
namespace a9
open Go Go.RowKit aw ad
theorem Sa(b:Nat):∀(vs:List Value)(o:Nat)(w:World),a1 [b] w (w.setCells b o vs)
 |[],_,w=>a1.refl _ w
 |v::r,o,w=>(a1.set w ⟨b,o,none⟩ v).trans (Sa b r (o+1) _) (λ x a=>.inl a)
theorem Wn(b:Nat)(e:TypeId)(a:Nat×Nat):∀(vs:List Value)(o:Nat)(w:World)(cur:List Value),w.heap[b]? =some (.cells cur.toArray e a)->o+vs.length<=cur.length ->
 (w.setCells b o vs).heap[b]? =some (.cells (fZ cur o vs).toArray e a)
 |[],o,w,cur,h,_=>by simpa[World.setCells,fZ]using h
 |v::r,o,w,cur,h,d=>by
  simp only[dp]at d;have ag:b<w.heap.size:=by rcases gw b w.heap.size with h' |h';exact h';rw[hA h']at h;cases h
  have I:(w.setCell ⟨b,o,none⟩ v).heap[b]? =some (.cells (cur.set o v).toArray e a):=by simp only[World.setCell,j0,lH,h,fC];simp
  have:=Wn b e a r (o+1) _ (cur.set o v) I (by simp;omega);show((w.setCell ⟨b,o,none⟩ v).setCells b (o+1) r).heap[b]? =_
  rw[this];have f:cur.set o v=cur.take o++v::cur.drop (o+1):=by rw[List.set_eq_take_append_cons_drop,lH (by omega)]
  have c:(cur.take o).length=o:=by rw[fM];omega
  have g:(cur.set o v).take (o+1)=cur.take o++[v]:=by rw[f,kj,c,hF (by rw[c];omega)];simp
  have al:(cur.set o v).drop (o+1+r.length)=cur.drop (o+(v::r).length):=by rw[List.drop_set_of_lt (by omega)];congr 1;simp;omega
  simp only[fZ];rw[g,al];simp
theorem aku{α:Type}{l ds:List α}{p n:Nat}(h:p+ds.length<=n)(a:n<=l.length):(fZ l p ds).take n=fZ (l.take n) p ds:=N3 h a
structure HB (El:Nat->Type) where
 i:Nat
 t:Nat
 g:Nat
 k:Nat
 l:List (El t)
 lo:Int
 hi:Int
def FW{El:Nat->Type}(bl:List (az El)):aE El->Option (HB El)
 | .v i g lo hi=>match nth bl i with
   |some (.r t a k l)=>match b2 g a with
    |true=>some ⟨i,t,a,k,l,lo,hi⟩
    |false=>none
   |_=>none
 | .r i g=>match nth bl i with
   |some (.r t a k l)=>match b2 g a with
    |true=>some ⟨i,t,a,k,l,0,(l.length:Int)⟩
    |false=>none
   |_=>none
 |_=>none
def II(E:Env)(bl:List (az E.T.El))(t:Nat)(u v:aE E.T.El):D (dv E.T.El):=match oY E.P t,FW bl u with
 |some (_,n,_),some p=>match b2 n 1&&b2 (E.T.ty p.t).size 1,Cq E bl p.t v with
  |true,some m=>.op (BE (decide (0<p.l.length))) λ _=>.ok ⟨some (.p (.int .i64 ((m.take (p.hi-p.lo).toNat).length:Int))),bl.set p.i (.r p.t p.g (p.k+1) (fZ p.l p.lo.toNat (m.take (p.hi-p.lo).toNat))),[p.i]⟩
  |_,_=>.no
 |_,_=>.no
def IH(E:Env)(bl:List (az E.T.El))(t:Nat)(u:aE E.T.El):D (dv E.T.El):=match oY E.P t,FW bl u with
 |some (e,sz,_),some p=>match b2 sz 1&&b2 (E.T.ty p.t).size 1&& !(E.T.e p.t).agg,rW E p.t e with
  |true,some a=>.op (BE (decide (p.lo<p.hi))) λ _=>.ok ⟨some (.u []),bl.set p.i (.r p.t p.g (p.k+1) (fZ p.l p.lo.toNat (f_ (p.hi-p.lo).toNat a))),[p.i]⟩
  |_,_=>.no
 |_,_=>.no
section
variable{E:Env}{W w w':World}{au:List Nat}{X:Nat->Prop}{n:cm}{f:cf E.T.El}{bl:List (az E.T.El)}{ρ:List Value}{a:Act}{cur:List (Nat×Bool)}
theorem Vu(s:Mem E.T W au X bl ρ w){u:aE E.T.El}{v:Value}{p:HB E.T.El}(h:FW bl u=some p)(I:(E.T.ty p.t).size=1)(q:ar E.T (aY X bl ρ w) w ρ bl u v) :
 bl[p.i]? =some (.r p.t p.g p.k p.l)/\0<=p.lo/\p.lo<=p.hi/\p.hi<=p.l.length/\∃A c B j,ρ[p.i]? =some (.slice A p.l.length c)/\v= .slice B (p.hi.toNat-p.lo.toNat) j/\(p.lo<p.hi->B=A.map (·.add p.lo.toNat)):=by
 unfold FW at h
 split at h
 ·rename_i i g lo hi;split at h;rename_i t y k l b;rw[cH]at b;split at h;rename_i ag;simp only[aM]at h;subst h;simp only[ar]at q;obtain⟨_,aC,m,z,o⟩:=q;rw[b]at o;obtain⟨A,n,c,B,x,al,aN,bI,b',eD,C⟩:=o (a8 ag);obtain⟨r,j,xs,d,D,F⟩:=s.ok _ _ _ b m;rw[x]at d;simp only[Value.slice.injEq]at d;obtain⟨rfl,rfl,rfl⟩:=d;refine⟨b,al,aN,bI,A,c,B,_,x▸m,b',λ G=>?_⟩;have:=C G;simp only[hK,I,jZ]at this;exact this;cases h;cases h
 ·rename_i i g;split at h
  ·rename_i t y k l b;rw[cH]at b;split at h
   ·rename_i ag;simp only[aM]at h;subst h;simp only[ar]at q;obtain⟨_,aC,m,z,o⟩:=q;rw[b]at o;have e:=o (a8 ag);subst e;obtain⟨r,j,xs,d,D,F⟩:=s.ok _ _ _ b m;refine⟨b,k2 _,by simp,k2 _,r,j,r,j,d▸m,by simpa using d,λ _=>?_⟩;cases r with
    |none=>rfl
    |some dD=>simp[Addr.add]
   ·cases h
  ·cases h
 ·cases h
theorem Wc(s:Mem E.T W au X bl ρ w){o:Oper}{p:HB E.T.El}{A:Option Addr}{c:Nat}(hi:bl[p.i]? =some (.r p.t p.g p.k p.l))(g:ρ[p.i]? =some (.slice A p.l.length c))(I:(E.T.ty p.t).size=1){q:Nat}{ds:List (E.T.El p.t)}{vs:List Value}(B:c' (E.T.ty p.t) (aY X bl ρ w) w vs ds)(C:0<p.l.length)(i:q+ds.length<=p.l.length) :
 ∃b,A=some ⟨b,0,none⟩/\vs.length=ds.length/\(∀j,j<p.l.length->(w.cell? ⟨b,j,none⟩).isSome=true)/\(∀j,w.frozen? ⟨b,j,none⟩=false)/\
  ∀ {r:Value}{y:aE E.T.El},(∀(F:Nat->Prop)(w:World)(ρ:List Value)(bl:List (az E.T.El)),ar E.T F w ρ bl y r)->aS E.P o a w r (w.setCells b q vs)->fv E o a W au X bl ρ w ⟨some y,bl.set p.i (.r p.t p.g (p.k+1) (fZ p.l q ds)),[p.i]⟩:=by
 obtain⟨c2,bs,xs,D,G,H⟩:=s.ok _ _ _ hi g
 simp only[Value.slice.injEq,true_and]at D
 obtain⟨rfl,rfl⟩:=D
 obtain⟨b,rfl,qE,hc,P⟩:=rF C G
 have t:=oo _ B
 rw[I,jZ]at t
 have J:=oo _ H
 rw[I,jZ]at J
 have K:=G.own C
 rw[I]at K
 rcases K.2 with⟨_,aK⟩|⟨g',cap,cur,L,al,aN,bI,b',eD,M⟩
 ·omega
 simp only[Value.slice.injEq,aM,Addr.mk.injEq,and_true,true_and]at L
 obtain⟨rfl,rfl⟩:=L
 rw[jZ]at eD M
 have Kd:(⟨cur.toList⟩:Array Value)=cur:=by simp
 refine⟨b,rfl,t,λ j aA=>?_,λ j=>by simp[World.frozen?,aN],λ{r y} hy Q=>?_⟩
 ·have:j<cur.size:=by omega
  simp[World.cell?,aN,this]
 have R:a_ (az.r p.t p.g p.k p.l) (.slice (some ⟨b,0,none⟩) p.l.length c)=[b]:=P _
 have u:a1 (a_ (az.r p.t p.g p.k p.l) (.slice (some ⟨b,0,none⟩) p.l.length c)) w (w.setCells b q vs):=by rw[R];exact Sa b vs q w
 have v:=Wn b p.t (0,0) vs q w cur.toList (by rw[<-Kd]at aN;exact aN) (by simp;omega)
 have S:rowIs (w.setCells b q vs) p.t 1 (.slice (some ⟨b,0,none⟩) p.l.length c) p.l.length (fZ xs q vs):=by refine .inl ⟨by rw[FN (by omega),J,jZ],.inr ⟨b,c,_,rfl,al,v,bI,b',?_,?_⟩⟩;have:=FN (l:=cur.toList) (p:=q) (ds:=vs) (by simp;omega);simpa[eD]using this;simp only[jZ];rw[aku (by omega) (by simp;omega),M]
 have N:∀k∈a_ (az.r p.t p.g (p.k+1) (fZ p.l q ds)) (.slice (some ⟨b,0,none⟩) p.l.length c),k∈a_ (az.r p.t p.g p.k p.l) (.slice (some ⟨b,0,none⟩) p.l.length c)\/(w.heap.size<=k/\k<(w.setCells b q vs).heap.size):=λ k x=>.inl x
 have U:∀ {h:Value},(¬k6 h->h=h)/\bJ (some (az.r p.t p.g p.k p.l))<=bJ (some (az.r p.t p.g (p.k+1) (fZ p.l q ds)))/\(bJ (some (az.r p.t p.g (p.k+1) (fZ p.l q ds)))=bJ (some (az.r p.t p.g p.k p.l))->h=h/\hK E.T (some (az.r p.t p.g (p.k+1) (fZ p.l q ds)))=hK E.T (some (az.r p.t p.g p.k p.l))/\fs (some (az.r p.t p.g p.k p.l))<=fs (some (az.r p.t p.g (p.k+1) (fZ p.l q ds)))/\(fs (some (az.r p.t p.g (p.k+1) (fZ p.l q ds)))=fs (some (az.r p.t p.g p.k p.l))->ot (some (az.r p.t p.g (p.k+1) (fZ p.l q ds)))=ot (some (az.r p.t p.g p.k p.l)))):=λ{h}=>⟨λ _=>rfl,cS _,λ _=>⟨rfl,rfl,Nat.le_succ _,λ e=>by simp[fs]at e⟩⟩
 have d:=s.wQ (B':=az.r p.t p.g (p.k+1) (fZ p.l q ds)) (h':=.slice (some ⟨b,0,none⟩) p.l.length c) hi g u N U
 have ap:=wN g
 have V:c' (E.T.ty p.t) (aY X (bl.set p.i (.r p.t p.g (p.k+1) (fZ p.l q ds))) ρ (w.setCells b q vs)) (w.setCells b q vs) (fZ xs q vs) (fZ p.l q ds):=by rw[ap]at d;have cE:=kz _ d.F H;have Y:=kz _ d.F B;have z:=pI 0 q cE;have m:=pI (q+ds.length) p.l.length cE;rw[I]at z m;simp only[jZ,Nat.zero_mul,kv]at z m;rw[hF (by omega),hF (by omega)]at m;have:=B0 _ m (B0 _ Y z);unfold fZ;rw[t];exact this
 have O:=s.rJ (B':=az.r p.t p.g (p.k+1) (fZ p.l q ds)) (h':=.slice (some ⟨b,0,none⟩) p.l.length c) hi g u N d (by rw[ap];exact⟨some ⟨b,0,none⟩,c,fZ xs q vs,by rw[FN i],by rw[I,FN i];exact S,V⟩)
 rw[ap]at O d
 exact⟨_,ρ,O,d,λ k x Z=>u.block k x (Z p.i (by simp) _ _ hi g),r,Q,hy _ _ _ _⟩
theorem adF(Q:cJ E)(k:Mem E.T W au X bl ρ w){o:Oper}{t:Nat}{x y:Operand}{u v:aE E.T.El}{r:dv E.T.El}(h:(II E bl t u v).out r)(D:o.op= .call { callee:=.builtin .copy,args:=#[x,y],argTypes:=#[t,t] })
 (R:ar E.T (aY X bl ρ w) w ρ bl u (a.eval x))(hy:ar E.T (aY X bl ρ w) w ρ bl v (a.eval y)):fv E o a W au X bl ρ w r:=by
 unfold II at h
 split at h
 ·rename_i e n bF p S U;obtain⟨G,i0,dL,V,k3,Y,eM,EN,hk,Z⟩:=sv S;split at h
  ·rename_i m ag KZ;simp only[bM]at ag;have aL:=a8 ag.1;have I:=a8 ag.2;subst aL;obtain⟨_,l,h⟩:=h;have l:0<p.l.length:=of_decide_eq_true (Mn l);have h:(⟨some (.p (.int .i64 ((m.take (p.hi-p.lo).toNat).length:Int))),bl.set p.i (.r p.t p.g (p.k+1) (fZ p.l p.lo.toNat (m.take (p.hi-p.lo).toNat))),[p.i]⟩:dv E.T.El)=r:=h;subst h;obtain⟨hi,l1,da,im,A,c,B,H,aW,J,al⟩:=Vu k U I R;obtain⟨dB,K,b,L,s2,M⟩:=Wv Q k KZ hy;have yf:=oo _ M;rw[I,jZ]at yf;have d:(m.take (p.hi-p.lo).toNat).length=Nat.min m.length (p.hi.toNat-p.lo.toNat):=by rw[fM,Nat.min_comm];congr 1;omega
   have s:=pI 0 (p.hi-p.lo).toNat M;rw[I]at s;simp only[jZ,Nat.zero_mul,kv]at s;have N:(E.P.info? e).map (·.size)=some 1:=by rw[V];simp[Y]
   obtain⟨O,rfl,i,hC,Kn,fin⟩:=Wc (o:=o) (a:=a) (q:=p.lo.toNat) k hi aW I s l (by rw[d];have:=Nat.min_le_right m.length (p.hi.toNat-p.lo.toNat);have e:Nat.min m.length (p.hi.toNat-p.lo.toNat)=min m.length (p.hi.toNat-p.lo.toNat):=rfl;omega);refine fin (r:=.int .i64 ((m.take (p.hi-p.lo).toNat).length:Int)) (λ F w ρ bl=>by simp only[ar]) ?_;rcases kU (m.take (p.hi-p.lo).toNat).length with aK |aK;have z:=run_copy_none (P:=E.P) w t t o.type e B dB (p.hi.toNat-p.lo.toNat) H m.length K G N (by rw[<-d];exact aK);have ca:b.take (p.hi-p.lo).toNat=[]:=g9 (i.trans aK);rw[ca,aK];simp only[aS,execOp,D,resolve,invoke,builtin,Sem.run_bind,Sem.run_pure,Result.andThen_ok,gg,eZ,h6,J,L,z];rfl
   ·have bk:p.lo<p.hi:=by
     rw[d]at aK;have e:Nat.min m.length (p.hi.toNat-p.lo.toNat)=min m.length (p.hi.toNat-p.lo.toNat):=rfl;omega
    rcases s2 with⟨ba,_⟩|⟨dD,rfl,bw,bL,e3⟩
    ·rw[d,ba]at aK;have e:Nat.min 0 (p.hi.toNat-p.lo.toNat)=min 0 (p.hi.toNat-p.lo.toNat):=rfl;omega
    ·have C:=al bk;have C:B=some ⟨O,p.lo.toNat,none⟩:=by rw[C];simp[Addr.add];try omega
     subst C;have z:=run_copy_cells (P:=E.P) w t t o.type e O p.lo.toNat (p.hi.toNat-p.lo.toNat) H dD m.length K (b.take (p.hi-p.lo).toNat) G N (by rw[i,d]) (λ j u g=>by
      rw[ht]at g;split at g;exact bL j u g
      ·cases g) (λ j g=>hC _ (by rw[i,d]at g;have e:Nat.min m.length (p.hi.toNat-p.lo.toNat)=min m.length (p.hi.toNat-p.lo.toNat):=rfl;omega)) (λ j _=>Kn _) (λ v ai=>e3 v (List.mem_of_mem_take ai))
     rw[<-i];simp only[aS,execOp,D,resolve,invoke,builtin,Sem.run_bind,Sem.run_pure,Result.andThen_ok,gg,eZ,h6,J,L,z];rfl
  ·exact h.elim
 ·exact h.elim
theorem adE(M:cJ E)(C:Mem E.T W au X bl ρ w){o:Oper}{t:Nat}{x:Operand}{u:aE E.T.El}{r:dv E.T.El}(h:(IH E bl t u).out r)(N:o.op= .call { callee:=.builtin .clear,args:=#[x],argTypes:=#[t] })
 (O:ar E.T (aY X bl ρ w) w ρ bl u (a.eval x)):fv E o a W au X bl ρ w r:=by
 unfold IH at h
 split at h
 ·rename_i e n bF p Q R;obtain⟨S,i0,d,D,G,c0,eM,U,hk,V⟩:=sv Q;split at h
  ·rename_i i ag b;simp only[bM]at ag;have Y:(E.T.e p.t).agg=false:=by simpa using ag.2
   have Z:=a8 ag.1.1;have I:=a8 ag.1.2;subst Z;obtain⟨_,qL,h⟩:=h;have bk:p.lo<p.hi:=of_decide_eq_true (Mn qL);have h:(⟨some (.u []),bl.set p.i (.r p.t p.g (p.k+1) (fZ p.l p.lo.toNat (f_ (p.hi-p.lo).toNat i))),[p.i]⟩:dv E.T.El)=r:=h;subst h;obtain⟨hi,l1,da,im,A,c,B,bs,aW,k,al⟩:=Vu C R I O;obtain⟨ef,m⟩:∃ef,d.cells= #[ef]:=by
    revert U;generalize d.cells=cs;obtain⟨l⟩:=cs;intro H;cases l with
    |nil=>simp at H
    |cons c r=>cases r with
     |nil=>exact⟨c,rfl⟩
     |cons _ _=>simp at H
   have g:(E.T.ty p.t).rd (aY X bl ρ w) w [ef] i/\d=ef:=by
    unfold rW at b;split at b
    ·rename_i C_ s;split at b
     ·rename_i v;have k:C_=d:=by simp only[xa,D]at s;rw[G]at s;exact(eG s).symm
      subst k;have:=M.tb.fH _ _ _ b (aY X bl ρ w) w ρ bl _ (nj _);rw[m]at this;have J:=Yc v;rw[Y,m]at J;exact⟨this,J⟩
     ·cases b
    ·cases b
   obtain⟨g,y⟩:=g;have qN:ef.oneCell'=true:=(E.T.ty p.t).one g ef (by simp);have h3:c' (E.T.ty p.t) (aY X bl ρ w) w (f_ (p.hi-p.lo).toNat ef) (f_ (p.hi-p.lo).toNat i):=by
    generalize(p.hi-p.lo).toNat=q;induction q with
    |zero=>rfl
    |succ q bn=>exact⟨[ef],f_ q ef,rfl,g,bn⟩
   obtain⟨K,rfl,qS,hC,Kn,fin⟩:=Wc (o:=o) (a:=a) (q:=p.lo.toNat) C hi aW I h3 (by omega) (by rw[jp];omega);refine fin (λ F w ρ bl=>by simp only[ar];exact⟨[],rfl,by simp[aR]⟩) ?_;have z:=al bk;have z:B=some ⟨K,p.lo.toNat,none⟩:=by rw[z];simp[Addr.add];try omega
   subst z;have L:=Lib.run_clear_slice (P:=E.P) w t e o.type d S (λ w=>by simp only[zeroValue,typeInfo,Sem.run_bind];simp[go_sem,D,G]) (by rw[m,y]) (by rw[y];exact qN) K p.lo.toNat (p.hi.toNat-p.lo.toNat) bs (by omega) (λ j aA=>hC _ (by omega)) (λ j _=>Kn _);have e:p.hi.toNat-p.lo.toNat=(p.hi-p.lo).toNat:=by omega
   rw[e,y]at L;simp only[aS,execOp,N,resolve,invoke,builtin,Sem.run_bind,Sem.run_pure,Result.andThen_ok,gg,eZ,h6,k,e,L]
  ·exact h.elim
 ·exact h.elim
end
def rm{cj β:Type}(K:gI cj)(d:List (cj×β))(k:cj):List (cj×β):=match hE K d k with
 |some i=>d.eraseIdx i
 |none=>d
section
variable{E:Env}{W w w':World}{au:List Nat}{X:Nat->Prop}{n:cm}{f:cf E.T.El}{bl:List (az E.T.El)}{ρ:List Value}{a:Act}{cur:List (Nat×Bool)}
theorem Rs{F:Nat->Prop}{kt vt:Nat}{K:gI (E.T.El kt)}:∀ {es:List MapEntry}{d:List (E.T.El kt×E.T.El vt)}(p:Nat),gS E.T F w K es d->gS E.T F w K (es.eraseIdx p) (d.eraseIdx p)
 |[],[],_,_=>trivial
 |[],_::_,_,h=>h.elim
 |_::_,[],_,h=>h.elim
 |_::_,_::_,0,h=>h.2.2
 |_::_,_::_,p+1,h=>⟨h.1,h.2.1,Rs p h.2.2⟩
def IL(E:Env)(bl:List (az E.T.El))(t:Nat)(u k:aE E.T.El):D (dv E.T.El):=match u,mapOf E.P t with
 | .m i,some (b,_)=>match nth bl i with
   |some (.m kt vt d)=>match(E.T.e kt).key with
    |some K=>match z0 (E.P.underlying b) K.desc,(E.T.e kt).fH (cellsOf k),(match iL k with|true=>(E.T.e kt).agg |false=>!(E.T.e kt).agg)with
     |true,some key,true=>.ok ⟨some (.u []),bl.set i (.m kt vt (rm K d key)),[i]⟩
     |_,_,_=>.no
    |none=>.no
   |_=>.no
 |_,_=>.no
theorem adI(L:cJ E)(z:Mem E.T W au X bl ρ w){o:Oper}{t:Nat}{A:List TypeId}{x y:Operand}{u k:aE E.T.El}{e:dv E.T.El}(h:(IL E bl t u k).out e)(M:o.op= .call { callee:=.builtin .delete,args:=#[x,y],argTypes:=⟨t::A⟩ })
 (N:ar E.T (aY X bl ρ w) w ρ bl u (a.eval x))(hy:ar E.T (aY X bl ρ w) w ρ bl k (a.eval y)):fv E o a W au X bl ρ w e:=by
 unfold IL at h
 split at h
 ·rename_i i O anO KG;split at h
  ·rename_i kt vt d hi;rw[cH]at hi;split at h
   ·rename_i K B;split at h
    ·rename_i key aC AL kh;have h:(⟨some (.u []),bl.set i (.m kt vt (rm K d key)),[i]⟩:dv E.T.El)=e:=h;subst h;simp only[ar]at N;obtain⟨r,g,P⟩:=N;have sO:a.eval y=K.enc key:=by have l:=L.tb.fH _ _ _ AL _ _ _ _ _ (kH hy);exact(Dw hy kh).trans (L.tb.key _ _ B _ _ _ _ l)
     obtain⟨e4,l,bV,Q,es,clock,j,m,R,e3⟩:=z.ok i _ _ hi g;simp only[Value.map.injEq,aM]at l;subst l;rw[B]at Q;cases Q;have S:=Fh KG;have mR:=H_ aC;have bk:r<w.heap.size:=(ee.1 j).1;have g1:∀C:Obj,a1 [r] w { w with heap:=w.heap.setIfInBounds r C }:=λ C=>⟨rfl,rfl,rfl,by simp,λ q _ aL=>by
      show(w.heap.setIfInBounds r C)[q]? =_
      rw[d_,lG (λ e=>aL (by simp[e]))]⟩
     have fin:∀(c:Array MapEntry),aS E.P o a w (.tuple ⟨[]⟩) { w with heap:=w.heap.setIfInBounds r (.map c clock) } ->gS E.T (aY X bl ρ w) w K c.toList (rm K d key)->(c.toList.map (·.born)).Pairwise (·< ·)->(∀e∈c.toList,e.born<clock) ->
      fv E o a W au X bl ρ w ⟨some (.u []),bl.set i (.m kt vt (rm K d key)),[i]⟩:=λ c A8 I J ax=>by
      have U:∀k∈a_ (az.m kt vt (rm K d key)) (.map (some r)),k∈a_ (az.m kt vt d) (.map (some r))\/(w.heap.size<=k/\k<(World.heap { w with heap:=w.heap.setIfInBounds r (.map c clock) }).size):=λ k D=>.inl D
      have F:a1 (a_ (az.m kt vt d) (.map (some r))) w { w with heap:=w.heap.setIfInBounds r (.map c clock) }:=by simpa[a_,a9.ag]using g1 (.map c clock)
      have s:=z.wQ (B':=az.m kt vt (rm K d key)) (h':=.map (some r)) hi g F U ⟨λ _=>rfl,cS _,λ _=>⟨rfl,rfl,cS _,λ _=>rfl⟩⟩
      have ap:=wN g
      have V:=z.rJ (B':=az.m kt vt (rm K d key)) (h':=.map (some r)) hi g F U s ⟨r,rfl,K,B,c,clock,by simp[bk],I.law s.F,J,ax⟩
      rw[ap]at V s
      exact⟨_,ρ,V,s,λ k D cn=>F.block k D (cn i (by simp) _ _ hi g),_,A8,by simp only[ar];exact⟨[],rfl,by simp only[aR]⟩⟩
     have Y:∀ {b:Bool},(Instr.checkKey b 10000 O (K.enc key)).run E.P w= .ok () w:=λ{b}=>@iU.check _ K.dec K.mZ E.P w b O key mR;rcases Gl (vt:=vt) key mR m w with⟨f1,v,Z⟩|⟨p,O7,wW,f1,v,Z,f4⟩
     ·refine fin es ?_ (by simpa only[rm,v]using m) R e3;have G:(Builtin.delete_ ⟨t::A⟩ o.type #[.map (some r),K.enc key]).run E.P w= .ok (.tuple #[]) { w with heap:=w.heap.setIfInBounds r (.map es clock) }:=by simp[Builtin.delete_,go_sem,run_underlying S,MapKept.run_getObj_map j,Y,Z,MapKept.run_setObj_map _ j]
      simp only[aS,execOp,M,resolve,invoke,builtin,Sem.run_bind,Sem.run_pure,Result.andThen_ok,gg,eZ,h6,P,sO,G]
     ·have ag:es.eraseIdxIfInBounds p=⟨es.toList.eraseIdx p⟩:=by
       obtain⟨e,H,_⟩:=Is (k:=key) m v;have AO:p<es.size:=by simpa using(bg.1 H).1
       rw[Array.eraseIdxIfInBounds,dif_pos AO];apply ll.1;simp
      refine fin ⟨es.toList.eraseIdx p⟩ ?_ (by simpa only[rm,v]using Rs p m) ?_ (λ e H=>e3 e (List.mem_of_mem_eraseIdx H))
      ·have G:(Builtin.delete_ ⟨t::A⟩ o.type #[.map (some r),K.enc key]).run E.P w= .ok (.tuple #[]) { w with heap:=w.heap.setIfInBounds r (.map ⟨es.toList.eraseIdx p⟩ clock) }:=by
        simp[Builtin.delete_,go_sem,run_underlying S,MapKept.run_getObj_map j,Y,f4,MapKept.run_setObj_map _ j,ag]
       simp only[aS,execOp,M,resolve,invoke,builtin,Sem.run_bind,Sem.run_pure,Result.andThen_ok,gg,eZ,h6,P,sO,G]
      ·exact List.Pairwise.sublist (List.Sublist.map _ (List.eraseIdx_sublist _ _)) R
    ·exact h.elim
   ·exact h.elim
  ·exact h.elim
 ·exact h.elim
end
def z6(E:Env)(bl:List (az E.T.El))(f:cf E.T.El)(cur:List (Nat×Bool)):Op->D (dv E.T.El)
 | .alloc t=>match oB E.P t with
   |some z=>.ok ⟨some (.b bl.length 0),bl++[.c t (z.map .p)],[]⟩
   |none=>.no
 | .box t x=>match cq E bl f cur x with
   |some y=>.ok ⟨some (.b bl.length 0),bl++[.c t (cellsOf y)],[]⟩
   |none=>.no
 | .makeMap t none=>match mapOf E.P t with
   |some (k,e)=>match(E.T.e k).key with
    |some _=>.ok ⟨some (.m bl.length),bl++[.m k e []],[]⟩
    |none=>.no
   |none=>.no
 | .store t p x=>match cq E bl f cur p,cq E bl f cur x with
   |some u,some v=>I1 E bl t u v
   |_,_=>.no
 | .mapUpdate t m k x=>match cq E bl f cur m,cq E bl f cur k,cq E bl f cur x with
   |some u,some v,some z=>D6 E bl t u v z
   |_,_,_=>.no
 | .insert t m k x=>match cq E bl f cur m,cq E bl f cur k,cq E bl f cur x with
   |some u,some v,some z=>D6 E bl t u v z
   |_,_,_=>.no
 | .buildSlice t n ⟨ps⟩=>match yE E bl f cur ps with
   |some ys=>IQ E bl t n ys
   |none=>.no
 | .makeSlice t x y=>match cq E bl f cur x with
   |some u=>IX E bl t x y u
   |none=>.no
 | .convert s d x=>match cq E bl f cur x with
   |some u=>I2 E bl s d u
   |none=>.no
 | .call ⟨.builtin .append,⟨[x,y]⟩,⟨[t,t']⟩⟩=>match b2 t t',cq E bl f cur x,cq E bl f cur y with
   |true,some u,some v=>ID E bl t u v
   |false,some u,some v=>IE E bl t t' u v
   |_,_,_=>.no
 | .call ⟨.builtin .copy,⟨[x,y]⟩,⟨[t,t']⟩⟩=>match b2 t t',cq E bl f cur x,cq E bl f cur y with
   |true,some u,some v=>II E bl t u v
   |_,_,_=>.no
 | .call ⟨.builtin .clear,⟨[x]⟩,⟨[t]⟩⟩=>match cq E bl f cur x with
   |some u=>IH E bl t u
   |none=>.no
 | .call ⟨.builtin .delete,⟨[x,y]⟩,⟨t::a⟩⟩=>match cq E bl f cur x,cq E bl f cur y with
   |some u,some v=>IL E bl t u v
   |_,_=>.no
 |_=>.no
section
variable{E:Env}{W w w':World}{au:List Nat}{X:Nat->Prop}{n:cm}{f:cf E.T.El}{bl:List (az E.T.El)}{ρ:List Value}{a:Act}{cur:List (Nat×Bool)}
theorem adJ(d:cJ E)(h:R E W au X n f bl ρ a w)(hc:hX a cur){o:Oper}{op:Op}(c:o.op=op){r:dv E.T.El}(b:(z6 E bl f cur op).out r):fv E o a W au X bl ρ w r:=by unfold z6 at b;split at b;rename_i t;split at b;rename_i z I;have b:(⟨some (.b bl.length 0),bl++[.c t (z.map .p)],[]⟩:dv E.T.El)=r:=b;subst b;obtain⟨l,i,j⟩:=zo I;exact UZ h.mem (nj z) (rV i j c);exact b.elim;rename_i t x;split at b;rename_i y I;have b:(⟨some (.b bl.length 0),bl++[.c t (cellsOf y)],[]⟩:dv E.T.El)=r:=b;subst b;exact UZ h.mem (kH (cB h hc I)) (Hg (v:=a.eval x) (by simp) c rfl);exact b.elim;rename_i t;split at b;rename_i k e I;split at b;rename_i K J;have b:(⟨some (.m bl.length),bl++[.m k e []],[]⟩:dv E.T.El)=r:=b;subst b;exact ajO h.mem J (aqo c);exact b.elim;exact b.elim;split at b;rename_i u v I J;exact adW d h.mem b c (cB h hc I) (cB h hc J);exact b.elim;split at b;rename_i u v z I J g;exact R_ d h.mem b (.inl c) (cB h hc I) (cB h hc J) (cB h hc g);exact b.elim;split at b;rename_i u v z I J g;exact R_ d h.mem b (.inr c) (cB h hc I) (cB h hc J) (cB h hc g);exact b.elim;split at b;rename_i ys I;exact adN d h.mem b c (Mu h hc I);exact b.elim;split at b;rename_i u I;exact adS d h.mem b c (cB h hc I);exact b.elim;split at b;rename_i u I;exact adX d h.mem b c (cB h hc I);exact b.elim;rename_i x y t t';split at b;rename_i u v I J g;have:=a8 I;subst this;exact adB d h.mem b c (cB h hc J) (cB h hc g);rename_i u v I J g;exact adA d h.mem b c (cB h hc J) (cB h hc g);exact b.elim;rename_i x y t t';split at b;rename_i u v I J g;have:=a8 I;subst this;exact adF d h.mem b c (cB h hc J) (cB h hc g);exact b.elim;split at b;rename_i u I;exact adE d h.mem b c (cB h hc I);exact b.elim;split at b;rename_i u v I J;exact adI d h.mem b c (cB h hc I) (cB h hc J);exact b.elim;exact b.elim
end
inductive Dp
 |q
 |e
 |c
 |no
def v5(P:Program):Op->Dp
 | .call c=>match c.callee with
   | .value _=>.c
   | .builtin .len=>.q
   | .builtin .cap=>.q
   | .builtin .append=>.e
   | .builtin .copy=>.e
   | .builtin .clear=>.e
   | .builtin .min=>.q
   | .builtin .delete=>.e
   |_=>.no
 | .alloc _ | .box _ _ | .makeMap _ _ | .store _ _ _ | .mapUpdate _ _ _ _ | .insert _ _ _ _ | .buildSlice _ _ _ | .makeSlice _ _ _=>.e
 | .convert s _ _=>match P.underlying s with
   |some .string=>.e
   |_=>.q
 | .panic _=>.c
 | .typeAssert _ _ _ _=>.q
 | .move _ | .assign _ | .pick _ _ _ | .binOp _ _ _ _ _ | .unOp _ _ _ | .load _ _ | .fieldAddr _ _ _ | .nilCheck _ | .extract _ _ | .makeFunc _ _ _ | .makeInterface _ _ | .indexAddr _ _ _ | .index _ _ _
   | .slice _ _ _ _ _ | .lookup _ _ _ _ | .field _ _ _ | .build _ _=>.q
 |_=>.no
inductive Px
 |run
 |skip
 |maybe (a6:Nat) (want b:Bool)
 |cond (a6:Nat) (want:Bool)
 |no
def xC:Bool->Bool->Bool
 |true,true=>true
 |false,false=>true
 |_,_=>false
theorem si{a b:Bool}:xC a b=true↔a=b:=by cases a<;>cases b<;>simp[xC]
def Ac(E:Env)(ops:Array Oper)(f:cf E.T.El)(n:Nat):Option (Nat×Bool)->Px
 |none=>.run
 |some (j,want)=>match Ah ops j with
  |none=>.no
  |some a6=>match eh a6 n with
   |false=>.no
   |true=>match dk f.du a6 with
    |some b=>match xC b want with
     |true=>.run
     |false=>.skip
    |none=>match dk f.aQ a6 with
     |some (.p (.tuple ⟨[]⟩))=>.skip
     |some (.p (.bool b))=>match E.dO with
      |true=>match xC b want with
       |true=>.run
       |false=>.skip
      |false=>.maybe a6 want b
     |some _=>.no
     |none=>.cond a6 want
section
variable{E:Env}{W w w':World}{au:List Nat}{X:Nat->Prop}{n:cm}{f:cf E.T.El}{bl:List (az E.T.El)}{ρ:List Value}{a:Act}{cur:List (Nat×Bool)}{ops:Array Oper}{o:Oper}
theorem anZ{j a6:Nat}{want:Bool}(ap:a.tmps.size=n.n)(c:o.guard=some (j,want))(d:(ops[j]?).bind (·.dst)=some a6)(e:eh a6 n.n=true) :
 Region.wanted o (yielded ops a.tmps)=true↔a.tmps.getD a6 undef= .bool want:=by
 have g:a6<n.n:=b_ e
 have J:a.tmps[a6]? =some (a.tmps.getD a6 undef):=by rw[iH (by omega)];simp[df,ap,g]
 simp only[Region.wanted,c,yielded,d,ae,J,beq_iff_eq]
 constructor
 ·intro h;split at h;rename_i b ag;simp only[aM]at h ag;rw[ag,h];cases h
 ·intro h;rw[h]
def aaL(E:Env)(ops:Array Oper)(o:Oper)(a:Act)(f:cf E.T.El)(n:Nat):Px->Prop
 | .run=>Region.wanted o (yielded ops a.tmps)=true
 | .skip=>Region.wanted o (yielded ops a.tmps)=false
 | .maybe a6 want b=>eh a6 n=true/\a.tmps.getD a6 undef= .bool b/\(Region.wanted o (yielded ops a.tmps)=true↔a.tmps.getD a6 undef= .bool want)
 | .cond a6 want=>eh a6 n=true/\(Region.wanted o (yielded ops a.tmps)=true↔a.tmps.getD a6 undef= .bool want)
 | .no=>True
theorem Sz(h:R E W au X n f bl ρ a w):aaL E ops o a f n.n (Ac E ops f n.n o.guard):=by
 have ap:=h.db.dX.size;cases k:o.guard with
 |none=>exact y_ k
 |some p=>obtain⟨j,want⟩:=p;simp only[Ac];split;trivial;rename_i a6 l;have vF:=SU l;split;trivial;rename_i g;have c:=anZ (ops:=ops) (o:=o) ap k vF g;split;rename_i b m;have e:=h.db.du _ (jK m);split;rename_i ag;rw[si]at ag;subst ag;exact c.2 e;rename_i ag;refine(gA).2 λ d=>?_;have:=c.1 d;rw[e]at this;injection this with this;rw[si.2 this]at ag;cases ag;split;rename_i i;have e:=h.db.dX.get _ _ i;simp only[ar]at e;refine(gA).2 λ d=>?_;have:=c.1 d;rw[e]at this;cases this;rename_i b i;have e:=h.db.dX.get _ _ i;simp only[ar]at e;split;split;rename_i ag;rw[si]at ag;subst ag;exact c.2 e;rename_i ag;refine(gA).2 λ d=>?_;have:=c.1 d;rw[e]at this;injection this with this;rw[si.2 this]at ag;cases ag;exact⟨g,e,c⟩;trivial;exact⟨g,c⟩
end
section
variable{α:Type}{β:Type 1}
def o1(l:List α)(k:List α->β):β:=List.rec (motive:=λ _=>(List α->β)->β) (λ k=>k []) (λ p _ a k=>a λ r=>k (p::r)) l k
theorem Jf(l:List α):∀k:List α->β,o1 l k=k l:=by
 induction l with
 |nil=>exact λ k=>rfl
 |cons p r a=>exact λ k=>a λ r=>k (p::r)
def mK(n:Nat)(k:Nat->β):β:=Nat.casesOn (motive:=λ _=>β) n (k 0) λ m=>k (Nat.succ m)
theorem Eh(n:Nat)(k:Nat->β):mK n k=k n:=by cases n<;>rfl
def Eg(n:Int)(k:Int->β):β:=Int.casesOn (motive:=λ _=>β) n (λ m=>mK m λ m=>k (Int.ofNat m)) (λ m=>mK m λ m=>k (Int.negSucc m))
theorem Sr(n:Int)(k:Int->β):Eg n k=k n:=by cases n;rename_i m;exact Eh m λ m=>k (Int.ofNat m);rename_i m;exact Eh m λ m=>k (Int.negSucc m)
def Sq(b:Bool)(k:Bool->β):β:=Bool.casesOn (motive:=λ _=>β) b (k false) (k true)
theorem aeb(b:Bool)(k:Bool->β):Sq b k=k b:=by cases b<;>rfl
def Jg(v:Value)(k:Value->β):β:=match v with
 | .int i n=>Eg n λ n=>k (.int i n)
 | .bool b=>Sq b λ b=>k (.bool b)
 |v=>k v
theorem aef(v:Value)(k:Value->β):Jg v k=k v:=by unfold Jg;split;exact Sr _ _;exact aeb _ _;rfl
variable{El:Nat->Type}
def Jh(y:aE El)(k:aE El->β):β:=match y with
 | .p v=>Jg v λ v=>k (.p v)
 | .b i o=>mK i λ i=>mK o λ o=>k (.b i o)
 | .r i g=>mK i λ i=>mK g λ g=>k (.r i g)
 | .v i g lo hi=>mK i λ i=>mK g λ g=>Eg lo λ lo=>Eg hi λ hi=>k (.v i g lo hi)
 | .s t l=>o1 l λ l=>k (.s t l)
 | .a l=>o1 l λ l=>k (.a l)
 |y=>k y
theorem aeg(y:aE El)(k:aE El->β):Jh y k=k y:=by unfold Jh;split<;>simp only[aef,Eh,Sr,Jf]
def Ef(B:az El)(k:az El->β):β:=match B with
 | .c ty cs=>o1 cs λ cs=>k (.c ty cs)
 | .r t g n l=>mK g λ g=>mK n λ n=>o1 l λ l=>k (.r t g n l)
 | .k t sz g cs=>mK g λ g=>o1 cs λ cs=>k (.k t sz g cs)
 | .m kt vt d=>o1 d λ d=>k (.m kt vt d)
 |B=>k B
theorem aed(B:az El)(k:az El->β):Ef B k=k B:=by unfold Ef;split<;>simp only[Eh,Jf]
def Ed(ws:List Nat)(b:Nat)(l:List (az El)):Nat->(List (az El)->β)->β:=List.rec (motive:=λ _=>Nat->(List (az El)->β)->β) (λ _ k=>k []) (λ B _ a n k=>cond (eE ws n||hR b n) (Ef B λ B=>a (n+1) λ r=>k (B::r)) (a (n+1) λ r=>k (B::r))) l
theorem aec(ws:List Nat)(a:Nat)(l:List (az El)):∀(n:Nat)(k:List (az El)->β),Ed ws a l n k=k l:=by
 induction l with
 |nil=>exact λ n k=>rfl
 |cons B r b=>
  intro n k;show cond (eE ws n||hR a n) (Ef B λ B=>Ed ws a r (n+1) λ r=>k (B::r)) (Ed ws a r (n+1) λ r=>k (B::r))=_
  rw[aed,b];cases eE ws n||hR a n<;>rfl
def Jd(f:cf El)(k:cf El->β):β:=match f with
 |⟨(d,y)::r,gs,du⟩=>Jh y λ y=>o1 r λ r=>o1 gs λ gs=>o1 du λ du=>k ⟨(d,y)::r,gs,du⟩
 |f=>k f
theorem aee(f:cf El)(k:cf El->β):Jd f k=k f:=by unfold Jd;split<;>simp only[aeg,Jf]
end
def pE(E:Env){β:Type 1}(f:cf E.T.El)(k:cf E.T.El->β):β:=match E.dO with
 |true=>Jd f k
 |false=>k f
theorem nc{E:Env}{β:Type 1}(f:cf E.T.El)(k:cf E.T.El->β):pE E f k=k f:=by unfold pE;split;exact aee f k;rfl
def tJ(E:Env){β:Type 1}(ws:List Nat)(a:Nat)(l:List (az E.T.El))(k:List (az E.T.El)->β):β:=match E.dO with
 |true=>Ed ws a l 0 k
 |false=>k l
theorem wE{E:Env}{β:Type 1}(ws:List Nat)(a:Nat)(l:List (az E.T.El))(k:List (az E.T.El)->β):tJ E ws a l k=k l:=by unfold tJ;split;exact aec ws a l 0 k;rfl
end a9
