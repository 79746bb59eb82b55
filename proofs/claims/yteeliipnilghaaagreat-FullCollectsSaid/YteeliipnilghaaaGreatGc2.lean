/- Part 2 of the proof that is ended in the last text: small logic, what the functions compute, walks, plain laws. -/
import Derived.Test.YteeliipnilghaaaGreatGc1
import Derived.Lib.AppendStr
import Derived.Lib.UnsafeStr
import Derived.Lib.Builder
import Derived.Laws.Externs
import Derived.LaidEql
import Derived.WalkSmall
import Derived.Laws.IdiomCopy
import Derived.Lib.SliceRun
open Array renaming getD_eq_getD_getElem?->dP,getElem?_eq_getElem->iR,getElem?_eq_none->hA,getElem?_eq_some_iff->ft,getElem?_modify->ju,getElem?_setIfInBounds->fe,getElem?_toList->gS
open Bool renaming and_eq_true->bC,eq_false_iff->gX,false_eq_true->hv,or_eq_false_iff->hQ,or_eq_true->hM
open Int renaming eq_ofNat_of_zero_le->kr,le_refl->kj,toNat_natCast->cN
open List renaming all_eq_true->jN,append_assoc->gT,cons.injEq->hh,cons_append->jf,drop_zero->fK,eq_nil_of_length_eq_zero->gK,ext_getElem?->j4,foldl_cons->k7,getElem?_append->lB,getElem?_append_left->eW,getElem?_append_right->fs,getElem?_cons_zero->de,getElem?_drop->iN,getElem?_eq_getElem->aH,getElem?_eq_none->gz,getElem?_eq_some_iff->aM,getElem?_map->iT,getElem?_set_ne->iQ,getElem?_set_self->ff,getElem?_take->gI,length_append->dS,length_cons->cV,length_drop->kp,length_map->hl,length_pos_iff->kV,length_replicate->jZ,length_set->iP,length_take->fP,map_append->jz,map_cons->eu,map_nil->hK,map_toArray->gJ,mem_append->b3,mem_cons->cm,mem_cons_of_mem->ez,mem_flatMap->ho,mem_map->jv,mem_of_getElem?->bB,mem_singleton->dK,replicate->eH,set_getElem_self->lr,take_append->kl,take_append_drop->jd,take_length->jP,take_of_length_le->hF,take_succ_cons->jC
open Nat renaming add_assoc->jK,add_mul->jr,add_zero->lC,beq->bP,ble->iI,blt->ee,decEq->kS,eq_of_beq_eq_true->a_,eq_zero_or_pos->kx,le_mul_of_pos_right->lj,le_of_ble_eq_true->ck,le_refl->cu,le_trans->gm,lt_of_lt_of_le->dQ,lt_or_ge->fN,lt_succ_self->kU,min_eq_left->lD,mul_le_mul_right->jx,mul_one->js,zero_add->ji,zero_le->gD
open Option renaming bind_some->ae,getD_none->jh,getD_some->ie,map_eq_some_iff->cd,map_none->iz,map_some->fI,some.inj->dT,some.injEq->aD
open Prod renaming mk.injEq->b5
namespace a8
open Go Go.RowKit aq I
def af:Value->List Nat
 | .pointer (some a)=>[a.block]
 | .map (some r)=>[r]
 | .slice (some a) _ (_+1)=>[a.block]
 |_=>[]
def bz{El:Nat->Type}:aC El->Value->List Nat
 | .z _ _ _ _,_=>[]
 | .no _,_=>[]
 |_,h=>af h
def pS{El:Nat->Type}(bl:List (aC El))(ρ:List Value)(k:Nat):Prop:=∃(i:Nat)(B:aC El)(h:Value),bl[i]? =some B/\ρ[i]? =some h/\k∈bz B h
def bi{El:Nat->Type}(X:Nat->Prop)(bl:List (aC El))(ρ:List Value)(w:World):Nat->Prop:=λ k=>¬X k/\ ¬pS bl ρ k/\k<w.heap.size
def rowIs(w:World)(t sz:Nat)(h:Value)(n:Nat)(xs:List Value):Prop:=w.ownsRow 0 t sz h n xs\/(n=0/\xs=[]/\ ∃A,h= .slice A 0 0)
section
variable(T:bN)(F:Nat->Prop)(w:World)
variable(ρ:List Value)(bl:List (aC T.El))
def iX:aC T.El->Value->Prop
 | .c ty cs,h=>∃g vs,h= .pointer (some ⟨g,0,none⟩)/\w.heap[g]? =some (.cells ⟨vs⟩ ty (0,0))/\a1 T F w ρ bl cs vs
 | .r t _ _ l,h=>∃A c xs,h= .slice A l.length c/\rowIs w t (T.ty t).size h l.length xs/\dx (T.ty t) F w xs l
 | .k t sz _ cs,h=>∃A n c xs,h= .slice A n c/\rowIs w t sz h n xs/\a1 T F w ρ bl cs xs
 | .z t _ _ l,h=>(bY (T.ty t)).rd F w [h] l
 | .m kt vt d,h=>∃r,h= .map (some r)/\yA T F w kt vt r d
 | .o XG,h=>∃g,h= .pointer (some ⟨g,0,none⟩)/\w.heap[g]? =some XG
 | .no _,_=>True
end
section
variable{T:bN}{F F':Nat->Prop}{w w':World}{ρ ρ':List Value}{bl bl':List (aC T.El)}
theorem rowIs.len{t sz n:Nat}{h:Value}{xs:List Value}(e:rowIs w t sz h n xs):xs.length=n*sz:=by
 rcases e with e |⟨rfl,rfl,_⟩
 ·exact e.1
 ·simp
theorem rowIs.own{t sz n:Nat}{h:Value}{xs:List Value}(e:rowIs w t sz h n xs)(a:0<n):w.ownsRow 0 t sz h n xs:=by
 rcases e with e |⟨rfl,_⟩
 ·exact e
 ·omega
theorem rowIs.cap{t sz n c:Nat}{A:Option Addr}{xs:List Value}(e:rowIs w t sz (.slice A n c) n xs):n<=c/\c<=maxLen/\(A=none->c=0)/\(0<c-> ∃g,A=some ⟨g,0,none⟩):=by
 rcases e with e |⟨rfl,_,cb,e⟩
 ·rcases e.2 with⟨a,d⟩|⟨g,cap,cur,a,_,_,J,b,_⟩
  ·simp only[Value.slice.injEq]at a
   obtain⟨rfl,rfl,rfl⟩:=a
   exact⟨cu _,gD _,λ _=>rfl,λ h=>by omega⟩
  ·simp only[Value.slice.injEq]at a
   obtain⟨rfl,_,rfl⟩:=a
   exact⟨J,b,(λ h=>by cases h),λ _=>⟨g,rfl⟩⟩
 ·simp only[Value.slice.injEq]at e
  obtain⟨rfl,_,rfl⟩:=e
  exact⟨cu _,gD _,λ _=>rfl,λ h=>by omega⟩
theorem rowIs.later{t sz n c:Nat}{A:Option Addr}{xs:List Value}(e:rowIs w t sz (.slice A n c) n xs)(aj:∀k∈af (.slice A n c),w'.heap[k]? =w.heap[k]?):rowIs w' t sz (.slice A n c) n xs:=by
 cases c with
 |zero=>
  have f:=e.cap.1
  have J:=e.len
  have d:n=0:=by omega
  subst d
  exact .inr ⟨rfl,gK (by rw[J];simp),A,rfl⟩
 |succ c=>
  rcases e with e |⟨rfl,_,cb,e⟩
  ·left
   have:=(a7.row t sz (.slice A n (c+1)) (eH n ()) xs).law w w' (λ k b=>aj k (by cases A with|none=>simp[a7.row,Value.ownBlock]at b |some a=>simpa[af,a7.row,Value.ownBlock]using b))
   simpa[a7.row]using this (by simpa[a7.row]using e)
  ·simp at e
theorem iX.later(b:∀k,F k->F' k/\w'.heap[k]? =w.heap[k]?)(f:mx T ρ ρ' bl bl'){B:aC T.El}{h:Value}(aj:∀k∈bz B h,w'.heap[k]? =w.heap[k]?)(a:iX T F w ρ bl B h):iX T F' w' ρ' bl' B h:=by
 cases B with
 |c ty cs=>
  obtain⟨g,vs,rfl,J,e⟩:=a
  exact⟨g,vs,rfl,(aj g (by simp[bz,af])).trans J,a1.later b f cs e⟩
 |r t g k l=>
  obtain⟨A,c,xs,rfl,J,e⟩:=a
  exact⟨A,c,xs,rfl,J.later aj,ou _ b e⟩
 |k t sz g cs=>
  obtain⟨A,n,c,xs,rfl,J,e⟩:=a
  exact⟨A,n,c,xs,rfl,J.later aj,a1.later b f cs e⟩
 |z t g k l=>exact(bY (T.ty t)).law b a
 |m kt vt d=>
  obtain⟨r,rfl,J⟩:=a
  exact⟨r,rfl,J.law b (aj r (by simp[bz,af]))⟩
 |o XG=>
  obtain⟨g,rfl,J⟩:=a
  exact⟨g,rfl,(aj g (by simp[bz,af])).trans J⟩
 |no g=>trivial
end
structure Mem (T:bN) (W:World) (M0:List Nat) (X:Nat->Prop) (bl:List (aC T.El)) (ρ:List Value) (w:World):Prop where
 bS:bj M0 W w
 len:ρ.length=bl.length
 hP:∀k,X k->k<W.heap.size/\k∉M0
 lt:∀k,pS bl ρ k->k<w.heap.size/\(k∈M0\/W.heap.size<=k)
 bu:∀(i j:Nat)(B C:aC T.El)(h g:Value),bl[i]? =some B->ρ[i]? =some h->bl[j]? =some C->ρ[j]? =some g->i≠j-> ∀k∈bz B h,k∉bz C g
 ok:∀(i:Nat)(B:aC T.El)(h:Value),bl[i]? =some B->ρ[i]? =some h->iX T (bi X bl ρ w) w ρ bl B h
section
variable{T:bN}{W w w':World}{M0:List Nat}{X:Nat->Prop}{bl bl':List (aC T.El)}{ρ ρ':List Value}
abbrev Mem.F(_:Mem T W M0 X bl ρ w):Nat->Prop:=bi X bl ρ w
structure To (X:Nat->Prop) (bl bl':List (aC T.El)) (ρ ρ':List Value) (w w':World):Prop where
 F:∀k,bi X bl ρ w k->bi X bl' ρ' w' k/\w'.heap[k]? =w.heap[k]?
 L:mx T ρ ρ' bl bl'
 sz:w.heap.size<=w'.heap.size
 nT:∀(i:Nat)(B':aC T.El)(h':Value),bl'[i]? =some B'->ρ'[i]? =some h'-> ∀k∈bz B' h',k<w.heap.size-> ∃B h,bl[i]? =some B/\ρ[i]? =some h/\k∈bz B h
theorem To.v(h:To X bl bl' ρ ρ' w w'){y:aF T.El}{v:Value}(a:ao T (bi X bl ρ w) w ρ bl y v):ao T (bi X bl' ρ' w') w' ρ' bl' y v:=a.later h.F h.L
theorem To.vs(h:To X bl bl' ρ ρ' w w'){y:List (aF T.El)}{v:List Value}(a:a1 T (bi X bl ρ w) w ρ bl y v):a1 T (bi X bl' ρ' w') w' ρ' bl' y v:=a1.later h.F h.L y a
theorem To.trans{b:List (aC T.El)}{c:List Value}{w'':World}(h:To X bl bl' ρ ρ' w w')(k:To X bl' b ρ' c w' w''):To X bl b ρ c w w'':=
 ⟨λ q a=>⟨(k.F q (h.F q a).1).1,((k.F q (h.F q a).1).2).trans (h.F q a).2⟩,h.L.trans k.L,gm h.sz k.sz,λ i B' h' hi e q a d=>by
  obtain⟨Bv,f,e1,e2,e3⟩:=k.nT i B' h' hi e q a (dQ d h.sz);exact h.nT i Bv f e1 e2 q e3 d⟩
theorem To.refl:To X bl bl ρ ρ w w:=⟨λ _ h=>⟨h,rfl⟩,.refl,cu _,λ _ B h hi a _ b _=>⟨B,h,hi,a,b⟩⟩
theorem Mem.r_(a:Mem T W M0 X bl ρ w){i:Nat}{B:aC T.El}(hi:bl[i]? =some B):∃h,ρ[i]? =some h:=by
 have:=(aM.1 hi).1;exact⟨ρ[i]'(by rw[a.len];exact this),aH _⟩
theorem Mem.sG(b:bj [] w w'):To X bl bl ρ ρ w w':=⟨λ k a=>⟨⟨a.1,a.2.1,dQ a.2.2 b.size⟩,b.block k a.2.2 (by simp)⟩,.refl,b.size,λ _ B h hi c _ a _=>⟨B,h,hi,c,a⟩⟩
theorem Mem.eQ(a:Mem T W M0 X bl ρ w)(b:bj [] w w'):Mem T W M0 X bl ρ w':=
 ⟨a.bS.trans b (by simp),a.len,a.hP,λ k c=>⟨dQ (a.lt k c).1 b.size,(a.lt k c).2⟩,a.bu,λ i B h hi d=>(a.ok i B h hi d).later (Mem.sG b).F .refl λ k c=>b.block k (a.lt k ⟨i,B,h,hi,d,c⟩).1 (by simp)⟩
theorem Mem.D9(o:Mem T W M0 X bl ρ w){i:Nat}{B B':aC T.El}{h h':Value}(hi:bl[i]? =some B)(c:ρ[i]? =some h)(d:bj (bz B h) w w')
 (ad:∀k∈bz B' h',k∈bz B h\/(w.heap.size<=k/\k<w'.heap.size))
 (m:(¬kJ h->h'=h)/\bW (some B)<=bW (some B')/\(bW (some B')=bW (some B)->h'=h/\jk T (some B')=jk T (some B)/\gQ (some B)<=gQ (some B')/\(gQ (some B')=gQ (some B)->jj (some B')=jj (some B)))) :
 To X bl (bl.set i B') ρ (ρ.set i h') w w':=by
 have l1:=(aM.1 hi).1
 have f:=(aM.1 c).1
 refine⟨λ k a=>⟨⟨a.1,?_,dQ a.2.2 d.size⟩,d.block k a.2.2 λ n=>a.2.1 ⟨i,B,h,hi,c,n⟩⟩,⟨λ j u aA=>?_⟩,d.size,λ j C g aA b k a p=>?_⟩
 ·rintro⟨j,C,g,aA,b,l⟩
  by_cases e:j=i
  ·subst e
   rw[ff l1]at aA
   rw[ff f]at b
   cases aA;cases b
   rcases ad k l with e |e
   ·exact a.2.1 ⟨j,B,h,hi,c,e⟩
   ·have:=a.2.2;omega
  ·rw[iQ (Ne.symm e)]at aA b
   exact a.2.1 ⟨j,C,g,aA,b,l⟩
 ·by_cases e:j=i
  ·subst e
   rw[c]at aA
   cases aA
   refine⟨h',ff f,?_⟩
   rw[ff l1,hi]
   exact m
  ·refine⟨u,by rw[iQ (Ne.symm e)];exact aA,λ _=>rfl,?_⟩
   rw[iQ (Ne.symm e)]
   exact⟨cu _,λ _=>⟨rfl,rfl,cu _,λ _=>rfl⟩⟩
 ·by_cases e:j=i
  ·subst e
   rw[ff l1]at aA
   rw[ff f]at b
   cases aA;cases b
   rcases ad k a with e |e
   ·exact⟨B,h,hi,c,e⟩
   ·omega
  ·rw[iQ (Ne.symm e)]at aA b
   exact⟨C,g,aA,b,a⟩
theorem Mem.gl(c:Mem T W M0 X bl ρ w){i:Nat}{B B':aC T.El}{h h':Value}(hi:bl[i]? =some B)(m:ρ[i]? =some h)(n:bj (bz B h) w w')
 (ad:∀k∈bz B' h',k∈bz B h\/(w.heap.size<=k/\k<w'.heap.size))(s:To X bl (bl.set i B') ρ (ρ.set i h') w w')
 (x:iX T (bi X (bl.set i B') (ρ.set i h') w') w' (ρ.set i h') (bl.set i B') B' h'):Mem T W M0 X (bl.set i B') (ρ.set i h') w':=by
 have l1:=(aM.1 hi).1
 have y:=(aM.1 m).1
 have key:∀ {j:Nat}{C:aC T.El}{g:Value},(bl.set i B')[j]? =some C->(ρ.set i h')[j]? =some g->(j=i/\C=B'/\g=h')\/(j≠i/\bl[j]? =some C/\ρ[j]? =some g):=λ{j C g} aA f=>by
  by_cases e:j=i
  ·subst e
   rw[ff l1]at aA
   rw[ff y]at f
   cases aA;cases f
   exact .inl ⟨rfl,rfl,rfl⟩
  ·rw[iQ (Ne.symm e)]at aA f
   exact .inr ⟨e,aA,f⟩
 refine⟨c.bS.trans n λ k d=>(c.lt k ⟨i,B,h,hi,m,d⟩).2,by simp[c.len],c.hP,?_,?_,?_⟩
 ·rintro k ⟨j,C,g,aA,f,d⟩
  rcases key aA f with⟨rfl,rfl,rfl⟩|⟨_,l,J⟩
  ·rcases ad k d with e |e
   ·have:=c.lt k ⟨j,B,h,hi,m,e⟩
    exact⟨dQ this.1 n.size,this.2⟩
   ·exact⟨e.2,.inr (gm c.bS.size e.1)⟩
  ·have:=c.lt k ⟨j,C,g,l,J,d⟩
   exact⟨dQ this.1 n.size,this.2⟩
 ·intro a b C D g u z f t v o k d p
  rcases key z f with⟨rfl,rfl,rfl⟩|⟨e1,l,J⟩
  ·rcases key t v with⟨rfl,_⟩|⟨e2,q,r⟩
   ·exact o rfl
   ·rcases ad k d with e |e
    ·exact c.bu _ _ _ _ _ _ hi m q r o k e p
    ·have:=(c.lt k ⟨b,D,u,q,r,p⟩).1;omega
  ·rcases key t v with⟨rfl,rfl,rfl⟩|⟨e2,q,r⟩
   ·rcases ad k p with e |e
    ·exact c.bu _ _ _ _ _ _ l J hi m o k d e
    ·have:=(c.lt k ⟨a,C,g,l,J,d⟩).1;omega
   ·exact c.bu _ _ _ _ _ _ l J q r o k d p
 ·intro j C g aA f
  rcases key aA f with⟨rfl,rfl,rfl⟩|⟨e1,l,J⟩
  ·exact x
  ·exact(c.ok j C g l J).later s.F s.L λ k d=>n.block k (c.lt k ⟨j,C,g,l,J,d⟩).1 λ A=>c.bu _ _ _ _ _ _ l J hi m e1 k d A
theorem Mem.AQ(c:Mem T W M0 X bl ρ w){B:aC T.El}{h:Value}(d:bj [] w w')(ad:∀k∈bz B h,w.heap.size<=k/\k<w'.heap.size):To X bl (bl++[B]) ρ (ρ++[h]) w w':=by
 refine⟨λ k b=>⟨⟨b.1,?_,dQ b.2.2 d.size⟩,d.block k b.2.2 (by simp)⟩,⟨λ j u aA=>?_⟩,d.size,λ j C g aA a k b i=>?_⟩
 ·rintro⟨j,C,g,aA,a,f⟩
  rcases fN j bl.length with e |e
  ·rw[eW e]at aA
   rw[eW (by rw[c.len];exact e)]at a
   exact b.2.1 ⟨j,C,g,aA,a,f⟩
  ·rw[fs e]at aA
   rw[fs (by rw[c.len];exact e),c.len]at a
   cases aK:j-bl.length with
   |zero=>
    rw[aK]at aA a
    simp only[de,aD]at aA a
    subst aA;subst a
    have:=(ad k f).1
    have:=b.2.2
    omega
   |succ q=>rw[aK]at aA;simp at aA
 ·have e:=(aM.1 aA).1
  have e':j<bl.length:=by rw[<-c.len];exact e
  refine⟨u,by rw[eW e];exact aA,λ _=>rfl,?_⟩
  rw[eW e']
  exact⟨cu _,λ _=>⟨rfl,rfl,cu _,λ _=>rfl⟩⟩
 ·rcases fN j bl.length with e |e
  ·rw[eW e]at aA
   rw[eW (by rw[c.len];exact e)]at a
   exact⟨C,g,aA,a,b⟩
  ·rw[fs e]at aA
   rw[fs (by rw[c.len];exact e),c.len]at a
   cases aK:j-bl.length with
   |zero=>
    rw[aK]at aA a
    simp only[de,aD]at aA a
    subst aA;subst a
    have:=(ad k b).1
    omega
   |succ q=>rw[aK]at aA;simp at aA
theorem Mem.push(c:Mem T W M0 X bl ρ w){B:aC T.El}{h:Value}(l:bj [] w w')(ad:∀k∈bz B h,w.heap.size<=k/\k<w'.heap.size)
 (v:iX T (bi X (bl++[B]) (ρ++[h]) w') w' (ρ++[h]) (bl++[B]) B h):Mem T W M0 X (bl++[B]) (ρ++[h]) w':=by
 have p:=c.AQ l ad (B:=B) (h:=h)
 have key:∀ {j:Nat}{C:aC T.El}{g:Value},(bl++[B])[j]? =some C->(ρ++[h])[j]? =some g->(j=bl.length/\C=B/\g=h)\/(j<bl.length/\bl[j]? =some C/\ρ[j]? =some g):=λ{j C g} aA d=>by
  rcases fN j bl.length with e |e
  ·rw[eW e]at aA
   rw[eW (by rw[c.len];exact e)]at d
   exact .inr ⟨e,aA,d⟩
  ·rw[fs e]at aA
   rw[fs (by rw[c.len];exact e),c.len]at d
   cases aK:j-bl.length with
   |zero=>
    rw[aK]at aA d
    simp only[de,aD]at aA d
    exact .inl ⟨by omega,aA.symm,d.symm⟩
   |succ q=>rw[aK]at aA;simp at aA
 refine⟨c.bS.trans l (by simp),by simp[c.len],c.hP,?_,?_,?_⟩
 ·rintro k ⟨j,C,g,aA,d,f⟩
  rcases key aA d with⟨rfl,rfl,rfl⟩|⟨_,i,J⟩
  ·exact⟨(ad k f).2,.inr (gm c.bS.size (ad k f).1)⟩
  ·have:=c.lt k ⟨j,C,g,i,J,f⟩
   exact⟨dQ this.1 l.size,this.2⟩
 ·intro a b C D g u x d r s t k f m
  rcases key x d with⟨rfl,rfl,rfl⟩|⟨e1,i,J⟩
  ·rcases key r s with⟨rfl,_⟩|⟨e2,n,o⟩
   ·exact t rfl
   ·have:=(c.lt k ⟨b,D,u,n,o,m⟩).1
    have:=(ad k f).1
    omega
  ·rcases key r s with⟨rfl,rfl,rfl⟩|⟨e2,n,o⟩
   ·have:=(c.lt k ⟨a,C,g,i,J,f⟩).1
    have:=(ad k m).1
    omega
   ·exact c.bu _ _ _ _ _ _ i J n o t k f m
 ·intro j C g aA d
  rcases key aA d with⟨rfl,rfl,rfl⟩|⟨e1,i,J⟩
  ·exact v
  ·exact(c.ok j C g i J).later p.F p.L λ k f=>l.block k (c.lt k ⟨j,C,g,i,J,f⟩).1 (by simp)
end
def cv{α:Type}:List (Nat×α)->Nat->Option α
 |[],_=>none
 |p::r,t=>match bP p.1 t with
  |true=>some p.2
  |false=>cv r t
structure rl (T:bN) (F:Nat->Prop) (w:World) (ρ:List Value) (bl:List (aC T.El)) (n:ct) (fr:List (Nat×aF T.El)) (a:Act):Prop where
 size:a.tmps.size=n.n
 defers:a.defers=n.ds
 get:∀t y,cv fr t=some y->ao T F w ρ bl y (a.tmps.getD t undef)
section
variable{T:bN}{F F':Nat->Prop}{w w':World}{ρ ρ':List Value}{bl bl':List (aC T.El)}{n:ct}{fr:List (Nat×aF T.El)}{a:Act}
theorem rl.later(b:∀k,F k->F' k/\w'.heap[k]? =w.heap[k]?)(c:mx T ρ ρ' bl bl')(h:rl T F w ρ bl n fr a):rl T F' w' ρ' bl' n fr a:=⟨h.size,h.defers,λ t y hy=>(h.get t y hy).later b c⟩
theorem zi{a:Act}{d t:Nat}{v:Value}(aK:d<a.tmps.size):(a.put (some d) v).tmps.getD t undef=if d=t then v else a.tmps.getD t undef:=by
 simp only[Act.put,dP,fe];by_cases e:d=t
 ·subst e;simp[aK]
 ·simp[e]
theorem rl.put{d:Nat}{y:aF T.El}{v:Value}(h:rl T F w ρ bl n fr a)(aK:ee d n.n=true)(c:ao T F w ρ bl y v):rl T F w ρ bl n ((d,y)::fr) (a.put (some d) v):=by
 have f:d<n.n:=ck aK;refine⟨by simpa[Act.put]using h.size,h.defers,λ t z b=>?_⟩;rw[zi (by rw[h.size];exact f)];simp only[cv]at b;cases af:bP d t with
 |true=>
  rw[af]at b
  simp only[aD]at b
  rw[if_pos (a_ af),<-b];exact c
 |false=>
  rw[af]at b
  rw[if_neg (λ e=>by subst e;simp at af)]
  exact h.get t z b
def ow{α:Type}:List (Nat×α)->Nat->List (Nat×α)
 |[],_=>[]
 |p::r,t=>match bP p.1 t with
  |true=>ow r t
  |false=>p::ow r t
theorem OP{α:Type}{d t:Nat}{y:α}:∀ {fr:List (Nat×α)},cv (ow fr d) t=some y->t≠d/\cv fr t=some y
 |[],h=>by simp[ow,cv]at h
 |p::r,h=>by
  simp only[ow]at h;cases af:bP p.1 d with
  |true=>
   rw[af]at h
   obtain⟨b,J⟩:=OP h
   refine⟨b,?_⟩
   simp only[cv]
   cases hc:bP p.1 t with
   |true=>exact absurd ((a_ hc).symm.trans (a_ af)) b
   |false=>exact J
  |false=>
   rw[af]at h
   simp only[cv]at h⊢
   cases hc:bP p.1 t with
   |true=>
    rw[hc]at h
    refine⟨λ e=>?_,h⟩
    rw[a_ hc,e]at af
    simp at af
   |false=>rw[hc]at h;exact OP h
theorem rl.P4{d:Nat}{v:Value}(h:rl T F w ρ bl n fr a)(aK:ee d n.n=true):rl T F w ρ bl n (ow fr d) (a.put (some d) v):=by
 have b:d<n.n:=ck aK;refine⟨by simpa[Act.put]using h.size,h.defers,λ t z c=>?_⟩;obtain⟨e,J⟩:=OP c;rw[zi (by rw[h.size];exact b),if_neg (Ne.symm e)];exact h.get t z J
end
end a8
namespace I
def dj{α β cp:Type}(o:Option (α⊕β))(k:α->Option cp)(l:β->Option cp):Option cp:=match o with
 |none=>none
 |some (.inl a)=>k a
 |some (.inr b)=>l b
end I
namespace a8
open Go Go.RowKit aq I
inductive D (α:Type):Type 1
 |ok (a:α)
 |no
 |op {β:Type} (o:Option β) (k:β->D α)
 |p0 (c:Bool) (x y:D α)
 |uM {β cp:Type} (o:Option (β⊕cp)) (k:β->D α) (l:cp->D α)
def D.bind{α β:Type}:D α->(α->D β)->D β
 | .ok a,f=>f a
 | .no,_=>.no
 | .op o k,f=>.op o λ b=>(k b).bind f
 | .p0 c x y,f=>.p0 c (x.bind f) (y.bind f)
 | .uM o k l,f=>.uM o (λ b=>(k b).bind f) (λ c=>(l c).bind f)
def D.run{α ρ:Type}:D α->(α->Option ρ)->Option ρ
 | .ok a,K=>K a
 | .no,_=>none
 | .op o k,K=>o.bind λ b=>(k b).run K
 | .p0 c x y,K=>cond c (x.run K) (y.run K)
 | .uM o k l,K=>dj o (λ b=>(k b).run K) (λ c=>(l c).run K)
def D.out{α:Type}:D α->α->Prop
 | .ok b,a=>b=a
 | .no,_=>False
 | .op o k,a=>∃b,o=some b/\(k b).out a
 | .p0 c x y,a=>(c=true/\x.out a)\/(c=false/\y.out a)
 | .uM o k l,a=>(∃b,o=some (.inl b)/\(k b).out a)\/(∃c,o=some (.inr c)/\(l c).out a)
theorem D.sC{α ρ:Type}{r:ρ}:∀ {d:D α}{K:α->Option ρ},d.run K=some r-> ∃a,d.out a/\K a=some r
 | .ok a,K,h=>⟨a,rfl,h⟩
 | .no,K,h=>by cases h
 | .op o k,K,h=>by
   obtain⟨b,g,J⟩:=fM h;obtain⟨a,e,f⟩:=D.sC J;exact⟨a,⟨b,g,e⟩,f⟩
 | .p0 c x y,K,h=>by
   cases c with
   |true=>obtain⟨a,e,f⟩:=D.sC (d:=x) h;exact⟨a,.inl ⟨rfl,e⟩,f⟩
   |false=>obtain⟨a,e,f⟩:=D.sC (d:=y) h;exact⟨a,.inr ⟨rfl,e⟩,f⟩
 | .uM o k l,K,h=>by
   cases o with
   |none=>cases h
   |some s=>
    cases s with
    |inl b=>obtain⟨a,e,f⟩:=D.sC (d:=k b) h;exact⟨a,.inl ⟨b,rfl,e⟩,f⟩
    |inr c=>obtain⟨a,e,f⟩:=D.sC (d:=l c) h;exact⟨a,.inr ⟨c,rfl,e⟩,f⟩
theorem D.jS{α β:Type}:∀ {d:D α}{f:α->D β}{b:β},(d.bind f).out b-> ∃a,d.out a/\(f a).out b
 | .ok a,f,b,h=>⟨a,rfl,h⟩
 | .no,f,b,h=>h.elim
 | .op o k,f,b,h=>by
   obtain⟨x,e,J⟩:=h;obtain⟨a,g,i⟩:=D.jS J;exact⟨a,⟨x,e,g⟩,i⟩
 | .p0 c x y,f,b,h=>by
   rcases h with⟨e,J⟩|⟨e,J⟩
   ·obtain⟨a,g,i⟩:=D.jS J;exact⟨a,.inl ⟨e,g⟩,i⟩
   ·obtain⟨a,g,i⟩:=D.jS J;exact⟨a,.inr ⟨e,g⟩,i⟩
 | .uM o k l,f,b,h=>by
   rcases h with⟨x,e,J⟩|⟨x,e,J⟩
   ·obtain⟨a,g,i⟩:=D.jS J;exact⟨a,.inl ⟨x,e,g⟩,i⟩
   ·obtain⟨a,g,i⟩:=D.jS J;exact⟨a,.inr ⟨x,e,g⟩,i⟩
def D.of{α:Type}:Option α->D α
 |some a=>.ok a
 |none=>.no
theorem D.pn{α:Type}{o:Option α}{a:α}(h:(D.of o).out a):o=some a:=by
 cases o with
 |none=>exact h.elim
 |some b=>exact congrArg some h
structure Env where
 P:Program
 T:bN
 cM:List (Nat×aF T.El)
 cl:Bool
 b7:List Nat
 lN:Nat
 Mz:List UInt8->List (T.El lN)
def lay(P:Program)(t:TypeId):Option (Bool×Nat):=match P.underlying t,P.info? t with
 |some (.struct _),some i=>some (true,i.size)
 |some (.array _ _),some i=>some (true,i.size)
 |some _,some i=>some (false,i.size)
 |_,_=>none
theorem run_sizeOf{P:Program}{t:TypeId}{i:TypeInfo}(h:P.info? t=some i)(w:World):(Go.sizeOf t).run P w= .ok i.size w:=by
 simp[Go.sizeOf,typeInfo,go_sem,h]
theorem JY{P:Program}{t:TypeId}{b:Bool}{n:Nat}(h:lay P t=some (b,n)):(∀w,(isAgg t).run P w= .ok b w)/\ ∀w,(Go.sizeOf t).run P w= .ok n w:=by
 unfold lay at h;split at h
 ·rename_i a J
  simp only[aD,b5]at h
  obtain⟨rfl,rfl⟩:=h
  exact⟨λ w=>by simp[isAgg,run_underlying a],run_sizeOf J⟩
 ·rename_i a J
  simp only[aD,b5]at h
  obtain⟨rfl,rfl⟩:=h
  exact⟨λ w=>by simp[isAgg,run_underlying a],run_sizeOf J⟩
 ·rename_i d i c C4 a J
  simp only[aD,b5]at h
  obtain⟨rfl,rfl⟩:=h
  refine⟨λ w=>?_,run_sizeOf J⟩
  simp only[isAgg,Sem.run_bind,run_underlying a,Result.andThen_ok]
  cases d<;>first |rfl |(exact absurd a (by simpa using c _))|(exact absurd a (by simpa using C4 _ _))
 ·cases h
def kL:Option TypeDesc->Option nD
 |some (.int k)=>some (.i k)
 |some .bool=>some .b
 |some .string=>some .s
 |some (.slice _)=>some .ch
 |_=>none
theorem w3{P:Program}{t:TypeId}{k:nD}(h:kL (P.underlying t)=some k):k.ok P t:=by
 unfold kL at h;split at h<;>simp only[aD,reduceCtorEq]at h<;>subst h
 ·rename_i h;exact h
 ·rename_i h;exact h
 ·rename_i h;exact h
 ·rename_i e h;exact⟨e,h⟩
def Ng(P:Program)(s j:Nat):Option (Nat×Nat×Nat):=match P.underlying s with
 |some (.struct b7)=>match nth b7.toList j with
  |some f=>match P.info? f.type with
   |some i=>match bP i.size 0 with
    |true=>none
    |false=>some (f.offset,f.type,i.size)
   |none=>none
  |none=>none
 |_=>none
theorem ae'{P:Program}{s j off t n:Nat}(h:Ng P s j=some (off,t,n)):∃b7 f,P.underlying s=some (.struct b7)/\b7[j]? =some f/\f.offset=off/\f.type=t/\(∀w,(Go.sizeOf f.type).run P w= .ok n w)/\bP n 0=false:=by
 unfold Ng at h;split at h
 ·rename_i b7 a
  split at h
  ·rename_i f J
   split at h
   ·rename_i i b
    split at h
    ·cases h
    ·rename_i c
     simp only[aD,b5]at h
     obtain⟨rfl,rfl,rfl⟩:=h
     rw[cW,gS]at J
     exact⟨b7,f,a,J,rfl,rfl,run_sizeOf b,c⟩
   ·cases h
  ·cases h
 ·cases h
section
variable{El:Nat->Type}
def mC(cs:List (aF El))(o:Nat):Bool×Nat->Option (aF El)
 |(false,_)=>nth cs o
 |(true,n)=>match iI (o+n) cs.length with
  |true=>some (.a ((cs.drop o).take n))
  |false=>none
end
section
variable{T:bN}{F:Nat->Prop}{w:World}{ρ:List Value}{bl:List (aC T.El)}{P:Program}
theorem Fq{cs:List (aF T.El)}{o a q t:Nat}{c:Bool×Nat}{y:aF T.El}{vs:List Value}(i:lay P t=some c)(h:mC cs o c=some y)(d:a1 T F w ρ bl cs vs)(hc:fb w ⟨a,q,none⟩ vs) :
 ∃v us,ao T F w ρ bl y v/\fb w ⟨a,q+o,none⟩ us/\ ∀(op:Oper)(ac:Act)(x:Operand)(w':World),op.op= .load t x->ac.eval x= .pointer (some ⟨a,q+o,none⟩)->fb w' ⟨a,q+o,none⟩ us->bc P op ac w' v w':=by
 obtain⟨b,n⟩:=c
 have C3:=JY i
 cases b with
 |false=>
  simp only[mC]at h
  rw[cW]at h
  obtain⟨v,k,J⟩:=d.at_ h
  refine⟨v,[v],J,λ j u aA=>?_,λ op ac x w' ap e f=>yn C3.1 ap e (by simpa using f 0 v rfl)⟩
  cases j with
  |zero=>simp only[de,aD]at aA;subst aA;simpa using hc o v k
  |succ j=>simp at aA
 |true=>
  simp only[mC]at h
  split at h
  ·rename_i af
   simp only[aD]at h
   subst h
   have l:=ck af
   have g:=d.len
   refine⟨.agg ⟨(vs.drop o).take n⟩,(vs.drop o).take n,?_,λ j u aA=>?_,λ op ac x w' ap e f=>anM C3.1 C3.2 (by simp;omega) ap e f⟩
   ·simp only[ao]
    exact⟨_,rfl,a1.take n (a1.drop o d)⟩
   ·rw[gI]at aA
    split at aA
    ·rw[iN]at aA
     have:=hc (o+j) u aA
     simpa[jK]using this
    ·cases aA
  ·cases h
end
end a8
namespace a8
open Go Go.RowKit aq I
structure yT (T:bN):Prop where
 cs:∀t d F w xs,(T.ty t).rd F w xs d->a1 T F w [] [] ((T.e t).cs d) xs
 hs:∀t aV d,(T.e t).hs aV=some d-> ∀F w ρ bl xs,a1 T F w ρ bl aV xs->(T.ty t).rd F w xs d
 key:∀t K,(T.e t).key=some K-> ∀F w xs k,(T.ty t).rd F w xs k->Am (T.e t).agg xs= @lL.enc _ K.dec K.r9 k
 one:∀t,(T.e t).agg=false-> ∀d,((T.e t).cs d).length=1
def bN.val(T:bN)(t:Nat)(d:T.El t):aF T.El:=match(T.e t).agg with
 |true=>.a ((T.e t).cs d)
 |false=>((T.e t).cs d).headD (.p undef)
structure cX (E:Env):Prop where
 tb:yT E.T
 call:∀f∈E.b7,∀args w,(callFunc f args).run E.P w= .ok (.enter f args) w
 aB3:E.P.follows .mixedOrders=true
 acL:∀l,(E.Mz l).length=l.length
 ass:∀F w l xs,dx Qu F w xs l->dx (E.T.ty E.lN) F w xs (E.Mz l)
 eq:∀t f,(E.T.e t).eq=some f-> ∀F w xs ys d e,(E.T.ty t).rd F w xs d->(E.T.ty t).rd F w ys e-> ∀(o:Oper)(a:Act)(x y:Operand)(t':TypeId)(b:Bool),o.op= .binOp (cond b .eql .neq) t x y t'->a.eval x= .agg ⟨xs⟩->a.eval y= .agg ⟨ys⟩-> ∀w',bc E.P o a w' (.bool (cond b (f d e) (!f d e))) w'
section
variable{T:bN}{F:Nat->Prop}{w:World}{ρ:List Value}{bl:List (aC T.El)}
theorem aBs{w:World}{F:Nat->Prop}{l:List (aF T.El)}{vs:List Value}(h:a1 T F w [] [] l vs):a1 T F w ρ bl l vs:=a1.later (λ _ h=>⟨h,rfl⟩) ⟨λ i h hi=>by simp at hi⟩ l h
theorem yT.cells(a:yT T){t:Nat}{d:T.El t}{xs:List Value}(h:(T.ty t).rd F w xs d):a1 T F w ρ bl ((T.e t).cs d) xs:=aBs (a.cs t d F w xs h)
theorem yT.val(a:yT T){t:Nat}{d:T.El t}{xs:List Value}(h:(T.ty t).rd F w xs d):ao T F w ρ bl (T.val t d) (Am (T.e t).agg xs):=by
 have hc:=a.cells (ρ:=ρ) (bl:=bl) h;unfold bN.val;cases c:(T.e t).agg with
 |true=>simp only[ao,Am];exact⟨xs,rfl,hc⟩
 |false=>
  have b:=a.one t c d
  cases hcs:(T.e t).cs d with
  |nil=>rw[hcs]at b;simp at b
  |cons y r=>
   rw[hcs]at hc
   simp only[a1]at hc
   obtain⟨u,us,rfl,e,_⟩:=hc
   exact e
def X1{El:Nat->Type}:aF El->Nat->Option (aF El)
 | .b i o,n=>some (.b i (o+n))
 | .x t d o,n=>some (.x t d (o+n))
 | .e i g k t j d o,n=>some (.e i g k t j d (o+n))
 | .w i g o,n=>some (.w i g (o+n))
 |_,_=>none
def PD{El:Nat->Type}(gs:Nat->Nat):aF El->Bool
 | .b _ _=>true
 | .x _ _ _=>true
 | .e i g _ _ _ _ _=>bP g (gs i)
 | .w i g _=>bP g (gs i)
 |_=>false
def tG{El:Nat->Type}(bl:List (aC El))(i:Nat):Nat:=bW (nth bl i)
theorem CK{El:Nat->Type}(bl:List (aC El))(i:Nat):tG bl i=bW bl[i]? :=by rw[tG,cW]
theorem aDy{y l:aF T.El}{n:Nat}{v:Value}(hi:PD (tG bl) y=true)(h:X1 y n=some l)(b:ao T F w ρ bl y v):∃g o,v= .pointer (some ⟨g,o,none⟩)/\ao T F w ρ bl l (.pointer (some ⟨g,o+n,none⟩)):=by
 cases y<;>simp only[X1,aD,reduceCtorEq]at h<;>subst h
 ·simp only[ao]at b
  obtain⟨g,d,J⟩:=b
  refine⟨g,_,J,?_⟩
  simp only[ao]
  exact⟨g,d,rfl⟩
 ·simp only[ao]at b
  obtain⟨a,q,cs,d,J,e,m⟩:=b
  refine⟨a,_,d,?_⟩
  simp only[ao]
  exact⟨a,q,cs,by rw[jK],J,e,m⟩
 ·simp only[ao]at b
  obtain⟨_,u,d,J,e⟩:=b
  simp only[PD]at hi
  have hi:=a_ hi
  rw[CK]at hi
  obtain⟨⟨A,f,c,i,j,p,k⟩,r,s⟩:=e hi
  refine⟨_,_,k,?_⟩
  simp only[ao]
  exact⟨trivial,u,d,J,λ _=>⟨⟨A,f,c,i,j,p,by rw[jK]⟩,r,s⟩⟩
 ·simp only[ao]at b
  obtain⟨_,u,d,J,e⟩:=b
  simp only[PD]at hi
  have hi:=a_ hi
  rw[CK]at hi
  obtain⟨A,f,c,i,j,k⟩:=e hi
  refine⟨_,_,k,?_⟩
  simp only[ao]
  exact⟨trivial,u,d,J,λ _=>⟨A,f,c,i,j,rfl⟩⟩
def nm{El:Nat->Type}(bl:List (aC El)):aF El->aF El
 | .r i g=>match nth bl i with
   |some (.z t g' _ l)=>match bP g g' with
    |true=>.s t l
    |false=>.r i g
   |_=>.r i g
 |y=>y
end
section
variable{T:bN}{W w:World}{M0:List Nat}{X:Nat->Prop}{bl:List (aC T.El)}{ρ:List Value}
theorem Pk(c:Mem T W M0 X bl ρ w){y:aF T.El}{v:Value}(a:ao T (bi X bl ρ w) w ρ bl y v):ao T (bi X bl ρ w) w ρ bl (nm bl y) v:=by
 cases y with
 |r i g=>
  simp only[nm]
  split
  ·rename_i t g' k l hi
   rw[cW]at hi
   split
   ·rename_i af
    have af:=a_ af
    simp only[ao]at a⊢
    obtain⟨_,h,d,J,b⟩:=a
    rw[hi]at b
    have:=b af
    subst this
    exact c.ok i _ _ hi d
   ·exact a
  ·exact a
 |_=>exact a
def FG(E:Env)(bl:List (aC E.T.El))(t:Nat):aF E.T.El->D (aF E.T.El)
 | .b i o=>match nth bl i,lay E.P t with
   |some (.c _ cs),some a=>.of (mC cs o a)
   |_,_=>.no
 | .x t' d o=>match lay E.P t with
   |some a=>.of (mC ((E.T.e t').cs d) o a)
   |none=>.no
 | .e i g k t' j d o=>match nth bl i,lay E.P t with
   |some (.r c b e l),some a=>match bP g b,bP k e with
    |true,true=>.of (mC ((E.T.e t').cs d) o a)
    |true,false=>.op (idx l j) λ d'=>.of (mC ((E.T.e c).cs d') o a)
    |_,_=>.no
   |_,_=>.no
 | .w i g o=>match nth bl i,lay E.P t with
   |some (.k _ _ b cs),some a=>match bP g b with
    |true=>.of (mC cs o a)
    |false=>.no
   |_,_=>.no
 | .Av i g sz q=>match nth bl i,lay E.P t with
   |some (.r c b e l),some a=>match bP g b&&bP sz (E.T.ty c).size with
    |true=>.op (idx l q) λ d=>.of (mC [.e i g e c q d 0] 0 a)
    |false=>.no
   |_,_=>.no
 |_=>.no
def WW{El:Nat->Type}:aF El->Option Nat
 | .b i _=>some i
 | .e i _ _ _ _ _ _=>some i
 | .w i _ _=>some i
 |_=>none
def Mh(X:Nat->Prop)(bl:List (aC T.El))(ρ:List Value)(w:World)(k:Nat):Option Nat->Prop
 |none=>bi X bl ρ w k
 |some i=>∃B h,bl[i]? =some B/\ρ[i]? =some h/\k∈bz B h
def HU(P:Program)(t:Nat)(dW:Addr)(us:List Value)(v:Value):Prop:=∀(op:Oper)(ac:Act)(x:Operand)(w':World),op.op= .load t x->ac.eval x= .pointer (some dW)->fb w' dW us->bc P op ac w' v w'
theorem uI{w:World}{t sz n c:Nat}{A:Option Addr}{xs:List Value}(d:0<n)(h:rowIs w t sz (.slice A n c) n xs):∃g,A=some ⟨g,0,none⟩/\dm A=g/\fb w ⟨g,0,none⟩ xs/\ ∀m:Nat,af (.slice A m c)=[g]:=by
 have hc:=h.cap;have h:=h.own d;rcases h.2 with⟨a,e⟩|⟨g,cap,cur,a,_⟩
 ·omega
 ·simp only[Value.slice.injEq]at a
  obtain⟨rfl,_,rfl⟩:=a
  refine⟨g,rfl,rfl,λ j u aA=>?_,λ m=>?_⟩
  ·have b:=h.cells (g:=g) rfl j u aA
   rw[k3]at b
   exact b
  ·cases c with
   |zero=>omega
   |succ c=>rfl
theorem aj1{α:Type}{T:cY α}{F:Nat->Prop}{w:World}{g:Nat}{l:List α}{xs:List Value}{j:Int}{d:α}(hc:fb w ⟨g,0,none⟩ xs)(a:dx T F w xs l)(hi:idx l j=some d):∃cs,T.rd F w cs d/\fb w ⟨g,j.toNat*T.size,none⟩ cs:=by
 obtain⟨_,_,J⟩:=lk hi;obtain⟨cs,b,c⟩:=KF T a J;refine⟨cs,b,λ q u e=>?_⟩;have:=hc (j.toNat*T.size+q) u (c q u e);simpa using this
theorem avu{E:Env}(Q:yT E.T){W w:World}{M0:List Nat}{X:Nat->Prop}{bl:List (aC E.T.El)}{ρ:List Value}(R:Mem E.T W M0 X bl ρ w){t:Nat}{p y:aF E.T.El}{K:Value}(m:ao E.T (bi X bl ρ w) w ρ bl p K)(h:(FG E bl t p).out y) :
 ∃dW us v,K= .pointer (some dW)/\ao E.T (bi X bl ρ w) w ρ bl y v/\fb w dW us/\HU E.P t dW us v/\Mh X bl ρ w dW.block (WW p):=by
 unfold FG at h
 split at h
 ·rename_i i o
  split at h
  ·rename_i ty cs P b J
   rw[cW]at b
   have h:=D.pn h
   simp only[ao]at m
   obtain⟨g,r,rfl⟩:=m
   obtain⟨g',vs,e1,e2,e3⟩:=R.ok i _ _ b r
   simp only[Value.pointer.injEq,aD,Addr.mk.injEq,and_true]at e1
   subst e1
   have hc:fb w ⟨g,0,none⟩ vs:=λ j u aA=>by
    have af:(a7.b' g ty vs).ok w:=e2;simpa using y1 af aA
   obtain⟨v,us,e,H,f⟩:=Fq J h e3 hc
   refine⟨⟨g,o,none⟩,us,v,rfl,e,by simpa using H,λ op ac x w' ap aa lU=>f op ac x w' ap (by simpa using aa) (by simpa using lU),_,_,b,r,by simp[bz,af]⟩
  ·exact h.elim
 ·rename_i t' d o
  split at h
  ·rename_i P J
   have h:=D.pn h
   simp only[ao]at m
   obtain⟨a,q,cs,rfl,al,a',df⟩:=m
   obtain⟨v,us,e,H,f⟩:=Fq J h (Q.cells a') df
   exact⟨_,us,v,rfl,e,H,f,al⟩
  ·exact h.elim
 ·rename_i i g k t' j d o
  split at h
  ·rename_i S Z H l P b J
   rw[cW]at b
   simp only[ao]at m
   obtain⟨_,u,C,z,B⟩:=m
   rw[b]at B
   obtain⟨A,c,xs,e1,e2,e3⟩:=R.ok i _ _ b C
   subst e1
   split at h
   ·rename_i r hk
    have h:=D.pn h
    obtain⟨⟨cb,fZ,bE,s,L,U,F⟩,aDP,X3⟩:=B (a_ r)
    obtain⟨l',I,G⟩:=X3 (a_ hk)
    simp only[jj,aD,Sigma.mk.injEq]at I
    obtain⟨eY,I⟩:=I
    subst eY
    have I:=eq_of_heq I
    subst I
    simp only[Value.slice.injEq]at s
    obtain⟨rfl,rfl,rfl⟩:=s
    obtain⟨gb,rfl,M,hc,N⟩:=uI (by have:=(lk G).2.1;omega) e2
    obtain⟨cs,V,Y⟩:=aj1 hc e3 G
    obtain⟨v,us,e,Dn,f⟩:=Fq J h (Q.cells V) Y
    refine⟨_,us,v,F,e,?_,?_,_,_,b,C,by simp[bz,N,M,dm]⟩
    ·simpa[jk,dm]using Dn
    ·simpa[jk,dm,HU]using f
   ·rename_i r hk
    obtain⟨d',G,h⟩:=h
    have h:=D.pn h
    obtain⟨⟨cb,fZ,bE,s,L,U,F⟩,_,_⟩:=B (a_ r)
    simp only[Value.slice.injEq]at s
    obtain⟨rfl,rfl,rfl⟩:=s
    obtain⟨gb,rfl,M,hc,N⟩:=uI (by have:=(lk G).2.1;omega) e2
    obtain⟨cs,V,Y⟩:=aj1 hc e3 G
    obtain⟨v,us,e,Dn,f⟩:=Fq J h (Q.cells V) Y
    refine⟨_,us,v,F,e,?_,?_,_,_,b,C,by simp[bz,N,M,dm]⟩
    ·simpa[jk,dm]using Dn
    ·simpa[jk,dm,HU]using f
   ·exact h.elim
  ·exact h.elim
 ·rename_i i g o
  split at h
  ·rename_i S sz Z cs P b J
   rw[cW]at b
   split at h
   ·rename_i r
    have h:=D.pn h
    simp only[ao]at m
    obtain⟨_,u,C,z,B⟩:=m
    rw[b]at B
    obtain⟨A,n,c,xs,e1,e2,e3⟩:=R.ok i _ _ b C
    subst e1
    obtain⟨cb,fZ,bE,s,L,F⟩:=B (a_ r)
    simp only[Value.slice.injEq]at s
    obtain⟨rfl,rfl,rfl⟩:=s
    obtain⟨gb,rfl,M,hc,N⟩:=uI L e2
    obtain⟨v,us,e,Dn,f⟩:=Fq J h e3 hc
    refine⟨_,us,v,F,e,?_,?_,_,_,b,C,by simp[bz,N,M,dm]⟩
    ·simpa[dm]using Dn
    ·simpa[dm,HU]using f
   ·exact h.elim
  ·exact h.elim
 ·rename_i i g sz q
  split at h
  ·rename_i S Z H l P b J
   rw[cW]at b
   split at h
   ·rename_i af
    simp only[bC]at af
    have r:=a_ af.1
    have ah:=a_ af.2
    obtain⟨d,G,h⟩:=h
    have h:=D.pn h
    simp only[ao]at m
    obtain⟨a,o,O,rfl,ay,⟨ha,u,C,z,B⟩,hc⟩:=m
    have F8:=z
    rw[b]at B F8
    obtain⟨A,n,c,s,L,U,F⟩:=B r
    have aw:a1 E.T (bi X bl ρ w) w ρ bl [.e i g H S q d 0] [O]:=by
     simp only[a1,ao];refine⟨O,[],rfl,⟨ha,u,C,z,λ _=>⟨⟨A,n,c,s,L,U,?_⟩,by rw[b];exact cu _,λ _=>⟨l,by rw[b];rfl,G⟩⟩⟩,rfl⟩;rw[b,F,ah];rfl
    obtain⟨v,us,e,Dn,f⟩:=Fq J h aw hc
    exact⟨_,us,v,rfl,e,by simpa using Dn,by simpa[HU]using f,ay⟩
   ·exact h.elim
  ·exact h.elim
 ·exact h.elim
end
end a8
namespace a8
open Go Go.RowKit aq I
def cellsOf{El:Nat->Type}:aF El->List (aF El)
 | .a l=>l
 | .p (.agg ⟨vs⟩)=>vs.map .p
 |y=>[y]
def fF{α:Type}:List α->Nat->List α->List α
 |l,0,cs=>cs++l.drop cs.length
 |[],_+1,_=>[]
 |u::l,n+1,cs=>u::fF l n cs
theorem xk{α:Type}:∀(l:List α)(n:Nat)(cs:List α),n+cs.length<=l.length->fF l n cs=l.take n++cs++l.drop (n+cs.length)
 |l,0,cs,_=>by simp[fF]
 |[],n+1,cs,h=>by simp at h
 |u::l,n+1,cs,h=>by
  have:=xk l n cs (by simp at h;omega);simp only[fF,this,jC,jf];have e:n+1+cs.length=(n+cs.length)+1:=by omega
  rw[e,List.drop_succ_cons]
theorem WU{α:Type}{l:List α}{n:Nat}{cs:List α}(h:n+cs.length<=l.length):(fF l n cs).length=l.length:=by
 rw[xk l n cs h];simp;omega
theorem afb(off:Nat):∀(cs:List Value)(k:Nat)(l:Array Value),off+k+cs.length<=l.size->((cs.zipIdx k).foldl (λ(a:Array Value)(x:Value×Nat)=>a.setIfInBounds (off+x.2) x.1) l).toList=fF l.toList (off+k) cs
 |[],k,l,h=>by
  rw[xk _ _ _ (by simpa using h)];simp
 |c::r,k,l,h=>by
  simp only[List.zipIdx_cons,k7];have h':off+(k+1)+r.length<=(l.setIfInBounds (off+k) c).size:=by simp at h⊢;omega
  rw[afb off r (k+1) _ h',xk _ _ _ (by simpa using h'),xk _ _ _ (by simpa using h)];have b:off+k<l.toList.length:=by simp at h⊢;omega
  simp only[Array.toList_setIfInBounds,cV];apply j4;intro i;simp only[lB,fP,iP,gI,List.getElem?_set,iN,dS,cV];have e1:min (off+(k+1)) l.toList.length=off+k+1:=by simp at h b⊢;omega
  have e2:min (off+k) l.toList.length=off+k:=by omega
  rw[e1,e2];by_cases c1:i<off+k
  ·simp[c1,show i<off+k+1 by omega,show i<off+k+1+r.length by omega,show i<off+k+(r.length+1) by omega,show i<off+(k+1) by omega,show¬off+k=i by omega]
  ·by_cases c2:i=off+k
   ·subst c2
    simp only[show off+k<off+k+1 by omega,show off+k<off+k+1+r.length by omega,show off+k<off+k+(r.length+1) by omega,show off+k<off+(k+1) by omega,if_true,b,Nat.lt_irrefl,if_false,Nat.sub_self,de]
   ·by_cases c3:i<off+k+1+r.length
    ·simp only[show¬i<off+k+1 by omega,c3,show i<off+k+(r.length+1) by omega,c1,if_false,if_true]
     have:i- (off+k)=(i- (off+k+1))+1:=by omega
     rw[this,List.getElem?_cons_succ]
    ·simp only[show¬i<off+k+1 by omega,c3,show¬i<off+k+(r.length+1) by omega,if_false,show¬(off+k=off+(k+1)+r.length+(i- (off+k+1+r.length))) by omega]
     congr 1
     omega
def wb{El:Nat->Type}(pl:Nat->Option (Nat×Nat)):List (aF El)->List (Nat×aF El)->Option (List (aF El))
 |cs,[]=>some cs
 |cs,(i,y)::r=>match pl i with
  |some (off,size)=>match bP (cellsOf y).length size&&iI (off+(cellsOf y).length) cs.length with
   |true=>wb pl (fF cs off (cellsOf y)) r
   |false=>none
  |none=>none
section
variable{T:bN}{F:Nat->Prop}{w:World}{ρ:List Value}{bl:List (aC T.El)}
theorem sA:∀(vs:List Value),a1 T F w ρ bl (vs.map .p) vs
 |[]=>by simp[a1]
 |v::r=>by simp only[eu,a1];exact⟨v,r,rfl,rfl,sA r⟩
theorem lx{z:aF T.El}{u:Value}(a:ao T F w ρ bl z u):a1 T F w ρ bl [z] [u]:=by
 simp only[a1];exact⟨u,[],rfl,a,rfl⟩
theorem MN{v:Value}(h:kJ v):v.cells.toList=[v]:=by cases v<;>simp[kJ]at h;rfl
theorem ML{v:Value}(h:w1 v):v.cells.toList=[v]:=by cases v<;>simp[w1]at h;rfl
theorem oV{y:aF T.El}{v:Value}(h:ao T F w ρ bl y v):a1 T F w ρ bl (cellsOf y) v.cells.toList:=by
 cases y with
 |a l=>simp only[ao]at h;obtain⟨vs,rfl,h⟩:=h;exact h
 |p u=>
  simp only[ao]at h
  subst h
  cases v with
  |agg cs=>obtain⟨vs⟩:=cs;exact sA vs
  |_=>exact lx (by simp[ao])
 |b i o=>have h':=h;simp only[ao]at h';obtain⟨g,_,rfl⟩:=h';exact lx h
 |x t d o=>have h':=h;simp only[ao]at h';obtain⟨a,q,cs,rfl,_⟩:=h';exact lx h
 |s t l=>have h':=h;simp only[ao]at h';obtain⟨A,c,e⟩:=mj _ h';subst e;exact lx h
 |q t l=>have h':=h;simp only[ao]at h';obtain⟨_,A,rfl⟩:=h';exact lx h
 |r i g=>have h':=h;simp only[ao]at h';rw[MN h'.1];exact lx h
 |v i g lo hi=>have h':=h;simp only[ao]at h';rw[MN h'.1];exact lx h
 |e i g k t j d o=>have h':=h;simp only[ao]at h';rw[ML h'.1];exact lx h
 |w i g o=>have h':=h;simp only[ao]at h';rw[ML h'.1];exact lx h
 |m i=>have h':=h;simp only[ao]at h';obtain⟨g,_,rfl⟩:=h';exact lx h
 |n _ _ _=>have h':=h;simp only[ao]at h';obtain⟨g,rfl,_⟩:=h';exact lx h
 |f fn cs=>have h':=h;simp only[ao]at h';obtain⟨g,rfl,_⟩:=h';exact lx h
 |h fn us=>have h':=h;simp only[ao]at h';obtain⟨g,rfl,_⟩:=h';exact lx h
 |u l=>have h':=h;simp only[ao]at h';obtain⟨g,rfl,_⟩:=h';exact lx h
 |i t z=>have h':=h;simp only[ao]at h';obtain⟨g,rfl,_⟩:=h';exact lx h
 |pp i g sz dR=>have h':=h;simp only[ao]at h';obtain⟨_,_,rfl,_⟩:=h';exact lx h
 |Av i g sz q=>have h':=h;simp only[ao]at h';obtain⟨_,_,_,rfl,_⟩:=h';exact lx h
theorem a1.lay{l cs:List (aF T.El)}{vs us:List Value}{n:Nat}(h:a1 T F w ρ bl l vs)(h':a1 T F w ρ bl cs us)(a:n+cs.length<=l.length):a1 T F w ρ bl (fF l n cs) (fF vs n us):=by
 have e1:=h.len;have e2:=h'.len;rw[xk _ _ _ a,xk _ _ _ (by omega),e2];exact a1.bD (a1.bD (a1.take n h) h') (a1.drop _ h)
def rr(T:bN)(F:Nat->Prop)(w:World)(ρ:List Value)(bl:List (aC T.El)):List (Nat×aF T.El)->List (Nat×Value)->Prop
 |[],vs=>vs=[]
 |(i,y)::r,vs=>∃v ws,vs=(i,v)::ws/\ao T F w ρ bl y v/\rr T F w ρ bl r ws
theorem TM{pl:Nat->Option (Nat×Nat)}:∀ {ps:List (Nat×aF T.El)}{vs:List (Nat×Value)}{cs out:List (aF T.El)}{us:List Value},a1 T F w ρ bl cs us->rr T F w ρ bl ps vs->wb pl cs ps=some out-> ∃os,Instr.fill pl ⟨us⟩ vs=some ⟨os⟩/\a1 T F w ρ bl out os
 |[],vs,cs,out,us,h,b,a=>by
  simp only[rr]at b;subst b;simp only[wb,aD]at a;subst a;exact⟨us,rfl,h⟩
 |(i,y)::r,vs,cs,out,us,h,b,a=>by
  simp only[rr]at b;obtain⟨v,ws,rfl,hy,c⟩:=b;simp only[wb]at a;split at a
  ·rename_i off size d
   split at a
   ·rename_i af
    simp only[bC]at af
    have e1:=a_ af.1
    have e2:=ck af.2
    have hc:=oV hy
    have l1:=hc.len
    have g:=h.len
    have j:v.cells.size=(cellsOf y).length:=by rw[<-l1];simp
    obtain⟨os,e,J⟩:=TM (h.lay hc e2) c a
    refine⟨os,?_,J⟩
    simp only[Instr.fill,d]
    rw[if_neg (by simp only[hM,decide_eq_true_eq,bne_iff_ne,not_or];simp only[List.size_toArray];omega)]
    have f:v.cells.zipIdx.toList=v.cells.toList.zipIdx:=by simp
    rw[<-Array.foldl_toList,f]
    have:=afb off v.cells.toList 0 ⟨us⟩ (by simp;omega)
    simp only[lC]at this
    rw[<-e]
    congr 1
    rw[<-Array.toList_inj]
    exact this
   ·cases a
  ·cases a
end
def Kt(P:Program):List Go.Field->Option (List (Nat×Nat))
 |[]=>some []
 |f::r=>match P.info? f.type,Kt P r with
  |some i,some l=>some ((f.offset,i.size)::l)
  |_,_=>none
theorem ai3{P:Program}{w:World}:∀ {b7:List Go.Field}{l:List (Nat×Nat)},Kt P b7=some l->(b7.mapM λ(f:Go.Field)=>(do pure (f.offset,<-Go.sizeOf f.type):Sem (Nat×Nat))).run P w= .ok l w
 |[],l,h=>by simp only[Kt,aD]at h;subst h;rfl
 |f::r,l,h=>by
  simp only[Kt]at h;split at h
  ·rename_i i l' a J
   simp only[aD]at h
   subst h
   rw[List.mapM_cons]
   simp only[Sem.run_bind,run_sizeOf a,ai3 J,Result.andThen_ok,Sem.run_pure]
  ·cases h
def ES(P:Program)(t:TypeId):Option (List Value):=match P.info? t with
 |some i=>match i.zero with
  |some z=>some z.cells.toList
  |none=>none
 |none=>none
theorem L2{P:Program}{t:TypeId}{l:List Value}(h:ES P t=some l):∃z,(∀w,(zeroValue t).run P w= .ok z w)/\z.cells=⟨l⟩:=by
 unfold ES at h;split at h
 ·rename_i i a
  split at h
  ·rename_i z J
   simp only[aD]at h
   subst h
   refine⟨z,λ w=>?_,by simp⟩
   simp only[zeroValue,typeInfo,Sem.run_bind]
   simp[go_sem,a,J]
  ·cases h
 ·cases h
def Tr(E:Env)(t:Nat)(ps:List (Nat×aF E.T.El)):D (aF E.T.El):=match E.P.underlying t,ES E.P t with
 |some (.struct b7),some z=>match Kt E.P b7.toList with
  |some pl=>match wb (λ i=>nth pl i) (z.map .p) ps with
   |some cs=>.ok (.a cs)
   |none=>.no
  |none=>.no
 |_,_=>.no
section
variable{E:Env}{F:Nat->Prop}{w:World}{ρ:List Value}{bl:List (aC E.T.El)}
theorem avj{t:Nat}{ps:List (Nat×aF E.T.El)}{vs:List (Nat×Value)}{y:aF E.T.El}(d:rr E.T F w ρ bl ps vs)(h:(Tr E t ps).out y) :
 ∃v,ao E.T F w ρ bl y v/\ ∀(o:Oper)(a:Act)(xs:List (Nat×Operand))(w':World),o.op= .build t xs.toArray->xs.map (λ p=>(p.1,a.eval p.2))=vs->bc E.P o a w' v w':=by
 unfold Tr at h
 split at h
 ·rename_i b7 z g J
  split at h
  ·rename_i pl j
   split at h
   ·rename_i cs k
    have h:aF.a cs=y:=h
    subst h
    obtain⟨u,l,m⟩:=L2 J
    obtain⟨os,c,n⟩:=TM (sA z) d k
    refine⟨.agg ⟨os⟩,by simp only[ao];exact⟨os,rfl,n⟩,λ o a xs w' ap q=>?_⟩
    have b:(λ i=>nth pl i)=(λ i=>(⟨pl⟩:Array (Nat×Nat))[i]?):=by funext i;rw[cW];simp
    have r:(b7.mapM λ(f:Go.Field)=>(do pure (f.offset,<-Go.sizeOf f.type):Sem (Nat×Nat))).run E.P w'= .ok ⟨pl⟩ w':=by
     have s:=ai3 (w:=w') j;have e:b7.mapM (λ(f:Go.Field)=>(do pure (f.offset,<-Go.sizeOf f.type):Sem (Nat×Nat)))=List.toArray <$> b7.toList.mapM (λ(f:Go.Field)=>(do pure (f.offset,<-Go.sizeOf f.type):Sem (Nat×Nat))):=by
      rw[<-List.mapM_toArray]
     rw[e,map_eq_pure_bind,Sem.run_bind,s];rfl
    rw[b]at c
    simp only[bc,execOp,ap,Instr.build,Sem.run_bind,l,Result.andThen_ok,run_underlying g,r,gJ,q,m,c]
    rfl
   ·exact h.elim
  ·exact h.elim
 ·exact h.elim
end
end a8
namespace aq
open Go Go.RowKit I
section
variable{P:Program}{ops:Array Oper}{Q:Exit->Act->World->Prop}{a:Act}{w:World}{rest:List Oper}{o:Oper}{n:ct}{d:Nat}{l:List (Nat×Value)}
 {W:World}{M0 X:List Nat}{E:List a7}{D:List bA}
def a7.nil:a7:=⟨[],λ _=>True,λ _ _ _ _=>trivial⟩
theorem bs.M_{x:a7}{w':World}(b:bs W M0 X w E D)(i:Nat)(hi:E[i]? =some x)(c:bj [] w w'):x.ok w':=
 x.law w w' (λ k e=>c.block k (b.lt k (ho.2 ⟨x,bB hi,e⟩)).1 (by simp)) (b.e i hi)
theorem aKZ{t:TypeId}{x:Operand}{lo hi:Option Operand}{p r:List UInt8}{i j:Int}(k:P.underlying t=some .string)(ap:o.op= .slice t x lo hi none)(q:a.eval x=cj p)
 (s:(lo=none/\i=0)\/ ∃z,lo=some z/\a.eval z= .int .i64 i)(kD:(hi=none/\j=p.length)\/ ∃z,hi=some z/\a.eval z= .int .i64 j)(u:cut p i j=some r):bc P o a w (cj r) w:=by
 obtain⟨⟨F,J,G⟩,rfl⟩:=S1 u
 have b:(⟨p.toArray⟩:ByteArray).size=p.length:=by simp[ByteArray.size]
 have bO:∀code,(Instr.sliceBound (.int .i64 j) (⟨p.toArray⟩:ByteArray).size code).run P w= .ok j.toNat w:=λ code=>AC rfl (by rw[b];omega)
 rw[b]at bO
 have v:∀code,(Instr.sliceBound (.int .i64 i) j.toNat code).run P w= .ok i.toNat w:=λ code=>AC rfl (by omega)
 have gd:∀code,(Instr.sliceBound (.int .i64 i) (⟨p.toArray⟩:ByteArray).size code).run P w= .ok i.toNat w:=λ code=>AC rfl (by rw[b];omega)
 rw[b]at gd
 have y:(⟨p.toArray⟩:ByteArray).extract i.toNat j.toNat=⟨((p.take j.toNat).drop i.toNat).toArray⟩:=by
  apply ByteArray.ext;simp[ByteArray.data_extract,List.drop_take]
 have key:∀c e:Option Value,((c=none/\i=0)\/c=some (.int .i64 i))->((e=none/\j=p.length)\/e=some (.int .i64 j)) ->
  (Instr.slice t (.string ⟨p.toArray⟩) c e none).run P w= .ok (cj ((p.take j.toNat).drop i.toNat)) w:=by
  intro c e A B
  have af:∃m,(Instr.sliceBounds false (⟨p.toArray⟩:ByteArray).size (⟨p.toArray⟩:ByteArray).size c e none).run P w= .ok (i.toNat,j.toNat,m) w:=by
   rcases A with⟨rfl,rfl⟩|rfl<;>rcases B with⟨rfl,aA⟩|rfl
   ·exact⟨_,by simp[Instr.sliceBounds,aA,b];rfl⟩
   ·exact⟨_,by simp[Instr.sliceBounds,b,bO];rfl⟩
   ·exact⟨_,by simp[Instr.sliceBounds,gd,aA,b];rfl⟩
   ·exact⟨_,by simp[Instr.sliceBounds,b,bO,v];rfl⟩
  obtain⟨m,af⟩:=af
  simp only[Instr.slice,Sem.run_bind,run_underlying k,Result.andThen_ok,Option.isSome_none,hv,if_false,af,Sem.run_pure,y,cj]
 have C:=key (lo.map a.eval) (hi.map a.eval) (s.imp (λ h=>⟨by rw[h.1];rfl,h.2⟩) (λ⟨z,f,g⟩=>by rw[f,fI,g])) (kD.imp (λ h=>⟨by rw[h.1];rfl,h.2⟩) (λ⟨z,f,g⟩=>by rw[f,fI,g]))
 simp only[bc,execOp,ap,q,cj,Instr.sliceAt,Sem.run_bind,run_underlying k,Result.andThen_ok,iz,C]
 rfl
theorem aK4{t:TypeId}{x:Operand}{v:Value}(hc:P.concrete t=true)(ap:o.op= .makeInterface t x)(b:a.eval x=v):bc P o a w (.iface t v) w:=by
 simp only[bc,execOp,ap,b];simp[go_sem,run_makeInterface _ _ _ hc]
end
end aq
namespace a8
open Go Go.RowKit aq I
abbrev kY(P:Program)(o:Oper)(a:Act)(v:Value):Prop:=∀w,bc P o a w v w
section
variable{E:Env}{W w:World}{M0:List Nat}{X:Nat->Prop}{bl:List (aC E.T.El)}{ρ:List Value}
def XW(E:Env)(x y:Operand)(b:Bool):aF E.T.El->aF E.T.El->D (aF E.T.El)
 | .p u,.p v=>match PA x y b u v with
   |some r=>.ok (.p r)
   |none=>.p0 b (.ok (.p u)) (.ok (.p v))
 |u,v=>.p0 b (.ok u) (.ok v)
theorem aDn{F:Nat->Prop}{a:Act}{x y:Operand}{b:Bool}{u v z:aF E.T.El}(h:(XW E x y b u v).out z)(c:b=true->ao E.T F w ρ bl u (a.eval x))(hy:b=false->ao E.T F w ρ bl v (a.eval y)) :
 ∃r,(if b then a.eval x else a.eval y)=r/\ao E.T F w ρ bl z r:=by
 have key:(D.p0 b (.ok u) (.ok v)).out z-> ∃r,(if b then a.eval x else a.eval y)=r/\ao E.T F w ρ bl z r:=λ h=>by
  rcases h with⟨af,h⟩|⟨af,h⟩
  ·have h:u=z:=h
   subst h;subst af
   exact⟨_,rfl,by simpa using c rfl⟩
  ·have h:v=z:=h
   subst h;subst af
   exact⟨_,rfl,by simpa using hy rfl⟩
 unfold XW at h
 split at h
 ·rename_i u v
  split at h
  ·rename_i r d
   have h:aF.p r=z:=h
   subst h
   refine⟨r,aiZ (a:=a) d (λ af=>?_) (λ af=>?_),by simp[ao]⟩
   ·simpa[ao]using c af
   ·simpa[ao]using hy af
  ·exact key h
 ·exact key h
theorem aLf{P:Program}{o:Oper}{a:Act}{c x y:Operand}{b:Bool}{r:Value}(ap:o.op= .pick c x y)(hc:a.eval c= .bool b)(h:(if b then a.eval x else a.eval y)=r):bc P o a w r w:=by
 cases b with
 |true=>exact RG ap hc (by simpa using h)
 |false=>exact RF ap hc (by simpa using h)
def azA(P:Program)(t:TypeId):Bool:=match P.underlying t with
 |some (.struct _)=>true
 |_=>false
def ll{El:Nat->Type}:aF El->Bool
 | .a _=>true
 | .p (.agg _)=>true
 |_=>false
def M1(E:Env)(t:Nat)(b:Bool)(u v:aF E.T.El):D (aF E.T.El):=match ll u&&ll v with
 |true=>match(E.T.e t).eq,(E.T.e t).hs (cellsOf u),(E.T.e t).hs (cellsOf v)with
  |some f,some d,some e=>.ok (.p (.bool (cond b (f d e) (!f d e))))
  |_,_,_=>.no
 |false=>.no
def agV:Value->Bool
 | .pointer none=>true
 |_=>false
def On{El:Nat->Type}:aF El->Bool
 | .b _ _=>true
 | .x _ _ _=>true
 | .e _ _ _ _ _ _ _=>true
 | .w _ _ _=>true
 |_=>false
def X0(P:Program)(t:TypeId):Bool:=match P.underlying t with
 |some (.pointer _)=>true
 |_=>false
def DU(op:BinOp)(b:Bool):Option Bool:=match op with
 | .eql=>some b
 | .neq=>some (!b)
 |_=>none
def adz(op:BinOp)(m n:Int):Option Value:=match op with
 | .quo=>some (.int .i64 (ar (m.tdiv n)))
 | .rem=>some (.int .i64 (m.tmod n))
 |_=>none
def Tq(E:Env)(t:Nat)(op:BinOp)(g_:Bool)(u v:aF E.T.El):D (aF E.T.El):=match azA E.P t,op with
 |true,.eql=>M1 E t true u v
 |true,.neq=>M1 E t false u v
 |_,_=>match u,v with
  | .p x,.p y=>match bin (kL (E.P.underlying t)) g_ op x y with
    |some r=>.ok (.p r)
    |none=>match x,y with
     | .int .i64 m,.int .i64 n=>match adz op m n with
       |some r=>.op (DT (!decide (n=0))) λ _=>.ok (.p r)
       |none=>.no
     | .int .u64 m,.int _ (.ofNat n)=>match op,iI n 64 with
       | .shr,true=>.ok (.p (.int .u64 (xM m n)))
       |_,_=>.no
     |_,_=>.no
  |u,.p y=>match X0 E.P t&&On u&&agV y,DU op false with
   |true,some b=>.ok (.p (.bool b))
   |_,_=>.no
  |_,_=>.no
theorem aLg{P:Program}{o:Oper}{a:Act}{t t':TypeId}{x y:Operand}{p:Addr}{op:BinOp}{b:Bool}(c:X0 P t=true)(af:DU op false=some b)(ap:o.op= .binOp op t x y t')(g:a.eval x= .pointer (some p))(hy:a.eval y= .pointer none):bc P o a w (.bool b) w:=by
 have f:∃e,P.underlying t=some (.pointer e):=by
  unfold X0 at c;split at c
  ·rename_i e h;exact⟨e,h⟩
  ·cases c
 obtain⟨e,f⟩:=f;have h:∀d:Nat,(Op.equalIn (d+1) t (.pointer (some p)) (.pointer none)).run P w= .ok false w:=λ d=>by
  simp[Op.equalIn,run_underlying f]
 cases op<;>simp only[DU,aD,reduceCtorEq]at af<;>subst af
 ·have J:(binOp .eql t (.pointer (some p)) (.pointer none)).run P w= .ok (.bool false) w:=by
   simp only[binOp];simp[Op.equal,Op.maxDepth,h 9999]
  simp only[bc,execOp,ap,g,hy];simp[go_sem,J]
 ·have J:(binOp .neq t (.pointer (some p)) (.pointer none)).run P w= .ok (.bool true) w:=by
   simp only[binOp];simp[Op.equal,Op.maxDepth,h 9999]
  simp only[bc,execOp,ap,g,hy];simp[go_sem,J]
theorem agW{F:Nat->Prop}{y:aF E.T.El}{v:Value}(h:On y=true)(a:ao E.T F w ρ bl y v):∃p,v= .pointer (some p):=by
 cases y<;>simp only[On,reduceCtorEq]at h
 ·simp only[ao]at a;obtain⟨g,_,rfl⟩:=a;exact⟨_,rfl⟩
 ·simp only[ao]at a;obtain⟨_,_,_,rfl,_⟩:=a;exact⟨_,rfl⟩
 ·simp only[ao]at a;cases v<;>simp[w1]at a;rename_i p;cases p<;>simp at a;exact⟨_,rfl⟩
 ·simp only[ao]at a;cases v<;>simp[w1]at a;rename_i p;cases p<;>simp at a;exact⟨_,rfl⟩
theorem JO{F:Nat->Prop}{y:aF E.T.El}{v:Value}(h:ll y=true)(a:ao E.T F w ρ bl y v):v= .agg ⟨v.cells.toList⟩:=by
 cases y<;>simp only[ll,reduceCtorEq]at h
 ·rename_i u
  simp only[ao]at a
  subst a
  cases v<;>simp only[ll,reduceCtorEq]at h
  simp[Value.cells]
 ·simp only[ao]at a
  obtain⟨vs,rfl,_⟩:=a
  simp[Value.cells]
theorem avi(aZ:cX E){F:Nat->Prop}{o:Oper}{a:Act}{t:Nat}{op:BinOp}{g_:Bool}{x y:Operand}{t':TypeId}{u v z:aF E.T.El}(h:(Tq E t op g_ u v).out z)(ap:o.op= .binOp op t x y t')(C:g_=true-> ∀k n,a.eval y= .int k n->n≠0)
 (i:ao E.T F w ρ bl u (a.eval x))(hy:ao E.T F w ρ bl v (a.eval y)):∃r,kY E.P o a r/\ao E.T F w ρ bl z r:=by
 have A:∀ {b:Bool},op=cond b .eql .neq->(M1 E t b u v).out z-> ∃r,kY E.P o a r/\ao E.T F w ρ bl z r:=λ{b} af h=>by
  unfold M1 at h;split at h
  ·rename_i j
   simp only[bC]at j
   split at h
   ·rename_i f d e c J D
    have h:aF.p (.bool (cond b (f d e) (!f d e)))=z:=h
    subst h
    have l:=aZ.tb.hs _ _ _ J _ _ _ _ _ (oV i)
    have s:=aZ.tb.hs _ _ _ D _ _ _ _ _ (oV hy)
    exact⟨.bool (cond b (f d e) (!f d e)),λ w'=>aZ.eq t f c _ _ _ _ d e l s o a x y t' b (by rw[ap,af]) (JO j.1 i) (JO j.2 hy) w',by simp only[ao]⟩
   ·exact h.elim
  ·exact h.elim
 unfold Tq at h
 split at h
 ·exact A (b:=true) rfl h
 ·exact A (b:=false) rfl h
 ·split at h
  ·rename_i p q
   simp only[ao]at i hy
   split at h
   ·rename_i r g
    have h:aF.p r=z:=h
    subst h
    exact⟨r,λ w'=>acR (λ k G=>w3 G) C g ap i hy,by simp only[ao]⟩
   ·split at h
    ·rename_i m n
     split at h
     ·rename_i r g
      obtain⟨b,c,J⟩:=h
      have J:aF.p r=z:=J
      subst J
      have B:=Xx c
      refine⟨r,λ w'=>?_,by simp only[ao]⟩
      unfold adz at g
      split at g
      ·simp only[aD]at g;subst g;exact anP ap i hy B
      ·simp only[aD]at g;subst g;exact anQ ap i hy B
      ·cases g
     ·exact h.elim
    ·rename_i m k n _
     split at h
     ·rename_i af _
      have h:aF.p (.int .u64 (xM m n))=z:=h
      subst h
      exact⟨_,λ w'=>aLi (by assumption) ap i hy,by simp only[ao]⟩
     ·exact h.elim
    ·exact h.elim
  ·rename_i q _
   split at h
   ·rename_i b c J
    have h:aF.p (.bool b)=z:=h
    subst h
    simp only[bC]at c
    simp only[ao]at hy
    obtain⟨p,H⟩:=agW c.1.2 i
    have I:q= .pointer none:=by
     cases q<;>simp only[agV,reduceCtorEq,and_false]at c;rename_i K;cases K<;>simp at c⊢
    exact⟨_,λ w'=>aLg c.1.1 J ap H (by rw[hy,I]),by simp only[ao]⟩
   ·exact h.elim
  ·exact h.elim
end
end a8
namespace a8
open Go Go.RowKit aq I
def oy(P:Program)(t:TypeId):Option (Nat×Nat):=match P.underlying t with
 |some (.slice e)=>match P.info? e with
  |some i=>some (e,i.size)
  |none=>none
 |_=>none
theorem sD{P:Program}{t e n:Nat}(h:oy P t=some (e,n)):P.underlying t=some (.slice e)/\ ∀w,(Go.sizeOf e).run P w= .ok n w:=by
 unfold oy at h;split at h
 ·rename_i e' a
  split at h
  ·rename_i i J
   simp only[aD,b5]at h
   obtain⟨rfl,rfl⟩:=h
   exact⟨a,run_sizeOf J⟩
  ·cases h
 ·cases h
def Tw(E:Env)(bl:List (aC E.T.El))(t:Nat):aF E.T.El->aF E.T.El->D (aF E.T.El)
 | .s t' l,.p (.int .i64 j)=>match oy E.P t with
   |some (_,n)=>match bP n (E.T.ty t').size with
    |true=>.op (idx l j) λ d=>.ok (.x t' d 0)
    |false=>.no
   |none=>.no
 | .q t' l,.p (.int .i64 j)=>match oy E.P t with
   |some (_,n)=>match bP n (E.T.ty t').size with
    |true=>.op (idx l j) λ d=>.ok (.x t' d 0)
    |false=>.no
   |none=>.no
 | .r i g,.p (.int .i64 j)=>match oy E.P t,nth bl i with
   |some (_,n),some (.r t' a k l)=>match bP g a&&bP n (E.T.ty t').size with
    |true=>.op (idx l j) λ d=>.ok (.e i g k t' j d 0)
    |false=>.no
   |some (_,n),some (.k _ sz a cs)=>match bP g a&&bP n sz&&decide (0<=j)&&iI ((j.toNat+1)*sz) cs.length&&ee 0 sz with
    |true=>.ok (.w i g (j.toNat*sz))
    |false=>.no
   |_,_=>.no
 | .v i g lo hi,.p (.int .i64 j)=>match oy E.P t,nth bl i with
   |some (_,n),some (.r t' a k l)=>match bP g a&&bP n (E.T.ty t').size with
    |true=>.op (idx ((l.take hi.toNat).drop lo.toNat) j) λ d=>.ok (.e i g k t' (lo+j) d 0)
    |false=>.no
   |_,_=>.no
 | .pp i g sz dR,.p (.int .i64 j)=>match oy E.P t with
   |some (_,n)=>match bP n 1 with
    |true=>.op (idx dR j) λ q=>.ok (.Av i g sz q)
    |false=>.no
   |none=>.no
 |_,_=>.no
theorem azg{α:Type}{l:List α}{lo hi j:Int}{d:α}(e:0<=lo)(f:hi<=l.length)(h:idx ((l.take hi.toNat).drop lo.toNat) j=some d):idx l (lo+j)=some d/\0<=j/\lo+j<hi:=by
 obtain⟨a,b,c⟩:=lk h;simp only[kp,fP]at b;rw[iN,gI]at c;split at c
 ·refine⟨?_,a,by omega⟩
  unfold idx
  rw[if_pos (by omega),show(lo+j).toNat=lo.toNat+j.toNat by omega]
  exact c
 ·cases c
section
variable{E:Env}{W w:World}{M0:List Nat}{X:Nat->Prop}{bl:List (aC E.T.El)}{ρ:List Value}
theorem G2{t sz n c:Nat}{A:Option Addr}{xs:List Value}(h:rowIs w t sz (.slice A n c) n xs)(a:0<n):∃g,A=some ⟨g,0,none⟩:=h.cap.2.2.2 (by have:=h.cap.1;omega)
theorem P5{t sz n c:Nat}{A:Option Addr}{xs:List Value}(h:rowIs w t sz (.slice A n c) n xs):n<=c:=h.cap.1
theorem aeH{F:Nat->Prop}{t':Nat}{l:List (E.T.El t')}{o:Oper}{a:Act}{t e n:Nat}{x y:Operand}{j:Int}{d:E.T.El t'}{A:Option Addr}{c:Nat}(aj:oy E.P t=some (e,n))(g:n=(E.T.ty t').size)(b:idx l j=some d)(ap:o.op= .indexAddr t x y)
 (h:a.eval x= .slice A l.length c)(f:(bY (E.T.ty t')).rd F w [.slice A l.length c] l)(hy:a.eval y= .int .i64 j):∃r,kY E.P o a r/\ao E.T F w ρ bl (.x t' d 0) r:=by
 have i:=b
 obtain⟨k,m⟩:=sD aj
 obtain⟨p,aA,cs,q,s⟩:=D7 _ f b
 refine⟨_,λ w'=>pN k m ap h hy p aA,?_⟩
 simp only[ao]
 obtain⟨cb,z,e1,e2,e3,e4,e5⟩:=(f:(bY _).rd _ w _ l)
 have u:l≠[]:=by intro e;subst e;have:=(lk i).2.1;simp at this
 have v:=(e5 u).2.1
 simp only[hh,Value.slice.injEq,and_true,true_and]at e1
 obtain⟨rfl,rfl⟩:=e1
 exact⟨dm A,fG A+j.toNat*(E.T.ty t').size,cs,by rw[g];simp,v,q,s⟩
theorem avp{o:Oper}{a:Act}{t:Nat}{x y:Operand}{u v z:aF E.T.El}(D:Mem E.T W M0 X bl ρ w)(h:(Tw E bl t u v).out z)(ap:o.op= .indexAddr t x y)
 (b:ao E.T (bi X bl ρ w) w ρ bl u (a.eval x))(hy:ao E.T (bi X bl ρ w) w ρ bl v (a.eval y)):∃r,kY E.P o a r/\ao E.T (bi X bl ρ w) w ρ bl z r:=by
 unfold Tw at h
 split at h
 ·rename_i t' l j
  split at h
  ·rename_i e n aj
   split at h
   ·rename_i af
    obtain⟨d,f,J⟩:=h
    have J:aF.x t' d 0=z:=J
    subst J
    simp only[ao]at b hy
    obtain⟨A,c,F⟩:=mj _ b
    rw[F]at b
    exact aeH aj (a_ af) f ap F b hy
   ·exact h.elim
  ·exact h.elim
 ·rename_i t' l j
  split at h
  ·rename_i e n aj
   split at h
   ·rename_i af
    obtain⟨d,f,J⟩:=h
    have J:aF.x t' d 0=z:=J
    subst J
    simp only[ao]at b hy
    obtain⟨A,c,F⟩:=mj _ b.1
    have b:=b.1
    rw[F]at b
    exact aeH aj (a_ af) f ap F b hy
   ·exact h.elim
  ·exact h.elim
 ·rename_i i g j
  split at h
  ·rename_i e n t' P k l aj hi
   rw[cW]at hi
   split at h
   ·rename_i af
    simp only[bC]at af
    obtain⟨d,f,J⟩:=h
    have J:aF.e i g k t' j d 0=z:=J
    subst J
    simp only[ao]at b hy
    obtain⟨_,aK,p,s,C⟩:=b
    rw[hi]at s C
    have G:=C (a_ af.1)
    obtain⟨A,c,xs,e1,e2,e3⟩:=D.ok i _ _ hi p
    subst e1
    obtain⟨L,Q,C0⟩:=lk f
    obtain⟨gb,rfl⟩:=G2 e2 (by omega)
    obtain⟨H,I⟩:=sD aj
    have K:=a_ af.2
    refine⟨_,λ w'=>pN H I ap G hy rfl ⟨L,by omega⟩,?_⟩
    simp only[ao]
    refine⟨trivial,_,p,by rw[hi];exact s,λ _=>⟨⟨_,_,_,rfl,L,by omega,by simp[dm,fG,hi,jk,K]⟩,by rw[hi];exact cu _,λ _=>⟨l,by rw[hi];rfl,f⟩⟩⟩
   ·exact h.elim
  ·rename_i e n t' sz P cs aj hi
   rw[cW]at hi
   split at h
   ·rename_i af
    simp only[bC,decide_eq_true_eq]at af
    obtain⟨⟨⟨⟨bO,U⟩,gd⟩,M⟩,R⟩:=af
    have h:aF.w i g (j.toNat*sz)=z:=h
    subst h
    simp only[ao]at b hy
    obtain⟨_,aK,p,s,C⟩:=b
    rw[hi]at s C
    have G:=C (a_ bO)
    obtain⟨A,m,c,xs,e1,e2,e3⟩:=D.ok i _ _ hi p
    subst e1
    have M:=ck M
    have R:=ck R
    have S:=e3.len
    have V:=e2.len
    have Y:j.toNat<m:=by
     rcases fN j.toNat m with q |q
     ·exact q
     ·have:=jx sz q
      rw[jr]at M
      omega
    obtain⟨gb,rfl⟩:=G2 e2 (by omega)
    obtain⟨H,I⟩:=sD aj
    have K:=a_ U
    refine⟨_,λ w'=>pN H I ap G hy rfl ⟨gd,by omega⟩,?_⟩
    simp only[ao]
    exact⟨trivial,_,p,by rw[hi];exact s,λ _=>⟨_,_,_,rfl,by omega,by simp[dm,fG,K]⟩⟩
   ·exact h.elim
  ·exact h.elim
 ·rename_i i g lo cS j
  split at h
  ·rename_i e n t' P k l aj hi
   rw[cW]at hi
   split at h
   ·rename_i af
    simp only[bC]at af
    obtain⟨d,f,J⟩:=h
    have J:aF.e i g k t' (lo+j) d 0=z:=J
    subst J
    simp only[ao]at b hy
    obtain⟨_,aK,p,s,C⟩:=b
    rw[hi]at s C
    obtain⟨cb,eR,bE,B,N,l0,l1,Z,G,_,bK⟩:=C (a_ af.1)
    obtain⟨A,c,xs,e1,e2,e3⟩:=D.ok i _ _ hi p
    rw[e1]at N e2
    simp only[Value.slice.injEq]at N
    obtain⟨rfl,rfl,rfl⟩:=N
    obtain⟨k8,O,kK⟩:=azg l0 Z f
    obtain⟨gb,rfl⟩:=G2 e2 (by omega)
    have tJ:=P5 e2
    obtain⟨H,I⟩:=sD aj
    have K:=a_ af.2
    rw[bK (by omega)]at G
    simp only[fI,k3]at G
    refine⟨_,λ w'=>pN H I ap G hy rfl ⟨O,by omega⟩,?_⟩
    simp only[ao]
    refine⟨trivial,_,p,by rw[hi];exact s,λ _=>⟨⟨_,_,_,e1,by omega,by omega,?_⟩,by rw[hi];exact cu _,λ _=>⟨l,by rw[hi];rfl,k8⟩⟩⟩
    rw[hi]
    have:(lo+j).toNat=lo.toNat+j.toNat:=by omega
    simp[dm,fG,jk,K,this,jr]
   ·exact h.elim
  ·exact h.elim
 ·rename_i i g sz dR j
  split at h
  ·rename_i e n aj
   split at h
   ·rename_i af
    obtain⟨q,f,J⟩:=h
    have J:aF.Av i g sz q=z:=J
    subst J
    simp only[ao]at b hy
    obtain⟨A,c,F,_,_,a'⟩:=b
    obtain⟨L,Q,C0⟩:=lk f
    have bX:dR≠[]:=by intro e;subst e;simp at Q
    obtain⟨cI,ay,xs,bh,bd⟩:=a' bX
    obtain⟨u,u1,u2⟩:=bh.at_ C0
    obtain⟨H,I⟩:=sD aj
    have K:=a_ af
    refine⟨_,λ w'=>pN H I ap F hy cI ⟨L,by omega⟩,?_⟩
    simp only[ao]
    refine⟨dm A,fG A+j.toNat,u,by rw[K];simp,ay,u2,λ m y D=>?_⟩
    cases m with
    |zero=>
     simp only[de,aD]at D
     subst D
     simpa using bd _ _ u1
    |succ m=>simp at D
   ·exact h.elim
  ·exact h.elim
 ·exact h.elim
def Tz(E:Env)(bl:List (aC E.T.El))(t:Nat):aF E.T.El->D (aF E.T.El)
 | .p (.string ⟨⟨p⟩⟩)=>match kL (E.P.underlying t)with
   |some .s=>.ok (.p (.int .i64 (p.length:Int)))
   |_=>.no
 | .p (.slice _ n _)=>match kL (E.P.underlying t)with
   |some .ch=>.ok (.p (.int .i64 (n:Int)))
   |_=>.no
 | .s _ l=>match kL (E.P.underlying t)with
   |some .ch=>.ok (.p (.int .i64 (l.length:Int)))
   |_=>.no
 | .q _ l=>match kL (E.P.underlying t)with
   |some .ch=>.ok (.p (.int .i64 (l.length:Int)))
   |_=>.no
 | .pp _ _ _ l=>match kL (E.P.underlying t)with
   |some .ch=>.ok (.p (.int .i64 (l.length:Int)))
   |_=>.no
 | .r i g=>match kL (E.P.underlying t),nth bl i with
   |some .ch,some (.r _ a _ l)=>match bP g a with
    |true=>.ok (.p (.int .i64 (l.length:Int)))
    |false=>.no
   |some .ch,some (.k _ sz a cs)=>match bP g a&&ee 0 sz with
    |true=>.ok (.p (.int .i64 ((cs.length / sz:Nat):Int)))
    |false=>.no
   |_,_=>.no
 | .v i g lo hi=>match kL (E.P.underlying t)with
   |some .ch=>match bP g (tG bl i)with
    |true=>.ok (.p (.int .i64 (hi-lo)))
    |false=>.no
   |_=>.no
 |_=>.no
theorem avt{o:Oper}{a:Act}{t:Nat}{x:Operand}{u z:aF E.T.El}(y:Mem E.T W M0 X bl ρ w)(h:(Tz E bl t u).out z)(ap:o.op= .call { callee:=.builtin .len,args:=#[x],argTypes:=#[t] })
 (d:ao E.T (bi X bl ρ w) w ρ bl u (a.eval x)):∃r,kY E.P o a r/\ao E.T (bi X bl ρ w) w ρ bl z r:=by
 have fin:∀ {A:Option Addr}{n c:Nat},kL (E.P.underlying t)=some .ch->a.eval x= .slice A n c->(D.ok (aF.p (.int .i64 (n:Int)))).out z-> ∃r,kY E.P o a r/\ao E.T (bi X bl ρ w) w ρ bl z r:=λ{A n c} b f h=>by
  have h:aF.p (.int .i64 (n:Int))=z:=h;subst h;obtain⟨e,F⟩:=(w3 b:nD.ok E.P t .ch)
  exact⟨_,λ w'=>anK F ap f,by simp only[ao]⟩
 unfold Tz at h
 split at h
 ·rename_i p
  split at h
  ·rename_i b
   have h:aF.p (.int .i64 (p.length:Int))=z:=h
   subst h
   simp only[ao]at d
   exact⟨_,λ w'=>anL (w3 b) ap d,by simp only[ao]⟩
  ·exact h.elim
 ·split at h
  ·rename_i b;simp only[ao]at d;exact fin b d h
  ·exact h.elim
 ·split at h
  ·rename_i b;simp only[ao]at d;obtain⟨A,c,f⟩:=mj _ d;exact fin b f h
  ·exact h.elim
 ·split at h
  ·rename_i b;simp only[ao]at d;obtain⟨A,f⟩:=d.2;exact fin b f h
  ·exact h.elim
 ·split at h
  ·rename_i b;simp only[ao]at d;obtain⟨A,c,f,_⟩:=d;exact fin b f h
  ·exact h.elim
 ·rename_i i g
  split at h
  ·rename_i t' G k l b hi
   rw[cW]at hi
   split at h
   ·rename_i af
    simp only[ao]at d
    obtain⟨_,aK,s,C,j⟩:=d
    rw[hi]at j
    obtain⟨A,c,xs,e1,_⟩:=y.ok i _ _ hi s
    exact fin b ((j (a_ af)).trans e1) h
   ·exact h.elim
  ·rename_i t' sz G cs b hi
   rw[cW]at hi
   split at h
   ·rename_i af
    simp only[bC]at af
    simp only[ao]at d
    obtain⟨_,aK,s,C,j⟩:=d
    rw[hi]at j
    obtain⟨A,m,c,xs,e1,e2,e3⟩:=y.ok i _ _ hi s
    have q:=e3.len
    have J:=e2.len
    have H:=ck af.2
    have I:cs.length / sz=m:=by rw[<-q,J];exact Nat.mul_div_cancel _ H
    rw[I]at h
    exact fin b ((j (a_ af.1)).trans e1) h
   ·exact h.elim
  ·exact h.elim
 ·rename_i i g lo v
  split at h
  ·rename_i b
   split at h
   ·rename_i af
    have af:=a_ af
    rw[CK]at af
    simp only[ao]at d
    obtain⟨_,aK,s,C,j⟩:=d
    obtain⟨A,m,c,B,K,l0,l1,L,f,_⟩:=j af
    refine fin b f ?_
    have h:aF.p (.int .i64 (v-lo))=z:=h
    rw[<-h,show((v.toNat-lo.toNat:Nat):Int)=v-lo by omega]
    exact rfl
   ·exact h.elim
  ·exact h.elim
 ·exact h.elim
end
end a8
namespace a8
open Go Go.RowKit aq I
theorem atx{α:Type}{T:cY α}{F:Nat->Prop}{w:World}{A:Option Addr}{c:Nat}{li r:List α}{i j:Int}(h:(bY T).rd F w [.slice A li.length c] li)(f:cut li i j=some r) :
 (bY T).rd F w [.slice (if c=i.toNat then A else A.map (·.add (i.toNat*T.size))) (j.toNat-i.toNat) (c-i.toNat)] r/\j.toNat-i.toNat=r.length/\li.length<=c:=by
 obtain⟨⟨v,x,J⟩,rfl⟩:=S1 f
 obtain⟨y,c1,e1,e2,e3,e4,e5⟩:=h
 simp only[hh,Value.slice.injEq,and_true,true_and]at e1
 obtain⟨rfl,rfl⟩:=e1
 have a:((li.take j.toNat).drop i.toNat).length=j.toNat-i.toNat:=by rw[kp,fP];omega
 refine⟨?_,a.symm,e2⟩
 refine⟨_,c-i.toNat,by rw[a],by rw[a];omega,by omega,λ d=>?_,λ g=>?_⟩
 ·split at d
  ·have:=e4 d;omega
  ·cases A with
   |none=>have:=e4 rfl;omega
   |some dW=>cases d
 ·have k:0<((li.take j.toNat).drop i.toNat).length:=kV.2 g
  have l:li≠[]:=by intro e;subst e;simp at k
  obtain⟨m,n,xs,o,p⟩:=e5 l
  have s:c≠i.toNat:=by omega
  rw[if_neg s,m]
  refine⟨?_,?_⟩
  ·simp only[fI,k3]
   rfl
  simp only[fI,k3]
  refine⟨n,_,uG i.toNat j.toNat o,λ q u t=>?_⟩
  have b:(xs.take (j.toNat*T.size))[i.toNat*T.size+q]? =some u:=by rwa [iN]at t
  rw[gI]at b
  split at b
  ·have:=p (i.toNat*T.size+q) u b
   simpa[dm,fG,jK]using this
  ·cases b
def rC{El:Nat->Type}(z:Int):Option (aF El)->Option Int
 |none=>some z
 |some (.p (.int .i64 n))=>some n
 |_=>none
def sJ(n:Nat)(lo hi:Int):Option Unit:=if 0<=lo/\lo<=hi/\hi<=(n:Int)then some ()else none
theorem ak6{n:Nat}{lo hi:Int}{u:Unit}(h:sJ n lo hi=some u):0<=lo/\lo<=hi/\hi<=(n:Int):=by
 unfold sJ at h;split at h
 ·assumption
 ·cases h
def HK{El:Nat->Type}:Option (aF El)->Bool
 |none=>true
 |some (.p (.int .i64 (.ofNat 0)))=>true
 |_=>false
def Tu(E:Env)(bl:List (aC E.T.El))(t:Nat)(u:aF E.T.El)(lo hi:Option (aF E.T.El)):D (aF E.T.El):=match u with
 | .s t' l=>match oy E.P t,rC 0 lo,rC (l.length:Int) hi with
   |some (_,n),some i,some j=>match bP n (E.T.ty t').size with
    |true=>.op (cut l i j) λ r=>.ok (.s t' r)
    |false=>.no
   |_,_,_=>.no
 | .p (.string ⟨⟨p⟩⟩)=>match kL (E.P.underlying t),rC 0 lo,rC (p.length:Int) hi with
   |some .s,some i,some j=>.op (cut p i j) λ r=>.ok (.p (cj r))
   |_,_,_=>.no
 | .r i g=>match oy E.P t,nth bl i with
   |some (_,n),some (.r t' c _ l)=>match rC 0 lo,rC (l.length:Int) hi,bP g c&&bP n (E.T.ty t').size with
    |some a,some b,true=>.op (sJ l.length a b) λ _=>.ok (.v i g a b)
    |_,_,_=>.no
   |_,_=>.no
 | .v i g p q=>match oy E.P t,nth bl i with
   |some (_,n),some (.r t' c _ l)=>match rC 0 lo,rC (q-p) hi,bP g c&&bP n (E.T.ty t').size with
    |some a,some b,true=>.op (sJ (q-p).toNat a b) λ _=>.ok (.v i g (p+a) (p+b))
    |_,_,_=>.no
   |_,_=>.no
 | .p (.slice none 0 0)=>match oy E.P t,HK lo&&HK hi with
   |some _,true=>.ok (.p (.slice none 0 0))
   |_,_=>.no
 |_=>.no
section
variable{E:Env}{W w:World}{M0:List Nat}{X:Nat->Prop}{bl:List (aC E.T.El)}{ρ:List Value}{a:Act}
def Cm(E:Env)(F:Nat->Prop)(w:World)(ρ:List Value)(bl:List (aC E.T.El))(a:Act):Option Operand->Option (aF E.T.El)->Prop
 |none,none=>True
 |some x,some y=>ao E.T F w ρ bl y (a.eval x)
 |_,_=>False
theorem vW{F:Nat->Prop}{lo:Option Operand}{u:Option (aF E.T.El)}{z i:Int}(h:Cm E F w ρ bl a lo u)(af:rC z u=some i):(lo=none/\i=z)\/ ∃x,lo=some x/\a.eval x= .int .i64 i:=by
 cases lo with
 |none=>
  cases u with
  |none=>simp only[rC,aD]at af;exact .inl ⟨rfl,af.symm⟩
  |some y=>exact h.elim
 |some x=>
  cases u with
  |none=>exact h.elim
  |some y=>
   right
   refine⟨x,rfl,?_⟩
   have h:ao E.T F w ρ bl y (a.eval x):=h
   unfold rC at af
   split at af
   ·rename_i e;cases e
   ·rename_i n e
    simp only[aD]at e af
    subst e;subst af
    simpa only[ao]using h
   ·cases af
theorem RL{F:Nat->Prop}{lo:Option Operand}{u:Option (aF E.T.El)}(h:Cm E F w ρ bl a lo u)(af:HK u=true):(lo=none/\(0 :Int)=0)\/ ∃x,lo=some x/\a.eval x= .int .i64 0:=by
 refine vW (z:=0) (i:=0) h ?_;unfold HK at af;split at af
 ·rfl
 ·rfl
 ·cases af
theorem avm{o:Oper}{t:Nat}{x:Operand}{lo hi:Option Operand}{u z:aF E.T.El}{D F:Option (aF E.T.El)}(P:Mem E.T W M0 X bl ρ w)(h:(Tu E bl t u D F).out z)(ap:o.op= .slice t x lo hi none)
 (d:ao E.T (bi X bl ρ w) w ρ bl u (a.eval x))(G:Cm E (bi X bl ρ w) w ρ bl a lo D)(kD:Cm E (bi X bl ρ w) w ρ bl a hi F):∃r,kY E.P o a r/\ao E.T (bi X bl ρ w) w ρ bl z r:=by
 unfold Tu at h
 split at h
 ·rename_i t' l
  split at h
  ·rename_i e n i j aj v J
   split at h
   ·rename_i af
    obtain⟨r,m,b⟩:=h
    have b:aF.s t' r=z:=b
    subst b
    obtain⟨y,C⟩:=sD aj
    simp only[ao]at d
    obtain⟨A,c,Q⟩:=mj _ d
    rw[Q]at d
    obtain⟨U,bd,V⟩:=atx d m
    have H:=a_ af
    subst H
    exact⟨_,λ w'=>RB y C ap Q (vW G v) (vW kD J) (S1 m).1 V,by simp only[ao];exact U⟩
   ·exact h.elim
  ·exact h.elim
 ·rename_i p
  split at h
  ·rename_i i j Y v J
   obtain⟨r,m,b⟩:=h
   have b:aF.p (cj r)=z:=b
   subst b
   simp only[ao]at d
   exact⟨_,λ w'=>aKZ (w3 Y) ap d (vW G v) (vW kD J) m,by simp only[ao]⟩
  ·exact h.elim
 ·rename_i i g
  split at h
  ·rename_i e n t' Z k l aj f
   rw[cW]at f
   split at h
   ·rename_i p q v J af
    simp only[bC]at af
    obtain⟨r,m,b⟩:=h
    have b:aF.v i g p q=z:=b
    subst b
    obtain⟨y,C⟩:=sD aj
    simp only[ao]at d
    obtain⟨_,aK,I,K,L⟩:=d
    rw[f]at K L
    have M:=L (a_ af.1)
    obtain⟨A,c,xs,e1,e2,e3⟩:=P.ok i _ _ f I
    rw[e1]at M e2
    obtain⟨v0,v1,N⟩:=ak6 m
    have H:=a_ af.2
    subst H
    refine⟨_,λ w'=>RB y C ap M (vW G v) (vW kD J) ⟨v0,v1,N⟩ (P5 e2),?_⟩
    simp only[ao]
    have cI:A=A.map (·.add (0*(E.T.ty t').size)):=by
     cases A<;>simp[Addr.add]
    refine⟨trivial,aK,I,by rw[f];exact K,λ _=>⟨A,_,c,_,e1,v0,v1,N,rfl,λ e=>?_,λ e=>?_⟩⟩
    ·subst e
     split
     ·rfl
     ·exact cI.symm
    ·rw[if_neg (by have:=P5 e2;omega),f];rfl
   ·exact h.elim
  ·exact h.elim
 ·rename_i i g p q
  split at h
  ·rename_i e n t' Z k l aj f
   rw[cW]at f
   split at h
   ·rename_i s r v J af
    simp only[bC]at af
    obtain⟨_,m,b⟩:=h
    have b:aF.v i g (p+s) (p+r)=z:=b
    subst b
    obtain⟨y,C⟩:=sD aj
    simp only[ao]at d
    obtain⟨_,aK,I,K,L⟩:=d
    rw[f]at K L
    obtain⟨cb,eR,bE,B,O,l0,l1,cA,M,NF,bK⟩:=L (a_ af.1)
    obtain⟨A,c,xs,e1,e2,e3⟩:=P.ok i _ _ f I
    rw[e1]at O e2
    simp only[Value.slice.injEq]at O
    obtain⟨rfl,rfl,rfl⟩:=O
    have tJ:=P5 e2
    obtain⟨v0,v1,N⟩:=ak6 m
    have H:=a_ af.2
    subst H
    have R:=vW kD J
    rw[show q-p=((q.toNat-p.toNat:Nat):Int) by omega]at R
    refine⟨_,λ w'=>RB y C ap M (vW G v) R ⟨v0,v1,by omega⟩ (by omega),?_⟩
    simp only[ao]
    have S:(p+s).toNat=p.toNat+s.toNat:=by omega
    have kI:(p+r).toNat=p.toNat+r.toNat:=by omega
    refine⟨trivial,aK,I,by rw[f];exact K,λ _=>⟨A,_,c,(if c-p.toNat=s.toNat then B else B.map (·.add (s.toNat*(E.T.ty t').size))),e1,by omega,by omega,by omega,?_,λ e=>?_,λ e=>?_⟩⟩
    ·rw[S,kI,show p.toNat+r.toNat- (p.toNat+s.toNat)=r.toNat-s.toNat by omega,show c-p.toNat-s.toNat=c- (p.toNat+s.toNat) by omega]
    ·have VR:p=0:=by omega
     have C8:s=0:=by omega
     subst VR;subst C8
     rw[NF rfl]
     split
     ·rfl
     ·cases A<;>simp[Addr.add]
    ·obtain⟨gb,rfl⟩:=G2 e2 (by omega)
     rw[if_neg (by omega),bK (by omega),f]
     simp[k3,jk,S,jr]
   ·exact h.elim
  ·exact h.elim
 ·split at h
  ·rename_i e aj af
   have h:aF.p (.slice none 0 0)=z:=h
   subst h
   simp only[bC]at af
   obtain⟨y,C⟩:=sD aj
   simp only[ao]at d
   exact⟨_,λ w'=>aKY y C ap d (RL G af.1) ((RL kD af.2).imp (λ h=>⟨h.1,rfl⟩) id),by simp only[ao]⟩
  ·exact h.elim
 ·exact h.elim
end
end a8
namespace a8
open Go Go.RowKit aq I
def uh{cJ β:Type}(K:hZ cJ)(d:List (cJ×β))(k:cJ):Option β:=@cF cJ β K.dec d k
def jR{cJ β:Type}(K:hZ cJ)(d:List (cJ×β))(k:cJ):Option Nat:=@ph cJ β K.dec d k
def uj{cJ β:Type}(K:hZ cJ)(d:List (cJ×β))(k:cJ)(v:β):List (cJ×β):=@gC cJ β K.dec d k v
abbrev hZ.enc{cJ:Type}(K:hZ cJ):cJ->Value:=@lL.enc cJ K.dec K.r9
abbrev hZ.desc{cJ:Type}(K:hZ cJ):TypeDesc:=@lL.desc cJ K.dec K.r9
section
variable{T:bN}{F:Nat->Prop}{w:World}{kt vt:Nat}{K:hZ (T.El kt)}
theorem TQ(k:T.El kt):∀ {es:List MapEntry}{d:List (T.El kt×T.El vt)}(i:Nat),jB T F w K es d ->
 (uh K d k=none/\jR K d k=none/\Instr.findNow K.desc (K.enc k) es i=some none)\/(∃p x v,uh K d k=some x/\jR K d k=some p/\Co T F w vt x v/\Instr.findNow K.desc (K.enc k) es i=some (some (i+p,v)))
 |[],[],i,_=>.inl ⟨rfl,rfl,rfl⟩
 |[],_::_,_,h=>h.elim
 |_::_,[],_,h=>h.elim
 |e::es,p::d,i,h=>by
  obtain⟨g,J,j⟩:=h;have aj:Instr.sameNow K.desc (K.enc k) e.key=some (@decide (p.1=k) (K.dec p.1 k)):=by rw[g];exact @lL.same _ K.dec K.r9 k p.1
  by_cases a:p.1=k
  ·right
   refine⟨0,p.2,e.val,?_,?_,J,?_⟩
   ·simp only[uh,cF,if_pos a]
   ·simp only[jR,ph,if_pos a]
   ·simp only[Instr.findNow,aj,a,decide_true,lC]
  ·have e1:Instr.findNow K.desc (K.enc k) (e::es) i=Instr.findNow K.desc (K.enc k) es (i+1):=by simp only[Instr.findNow,aj,a,decide_false]
   rcases TQ k (i+1) j with⟨c,b,f⟩|⟨q,x,v,c,b,f,l⟩
   ·left
    refine⟨?_,?_,by rw[e1];exact f⟩
    ·simp only[uh,cF,if_neg a];exact c
    ·simp only[jR,ph,if_neg a]
     simp only[jR]at b
     rw[b];rfl
   ·right
    refine⟨q+1,x,v,?_,?_,f,?_⟩
    ·simp only[uh,cF,if_neg a];exact c
    ·simp only[jR,ph,if_neg a]
     simp only[jR]at b
     rw[b];rfl
    ·rw[e1,l,show i+1+q=i+(q+1) by omega]
theorem jB.len:∀ {es:List MapEntry}{d:List (T.El kt×T.El vt)},jB T F w K es d->es.length=d.length
 |[],[],_=>rfl
 |[],_::_,h=>h.elim
 |_::_,[],h=>h.elim
 |_::_,_::_,h=>by simp[jB.len h.2.2]
theorem Zw{P:Program}{es:Array MapEntry}{d:List (T.El kt×T.El vt)}{t:Nat}(k:T.El kt)(c:P.underlying t=some K.desc)(e:jB T F w K es.toList d)(w':World) :
 (uh K d k=none/\jR K d k=none/\(Instr.findKey t (K.enc k) es.toList).run P w'= .ok none w')\/(∃p x v,uh K d k=some x/\jR K d k=some p/\Co T F w vt x v/\(Instr.findKey t (K.enc k) es.toList).run P w'= .ok (some (p,v)) w'):=by
 rcases TQ k 0 e with⟨a,J,b⟩|⟨p,x,v,a,J,b,f⟩
 ·left
  refine⟨a,J,?_⟩
  simp only[Instr.findKey,Sem.run_bind,run_underlying c,Result.andThen_ok,b]
  rfl
 ·right
  refine⟨p,x,v,a,J,b,?_⟩
  simp only[Instr.findKey,Sem.run_bind,run_underlying c,Result.andThen_ok,f,ji]
  rfl
end
def MT:Option TypeDesc->TypeDesc->Bool
 |some (.int k),.int k'=>mO k k'
 |some .string,.string=>true
 |_,_=>false
theorem adv{o:Option TypeDesc}{d:TypeDesc}(h:MT o d=true):o=some d:=by
 unfold MT at h;split at h
 ·rw[pa h]
 ·rfl
 ·cases h
def abX:Value->Bool->Bool
 | .agg _,b=>b
 |_,b=>!b
def HL(P:Program)(t:TypeId):Option Value:=match P.info? t with
 |some i=>i.zero
 |none=>none
theorem aLl{P:Program}{t:TypeId}{z:Value}(h:HL P t=some z):∀w,(zeroValue t).run P w= .ok z w:=by
 unfold HL at h;split at h
 ·rename_i i a
  intro w
  simp only[zeroValue,typeInfo,Sem.run_bind]
  simp[go_sem,a,h]
 ·cases h
theorem an2{z:Value}{b:Bool}(h:abX z b=true):z=Am b z.cells.toList:=by
 unfold abX at h;split at h
 ·rename_i cs
  subst h
  obtain⟨vs⟩:=cs
  rfl
 ·rename_i a
  have af:b=false:=by simpa using h
  subst af
  cases z<;>first |rfl |exact(a _ rfl).elim
def yo(E:Env)(vt a:Nat):Option (E.T.El vt):=match HL E.P a with
 |some z=>match abX z (E.T.e vt).agg with
  |true=>(E.T.e vt).hs (z.cells.toList.map .p)
  |false=>none
 |none=>none
def mapOf(P:Program)(t:TypeId):Option (Nat×Nat):=match P.underlying t with
 |some (.map k e)=>some (k,e)
 |_=>none
theorem W7{P:Program}{t k e:Nat}(h:mapOf P t=some (k,e)):P.underlying t=some (.map k e):=by
 unfold mapOf at h;split at h
 ·rename_i a
  simp only[aD,b5]at h
  obtain⟨rfl,rfl⟩:=h
  exact a
 ·cases h
def OU{El:Nat->Type}(bl:List (aC El)):aF El->Option (Σ a:Nat×Nat,List (El a.1×El a.2))
 | .m i=>match nth bl i with
   |some (.m kt vt d)=>some ⟨(kt,vt),d⟩
   |_=>none
 | .n kt vt d=>some ⟨(kt,vt),d⟩
 |_=>none
def Gt(E:Env)(ok:Bool){kt vt:Nat}(K:hZ (E.T.El kt))(d:List (E.T.El kt×E.T.El vt))(k:E.T.El kt)(z:E.T.El vt):aF E.T.El:=match ok with
 |true=>.u [E.T.val vt ((uh K d k).getD z),.p (.bool (uh K d k).isSome)]
 |false=>E.T.val vt ((uh K d k).getD z)
def TB(E:Env)(bl:List (aC E.T.El))(t:Nat)(ok:Bool)(u v:aF E.T.El):D (aF E.T.El):=match mapOf E.P t,OU bl u with
 |some (k,e),some ⟨(kt,vt),d⟩=>match(E.T.e kt).key with
  |some K=>match MT (E.P.underlying k) K.desc,(E.T.e kt).hs (cellsOf v),yo E vt e,(match ll v with|true=>(E.T.e kt).agg |false=>!(E.T.e kt).agg)with
   |true,some key,some z,true=>.ok (Gt E ok K d key z)
   |_,_,_,_=>.no
  |none=>.no
 |_,_=>.no
section
variable{E:Env}{W w:World}{M0:List Nat}{X:Nat->Prop}{bl:List (aC E.T.El)}{ρ:List Value}{a:Act}
def DL{El:Nat->Type}:aF El->Option Nat
 | .m i=>some i
 |_=>none
theorem ahY(g:Mem E.T W M0 X bl ρ w){u:aF E.T.El}{v:Value}{kt vt:Nat}{d:List (E.T.El kt×E.T.El vt)}(h:OU bl u=some ⟨(kt,vt),d⟩)(b:ao E.T (bi X bl ρ w) w ρ bl u v) :
 ∃r,v= .map (some r)/\yA E.T (bi X bl ρ w) w kt vt r d/\Mh X bl ρ w r (DL u):=by
 cases u<;>simp only[OU,reduceCtorEq]at h
 ·rename_i i
  split at h
  ·rename_i e f d' hi
   simp only[aD,Sigma.mk.injEq,b5]at h
   obtain⟨⟨rfl,rfl⟩,h⟩:=h
   have h:=eq_of_heq h
   subst h
   rw[cW]at hi
   simp only[ao]at b
   obtain⟨r,c,rfl⟩:=b
   obtain⟨j,e1,e2⟩:=g.ok i _ _ hi c
   simp only[Value.map.injEq,aD]at e1
   subst e1
   exact⟨r,rfl,e2,_,_,hi,c,by simp[bz,af]⟩
  ·cases h
 ·rename_i e f d'
  simp only[aD,Sigma.mk.injEq,b5]at h
  obtain⟨⟨rfl,rfl⟩,h⟩:=h
  have h:=eq_of_heq h
  subst h
  simp only[ao]at b
  obtain⟨r,rfl,c,J⟩:=b
  exact⟨r,rfl,J,c⟩
theorem SC{F:Nat->Prop}{u:aF E.T.El}{v:Value}{b:Bool}(y:ao E.T F w ρ bl u v)(h:(match ll u with|true=>b |false=>!b)=true):v=Am b v.cells.toList:=by
 cases B:ll u with
 |true=>
  rw[B]at h
  have h:b=true:=h
  subst h
  exact JO B y
 |false=>
  rw[B]at h
  have h:b=false:=by simpa using h
  subst h
  have hc:=oV y
  have:v.cells.toList=[v]:=by
   cases u with
   |p u=>
    simp only[ao]at y
    subst y
    cases v<;>first |rfl |(simp[ll]at B)
   |a l=>simp[ll]at B
   |b i o=>simp only[ao]at y;obtain⟨g,_,rfl⟩:=y;rfl
   |x t d o=>simp only[ao]at y;obtain⟨_,_,_,rfl,_⟩:=y;rfl
   |s t l=>simp only[ao]at y;obtain⟨A,c,e⟩:=mj _ y;subst e;rfl
   |q t l=>simp only[ao]at y;obtain⟨_,A,rfl⟩:=y;rfl
   |r i g=>simp only[ao]at y;exact MN y.1
   |v i g lo hi=>simp only[ao]at y;exact MN y.1
   |e i g k t j d o=>simp only[ao]at y;exact ML y.1
   |w i g o=>simp only[ao]at y;exact ML y.1
   |m i=>simp only[ao]at y;obtain⟨g,_,rfl⟩:=y;rfl
   |n _ _ _=>simp only[ao]at y;obtain⟨g,rfl,_⟩:=y;rfl
   |f fn cs=>simp only[ao]at y;obtain⟨g,rfl,_⟩:=y;rfl
   |h fn us=>simp only[ao]at y;obtain⟨g,rfl,_⟩:=y;rfl
   |u l=>simp only[ao]at y;obtain⟨g,rfl,_⟩:=y;rfl
   |i t z=>simp only[ao]at y;obtain⟨g,rfl,_⟩:=y;rfl
   |pp i g sz dR=>simp only[ao]at y;obtain⟨_,_,rfl,_⟩:=y;rfl
   |Av i g sz q=>simp only[ao]at y;obtain⟨_,_,_,rfl,_⟩:=y;rfl
  rw[this];rfl
theorem ak5(aZ:cX E){F:Nat->Prop}{vt:Nat}{x:E.T.El vt}{v:Value}(h:Co E.T F w vt x v):ao E.T F w ρ bl (E.T.val vt x) v:=by
 obtain⟨xs,b,rfl⟩:=h;exact aZ.tb.val b
theorem val_zero(aZ:cX E){F:Nat->Prop}{vt c:Nat}{z:E.T.El vt}(h:yo E vt c=some z):∃b,(∀w,(zeroValue c).run E.P w= .ok b w)/\ao E.T F w ρ bl (E.T.val vt z) b:=by
 unfold yo at h;split at h
 ·rename_i b d
  split at h
  ·rename_i J
   refine⟨b,aLl d,?_⟩
   have:=aZ.tb.hs _ _ _ h F w ρ bl _ (sA b.cells.toList)
   rw[an2 J]
   have e:=aZ.tb.val (ρ:=ρ) (bl:=bl) this
   exact e
  ·cases h
 ·cases h
theorem avv(aZ:cX E)(I:Mem E.T W M0 X bl ρ w){o:Oper}{t:Nat}{ok:Bool}{x y:Operand}{u v z:aF E.T.El}(h:(TB E bl t ok u v).out z)(ap:o.op= .lookup t x y ok)
 (L:ao E.T (bi X bl ρ w) w ρ bl u (a.eval x))(hy:ao E.T (bi X bl ρ w) w ρ bl v (a.eval y)) :
 ∃r q,ao E.T (bi X bl ρ w) w ρ bl z r/\Mh X bl ρ w q (DL u)/\ ∀w',w'.heap[q]? =w.heap[q]? ->bc E.P o a w' r w':=by
 unfold TB at h
 split at h
 ·rename_i k e kt vt d M J
  split at h
  ·rename_i K s
   split at h
   ·rename_i key z0 aK N O P
    have h:Gt E ok K d key z0=z:=h
    subst h
    obtain⟨q,A,⟨Q,B,es,cl,R,j,m3⟩,C⟩:=ahY I J L
    rw[s]at B
    cases B
    have D:a.eval y=K.enc key:=by
     have e1:=aZ.tb.hs _ _ _ N _ _ _ _ _ (oV hy);have e2:=aZ.tb.key _ _ s _ _ _ _ e1;exact(SC hy P).trans e2
    have S:=W7 M
    have wN:=adv aK
    obtain⟨l,U,f⟩:=val_zero aZ (w:=w) (F:=bi X bl ρ w) (ρ:=ρ) (bl:=bl) O
    have g:∀w',w'.heap[q]? =w.heap[q]? ->(Instr.lookup t (.map (some q)) (K.enc key) ok).run E.P w'=(do
     let(v,m) <-match<-Instr.findKey k (K.enc key) es.toList with
      |some (_,v)=>pure (v,true)
      |none=>pure (<-zeroValue e,false)
     pure (if ok then Value.tuple #[v,.bool m]else v):Sem Value).run E.P w':=λ w' i=>by
     simp only[Instr.lookup,Sem.run_bind,Sem.run_pure,run_underlying S,Result.andThen_ok,MapKept.run_getObj_map (i.trans R),@lL.check _ K.dec K.r9 E.P w' es.isEmpty k key wN]
     rfl
    rcases Zw (vt:=vt) key wN j w with⟨b,V,_⟩|⟨p,n,Hd,b,V,G,f6⟩
    ·refine⟨if ok then .tuple #[l,.bool false]else l,q,?_,C,λ w' i=>?_⟩
     ·cases ok with
      |true=>simp only[Gt,b,jh,Option.isSome_none,ao,if_true];exact⟨[l,.bool false],rfl,by simp only[a1];exact⟨_,_,rfl,f,_,_,rfl,by simp only[ao],rfl⟩⟩
      |false=>simp only[Gt,b,jh];exact f
     ·simp only[bc,execOp,ap,A,D,Sem.run_bind,g w' i]
      rcases Zw (vt:=vt) key wN j w' with⟨_,_,Y⟩|⟨p,n,Hd,c,_⟩
      ·simp only[Y,Result.andThen_ok,Sem.run_bind,U,Sem.run_pure]
      ·rw[b]at c;cases c
    ·refine⟨if ok then .tuple #[Hd,.bool true]else Hd,q,?_,C,λ w' i=>?_⟩
     ·cases ok with
      |true=>simp only[Gt,b,ie,Option.isSome_some,ao,if_true];exact⟨[Hd,.bool true],rfl,by simp only[a1];exact⟨_,_,rfl,ak5 aZ G,_,_,rfl,by simp only[ao],rfl⟩⟩
      |false=>simp only[Gt,b,ie];exact ak5 aZ G
     ·simp only[bc,execOp,ap,A,D,Sem.run_bind,g w' i]
      have Z:∀w',(Instr.findKey k (K.enc key) es.toList).run E.P w'= .ok (some (p,Hd)) w':=by
       intro w';rcases TQ (vt:=vt) key 0 j with⟨c,_⟩|⟨uA,fQ,fa,c,g2,g3,H⟩
       ·rw[b]at c;cases c
       ·have:(Instr.findKey k (K.enc key) es.toList).run E.P w= .ok (some (uA,fa)) w:=by
         simp only[Instr.findKey,Sem.run_bind,run_underlying wN,Result.andThen_ok,H,ji];rfl
        rw[f6]at this;simp only[Result.ok.injEq,aD,b5,and_true]at this;obtain⟨rfl,rfl⟩:=this;simp only[Instr.findKey,Sem.run_bind,run_underlying wN,Result.andThen_ok,H,ji];rfl
      simp only[Z,Result.andThen_ok,Sem.run_bind,Sem.run_pure]
   ·exact h.elim
  ·exact h.elim
 ·exact h.elim
def TA(E:Env)(bl:List (aC E.T.El))(t:Nat)(u:aF E.T.El):D (aF E.T.El):=match mapOf E.P t,OU bl u with
 |some _,some ⟨_,d⟩=>.ok (.p (.int .i64 (d.length:Int)))
 |_,_=>.no
theorem avs(b:Mem E.T W M0 X bl ρ w){o:Oper}{t:Nat}{x:Operand}{u z:aF E.T.El}(h:(TA E bl t u).out z)(ap:o.op= .call { callee:=.builtin .len,args:=#[x],argTypes:=#[t] })
 (c:ao E.T (bi X bl ρ w) w ρ bl u (a.eval x)):∃r q,ao E.T (bi X bl ρ w) w ρ bl z r/\Mh X bl ρ w q (DL u)/\ ∀w',w'.heap[q]? =w.heap[q]? ->bc E.P o a w' r w':=by
 unfold TA at h
 split at h
 ·rename_i n p d e J
  have h:aF.p (.int .i64 (d.length:Int))=z:=h
  subst h
  obtain⟨q,f,⟨K,s,es,cl,g,i,v⟩,j⟩:=ahY b J c
  have k:=W7 e
  have l:es.size=d.length:=by have:=i.len;simpa using this
  refine⟨.int .i64 (d.length:Int),q,by simp only[ao],j,λ w' m=>?_⟩
  simp only[bc,execOp,ap,resolve,invoke,gJ,eu,hK,f]
  simp[go_sem,Builtin.len_,run_underlying k,goInt,MapKept.run_getObj_map (m.trans g),l]
 ·exact h.elim
def TE(E:Env)(t j:Nat)(u:aF E.T.El):D (aF E.T.El):=match ll u,Ng E.P t j with
 |true,some (off,nT,_)=>match lay E.P nT with
  |some b=>.of (mC (cellsOf u) off b)
  |none=>.no
 |_,_=>.no
theorem avy{F:Nat->Prop}{o:Oper}{t j:Nat}{x:Operand}{u z:aF E.T.El}(h:(TE E t j u).out z)(ap:o.op= .field t x j)(c:ao E.T F w ρ bl u (a.eval x)):∃r,kY E.P o a r/\ao E.T F w ρ bl z r:=by
 unfold TE at h;split at h
 ·rename_i off nT sz k ad
  split at h
  ·rename_i l m
   have h:=D.pn h
   obtain⟨b7,f,d,e,p,q,B,C⟩:=ae' ad
   have g:=JO k c
   have hc:=oV c
   obtain⟨b,n⟩:=l
   have C3:=JY m
   subst q;subst p
   cases b with
   |false=>
    simp only[mC]at h
    rw[cW]at h
    obtain⟨v,s,J⟩:=hc.at_ h
    have y:(a.eval x).cells[f.offset]? =some v:=by rw[<-gS];exact s
    refine⟨v,λ w'=>?_,J⟩
    simp only[bc,execOp,ap,Instr.field,Sem.run_bind,run_underlying d,Result.andThen_ok,e]
    rw[g]
    simp[asAgg,part,C3.1,y]
   |true=>
    simp only[mC]at h
    split at h
    ·rename_i af
     simp only[aD]at h
     subst h
     have A:=ck af
     have i:=hc.len
     refine⟨.agg ⟨((a.eval x).cells.toList.drop f.offset).take n⟩,λ w'=>?_,?_⟩
     ·simp only[bc,execOp,ap,Instr.field,Sem.run_bind,run_underlying d,Result.andThen_ok,e]
      rw[g]
      simp only[asAgg,part,Sem.run_bind,Sem.run_pure,C3.1,C3.2,Result.andThen_ok,if_true]
      congr 2
      apply congrArg Value.agg
      rw[<-Array.toList_inj]
      simp[List.extract_eq_take_drop,Nat.add_sub_cancel_left,Value.cells]
     ·simp only[ao]
      exact⟨_,rfl,a1.take n (a1.drop _ hc)⟩
    ·cases h
  ·exact h.elim
 ·exact h.elim
end
end a8
namespace a8
open Go Go.RowKit aq I
structure cq (El:Nat->Type) where
 fr:List (Nat×aF El)
 gs:List (Nat×Nat×Bool×aF El)
 ea:List (Nat×Bool)
def Gr{El:Nat->Type}:List (Nat×Nat×Bool×aF El)->List (Nat×Bool)->Nat->Option (aF El)
 |[],_,_=>none
 |p::r,cur,t=>match bP p.1 t&&CR cur p.2.1 p.2.2.1 with
  |true=>some p.2.2.2
  |false=>Gr r cur t
def AA{El:Nat->Type}:List (Nat×Nat×Bool×aF El)->Nat->List (Nat×Nat×Bool×aF El)
 |[],_=>[]
 |p::r,d=>match bP p.1 d||bP p.2.1 d with
  |true=>AA r d
  |false=>p::AA r d
structure oK (T:bN) (F:Nat->Prop) (w:World) (ρ:List Value) (bl:List (aC T.El)) (n:ct) (f:cq T.El) (a:Act):Prop where
 dZ:rl T F w ρ bl n f.fr a
 gs:∀p∈f.gs,a.tmps.getD p.2.1 undef= .bool p.2.2.1 ->ao T F w ρ bl p.2.2.2 (a.tmps.getD p.1 undef)
 ea:∀p∈f.ea,a.tmps.getD p.1 undef= .bool p.2
section
variable{T:bN}{F F':Nat->Prop}{w w':World}{ρ ρ':List Value}{bl bl':List (aC T.El)}{n:ct}{f:cq T.El}{a:Act}
theorem oK.later(b:∀k,F k->F' k/\w'.heap[k]? =w.heap[k]?)(c:mx T ρ ρ' bl bl')(h:oK T F w ρ bl n f a):oK T F' w' ρ' bl' n f a:=⟨h.dZ.later b c,λ p d af=>(h.gs p d af).later b c,h.ea⟩
theorem W2(h:oK T F w ρ bl n f a){cur:List (Nat×Bool)}(hc:jG a cur):∀ {gs:List (Nat×Nat×Bool×aF T.El)}{t:Nat}{y:aF T.El},(∀p∈gs,p∈f.gs)->Gr gs cur t=some y->ao T F w ρ bl y (a.tmps.getD t undef)
 |[],_,_,_,J=>by simp[Gr]at J
 |p::r,t,y,b,J=>by
  simp only[Gr]at J;split at J
  ·rename_i af
   simp only[bC,aD]at af J
   subst J
   have:=h.gs p (b p (by simp)) (afZ hc af.2)
   rwa [a_ af.1]at this
  ·exact W2 h hc (λ q c=>b q (by simp[c])) J
theorem Zs{d:Nat}{p:Nat×Nat×Bool×aF T.El}:∀ {gs:List (Nat×Nat×Bool×aF T.El)},p∈AA gs d->p∈gs/\p.1≠d/\p.2.1≠d
 |[],h=>by simp[AA]at h
 |q::r,h=>by
  simp only[AA]at h;split at h
  ·obtain⟨b,J⟩:=Zs h;exact⟨by simp[b],J⟩
  ·rename_i af
   simp only[hQ]at af
   rcases cm.1 h with rfl |h
   ·exact⟨by simp,λ e=>by rw[e]at af;simp at af,λ e=>by rw[e]at af;simp at af⟩
   ·obtain⟨b,J⟩:=Zs h;exact⟨by simp[b],J⟩
theorem Zr{α:Type}{d:Nat}{p:Nat×α}:∀ {l:List (Nat×α)},p∈ow l d->p∈l/\p.1≠d
 |[],h=>by simp[ow]at h
 |q::r,h=>by
  simp only[ow]at h;split at h
  ·obtain⟨b,J⟩:=Zr h;exact⟨by simp[b],J⟩
  ·rename_i af
   rcases cm.1 h with rfl |h
   ·exact⟨by simp,λ e=>by rw[e]at af;simp at af⟩
   ·obtain⟨b,J⟩:=Zr h;exact⟨by simp[b],J⟩
def cq.put(f:cq T.El)(d:Nat)(y:aF T.El):cq T.El:=⟨(d,y)::ow f.fr d,AA f.gs d,ow f.ea d⟩
def cq.qF(f:cq T.El)(d j:Nat)(b:Bool)(y:aF T.El):cq T.El:=⟨ow f.fr d,(d,j,b,y)::AA f.gs d,ow f.ea d⟩
theorem oK.ajb{d:Nat}{v:Value}(h:oK T F w ρ bl n f a)(aK:ee d n.n=true):(∀p∈AA f.gs d,(a.put (some d) v).tmps.getD p.2.1 undef= .bool p.2.2.1 ->ao T F w ρ bl p.2.2.2 ((a.put (some d) v).tmps.getD p.1 undef))/\ ∀p∈ow f.ea d,(a.put (some d) v).tmps.getD p.1 undef= .bool p.2:=by
 have b:d<a.tmps.size:=by rw[h.dZ.size];exact ck aK
 refine⟨λ p c af=>?_,λ p c=>?_⟩
 ·obtain⟨e,J,g⟩:=Zs c
  rw[zi b,if_neg (Ne.symm g)]at af
  rw[zi b,if_neg (Ne.symm J)]
  exact h.gs p e af
 ·obtain⟨e,J⟩:=Zr c
  rw[zi b,if_neg (Ne.symm J)]
  exact h.ea p e
theorem oK.put{d:Nat}{y:aF T.El}{v:Value}(h:oK T F w ρ bl n f a)(aK:ee d n.n=true)(c:ao T F w ρ bl y v):oK T F w ρ bl n (f.put d y) (a.put (some d) v):=by
 obtain⟨e,J⟩:=h.ajb (v:=v) aK;refine⟨⟨(h.dZ.put aK c).size,(h.dZ.put aK c).defers,λ t z b=>(h.dZ.put aK c).get t z ?_⟩,e,J⟩;simp only[cq.put,cv]at b⊢;split at b
 ·exact b
 ·exact(OP b).2
theorem oK.qF{d j:Nat}{b:Bool}{y:aF T.El}{v:Value}(h:oK T F w ρ bl n f a)(aK:ee d n.n=true)(i:bP j d=false)(k:a.tmps.getD j undef= .bool b->ao T F w ρ bl y v):oK T F w ρ bl n (f.qF d j b y) (a.put (some d) v):=by
 obtain⟨l,J⟩:=h.ajb (v:=v) aK;have g:d<a.tmps.size:=by rw[h.dZ.size];exact ck aK
 have c:d≠j:=λ e=>by subst e;simp at i
 refine⟨h.dZ.P4 aK,λ p aE af=>?_,J⟩;rcases cm.1 aE with rfl |aE
 ·simp only at af⊢
  rw[zi g,if_neg c]at af
  rw[zi g,if_pos rfl]
  exact k af
 ·exact l p aE af
end
def od(E:Env)(bl:List (aC E.T.El))(f:cq E.T.El)(cur:List (Nat×Bool)):Operand->Option (aF E.T.El)
 | .const v=>some (.p v)
 | .global g=>cv E.cM g
 | .func g=>some (.f (.func g) [])
 | .tmp t=>match cv f.fr t with
   |some y=>some (nm bl y)
   |none=>match Gr f.gs cur t with
    |some y=>some (nm bl y)
    |none=>match Gr f.gs f.ea t with
     |some y=>some (nm bl y)
     |none=>none
def pj(E:Env)(bl:List (aC E.T.El))(f:cq E.T.El)(cur:List (Nat×Bool)):List Operand->Option (List (aF E.T.El))
 |[]=>some []
 |x::r=>match od E bl f cur x,pj E bl f cur r with
  |some y,some ys=>some (y::ys)
  |_,_=>none
def Kj(E:Env)(bl:List (aC E.T.El))(f:cq E.T.El)(cur:List (Nat×Bool)):Option Operand->Option (Option (aF E.T.El))
 |none=>some none
 |some x=>match od E bl f cur x with
  |some y=>some (some y)
  |none=>none
def GC(E:Env)(bl:List (aC E.T.El))(f:cq E.T.El)(cur:List (Nat×Bool)):List (Nat×Operand)->Option (List (Nat×aF E.T.El))
 |[]=>some []
 |(i,x)::r=>match od E bl f cur x,GC E bl f cur r with
  |some y,some ys=>some ((i,y)::ys)
  |_,_=>none
structure R (E:Env) (W:World) (M0:List Nat) (X:Nat->Prop) (n:ct) (f:cq E.T.El) (bl:List (aC E.T.El)) (ρ:List Value) (a:Act) (w:World):Prop where
 mem:Mem E.T W M0 X bl ρ w
 dL:oK E.T (bi X bl ρ w) w ρ bl n f a
 cM:∀g y,cv E.cM g=some y->ao E.T (bi X bl ρ w) w ρ bl y (.pointer (some ⟨g,0,none⟩))
section
variable{E:Env}{W w w':World}{M0:List Nat}{X:Nat->Prop}{n:ct}{f:cq E.T.El}{bl bl':List (aC E.T.El)}{ρ ρ':List Value}{a:Act}{cur:List (Nat×Bool)}
theorem R.to(h:R E W M0 X n f bl ρ a w)(b:To X bl bl' ρ ρ' w w')(c:Mem E.T W M0 X bl' ρ' w'):R E W M0 X n f bl' ρ' a w':=⟨c,h.dL.later b.F b.L,λ g y d=>b.v (h.cM g y d)⟩
theorem R.put{d:Nat}{y:aF E.T.El}{v:Value}(h:R E W M0 X n f bl ρ a w)(aK:ee d n.n=true)(b:ao E.T (bi X bl ρ w) w ρ bl y v):R E W M0 X n (f.put d y) bl ρ (a.put (some d) v) w:=⟨h.mem,h.dL.put aK b,h.cM⟩
theorem adr{a:Act}:∀ {l:List (Nat×Bool)},(∀p∈l,a.tmps.getD p.1 undef= .bool p.2)->jG a l
 |[],_=>trivial
 |p::r,h=>⟨h p (by simp),adr λ q b=>h q (by simp[b])⟩
theorem di(h:R E W M0 X n f bl ρ a w)(hc:jG a cur){x:Operand}{y:aF E.T.El}(b:od E bl f cur x=some y):ao E.T (bi X bl ρ w) w ρ bl y (a.eval x):=by
 cases x with
 |const v=>simp only[od,aD]at b;subst b;simp only[ao];rfl
 |global g=>exact h.cM g y b
 |func g=>simp only[od,aD]at b;subst b;simp only[ao];exact⟨[],rfl,by simp[a1]⟩
 |tmp t=>
  simp only[od]at b
  split at b
  ·rename_i z c
   simp only[aD]at b
   subst b
   exact Pk h.mem (h.dL.dZ.get t z c)
  ·split at b
   ·rename_i z c
    simp only[aD]at b
    subst b
    exact Pk h.mem (W2 h.dL hc (λ p d=>d) c)
   ·split at b
    ·rename_i z c
     simp only[aD]at b
     subst b
     exact Pk h.mem (W2 h.dL (adr h.dL.ea) (λ p d=>d) c)
    ·cases b
theorem Al(h:R E W M0 X n f bl ρ a w)(hc:jG a cur):∀ {xs:List Operand}{ys:List (aF E.T.El)},pj E bl f cur xs=some ys->a1 E.T (bi X bl ρ w) w ρ bl ys (xs.map a.eval)
 |[],ys,b=>by simp only[pj,aD]at b;subst b;simp[a1]
 |x::r,ys,b=>by
  simp only[pj]at b;split at b
  ·rename_i y d c J
   simp only[aD]at b
   subst b
   simp only[eu,a1]
   exact⟨_,_,rfl,di h hc c,Al h hc J⟩
  ·cases b
theorem aiy(h:R E W M0 X n f bl ρ a w)(hc:jG a cur){x:Option Operand}{y:Option (aF E.T.El)}(b:Kj E bl f cur x=some y):Cm E (bi X bl ρ w) w ρ bl a x y:=by
 cases x with
 |none=>simp only[Kj,aD]at b;subst b;trivial
 |some x=>
  simp only[Kj]at b
  split at b
  ·rename_i z c
   simp only[aD]at b
   subst b
   exact di h hc c
  ·cases b
theorem XH(h:R E W M0 X n f bl ρ a w)(hc:jG a cur):∀ {xs:List (Nat×Operand)}{ys:List (Nat×aF E.T.El)},GC E bl f cur xs=some ys->rr E.T (bi X bl ρ w) w ρ bl ys (xs.map λ p=>(p.1,a.eval p.2))
 |[],ys,b=>by simp only[GC,aD]at b;subst b;simp[rr]
 |(i,x)::r,ys,b=>by
  simp only[GC]at b;split at b
  ·rename_i y d c J
   simp only[aD]at b
   subst b
   simp only[eu,rr]
   exact⟨_,_,rfl,di h hc c,XH h hc J⟩
  ·cases b
end
def TF(E:Env)(bl:List (aC E.T.El))(f:cq E.T.El)(cur:List (Nat×Bool))(c x y:Operand):D (aF E.T.El):=
 match od E bl f cur c with
 |some (.p (.bool b))=>match E.cl,c with
  |true,_=>match b with
   |true=>.of (od E bl f cur x)
   |false=>.of (od E bl f cur y)
  |false,.tmp a=>match cv f.ea a with
   |some true=>.of (od E bl f cur x)
   |some false=>.of (od E bl f cur y)
   |none=>match od E bl f ((a,true)::cur) x,od E bl f ((a,false)::cur) y with
    |some u,some v=>XW E x y b u v
    |_,_=>.no
  |false,_=>.no
 |_=>.no
def aac:IntKind->Int->Option Int
 | .i64,m=>some (ar m)
 | .u64,m=>some (Hf m)
 | .u8,m=>some ((rB m).toNat:Int)
 |_,_=>none
def Tv(P:Program)(s d:Nat):Value->Option Value
 | .int k m=>match kL (P.underlying s),kL (P.underlying d)with
   |some (.i j),some (.i k')=>match mO j k,aac k' m with
    |true,some r=>some (.int k' r)
    |_,_=>none
   |_,_=>none
 |_=>none
def T1(E:Env)(bl:List (aC E.T.El))(t:Nat)(u:aF E.T.El)(hi a:Option (aF E.T.El)):D (aF E.T.El):=match oy E.P t,HK hi&&HK a with
 |some (e,n),true=>match bP n (E.T.ty e).size with
  |true=>match u with
   | .s _ _=>.ok (.q e [])
   | .q _ _=>.ok (.q e [])
   | .r i g=>match bP g (tG bl i)with
     |true=>.ok (.q e [])
     |false=>.no
   | .p (.slice none 0 0)=>.ok (.p (.slice none 0 0))
   | .p (.slice (some _) 0 _)=>.ok (.q e [])
   |_=>.no
  |false=>.no
 |_,_=>.no
def XC{El:Nat->Type}(bl:List (aC El)):aF El->Bool
 | .s _ (_::_)=>true
 | .q _ (_::_)=>true
 | .p (.slice (some _) _ _)=>true
 | .r i g=>match nth bl i with
   |some (.r _ a _ (_::_))=>bP g a
   |_=>false
 |_=>false
def Pj{El:Nat->Type}:aF El->Bool
 | .p (.slice none _ _)=>true
 |_=>false
def TD(P:Program){El:Nat->Type}(bl:List (aC El))(t:Nat)(op:BinOp)(u v:aF El):Option Bool:=match kL (P.underlying t),Pj v,DU op true with
 |some .ch,true,some b=>match Pj u with
  |true=>some b
  |false=>match XC bl u with
   |true=>some (!b)
   |false=>none
 |_,_,_=>none
def FH(E:Env)(bl:List (aC E.T.El))(f:cq E.T.El)(cur:List (Nat×Bool)):Op->D (aF E.T.El)
 | .move x=>.of (od E bl f cur x)
 | .assign x=>.of (od E bl f cur x)
 | .pick c x y=>TF E bl f cur c x y
 | .binOp op t x y _=>match od E bl f cur x,od E bl f cur y with
   |some u,some v=>match TD E.P bl t op u v with
    |some b=>.ok (.p (.bool b))
    |none=>Tq E t op (JP y) u v
   |_,_=>.no
 | .unOp .not _ x=>match od E bl f cur x with
   |some (.p (.bool p))=>.ok (.p (.bool (!p)))
   |_=>.no
 | .unOp .neg _ x=>match od E bl f cur x with
   |some (.p (.int .i64 m))=>.ok (.p (.int .i64 (ar (0-m))))
   |_=>.no
 | .convert s d x=>match od E bl f cur x with
   |some (.p u)=>match Tv E.P s d u with
    |some r=>.ok (.p r)
    |none=>.no
   |_=>.no
 | .load t x=>match od E bl f cur x with
   |some p=>FG E bl t p
   |none=>.no
 | .fieldAddr s x j=>match od E bl f cur x,Ng E.P s j with
   |some p,some (off,_,_)=>match PD (tG bl) p with
    |true=>.of (X1 p off)
    |false=>.no
   |_,_=>.no
 | .nilCheck x=>match od E bl f cur x with
   |some p=>match On p with
    |true=>.ok p
    |false=>.no
   |none=>.no
 | .extract x i=>match od E bl f cur x with
   |some (.u l)=>.of (nth l i)
   |_=>.no
 | .makeFunc fn ⟨[]⟩ ⟨ys⟩=>match pj E bl f cur ys with
   |some us=>.ok (.f fn us)
   |none=>.no
 | .makeFunc fn ⟨xs⟩ ⟨[]⟩=>match pj E bl f cur xs with
   |some us=>.ok (.h fn us)
   |none=>.no
 | .makeInterface t x=>match od E bl f cur x,E.P.concrete t with
   |some y,true=>.ok (.i t y)
   |_,_=>.no
 | .indexAddr t x y=>match od E bl f cur x,od E bl f cur y with
   |some u,some v=>Tw E bl t u v
   |_,_=>.no
 | .index t x y=>match od E bl f cur x,od E bl f cur y,kL (E.P.underlying t)with
   |some (.p (.string ⟨⟨p⟩⟩)),some (.p (.int .i64 j)),some .s=>.op (idx p j) λ b=>.ok (.p (.int .u8 (b.toNat:Int)))
   |_,_,_=>.no
 | .slice t x lo hi none=>match od E bl f cur x,Kj E bl f cur lo,Kj E bl f cur hi with
   |some u,some a,some b=>Tu E bl t u a b
   |_,_,_=>.no
 | .slice t x none (some hi) (some e)=>match od E bl f cur x,od E bl f cur hi,od E bl f cur e with
   |some u,some a,some b=>T1 E bl t u (some a) (some b)
   |_,_,_=>.no
 | .lookup t x y ok=>match od E bl f cur x,od E bl f cur y with
   |some u,some v=>TB E bl t ok u v
   |_,_=>.no
 | .field t x j=>match od E bl f cur x with
   |some u=>TE E t j u
   |none=>.no
 | .build t ⟨ps⟩=>match GC E bl f cur ps with
   |some ys=>Tr E t ys
   |none=>.no
 | .call ⟨.builtin .len,⟨[x]⟩,⟨[t]⟩⟩=>match od E bl f cur x with
   |some u=>match mapOf E.P t with
    |some _=>TA E bl t u
    |none=>Tz E bl t u
   |none=>.no
 | .call ⟨.builtin .cap,⟨[x]⟩,⟨[t]⟩⟩=>match oy E.P t,od E bl f cur x with
   |some _,some (.p (.slice _ _ c))=>.ok (.p (.int .i64 (c:Int)))
   |_,_=>.no
 |_=>.no
def qt(E:Env)(bl:List (aC E.T.El))(f:cq E.T.El)(cur:List (Nat×Bool)):Op->Option (Option Nat)
 | .load _ x=>match od E bl f cur x with
   |some p=>some (WW p)
   |none=>none
 | .lookup _ x _ _=>match od E bl f cur x with
   |some u=>some (DL u)
   |none=>none
 | .call ⟨.builtin .len,⟨[x]⟩,⟨[t]⟩⟩=>match mapOf E.P t,od E bl f cur x with
   |some _,some u=>some (DL u)
   |_,_=>none
 |_=>none
def yV(P:Program)(o:Oper)(a:Act)(X:Nat->Prop){El:Nat->Type}(bl:List (aC El))(ρ:List Value)(w:World)(r:Value):Option (Option Nat)->Prop
 |none=>kY P o a r
 |some i=>∃(q:Nat)(S:World->Prop),(match i with
  |none=>bi X bl ρ w q
  |some i=>∃B h,bl[i]? =some B/\ρ[i]? =some h/\q∈bz B h)/\S w/\(∀w',w'.heap[q]? =w.heap[q]? ->S w')/\ ∀w',S w'->bc P o a w' r w'
theorem yV.now{P:Program}{o:Oper}{a:Act}{X:Nat->Prop}{El:Nat->Type}{bl:List (aC El)}{ρ:List Value}{w:World}{r:Value}:∀ {i:Option (Option Nat)},yV P o a X bl ρ w r i->bc P o a w r w
 |none,h=>h w
 |some _,⟨_,_,_,b,_,J⟩=>J w b
end a8
namespace a8
open Go Go.RowKit aq I
theorem oa{α:Type}{t:Nat}{y:α}:∀ {l:List (Nat×α)},cv l t=some y->(t,y)∈l
 |[],h=>by simp[cv]at h
 |p::r,h=>by
  simp only[cv]at h;split at h
  ·rename_i af
   simp only[aD]at h
   subst h
   rw[<-a_ af]
   simp
  ·exact ez _ (oa h)
section
variable{E:Env}{W w w':World}{M0:List Nat}{X:Nat->Prop}{n:ct}{f:cq E.T.El}{bl:List (aC E.T.El)}{ρ:List Value}{a:Act}{cur:List (Nat×Bool)}
theorem anI{P:Program}{o:Oper}{A:Option Addr}{m c sz t e:Nat}{x hi b:Operand}(d:P.underlying t=some (.slice e))(aj:∀w,(Go.sizeOf e).run P w= .ok sz w)(ap:o.op= .slice t x none (some hi) (some b))(g:a.eval x= .slice A m c)(h:a.eval hi= .int .i64 0)(J:a.eval b= .int .i64 0)(w:World):bc P o a w (.slice A 0 0) w:=by
 have i:=aGu (P:=P) (w:=w) (A:=A) (m:=m) (c:=c) (j:=0) d aj ⟨kj _,by omega⟩;simp only[bc,execOp,ap,g,Instr.sliceAt,Sem.run_bind,run_underlying d,Result.andThen_ok,iz,fI,h,J,i];rfl
theorem aDW{F:Nat->Prop}{t:Nat}(A:Option Addr):ao E.T F w ρ bl (.q t []) (.slice A 0 0):=by
 simp only[ao];exact⟨⟨A,0,rfl,cu _,gD _,λ _=>rfl,λ h=>absurd rfl h⟩,A,rfl⟩
theorem ZG{v:Value}(h:kJ v):∃A m c,v= .slice A m c:=by
 cases v<;>simp[kJ]at h;exact⟨_,_,_,rfl⟩
theorem av'(y:Mem E.T W M0 X bl ρ w){o:Oper}{t:Nat}{x hi g:Operand}{u z i j:aF E.T.El}(h:(T1 E bl t u (some i) (some j)).out z)(ap:o.op= .slice t x none (some hi) (some g))
 (b:ao E.T (bi X bl ρ w) w ρ bl u (a.eval x))(v:ao E.T (bi X bl ρ w) w ρ bl i (a.eval hi))(J:ao E.T (bi X bl ρ w) w ρ bl j (a.eval g)):∃r,kY E.P o a r/\ao E.T (bi X bl ρ w) w ρ bl z r:=by
 unfold T1 at h
 split at h
 ·rename_i e B aj af
  simp only[bC]at af
  have l:a.eval hi= .int .i64 0:=by
   rcases RL (lo:=some hi) (u:=some i) (show Cm E _ w ρ bl a (some hi) (some i) from v) af.1 with⟨e,_⟩|⟨_,e,k⟩
   ·cases e
   ·cases e;exact k
  have p:a.eval g= .int .i64 0:=by
   rcases RL (lo:=some g) (u:=some j) (show Cm E _ w ρ bl a (some g) (some j) from J) af.2 with⟨e,_⟩|⟨_,e,k⟩
   ·cases e
   ·cases e;exact k
  obtain⟨q,s⟩:=sD aj
  have fin:∀ {A:Option Addr}{m c:Nat},a.eval x= .slice A m c->(D.ok (aF.q e ([]:List (E.T.El e)))).out z-> ∃r,kY E.P o a r/\ao E.T (bi X bl ρ w) w ρ bl z r:=λ{A m c} d h=>by
   have h:aF.q e []=z:=h;subst h;exact⟨_,λ w'=>anI q s ap d l p w',aDW A⟩
  split at h
  ·split at h
   ·simp only[ao]at b;obtain⟨A,c,d⟩:=mj _ b;exact fin d h
   ·simp only[ao]at b;obtain⟨A,d⟩:=b.2;exact fin d h
   ·split at h
    ·simp only[ao]at b;obtain⟨A,m,c,d⟩:=ZG b.1;exact fin d h
    ·exact h.elim
   ·have h:aF.p (.slice none 0 0)=z:=h
    subst h
    simp only[ao]at b
    exact⟨_,λ w'=>anI q s ap b l p w',by simp only[ao]⟩
   ·simp only[ao]at b;exact fin b h
   ·exact h.elim
  ·exact h.elim
 ·exact h.elim
theorem aHU{k:IntKind}{m r:Int}(h:aac k m=some r):k.wrap m=r:=by
 unfold aac at h;split at h<;>simp only[aD,reduceCtorEq]at h<;>subst h
 ·exact xW m
 ·rw[IntKind.wrap_u64];rfl
 ·exact akP m
theorem avn{P:Program}{o:Oper}{s d:Nat}{x:Operand}{u r:Value}(h:Tv P s d u=some r)(ap:o.op= .convert s d x)(b:a.eval x=u):kY P o a r:=by
 unfold Tv at h;split at h
 ·rename_i k m
  split at h
  ·rename_i j k' c J
   split at h
   ·rename_i i e g
    simp only[aD]at h
    subst h
    have:=pa e
    subst this
    rw[<-aHU g]
    exact λ w=>abI (w3 c) (w3 J) ap b
   ·cases h
  ·cases h
 ·cases h
theorem azx{y:Operand}(b:JP y=true)(k:IntKind)(n:Int)(c:a.eval y= .int k n):n≠0:=by
 unfold JP at b;split at b
 ·rename_i k' d
  have:a.eval (.const (.int k' d))= .int k' d:=rfl
  rw[this]at c
  injection c with _ e
  subst e
  simpa using b
 ·cases b
theorem avz(h:R E W M0 X n f bl ρ a w)(hc:jG a cur){o:Oper}{c x y:Operand}{z:aF E.T.El}(d:(TF E bl f cur c x y).out z)(ap:o.op= .pick c x y):∃r,kY E.P o a r/\ao E.T (bi X bl ρ w) w ρ bl z r:=by
 unfold TF at d;split at d
 ·rename_i b l
  have g:=di h hc l
  simp only[ao]at g
  have tk:b=true->(D.of (od E bl f cur x)).out z-> ∃r,kY E.P o a r/\ao E.T (bi X bl ρ w) w ρ bl z r:=λ af d=>by
   have:=di h hc (D.pn d);exact⟨_,λ w'=>RG ap (by rw[g,af]) rfl,this⟩
  have i:b=false->(D.of (od E bl f cur y)).out z-> ∃r,kY E.P o a r/\ao E.T (bi X bl ρ w) w ρ bl z r:=λ af d=>by
   have:=di h hc (D.pn d);exact⟨_,λ w'=>RF ap (by rw[g,af]) rfl,this⟩
  split at d
  ·cases b with
   |true=>exact tk rfl d
   |false=>exact i rfl d
  ·rename_i j _
   split at d
   ·rename_i k
    have:=h.dL.ea _ (oa k)
    have e:a.eval (.tmp j)= .bool true:=this
    rw[g]at e
    exact tk (by injection e) d
   ·rename_i k
    have:=h.dL.ea _ (oa k)
    have e:a.eval (.tmp j)= .bool false:=this
    rw[g]at e
    exact i (by injection e) d
   ·split at d
    ·rename_i u v m p
     obtain⟨r,q,J⟩:=aDn (a:=a) (x:=x) (y:=y) d (λ af=>di h (show jG a ((j,true)::cur) from⟨by subst af;exact g,hc⟩) m) (λ af=>di h (show jG a ((j,false)::cur) from⟨by subst af;exact g,hc⟩) p)
     exact⟨r,λ w'=>aLf ap g q,J⟩
    ·exact d.elim
  ·exact d.elim
 ·exact d.elim
theorem anR{P:Program}{o:Oper}{t t':TypeId}{x y:Operand}{A:Option Addr}{m c g i:Nat}{op:BinOp}{b:Bool}(k:kL (P.underlying t)=some .ch)(af:DU op A.isNone=some b)(ap:o.op= .binOp op t x y t')(j:a.eval x= .slice A m c)(hy:a.eval y= .slice none g i)(w:World):bc P o a w (.bool b) w:=by
 obtain⟨e,l⟩:=w3 k;have h:∀d:Nat,(Op.equalIn (d+1) t (.slice A m c) (.slice none g i)).run P w= .ok A.isNone w:=λ d=>by
  cases A<;>simp[Op.equalIn,run_underlying l]
 cases op<;>simp only[DU,aD,reduceCtorEq]at af<;>subst af
 ·have J:(binOp .eql t (.slice A m c) (.slice none g i)).run P w= .ok (.bool A.isNone) w:=by
   simp only[binOp];simp[Op.equal,Op.maxDepth,h 9999]
  simp only[bc,execOp,ap,j,hy];simp[go_sem,J]
 ·have J:(binOp .neq t (.slice A m c) (.slice none g i)).run P w= .ok (.bool (!A.isNone)) w:=by
   simp only[binOp];simp[Op.equal,Op.maxDepth,h 9999]
  simp only[bc,execOp,ap,j,hy];simp[go_sem,J]
theorem akn{α:Type}{T:cY α}{F:Nat->Prop}{v:Value}{d:α}{l:List α}(h:(bY T).rd F w [v] (d::l)):∃g m c,v= .slice (some g) m c:=by
 obtain⟨A,c,e,_,_,_,J⟩:=h;simp only[hh,and_true]at e;subst e;rw[(J (by simp)).1];exact⟨_,_,_,rfl⟩
theorem aCT(i:Mem E.T W M0 X bl ρ w){u:aF E.T.El}{v:Value}(h:XC bl u=true)(b:ao E.T (bi X bl ρ w) w ρ bl u v):∃g m c,v= .slice (some g) m c:=by
 unfold XC at h;split at h
 ·simp only[ao]at b;exact akn b
 ·simp only[ao]at b;exact akn b.1
 ·simp only[ao]at b;exact⟨_,_,_,b⟩
 ·split at h
  ·rename_i t' o k d l hi
   rw[cW]at hi
   simp only[ao]at b
   obtain⟨_,aK,j,p,e⟩:=b
   rw[hi]at e
   obtain⟨A,c,xs,e1,e2,e3⟩:=i.ok _ _ _ hi j
   rw[e (a_ h),e1]
   rw[e1]at e2
   obtain⟨g,rfl⟩:=G2 e2 (by simp)
   exact⟨_,_,_,rfl⟩
  ·cases h
 ·cases h
theorem aij{F:Nat->Prop}{u:aF E.T.El}{v:Value}(h:Pj u=true)(b:ao E.T F w ρ bl u v):∃m c,v= .slice none m c:=by
 unfold Pj at h;split at h
 ·simp only[ao]at b;exact⟨_,_,b⟩
 ·cases h
theorem avx(l:Mem E.T W M0 X bl ρ w){t:Nat}{op:BinOp}{u v:aF E.T.El}{o:Oper}{x y:Operand}{t':TypeId}{b:Bool}(h:TD E.P bl t op u v=some b)(ap:o.op= .binOp op t x y t')(i:ao E.T (bi X bl ρ w) w ρ bl u (a.eval x))(hy:ao E.T (bi X bl ρ w) w ρ bl v (a.eval y)):kY E.P o a (.bool b):=by
 unfold TD at h;split at h
 ·rename_i b0 j J d
  obtain⟨p,q,k⟩:=aij J hy
  split at h
  ·rename_i e
   simp only[aD]at h
   subst h
   obtain⟨m,c,ex⟩:=aij e i
   exact λ w'=>anR (A:=none) j d ap ex k w'
  ·split at h
   ·rename_i e
    simp only[aD]at h
    subst h
    obtain⟨g,m,c,ex⟩:=aCT l e i
    refine λ w'=>anR (A:=some g) j ?_ ap ex k w'
    cases op<;>simp only[DU,aD,reduceCtorEq]at d⊢ <;>subst d<;>rfl
   ·cases h
 ·cases h
theorem aeO(aZ:cX E)(h:R E W M0 X n f bl ρ a w)(hc:jG a cur){o:Oper}{op:Op}(ap:o.op=op){z:aF E.T.El}(d:(FH E bl f cur op).out z):∃r,ao E.T (bi X bl ρ w) w ρ bl z r/\yV E.P o a X bl ρ w r (qt E bl f cur op):=by
 have k:(∃r,kY E.P o a r/\ao E.T (bi X bl ρ w) w ρ bl z r)-> ∃r,ao E.T (bi X bl ρ w) w ρ bl z r/\yV E.P o a X bl ρ w r none:=λ⟨r,i,J⟩=>⟨r,J,i⟩
 unfold FH at d;split at d
 ·exact k ⟨_,λ w'=>vx ap rfl,di h hc (D.pn d)⟩
 ·exact k ⟨_,λ w'=>ym ap rfl,di h hc (D.pn d)⟩
 ·exact k (avz h hc d ap)
 ·split at d
  ·rename_i u v i J
   split at d
   ·rename_i b af
    have d:aF.p (.bool b)=z:=d
    subst d
    exact k ⟨_,avx h.mem af ap (di h hc i) (di h hc J),by simp only[ao]⟩
   ·exact k (avi aZ d ap (λ C=>azx C) (di h hc i) (di h hc J))
  ·exact d.elim
 ·split at d
  ·rename_i p i
   have d:aF.p (.bool (!p))=z:=d
   subst d
   have:=di h hc i
   simp only[ao]at this
   exact k ⟨_,λ w'=>anO ap this,by simp only[ao]⟩
  ·exact d.elim
 ·split at d
  ·rename_i m i
   have d:aF.p (.int .i64 (ar (0-m)))=z:=d
   subst d
   have:=di h hc i
   simp only[ao]at this
   exact k ⟨_,λ w'=>aLd ap this,by simp only[ao]⟩
  ·exact d.elim
 ·split at d
  ·rename_i u i
   split at d
   ·rename_i r J
    have d:aF.p r=z:=d
    subst d
    have:=di h hc i
    simp only[ao]at this
    exact k ⟨_,avn J ap this,by simp only[ao]⟩
   ·exact d.elim
  ·exact d.elim
 ·rename_i t x
  split at d
  ·rename_i p i
   obtain⟨dW,us,v,F,s,H,L,I⟩:=avu aZ.tb h.mem (di h hc i) d
   refine⟨v,s,?_⟩
   simp only[qt,i,yV]
   refine⟨dW.block,λ w'=>fb w' dW us,?_,H,λ w' B=>H.law B,λ w' B=>L o a x w' ap F B⟩
   revert I
   cases WW p<;>exact λ h=>h
  ·exact d.elim
 ·split at d
  ·rename_i p off nT sz i J
   split at d
   ·rename_i K
    obtain⟨g,q,e1,e2⟩:=aDy K (D.pn d) (di h hc i)
    obtain⟨b7,O,F,s,H,L,I,N⟩:=ae' J
    subst H
    exact k ⟨_,λ w'=>RD F s I N ap e1,e2⟩
   ·exact d.elim
  ·exact d.elim
 ·split at d
  ·rename_i p i
   split at d
   ·rename_i K
    have d:p=z:=d
    subst d
    have:=di h hc i
    obtain⟨q,e⟩:=agW K this
    exact k ⟨_,λ w'=>LY ap e,by rw[<-e];exact this⟩
   ·exact d.elim
  ·exact d.elim
 ·split at d
  ·rename_i l i
   have:=di h hc i
   simp only[ao]at this
   obtain⟨vs,e1,e2⟩:=this
   have hi:=D.pn d
   rw[cW]at hi
   obtain⟨v,e3,e4⟩:=e2.at_ hi
   exact k ⟨v,λ w'=>LX (vs:=vs) ap e1 e3,e4⟩
  ·exact d.elim
 ·split at d
  ·rename_i us i
   have d:aF.f _ us=z:=d
   subst d
   have:=Al h hc i
   refine k ⟨_,λ w'=>?_,by simp only[ao];exact⟨_,rfl,this⟩⟩
   simp only[bc,execOp,ap,Instr.makeFunc]
   simp only[gJ,hK]
   rfl
  ·exact d.elim
 ·split at d
  ·rename_i us i
   have d:aF.h _ us=z:=d
   subst d
   have:=Al h hc i
   refine k ⟨_,λ w'=>?_,by simp only[ao];exact⟨_,rfl,this⟩⟩
   simp only[bc,execOp,ap,Instr.makeFunc]
   simp only[gJ,hK]
   rfl
  ·exact d.elim
 ·split at d
  ·rename_i y i J
   have d:aF.i _ y=z:=d
   subst d
   exact k ⟨_,λ w'=>aK4 J ap rfl,by simp only[ao];exact⟨_,rfl,di h hc i⟩⟩
  ·exact d.elim
 ·split at d
  ·rename_i u v i J
   exact k (avp h.mem d ap (di h hc i) (di h hc J))
  ·exact d.elim
 ·split at d
  ·rename_i p j i J G
   obtain⟨b,F,s⟩:=d
   have s:aF.p (.int .u8 (b.toNat:Int))=z:=s
   subst s
   have e1:=di h hc i
   have e2:=di h hc J
   simp only[ao]at e1 e2
   exact k ⟨_,λ w'=>aK6 (w3 G) ap e1 e2 F,by simp only[ao]⟩
  ·exact d.elim
 ·split at d
  ·rename_i u lo hi i J G
   exact k (avm h.mem d ap (di h hc i) (aiy h hc J) (aiy h hc G))
  ·exact d.elim
 ·split at d
  ·rename_i u lo hi i J G
   exact k (av' h.mem d ap (di h hc i) (di h hc J) (di h hc G))
  ·exact d.elim
 ·split at d
  ·rename_i u v i J
   obtain⟨r,q,e1,e2,e3⟩:=avv aZ h.mem d ap (di h hc i) (di h hc J)
   refine⟨r,e1,?_⟩
   simp only[qt,i,yV]
   refine⟨q,λ w'=>w'.heap[q]? =w.heap[q]?,?_,rfl,λ w' B=>B,e3⟩
   revert e2
   cases DL u<;>exact λ h=>h
  ·exact d.elim
 ·split at d
  ·rename_i u i
   exact k (avy d ap (di h hc i))
  ·exact d.elim
 ·split at d
  ·rename_i ys i
   obtain⟨v,e1,e2⟩:=avj (XH h hc i) d
   exact k ⟨v,λ w'=>e2 o a _ w' ap rfl,e1⟩
  ·exact d.elim
 ·split at d
  ·rename_i x t _ u i
   split at d
   ·rename_i P C
    obtain⟨r,q,e1,e2,e3⟩:=avs h.mem d ap (di h hc i)
    refine⟨r,e1,?_⟩
    simp only[qt,C,i,yV]
    refine⟨q,λ w'=>w'.heap[q]? =w.heap[q]?,?_,rfl,λ w' B=>B,e3⟩
    revert e2
    cases DL u<;>exact λ h=>h
   ·rename_i C
    have:=k (avt h.mem d ap (di h hc i))
    simpa only[qt,C]using this
  ·exact d.elim
 ·split at d
  ·rename_i e A m c aj i
   have d:aF.p (.int .i64 (c:Int))=z:=d
   subst d
   have M:=di h hc i
   simp only[ao]at M
   exact k ⟨_,λ w'=>aKX (sD (e:=e.1) (n:=e.2) aj).1 ap M,by simp only[ao]⟩
  ·exact d.elim
 ·exact d.elim
end
end a8
namespace a8
open Go Go.RowKit aq I
structure ej (El:Nat->Type) where
 y:Option (aF El)
 bl:List (aC El)
 ws:List Nat
section
variable{T:bN}{W w w':World}{M0:List Nat}{X:Nat->Prop}{bl:List (aC T.El)}{ρ:List Value}
theorem Mem.aiu(a:Mem T W M0 X bl ρ w){k:Nat}(h:pS bl ρ k): ¬X k:=λ b=>by
 have c:=a.hP k b;rcases(a.lt k h).2 with e |e
 ·exact c.2 e
 ·omega
theorem G6{α:Type}{l:List α}{i:Nat}{x:α}(h:l[i]? =some x):l.set i x=l:=by
 obtain⟨a,J⟩:=aM.1 h;rw[<-J,lr]
theorem Mem.freeze(a:Mem T W M0 X bl ρ w){i t g k:Nat}{l:List (T.El t)}(hi:bl[i]? =some (.r t g k l)):Mem T W M0 X (bl.set i (.z t g k l)) ρ w/\To X bl (bl.set i (.z t g k l)) ρ ρ w w:=by
 obtain⟨h,b⟩:=a.r_ hi;have d:=a.D9 (B':=aC.z t g k l) (h':=h) (w':=w) hi b (bj.refl _ _) (λ q f=>by simp[bz]at f) ⟨λ _=>rfl,cu _,λ _=>⟨rfl,rfl,cu _,λ _=>rfl⟩⟩;have m:=a.gl (B':=aC.z t g k l) (h':=h) (w':=w) hi b (bj.refl _ _) (λ q f=>by simp[bz]at f) d (by
  obtain⟨A,c,xs,rfl,J,s⟩:=a.ok i _ _ hi b;obtain⟨c1,c2,c3,c4⟩:=J.cap;refine⟨A,c,rfl,c1,c2,c3,λ u=>?_⟩;have v:0<l.length:=kV.2 u;obtain⟨gb,rfl,x,hc,n⟩:=uI v J;refine⟨rfl,?_,xs,ou _ d.F s,by simpa[dm,fG]using hc⟩;have o:pS bl ρ gb:=⟨i,_,_,hi,b,by simp only[bz];rw[n];simp⟩
  refine⟨by simpa[dm]using a.aiu o,?_,by simpa[dm]using(a.lt gb o).1⟩;rintro⟨j,B,g',aA,p,r⟩;by_cases e:j=i
  ·subst e
   rw[ff (aM.1 hi).1]at aA
   cases aA
   simp[bz]at r
  ·rw[iQ (Ne.symm e)]at aA
   rw[iQ (Ne.symm e)]at p
   exact a.bu i j _ _ _ _ hi b aA p (Ne.symm e) gb (by simp only[bz];rw[n];simp) (by simpa[dm]using r))
 rw[G6 b]at m d;exact⟨m,d⟩
end
def gg{El:Nat->Type}(bl:List (aC El)):aF El->List (aC El)×aF El
 | .r i g=>match nth bl i with
   |some (.r t a k l)=>match bP g a with
    |true=>(bl.set i (.z t a k l),.s t l)
    |false=>(bl,.r i g)
   |some (.z t a _ l)=>match bP g a with
    |true=>(bl,.s t l)
    |false=>(bl,.r i g)
   |_=>(bl,.r i g)
 | .q t l=>(bl,.s t l)
 |y=>(bl,y)
def nR{El:Nat->Type}:List (aC El)->List (aF El)->List (aC El)×List (aF El)
 |bl,[]=>(bl,[])
 |bl,y::r=>match gg bl y with
  |(bl',a)=>match nR bl' r with
   |(b,c)=>(b,a::c)
section
variable{T:bN}{W w w':World}{M0:List Nat}{X:Nat->Prop}{bl:List (aC T.El)}{ρ:List Value}
theorem afh(c:Mem T W M0 X bl ρ w){y b:aF T.El}{bl':List (aC T.El)}{v:Value}(h:gg bl y=(bl',b))(a:ao T (bi X bl ρ w) w ρ bl y v):Mem T W M0 X bl' ρ w/\To X bl bl' ρ ρ w w/\ao T (bi X bl' ρ w) w ρ bl' b v:=by
 have same:∀ {u:aF T.El},(bl,u)=(bl',b)->ao T (bi X bl ρ w) w ρ bl u v->Mem T W M0 X bl' ρ w/\To X bl bl' ρ ρ w w/\ao T (bi X bl' ρ w) w ρ bl' b v:=λ{u} h m=>by
  simp only[b5]at h;obtain⟨rfl,rfl⟩:=h;exact⟨c,.refl,m⟩
 unfold gg at h;split at h
 ·rename_i i g
  split at h
  ·rename_i t n k l hi
   rw[cW]at hi
   split at h
   ·rename_i af
    have af:=a_ af
    subst af
    simp only[b5]at h
    obtain⟨rfl,rfl⟩:=h
    obtain⟨d,J⟩:=c.freeze hi
    refine⟨d,J,?_⟩
    have e:=J.v a
    simp only[ao]at e⊢
    obtain⟨_,aK,o,p,f⟩:=e
    have j:(bl.set i (aC.z t g k l))[i]? =some (aC.z t g k l):=ff (aM.1 hi).1
    rw[j]at f
    rw[f rfl]
    exact d.ok i _ _ j o
   ·exact same h a
  ·rename_i t n k l hi
   rw[cW]at hi
   split at h
   ·rename_i af
    refine same h ?_
    have:=Pk c a
    simp only[nm,cW,hi,af]at this
    exact this
   ·exact same h a
  ·exact same h a
 ·refine same h ?_
  simp only[ao]at a⊢
  exact a.1
 ·exact same h a
theorem Nq:∀ {ys a:List (aF T.El)}{bl bl':List (aC T.El)}{vs:List Value},Mem T W M0 X bl ρ w->nR bl ys=(bl',a)->a1 T (bi X bl ρ w) w ρ bl ys vs->Mem T W M0 X bl' ρ w/\To X bl bl' ρ ρ w w/\a1 T (bi X bl' ρ w) w ρ bl' a vs
 |[],a,bl,bl',vs,c,h,b=>by
  simp only[nR,b5]at h;obtain⟨rfl,rfl⟩:=h;exact⟨c,.refl,b⟩
 |y::r,a,bl,bl',vs,c,h,b=>by
  simp only[a1]at b;obtain⟨u,us,rfl,g,i⟩:=b;simp only[nR]at h;cases d:gg bl y with
  |mk bO cE=>
   rw[d]at h
   cases J:nR bO r with
   |mk m n=>
    rw[J]at h
    simp only[b5]at h
    obtain⟨rfl,rfl⟩:=h
    obtain⟨j,e,v1⟩:=afh c d g
    obtain⟨k,f,l⟩:=Nq j J (e.vs i)
    refine⟨k,e.trans f,?_⟩
    simp only[a1]
    exact⟨u,us,rfl,f.v v1,l⟩
end
section
variable{E:Env}{W w w':World}{M0:List Nat}{X:Nat->Prop}{n:ct}{f:cq E.T.El}{bl:List (aC E.T.El)}{ρ:List Value}{a:Act}{cur:List (Nat×Bool)}
def gV(E:Env)(o:Oper)(a:Act)(W:World)(M0:List Nat)(X:Nat->Prop)(bl:List (aC E.T.El))(ρ:List Value)(w:World)(e:ej E.T.El):Prop:=
 ∃w' ρ',Mem E.T W M0 X e.bl ρ' w'/\To X bl e.bl ρ ρ' w w'/\(∀k,k<w.heap.size->(∀i∈e.ws,∀B h,bl[i]? =some B->ρ[i]? =some h->k∉bz B h)->w'.heap[k]? =w.heap[k]?)/\
  match e.y with
  |some y=>∃v,bc E.P o a w v w'/\ao E.T (bi X e.bl ρ' w') w' ρ' e.bl y v
  |none=>rz E.P o a w w'
theorem aih(c:Mem E.T W M0 X bl ρ w){o:Oper}{t:Nat}{cs:List (aF E.T.El)}{vs:List Value}(g:a1 E.T (bi X bl ρ w) w ρ bl cs vs)(hy:bc E.P o a w (.pointer (some ⟨w.heap.size,0,none⟩)) (w.alloc (.cells ⟨vs⟩ t))) :
 gV E o a W M0 X bl ρ w ⟨some (.b bl.length 0),bl++[.c t cs],[]⟩:=by
 have d:bj [] w (w.alloc (.cells ⟨vs⟩ t)):=bj.alloc _ _ _
 have ad:∀k∈bz (aC.c t cs) (.pointer (some ⟨w.heap.size,0,none⟩)),w.heap.size<=k/\k<(w.alloc (.cells ⟨vs⟩ t)).heap.size:=λ k b=>by
  simp only[bz,af,dK]at b;subst b;simp
 have e:=c.AQ (B:=aC.c t cs) (h:=.pointer (some ⟨w.heap.size,0,none⟩)) d ad
 refine⟨_,ρ++[.pointer (some ⟨w.heap.size,0,none⟩)],c.push d ad ⟨_,vs,rfl,heap_alloc_new w _,e.vs g⟩,e,λ k b _=>d.block k b (by simp),_,hy,?_⟩
 simp only[ao]
 exact⟨_,by rw[<-c.len];simp,rfl⟩
theorem aCs(c:Mem E.T W M0 X bl ρ w){o:Oper}{kt vt:Nat}{K:hZ (E.T.El kt)}(e:(E.T.e kt).key=some K)(hy:bc E.P o a w (.map (some w.heap.size)) (w.alloc (.map #[] 0))) :
 gV E o a W M0 X bl ρ w ⟨some (.m bl.length),bl++[.m kt vt []],[]⟩:=by
 have d:bj [] w (w.alloc (.map #[] 0)):=bj.alloc _ _ _
 have ad:∀k∈bz (aC.m kt vt ([]:List (E.T.El kt×E.T.El vt))) (.map (some w.heap.size)),w.heap.size<=k/\k<(w.alloc (.map #[] 0)).heap.size:=λ k b=>by
  simp only[bz,af,dK]at b;subst b;simp
 have g:=c.AQ (B:=aC.m kt vt ([]:List (E.T.El kt×E.T.El vt))) (h:=.map (some w.heap.size)) d ad
 refine⟨_,ρ++[.map (some w.heap.size)],c.push d ad ⟨_,rfl,K,e,#[],0,heap_alloc_new w _,trivial,by simp,by simp⟩,g,λ k b _=>d.block k b (by simp),_,hy,?_⟩
 simp only[ao]
 exact⟨_,by rw[<-c.len];simp,rfl⟩
def Ps{El:Nat->Type}:aF El->Bool
 | .a _=>false
 | .u _=>false
 | .p v=>v.oneCell'
 |_=>true
theorem aC'{F:Nat->Prop}{y:aF E.T.El}{v:Value}(h:Ps y=true)(B:ao E.T F w ρ bl y v):v.oneCell'=true:=by
 cases y with
 |p u=>simp only[ao]at B;subst B;exact h
 |a l=>simp[Ps]at h
 |b i o=>simp only[ao]at B;obtain⟨g,_,rfl⟩:=B;rfl
 |x t d o=>simp only[ao]at B;obtain⟨_,_,_,rfl,_⟩:=B;rfl
 |s t l=>simp only[ao]at B;obtain⟨A,c,e⟩:=mj _ B;subst e;rfl
 |q t l=>simp only[ao]at B;obtain⟨_,A,rfl⟩:=B;rfl
 |r i g=>simp only[ao]at B;obtain⟨A,m,c,rfl⟩:=ZG B.1;rfl
 |v i g lo hi=>simp only[ao]at B;obtain⟨A,m,c,rfl⟩:=ZG B.1;rfl
 |e i g k t j d o=>simp only[ao]at B;have:=B.1;cases v<;>simp[w1]at this;rfl
 |w i g o=>simp only[ao]at B;have:=B.1;cases v<;>simp[w1]at this;rfl
 |m i=>simp only[ao]at B;obtain⟨g,_,rfl⟩:=B;rfl
 |n _ _ _=>simp only[ao]at B;obtain⟨g,rfl,_⟩:=B;rfl
 |f fn cs=>simp only[ao]at B;obtain⟨g,rfl,_⟩:=B;rfl
 |h fn us=>simp only[ao]at B;obtain⟨g,rfl,_⟩:=B;rfl
 |u l=>simp[Ps]at h
 |i t z=>simp only[ao]at B;obtain⟨g,rfl,_⟩:=B;rfl
 |pp i g sz dR=>simp only[ao]at B;obtain⟨_,_,rfl,_⟩:=B;rfl
 |Av i g sz q=>simp only[ao]at B;obtain⟨_,_,_,rfl,_⟩:=B;rfl
def xE{El:Nat->Type}:List (aF El)->Bool
 |[]=>true
 |y::r=>Ps y&&xE r
theorem Km{F:Nat->Prop}:∀ {ys:List (aF E.T.El)}{vs:List Value},xE ys=true->a1 E.T F w ρ bl ys vs->vs.all (·.oneCell')=true
 |[],vs,_,b=>by simp only[a1]at b;subst b;rfl
 |y::r,vs,h,b=>by
  simp only[a1]at b;obtain⟨u,us,rfl,c,J⟩:=b;simp only[xE,bC]at h;simp only[List.all_cons,bC];exact⟨aC' h.1 c,Km h.2 J⟩
theorem OI:∀(l:List Value)(n:Nat)(cs:List Value),aq.lay l n cs=fF l n cs
 |l,0,cs=>by cases l<;>rfl
 |[],n+1,cs=>rfl
 |u::l,n+1,cs=>by simp only[aq.lay,fF,OI l n cs]
def Qm{El:Nat->Type}(bl:List (aC El))(i:Nat):Bool:=match nth bl i with
 |some (.r _ _ _ _)=>true
 |_=>false
def TG(E:Env)(bl:List (aC E.T.El))(t:Nat)(p y:aF E.T.El):D (ej E.T.El):=match lay E.P t,xE (cellsOf y)with
 |some (_,sz),true=>match bP (cellsOf y).length sz with
  |true=>match p with
   | .b i o=>match nth bl i with
     |some (.c ty cs)=>match iI (o+(cellsOf y).length) cs.length with
      |true=>.ok ⟨none,bl.set i (.c ty (fF cs o (cellsOf y))),[i]⟩
      |false=>.no
     |_=>.no
   | .e i g k t' j d o=>match nth bl i with
     |some (.r b c e l)=>match bP g c,bP k e with
      |true,true=>match nR bl (fF ((E.T.e t').cs d) o (cellsOf y)),kS t' b,iI (o+(cellsOf y).length) ((E.T.e t').cs d).length with
       |(bl',cs),.isTrue h,true=>match(E.T.e t').hs cs,Qm bl' i with
        |some d',true=>.ok ⟨none,bl'.set i (.r b c (e+1) (l.set j.toNat (h▸d'))),[i]⟩
        |_,_=>.no
       |_,_,_=>.no
      |true,false=>.op (idx l j) λ d=>match nR bl (fF ((E.T.e b).cs d) o (cellsOf y)),iI (o+(cellsOf y).length) ((E.T.e b).cs d).length with
       |(bl',cs),true=>match(E.T.e b).hs cs,Qm bl' i with
        |some d',true=>.ok ⟨none,bl'.set i (.r b c (e+1) (l.set j.toNat d')),[i]⟩
        |_,_=>.no
       |_,_=>.no
      |_,_=>.no
     |_=>.no
   | .w i g o=>match nth bl i with
     |some (.k b m c cs)=>match bP g c&&iI (o+(cellsOf y).length) cs.length with
      |true=>.ok ⟨none,bl.set i (.k b m c (fF cs o (cellsOf y))),[i]⟩
      |false=>.no
     |_=>.no
   |_=>.no
  |false=>.no
 |_,_=>.no
theorem aj2{o:Oper}{t g c m sz n q tb:Nat}{x y:Operand}{v:Value}{xs vs:List Value}(h:v.cells=vs.toArray)(aj:∀w,(Go.sizeOf t).run E.P w= .ok sz w)(i:bP vs.length sz=true)(j:vs.all (·.oneCell')=true)
 (k:0<n)(e:rowIs w tb m (.slice (some ⟨g,0,none⟩) n c) n xs)(b:q+vs.length<=xs.length)(ap:o.op= .store t x y)(l:a.eval x= .pointer (some ⟨g,q,none⟩))(hy:a.eval y=v) :
 ∃w',rz E.P o a w w'/\bj [g] w w'/\rowIs w' tb m (.slice (some ⟨g,0,none⟩) n c) n (fF xs q vs):=by
 have d:=e.len
 have e:=e.own k
 rcases e.2 with⟨_,A⟩|⟨g',cap,cur,e1,e2,e3,e4,e5,e6,e7⟩
 ·omega
 ·simp only[Value.slice.injEq,aD,Addr.mk.injEq,and_true,true_and]at e1
  obtain⟨rfl,rfl⟩:=e1
  have p:xs.length<=cur.toList.length:=by rw[<-e7,fP];omega
  obtain⟨w',r,s,u⟩:=abJ (tb:=tb) (cs:=cur.toList) h aj i j (by simpa using gm b (by simpa using p)) (show(a7.b' g tb cur.toList).ok w by simpa[a7.b']using e3) ap l hy
  refine⟨w',r,s,.inl ⟨by rw[WU b,d],.inr ⟨g,c,⟨aq.lay cur.toList q vs⟩,rfl,e2,u,e4,e5,?_,?_⟩⟩⟩
  ·rw[OI]
   simp only[List.size_toArray]
   rw[WU (by omega)]
   simpa using e6
  ·rw[OI]
   simp only
   subst e7
   rw[xk _ _ _ (by omega),xk _ _ _ b]
   have z:n*m<=cur.toList.length:=by have:=e6;have B:n*m<=c*m:=jx m e4;simp;omega
   exact ZL (by rw[d]at b;exact b) z
theorem ahV{j n sz o k:Nat}(h:j<n)(J:o+k<=sz):j*sz+o+k<=n*sz:=by
 have:(j+1)*sz<=n*sz:=jx sz h;rw[jr]at this;omega
end
end a8
namespace a8
open Go Go.RowKit aq I
section
variable{E:Env}{W w w':World}{M0:List Nat}{X:Nat->Prop}{n:ct}{f:cq E.T.El}{bl:List (aC E.T.El)}{ρ:List Value}{a:Act}{cur:List (Nat×Bool)}
theorem Og(g:Mem E.T W M0 X bl ρ w){o:Oper}{i:Nat}{B B':aC E.T.El}{h:Value}(hi:bl[i]? =some B)(c:ρ[i]? =some h)(d:bj (bz B h) w w')(ad:bz B' h=bz B h)
 (j:bW (some B')=bW (some B)/\jk E.T (some B')=jk E.T (some B)/\gQ (some B)<=gQ (some B')/\(gQ (some B')=gQ (some B)->jj (some B')=jj (some B)))(hy:rz E.P o a w w')
 (p:To X bl (bl.set i B') ρ ρ w w'->iX E.T (bi X (bl.set i B') ρ w') w' ρ (bl.set i B') B' h):gV E o a W M0 X bl ρ w ⟨none,bl.set i B',[i]⟩:=by
 have l:∀k∈bz B' h,k∈bz B h\/(w.heap.size<=k/\k<w'.heap.size):=λ k e=>.inl (ad▸e)
 have b:=g.D9 (B':=B') (h':=h) hi c d l ⟨λ _=>rfl,by rw[j.1];exact cu _,λ _=>⟨rfl,j.2⟩⟩
 have aj:=G6 c
 have m:=g.gl (B':=B') (h':=h) hi c d l b (by rw[aj]at b⊢;exact p b)
 rw[aj]at m b
 exact⟨w',ρ,m,b,λ k e q=>d.block k e (q i (by simp) B h hi c),hy⟩
theorem gV.first{o:Oper}{bl':List (aC E.T.El)}{e:ej E.T.El}(c:To X bl bl' ρ ρ w w)(d:∀i∈e.ws,∀B' h k,bl'[i]? =some B'->ρ[i]? =some h->k∈bz B' h-> ∃B,bl[i]? =some B/\k∈bz B h)(h:gV E o a W M0 X bl' ρ w e):gV E o a W M0 X bl ρ w e:=by
 obtain⟨w',ρ',j,J,l,m⟩:=h;refine⟨w',ρ',j,c.trans J,λ k p q=>l k p λ i hi B' g af b r=>?_,m⟩;obtain⟨B,s,t⟩:=d i hi B' g k af b r;exact q i hi B g s b t
theorem av9{bl bl':List (aC E.T.El)}{y b:aF E.T.El}(h:gg bl y=(bl',b))(i:Nat):bl'[i]? =bl[i]? \/ ∃t g k l,bl[i]? =some (.r t g k l)/\bl'[i]? =some (.z t g k l):=by
 unfold gg at h;split at h
 ·rename_i j g
  split at h
  ·rename_i t c k l aA
   rw[cW]at aA
   split at h
   ·simp only[b5]at h
    obtain⟨rfl,_⟩:=h
    by_cases e:i=j
    ·subst e
     exact .inr ⟨t,c,k,l,aA,ff (aM.1 aA).1⟩
    ·exact .inl (iQ (Ne.symm e))
   ·simp only[b5]at h;exact .inl (by rw[h.1])
  ·split at h<;>(simp only[b5]at h;exact .inl (by rw[h.1]))
  ·simp only[b5]at h;exact .inl (by rw[h.1])
 ·simp only[b5]at h;exact .inl (by rw[h.1])
 ·simp only[b5]at h;exact .inl (by rw[h.1])
theorem Np:∀ {ys b:List (aF E.T.El)}{bl bl':List (aC E.T.El)},nR bl ys=(bl',b)-> ∀i:Nat,bl'[i]? =bl[i]? \/ ∃t g k l,bl[i]? =some (.r t g k l)/\bl'[i]? =some (.z t g k l)
 |[],b,bl,bl',h,i=>by
  simp only[nR,b5]at h;exact .inl (by rw[h.1])
 |y::r,b,bl,bl',h,i=>by
  simp only[nR]at h;cases c:gg bl y with
  |mk bO cE=>
   rw[c]at h
   cases J:nR bO r with
   |mk d e=>
    rw[J]at h
    simp only[b5]at h
    obtain⟨rfl,_⟩:=h
    rcases av9 c i with e1 |⟨t,g,k,l,e1,e2⟩
    ·rcases Np J i with e3 |⟨t,g,k,l,e3,e4⟩
     ·exact .inl (e3.trans e1)
     ·exact .inr ⟨t,g,k,l,by rw[<-e1];exact e3,e4⟩
    ·rcases Np J i with e3 |⟨t',g',k',l',e3,e4⟩
     ·exact .inr ⟨t,g,k,l,e1,by rw[e3,e2]⟩
     ·rw[e2]at e3;cases e3
theorem ahG{α:Type}:∀(l:List α)(q:Nat)(cs b:List α),q+cs.length<=l.length->fF (l++b) q cs=fF l q cs++b
 |l,0,cs,b,h=>by
  have e:∀m:List α,fF m 0 cs=cs++m.drop cs.length:=λ m=>by cases m<;>rfl
  rw[e,e,List.drop_append_of_le_length (by simpa using h),gT]
 |[],q+1,cs,b,h=>by simp at h
 |u::l,q+1,cs,b,h=>by
  simp only[jf,fF,ahG l q cs b (by simp at h;omega)]
theorem ahH{α:Type}:∀(a l:List α)(q:Nat)(cs:List α),fF (a++l) (a.length+q) cs=a++fF l q cs
 |[],l,q,cs=>by simp
 |u::a,l,q,cs=>by
  have e:(u::a).length+q=(a.length+q)+1:=by simp only[cV];omega
  rw[e];simp only[jf,fF,ahH a l q cs]
theorem aBu{α:Type}{xs cs0 vs:List α}{p q:Nat}(h:(xs.drop p).take cs0.length=cs0)(i:p+cs0.length<=xs.length)(b:q+vs.length<=cs0.length):xs.take p++fF cs0 q vs++xs.drop (p+cs0.length)=fF xs (p+q) vs:=by
 have c:xs=xs.take p++(cs0++xs.drop (p+cs0.length)):=by
  have d:xs.drop p=cs0++xs.drop (p+cs0.length):=by
   rw[<-List.drop_drop];have:=(jd cs0.length (xs.drop p)).symm;rwa [h]at this
  rw[<-d,jd]
 have g:(xs.take p).length=p:=by rw[fP];omega
 have e:=ahH (xs.take p) (cs0++xs.drop (p+cs0.length)) q vs;rw[<-c,g,ahG _ _ _ _ b,<-gT]at e;exact e.symm
theorem ad8(aZ:cX E)(G:Mem E.T W M0 X bl ρ w){o:Oper}{t sz i b g k q:Nat}{l:List (E.T.El b)}{x y:Operand}{j:Int}{d d':E.T.El b}{u:aF E.T.El}{bl':List (aC E.T.El)}{cs:List (aF E.T.El)}{h:Value}{A:Option Addr}{c m:Nat}
 (aj:∀w,(Go.sizeOf t).run E.P w= .ok sz w)(S:xE (cellsOf u)=true)(J:bP (cellsOf u).length sz=true)(hi:bl[i]? =some (.r b g k l))(H:ρ[i]? =some h)(aK:idx l j=some d)(z:q+(cellsOf u).length<=((E.T.e b).cs d).length)
 (B:Qm bl' i=true)(I:nR bl (fF ((E.T.e b).cs d) q (cellsOf u))=(bl',cs))(U:(E.T.e b).hs cs=some d')(r:h= .slice A m c)(ap:o.op= .store t x y)(V:a.eval x= .pointer (some ⟨dm A,j.toNat*(E.T.ty b).size+q,none⟩))(Y:ao E.T (bi X bl ρ w) w ρ bl u (a.eval y)) :
 gV E o a W M0 X bl ρ w ⟨none,bl'.set i (.r b g (k+1) (l.set j.toNat d')),[i]⟩:=by
 have wD:=oV Y
 have C2:=wD.len
 obtain⟨cb,bE,xs,e1,e2,e3⟩:=G.ok i _ _ hi H
 rw[r]at e1
 simp only[Value.slice.injEq]at e1
 obtain⟨rfl,rfl,rfl⟩:=e1
 obtain⟨Z,C,o_⟩:=lk aK
 obtain⟨gb,rfl,wA,hc,lc⟩:=uI (by omega) (r▸e2)
 obtain⟨cs0,K,bx⟩:=KF (E.T.ty b) e3 o_
 have s:=aZ.tb.cells (ρ:=ρ) (bl:=bl) K
 have o5:=s.len
 have L:=(E.T.ty b).len K
 obtain⟨m1,M,v1⟩:=Nq G I (s.lay wD z)
 have fE:=aZ.tb.hs _ _ _ U _ _ _ _ _ v1
 have N:=xK _ e3
 have p:j.toNat*(E.T.ty b).size+q+(a.eval y).cells.toList.length<=xs.length:=by
  rw[N,C2];exact ahV C (by omega)
 obtain⟨w',bh,bd,b9⟩:=aj2 (E:=E) (a:=a) (v:=a.eval y) (vs:=(a.eval y).cells.toList) (by simp) aj (by rw[C2];exact J) (Km S wD) (show 0<l.length by omega) (r▸e2) p ap (by simpa[dm]using V) rfl
 have O:bl'[i]? =some (.r b g k l):=by
  rcases Np I i with e |⟨t',g',k',l',e4,e5⟩
  ·exact e.trans hi
  ·unfold Qm at B
   rw[cW,e5]at B
   cases B
 have ay:bz (aC.r b g k l) h=[gb]:=by subst r;simpa[bz]using lc _
 have D:=Og (B':=aC.r b g (k+1) (l.set j.toNat d')) (w':=w') (o:=o) (a:=a) m1 O H (by rw[ay];exact bd) rfl ⟨rfl,rfl,Nat.le_succ _,λ e=>absurd e (by simp[gQ])⟩ bh (λ P=>by
  refine⟨some ⟨gb,0,none⟩,c,fF xs (j.toNat*(E.T.ty b).size+q) (a.eval y).cells.toList,by subst r;simp,by subst r;simpa using b9,?_⟩;have F:dx (E.T.ty b) (bi X (bl'.set i (aC.r b g (k+1) (l.set j.toNat d'))) ρ w') w' xs l:=ou _ (M.trans P).F e3;have n2:=(E.T.ty b).law P.F fE;have df:=Zc n2 F C;have e:xs.take (j.toNat*(E.T.ty b).size)++fF cs0 q (a.eval y).cells.toList++xs.drop (j.toNat*(E.T.ty b).size+(E.T.ty b).size)=fF xs (j.toNat*(E.T.ty b).size+q) (a.eval y).cells.toList:=by
   have eC:=aeR bx;have Q:=aBu (q:=q) (vs:=(a.eval y).cells.toList) eC (by rw[L,N];have:=ahV (o:=0) (k:=(E.T.ty b).size) (sz:=(E.T.ty b).size) C (by omega);omega) (by omega);rw[L]at Q;exact Q
  rw[<-e];exact df)
 refine gV.first M (λ dn R B' g' D1 af au aJ=>?_) D
 simp only[dK]at R
 subst R
 exact⟨_,hi,by rw[O]at af;cases af;exact aJ⟩
end
end a8
namespace a8
open Go Go.RowKit aq I
section
variable{E:Env}{W w w':World}{M0:List Nat}{X:Nat->Prop}{n:ct}{f:cq E.T.El}{bl:List (aC E.T.El)}{ρ:List Value}{a:Act}{cur:List (Nat×Bool)}
theorem avA(aZ:cX E)(z:Mem E.T W M0 X bl ρ w){o:Oper}{t:Nat}{x y:Operand}{p u:aF E.T.El}{e:ej E.T.El}(h:(TG E bl t p u).out e)(ap:o.op= .store t x y)
 (B:ao E.T (bi X bl ρ w) w ρ bl p (a.eval x))(N:ao E.T (bi X bl ρ w) w ρ bl u (a.eval y)):gV E o a W M0 X bl ρ w e:=by
 unfold TG at h
 split at h
 ·rename_i b sz ai K
  have aj:=(JY ai).2
  split at h
  ·rename_i J
   have wD:=oV N
   have C2:=wD.len
   split at h
   ·rename_i i r
    split at h
    ·rename_i ty cs hi
     rw[cW]at hi
     split at h
     ·rename_i af
      have h:(⟨none,bl.set i (.c ty (fF cs r (cellsOf u))),[i]⟩:ej E.T.El)=e:=h
      subst h
      have af:=ck af
      simp only[ao]at B
      obtain⟨g,q,O⟩:=B
      obtain⟨g',vs,e1,e2,e3⟩:=z.ok i _ _ hi q
      simp only[Value.pointer.injEq,aD,Addr.mk.injEq,and_true]at e1
      subst e1
      have P:=e3.len
      obtain⟨w',Q,G,R⟩:=abJ (tb:=ty) (cs:=vs) (v:=a.eval y) (vs:=(a.eval y).cells.toList) (by simp) aj (by rw[C2];exact J) (Km K wD) (by rw[C2,P];exact Nat.ble_eq_true_of_le af) (show(a7.b' g ty vs).ok w from e2) ap O rfl
      refine Og (B':=aC.c ty (fF cs r (cellsOf u))) z hi q (by simpa[bz,a8.af]using G) rfl ⟨rfl,rfl,cu _,λ _=>rfl⟩ Q (λ H=>⟨g,aq.lay vs r (a.eval y).cells.toList,rfl,R,?_⟩)
      rw[OI]
      exact(H.vs e3).lay (H.vs wD) af
     ·exact h.elim
    ·exact h.elim
   ·rename_i i g k t' j d r
    split at h
    ·rename_i C g2 G l hi
     rw[cW]at hi
     simp only[ao]at B
     obtain⟨_,aK,I,S,D⟩:=B
     rw[hi]at D
     split at h
     ·rename_i q L
      have q:=a_ q
      have L:=a_ L
      subst q;subst L
      obtain⟨⟨A,m,c,s,M,U,V⟩,aDP,X3⟩:=D rfl
      obtain⟨l',F,Y⟩:=X3 rfl
      split at h
      ·rename_i bl' cs aL9 Z aL0 I3
       simp only[jj,aD,Sigma.mk.injEq]at F
       obtain⟨eY,F⟩:=F
       subst eY
       have F:=eq_of_heq F
       subst F
       split at h
       ·rename_i d' fg eD
        have h:(⟨none,bl'.set i (.r C g (k+1) (l.set j.toNat d')),[i]⟩:ej E.T.El)=e:=h
        subst h
        exact ad8 aZ z aj K J hi I Y (ck I3) eD Z fg s ap (by simpa[jk]using V) N
       ·exact h.elim
      ·exact h.elim
     ·rename_i q L
      have q:=a_ q
      subst q
      obtain⟨⟨A,m,c,s,M,U,V⟩,_⟩:=D rfl
      obtain⟨d1,Y,h⟩:=h
      dsimp only at h
      split at h
      ·rename_i bl' cs Z I3
       split at h
       ·rename_i d' fg eD
        have h:(⟨none,bl'.set i (.r C g (G+1) (l.set j.toNat d')),[i]⟩:ej E.T.El)=e:=h
        subst h
        exact ad8 aZ z aj K J hi I Y (ck I3) eD Z fg s ap (by simpa[jk]using V) N
       ·exact h.elim
      ·exact h.elim
     ·exact h.elim
    ·exact h.elim
   ·rename_i i g r
    split at h
    ·rename_i C s2 g2 cs hi
     rw[cW]at hi
     split at h
     ·rename_i af
      simp only[bC]at af
      have h:(⟨none,bl.set i (.k C s2 g2 (fF cs r (cellsOf u))),[i]⟩:ej E.T.El)=e:=h
      subst h
      simp only[ao]at B
      obtain⟨_,aK,I,S,D⟩:=B
      rw[hi]at D
      have q:=a_ af.1
      subst q
      obtain⟨A,m,c,s,M,U⟩:=D rfl
      obtain⟨cb,eR,bE,xs,e1,e2,e3⟩:=z.ok i _ _ hi I
      rw[e1]at s
      simp only[Value.slice.injEq]at s
      obtain⟨rfl,rfl,rfl⟩:=s
      subst e1
      have I2:=ck af.2
      have ax8:=e3.len
      obtain⟨gb,rfl,wA,hc,lc⟩:=uI M e2
      obtain⟨w',Q,G,R⟩:=aj2 (E:=E) (a:=a) (v:=a.eval y) (vs:=(a.eval y).cells.toList) (by simp) aj (by rw[C2];exact J) (Km K wD) M e2 (by rw[C2,ax8];exact I2) ap (by simpa[dm]using U) rfl
      have ay:bz (aC.k C s2 g cs) (.slice (some ⟨gb,0,none⟩) eR bE)=[gb]:=by simpa[bz]using lc _
      exact Og (B':=aC.k C s2 g (fF cs r (cellsOf u))) z hi I (by rw[ay];exact G) rfl ⟨rfl,rfl,cu _,λ _=>rfl⟩ Q (λ H=>⟨_,_,_,_,rfl,R,(H.vs e3).lay (H.vs wD) I2⟩)
     ·exact h.elim
    ·exact h.elim
   ·exact h.elim
  ·exact h.elim
 ·exact h.elim
theorem aeb{F:Nat->Prop}{kt vt:Nat}{K:hZ (E.T.El kt)}{k:E.T.El kt}{v:E.T.El vt}{u:Value}(g:Co E.T F w vt v u):∀ {es:List MapEntry}{d:List (E.T.El kt×E.T.El vt)}{p:Nat},jB E.T F w K es d->jR K d k=some p->jB E.T F w K (es.modify p λ e=>{ e with key:=K.enc k,val:=u }) (uj K d k v)
 |[],[],_,_,b=>by simp[jR,ph]at b
 |[],_::_,_,h,_=>h.elim
 |_::_,[],_,h,_=>h.elim
 |e::es,q::d,p,h,b=>by
  obtain⟨j,J,i⟩:=h;by_cases c:q.1=k
  ·simp only[jR,ph,if_pos c,aD]at b
   subst b
   simp only[uj,gC,if_pos c,List.modify_zero_cons]
   exact⟨rfl,g,i⟩
  ·simp only[jR,ph,if_neg c,cd]at b
   obtain⟨m,l,rfl⟩:=b
   simp only[uj,gC,if_neg c,List.modify_succ_cons]
   exact⟨j,J,aeb g i l⟩
theorem aea{F:Nat->Prop}{kt vt:Nat}{K:hZ (E.T.El kt)}{k:E.T.El kt}{v:E.T.El vt}{u:Value}{c:Nat}(i:Co E.T F w vt v u):∀ {es:List MapEntry}{d:List (E.T.El kt×E.T.El vt)},jB E.T F w K es d->jR K d k=none->jB E.T F w K (es++[{ key:=K.enc k,val:=u,born:=c }]) (uj K d k v)
 |[],[],_,_=>⟨rfl,i,trivial⟩
 |[],_::_,h,_=>h.elim
 |_::_,[],h,_=>h.elim
 |e::es,q::d,h,b=>by
  obtain⟨j,J,l⟩:=h;by_cases g:q.1=k
  ·simp[jR,ph,if_pos g]at b
  ·simp only[jR,ph,if_neg g,Option.map_eq_none_iff]at b
   simp only[uj,gC,if_neg g,jf]
   exact⟨j,J,aea i l b⟩
theorem ad'{F:Nat->Prop}{kt vt:Nat}{K:hZ (E.T.El kt)}{k:E.T.El kt}:∀ {es:List MapEntry}{d:List (E.T.El kt×E.T.El vt)}{p:Nat},jB E.T F w K es d->jR K d k=some p-> ∃e,es[p]? =some e/\e.key=K.enc k
 |[],[],_,_,b=>by simp[jR,ph]at b
 |[],_::_,_,h,_=>h.elim
 |_::_,[],_,h,_=>h.elim
 |e::es,q::d,p,h,b=>by
  obtain⟨g,J,i⟩:=h;by_cases c:q.1=k
  ·simp only[jR,ph,if_pos c,aD]at b
   subst b
   exact⟨e,rfl,by rw[g,c]⟩
  ·simp only[jR,ph,if_neg c,cd]at b
   obtain⟨l,j,rfl⟩:=b
   simpa using ad' i j
def M'(E:Env)(bl:List (aC E.T.El))(t:Nat)(u k v:aF E.T.El):D (ej E.T.El):=match u,mapOf E.P t with
 | .m i,some (b,_)=>match nth bl i with
   |some (.m kt vt d)=>match(E.T.e kt).key with
    |some K=>match nR bl (cellsOf v)with
     |(bl',cs)=>match MT (E.P.underlying b) K.desc,(E.T.e kt).hs (cellsOf k),(E.T.e vt).hs cs,(match ll k with|true=>(E.T.e kt).agg |false=>!(E.T.e kt).agg)&&(match ll v with|true=>(E.T.e vt).agg |false=>!(E.T.e vt).agg)with
      |true,some key,some val,true=>.ok ⟨none,bl'.set i (.m kt vt (uj K d key val)),[i]⟩
      |_,_,_,_=>.no
    |none=>.no
   |_=>.no
 |_,_=>.no
theorem aeN(aZ:cX E)(hm:Mem E.T W M0 X bl ρ w){o:Oper}{t:Nat}{x y z:Operand}{u k v:aF E.T.El}{e:ej E.T.El}(h:(M' E bl t u k v).out e)(ap:o.op= .mapUpdate t x y z\/o.op= .insert t x y z)
 (O:ao E.T (bi X bl ρ w) w ρ bl u (a.eval x))(hy:ao E.T (bi X bl ρ w) w ρ bl k (a.eval y))(P:ao E.T (bi X bl ρ w) w ρ bl v (a.eval z)):gV E o a W M0 X bl ρ w e:=by
 unfold M' at h
 split at h
 ·rename_i i Q aMz C
  split at h
  ·rename_i kt vt d hi
   rw[cW]at hi
   split at h
   ·rename_i K D
    split at h
    rename_i bl' cs R
    split at h
    ·rename_i key val aK VF tW F
     have h:(⟨none,bl'.set i (.m kt vt (uj K d key val)),[i]⟩:ej E.T.El)=e:=h
     subst h
     simp only[bC]at F
     simp only[ao]at O
     obtain⟨r,S,U⟩:=O
     have V:a.eval y=K.enc key:=by
      have e1:=aZ.tb.hs _ _ _ VF _ _ _ _ _ (oV hy);exact(SC hy F.1).trans (aZ.tb.key _ _ D _ _ _ _ e1)
     obtain⟨Y,t1,v1⟩:=Nq hm R (oV P)
     have fE:=aZ.tb.hs _ _ _ tW _ _ _ _ _ v1
     have G:bl'[i]? =some (.m kt vt d):=by
      rcases Np R i with e |⟨t',g',k',l',e4,e5⟩
      ·exact e.trans hi
      ·rw[hi]at e4;cases e4
     have l:Co E.T (bi X bl' ρ w) w vt val (a.eval z):=⟨_,fE,SC P F.2⟩
     obtain⟨eT,e1,ach,Z,es,clock,m,A,bM,H⟩:=Y.ok i _ _ G S
     simp only[Value.map.injEq,aD]at e1
     subst e1
     rw[D]at Z
     cases Z
     have hu:=W7 C
     have wN:=adv aK
     have bw:r<w.heap.size:=(ft.1 m).1
     have jb:∀I:Obj,bj [r] w { w with heap:=w.heap.setIfInBounds r I }:=λ I=>⟨rfl,rfl,rfl,by simp,λ q _ az=>by
      show(w.heap.setIfInBounds r I)[q]? =_
      rw[fe,if_neg (λ e=>az (by simp[e]))]⟩
     refine gV.first t1 (λ dn Jb B' g' D1 af au aJ=>?_) ?_
     ·simp only[dK]at Jb
      subst Jb
      rw[G]at af
      cases af
      exact⟨_,hi,aJ⟩
     have fin:∀(j:Array MapEntry)(s:Nat),rz E.P o a w { w with heap:=w.heap.setIfInBounds r (.map j s) } ->jB E.T (bi X bl' ρ w) w K j.toList (uj K d key val)->(j.toList.map (·.born)).Pairwise (·< ·)->(∀e∈j.toList,e.born<s) ->
      gV E o a W M0 X bl' ρ w ⟨none,bl'.set i (.m kt vt (uj K d key val)),[i]⟩:=λ j s V8 h1 J al=>by
      refine Og (B':=aC.m kt vt (uj K d key val)) (w':={ w with heap:=w.heap.setIfInBounds r (.map j s) }) Y G S (by simpa[bz,a8.af]using jb _) rfl ⟨rfl,rfl,cu _,λ _=>rfl⟩ V8 (λ aG=>⟨r,rfl,K,D,j,s,by simp[bw],h1.law aG.F,J,al⟩)
     rcases Zw (vt:=vt) key wN A w with⟨f1,B,f3⟩|⟨p,anH,Hd,f1,B,f3,f4⟩
     ·refine fin (es.push { key:=K.enc key,val:=a.eval z,born:=clock }) (clock+1) ?_ ?_ ?_ ?_
      ·rcases ap with ap |ap<;>
       ·simp only[rz,execOp,ap,U,V,Instr.mapUpdate,Sem.run_bind,run_underlying hu,Result.andThen_ok,MapKept.run_getObj_map m,@lL.check _ K.dec K.r9 E.P w false Q key wN,f3,MapKept.run_setObj_map _ m]
        rfl
      ·simpa using aea l A B
      ·simp only[Array.toList_push,jz,eu,hK,List.pairwise_append]
       refine⟨bM,by simp,λ b af c hc=>?_⟩
       obtain⟨e,g,rfl⟩:=jv.1 af
       simp only[dK]at hc
       subst hc
       exact H e g
      ·intro e g
       simp only[Array.toList_push,b3,dK]at g
       rcases g with g |rfl
       ·exact Nat.lt_succ_of_lt (H e g)
       ·exact kU _
     ·obtain⟨e,g,L⟩:=ad' (k:=key) A B
      have M:es[p]? =some e:=by simpa using g
      have FW:((es.modify p λ e=>{ e with key:=K.enc key,val:=a.eval z }).toList.map (·.born))=es.toList.map (·.born):=by
       rw[Array.toList_modify];apply j4;intro i;simp only[iT,List.getElem?_modify];cases hi:es.toList[i]? with
       |none=>simp
       |some e'=>by_cases NV:p=i<;>simp[NV]
      refine fin (es.modify p λ e=>{ e with key:=K.enc key,val:=a.eval z }) clock ?_ ?_ ?_ ?_
      ·have Jk:(Instr.keyThatStays e.key (K.enc key)).run E.P w= .ok (K.enc key) w:=by
        rw[L];simp only[Instr.keyThatStays,@lL.bits _ K.dec K.r9,if_true];rfl
       rcases ap with ap |ap<;>
       ·simp only[rz,execOp,ap,U,V,Instr.mapUpdate,Sem.run_bind,run_underlying hu,Result.andThen_ok,MapKept.run_getObj_map m,@lL.check _ K.dec K.r9 E.P w false Q key wN,f4,M,fI,ie,Jk,MapKept.run_setObj_map _ m]
        rfl
      ·rw[Array.toList_modify];exact aeb l A B
      ·rw[FW];exact bM
      ·intro e1 Vg
       have:e1.born∈es.toList.map (·.born):=by rw[<-FW];exact jv.2 ⟨e1,Vg,rfl⟩
       obtain⟨e2,N,heq⟩:=jv.1 this
       rw[<-heq];exact H e2 N
    ·exact h.elim
   ·exact h.elim
  ·exact h.elim
 ·exact h.elim
end
end a8
namespace a8
open Go Go.RowKit aq I
section
variable{P:Program}{w w':World}
def Fh(w:World)(sz m:Nat)(A:Option Addr)(news:List Value):Prop:=(m=0/\news=[])\/ ∃dW,A=some dW/\news.length=m*sz/\(∀j u,news[j]? =some u->w.cell? (dW.add j)=some u)/\ ∀u∈news,u.oneCell'=true
theorem aGr{t ty e:TypeId}{i:TypeInfo}(d:P.underlying t=some (.slice e))(hi:P.info? e=some i)(A b:Option Addr)(n c c2:Nat)(a:n<=c):(Builtin.append_ #[t,t] ty #[.slice A n c,.slice b 0 c2]).run P w= .ok (.slice A n c) w:=by
 cases A<;>cases b<;>simp[Builtin.append_,run_underlying d,Go.sizeOf,typeInfo,hi,Builtin.lenOf,Builtin.firstCells,a,storeCells,loadCells,loadCellsFrom]
theorem rowIs.short{t sz n c k:Nat}{A:Option Addr}{xs:List Value}(e:rowIs w t sz (.slice A n c) n xs)(b:k<=n):rowIs w t sz (.slice A k c) k (xs.take (k*sz)):=by
 have l:=e.len;have d:k*sz<=n*sz:=jx sz b;rcases e with e |⟨rfl,rfl,cb,e⟩
 ·rcases e.2 with⟨a,m⟩|⟨g,cap,cur,a,J,f,o,h,i,j⟩
  ·simp only[Value.slice.injEq]at a
   obtain⟨rfl,rfl,rfl⟩:=a
   have:k=0:=by omega
   subst this
   exact .inl ⟨by simp,.inl ⟨rfl,rfl⟩⟩
  ·simp only[Value.slice.injEq]at a
   obtain⟨rfl,_,rfl⟩:=a
   refine .inl ⟨by rw[fP];omega,.inr ⟨g,c,cur,rfl,J,f,by omega,h,i,?_⟩⟩
   rw[<-j,List.take_take,lD d]
 ·have:k=0:=by omega
  subst this
  simp only[Value.slice.injEq]at e
  obtain⟨rfl,_,rfl⟩:=e
  exact .inr ⟨rfl,by simp,A,rfl⟩
theorem acE{t ty e:TypeId}{i:TypeInfo}{z:Value}{bytes sz:Nat}(s:P.underlying t=some (.slice e))(hi:P.info? e=some i)(C:i.zero=some z)(D:i.size=sz)(E:i.bytes=bytes)(F:z.cells.size=sz)(G:0<sz)
 {A v:Option Addr}{n c m c2:Nat}{xs news:List Value}(x:rowIs w e sz (.slice A n c) n xs)(aj:Fh w sz m v news)(H:n+m<=maxLen)(af:(n+m)*bytes<=140737488355328) :
 ∃cb I w',(Builtin.append_ #[t,t] ty #[.slice A n c,.slice v m c2]).run P w= .ok (.slice cb (n+m) I) w'/\rowIs w' e sz (.slice cb (n+m) I) (n+m) (xs++news)/\bj (a8.af (.slice A n c)) w w'/\ ∀k∈a8.af (.slice cb (n+m) I),k∈a8.af (.slice A n c)\/(w.heap.size<=k/\k<w'.heap.size):=by
 have N:=x.cap
 rcases kx m with O |hm
 ·subst O
  have K:news=[]:=by
   rcases aj with⟨_,h⟩|⟨_,_,h,_⟩
   ·exact h
   ·exact gK (by simpa using h)
  subst K
  exact⟨A,c,w,aGr s hi A v n c c2 N.1,by simpa using x,bj.refl _ _,λ k a=>.inl a⟩
 ·obtain⟨dW,rfl,L,M,C6⟩:∃dW,v=some dW/\news.length=m*sz/\(∀j u,news[j]? =some u->w.cell? (dW.add j)=some u)/\ ∀u∈news,u.oneCell'=true:=by
   rcases aj with⟨h,_⟩|h
   ·omega
   ·exact h
  have grow:∀ {d:Value}{w':World}{b:Nat},w'.ownsRow b e sz d (n+m) (xs++news)-> ∃g cap cur,d= .slice (some ⟨g,0,none⟩) (n+m) cap/\b<=g/\w'.heap[g]? =some (.cells cur e (0,0))/\n+m<=cap:=λ{d w' b} h=>by
   rcases h.2 with⟨_,O⟩|⟨g,cap,cur,S,J,T,U,_⟩
   ·omega
   ·exact⟨g,cap,cur,S,J,T,U⟩
  have o:∀ {d:Value}{w':World}{b:Nat},w'.ownsRow b e sz d (n+m) (xs++news)->w'.ownsRow 0 e sz d (n+m) (xs++news):=λ{d w' b} h=>⟨h.1,h.2.imp id λ⟨g,cap,cur,V,_,l⟩=>⟨g,cap,cur,V,gD _,l⟩⟩
  rcases kx c with hc |hc
  ·subst hc
   have K:n=0:=by omega
   subst K
   have W:xs=[]:=gK (by rw[x.len];simp)
   subst W
   have qc:a8.af (.slice A 0 0)=[]:=by cases A<;>rfl
   rw[qc]
   cases A with
   |none=>
    obtain⟨d,w',p,f,r,_,Q⟩:=run_append_own_at (P:=P) w w.heap.size t ty e i z sz bytes s hi C D E F G (.slice none 0 0) 0 [] ⟨by simp,.inl ⟨rfl,rfl⟩⟩ dW m c2 news L M C6 H af (cu _)
    obtain⟨g,cap,cur,rfl,y,l,R⟩:=grow (b:=w.heap.size) f
    refine⟨_,_,w',p,.inl (o f),bj.grown r,λ k a=>?_⟩
    right
    have:k=g:=by
     cases cap with
     |zero=>simp[a8.af]at a
     |succ q=>simpa[a8.af]using a
    subst this
    exact⟨y,(ft.1 l).1⟩
   |some b=>
    obtain⟨d,w',p,f,r⟩:=run_append_arg_grows (P:=P) w t ty e i z sz bytes s hi C D E F G b 0 0 [] (by simp) (λ j u X=>by simp at X) dW m c2 news L M (by omega) H af
    obtain⟨g,cap,cur,rfl,y,l,R⟩:=grow (b:=w.heap.size) f
    refine⟨_,_,w',p,.inl (o f),bj.grown r,λ k a=>?_⟩
    right
    have:k=g:=by
     cases cap with
     |zero=>simp[a8.af]at a
     |succ q=>simpa[a8.af]using a
    subst this
    exact⟨y,(ft.1 l).1⟩
  ·obtain⟨B,rfl⟩:=N.2.2.2 hc
   have Y:w.ownsRow 0 e sz (.slice (some ⟨B,0,none⟩) n c) n xs:=by
    rcases x with h |⟨_,_,cb,h⟩
    ·exact h
    ·simp only[Value.slice.injEq]at h;omega
   obtain⟨d,w',p,f,r,_,Q⟩:=run_append_own_at (P:=P) w 0 t ty e i z sz bytes s hi C D E F G (.slice (some ⟨B,0,none⟩) n c) n xs Y dW m c2 news L M C6 H af (gD _)
   obtain⟨g,cap,cur,rfl,y,l,R⟩:=grow (b:=0) f
   have Z:a8.af (.slice (some ⟨B,0,none⟩) n c)=[B]:=by
    cases c with
    |zero=>omega
    |succ c=>rfl
   rw[Z]
   refine⟨_,_,w',p,.inl f,bj.grown r,λ k a=>?_⟩
   have:k=g:=by
    cases cap with
    |zero=>simp[a8.af]at a
    |succ q=>simpa[a8.af]using a
   subst this
   rcases Q with e5 |e5
   ·left
    simp only[Value.ownBlock,aD]at e5
    simp[e5]
   ·right
    simp only[Value.ownBlock,aD]at e5
    rw[e5]
    refine⟨cu _,?_⟩
    rw[<-e5]
    exact(ft.1 l).1
end
def tx(P:Program)(t:TypeId):Option (Nat×Nat×Nat):=match P.underlying t with
 |some (.slice e)=>match P.info? e with
  |some i=>match i.zero with
   |some z=>match bP z.cells.size i.size&&ee 0 i.size&&ee 0 i.bytes with
    |true=>some (e,i.size,i.bytes)
    |false=>none
   |none=>none
  |none=>none
 |_=>none
theorem y_{P:Program}{t e sz bV:Nat}(h:tx P t=some (e,sz,bV)):P.underlying t=some (.slice e)/\ ∃i z,P.info? e=some i/\i.zero=some z/\i.size=sz/\i.bytes=bV/\z.cells.size=sz/\0<sz/\0<bV:=by
 unfold tx at h;split at h
 ·rename_i e' b
  split at h
  ·rename_i i J
   split at h
   ·rename_i z c
    split at h
    ·rename_i a
     simp only[aD,b5]at h
     obtain⟨rfl,rfl,rfl⟩:=h
     simp only[bC]at a
     exact⟨b,i,z,J,c,rfl,rfl,a_ a.1.1,ck a.1.2,ck a.2⟩
    ·cases h
   ·cases h
  ·cases h
 ·cases h
def y4{El:Nat->Type}(t t':Nat)(l:List (El t)):Option (List (El t')):=match kS t t' with
 | .isTrue h=>some (h▸l)
 | .isFalse _=>none
def Gi{El:Nat->Type}{t:Nat}(e:bZ El t):List (List (aF El))->Option (List (El t))
 |[]=>some []
 |c::r=>match e.hs c,Gi e r with
  |some d,some ds=>some (d::ds)
  |_,_=>none
def Ft{α:Type}(sz:Nat):Nat->List α->List (List α)
 |0,_=>[]
 |n+1,l=>l.take sz::Ft sz n (l.drop sz)
def K8(E:Env)(bl:List (aC E.T.El))(t:Nat):aF E.T.El->Option (List (E.T.El t))
 | .s t' l=>y4 t' t l
 | .q t' l=>y4 t' t l
 | .p (.slice none 0 0)=>some []
 | .p (.slice (some _) 0 _)=>some []
 | .r j g=>match nth bl j with
   |some (.r t' a _ l)=>match bP g a with
    |true=>y4 t' t l
    |false=>none
   |some (.k _ sz a cs)=>match bP g a&&bP sz (E.T.ty t).size&&ee 0 sz with
    |true=>Gi (E.T.e t) (Ft sz (cs.length / sz) cs)
    |false=>none
   |_=>none
 | .v j g lo hi=>match nth bl j with
   |some (.r t' a _ l)=>match bP g a with
    |true=>y4 t' t ((l.take hi.toNat).drop lo.toNat)
    |false=>none
   |_=>none
 |_=>none
section
variable{E:Env}{W w w':World}{M0:List Nat}{X:Nat->Prop}{n:ct}{f:cq E.T.El}{bl:List (aC E.T.El)}{ρ:List Value}{a:Act}{cur:List (Nat×Bool)}
theorem Fp{El:Nat->Type}{t t':Nat}{l:List (El t)}{l':List (El t')}(h:y4 t t' l=some l'):∃e:t=t',e▸l=l':=by
 unfold y4 at h;split at h
 ·rename_i e _
  simp only[aD]at h
  exact⟨e,h⟩
 ·cases h
theorem Wi(aZ:cX E){F:Nat->Prop}{t sz:Nat}:∀(n:Nat){cs:List (aF E.T.El)}{vs:List Value}{l:List (E.T.El t)},a1 E.T F w ρ bl cs vs->vs.length=n*sz->Gi (E.T.e t) (Ft sz n cs)=some l->dx (E.T.ty t) F w vs l/\l.length=n
 |0,cs,vs,l,h,b,hi=>by
  simp only[Ft,Gi,aD]at hi;subst hi;exact⟨gK (by simpa using b),rfl⟩
 |n+1,cs,vs,l,h,b,hi=>by
  simp only[Ft,Gi]at hi;split at hi
  ·rename_i d ds c J
   simp only[aD]at hi
   subst hi
   have e:=aZ.tb.hs _ _ _ c _ _ _ _ _ (a1.take sz h)
   obtain⟨g,i⟩:=Wi aZ n (a1.drop sz h) (by rw[kp,b,jr];omega) J
   exact⟨⟨vs.take sz,vs.drop sz,(jd sz vs).symm,e,g⟩,by simp[i]⟩
  ·cases hi
theorem aku{F:Nat->Prop}{t:Nat}{l:List (E.T.El t)}{A:Option Addr}{c:Nat}(h:(bY (E.T.ty t)).rd F w [.slice A l.length c] l):∃news,Fh w (E.T.ty t).size l.length A news/\dx (E.T.ty t) F w news l:=by
 obtain⟨cb,k,e1,e2,e3,e4,e5⟩:=h;simp only[hh,Value.slice.injEq,and_true,true_and]at e1;obtain⟨rfl,rfl⟩:=e1;by_cases d:l=[]
 ·subst d
  exact⟨[],.inl ⟨rfl,rfl⟩,rfl⟩
 ·obtain⟨e,m,xs,b,g⟩:=e5 d
  exact⟨xs,.inr ⟨_,e,xK _ b,λ j u i=>by rw[k3];exact g j u i,GX _ b⟩,b⟩
theorem Zv{t sz n c:Nat}{A:Option Addr}{xs:List Value}(h:rowIs w t sz (.slice A n c) n xs)(b:∀u∈xs,u.oneCell'=true):Fh w sz n A xs:=by
 rcases kx n with aI |aI
 ·subst aI
  exact .inl ⟨rfl,gK (by rw[h.len];simp)⟩
 ·obtain⟨g,rfl,_,hc,_⟩:=uI aI h
  exact .inr ⟨_,rfl,h.len,λ j u d=>by rw[k3];exact hc j u d,b⟩
theorem akt(aZ:cX E)(s:Mem E.T W M0 X bl ρ w){t:Nat}{y:aF E.T.El}{l:List (E.T.El t)}{v:Value}(h:K8 E bl t y=some l)(b:ao E.T (bi X bl ρ w) w ρ bl y v) :
 ∃A c news,v= .slice A l.length c/\Fh w (E.T.ty t).size l.length A news/\dx (E.T.ty t) (bi X bl ρ w) w news l:=by
 unfold K8 at h
 split at h
 ·obtain⟨rfl,rfl⟩:=Fp h
  simp only[ao]at b
  obtain⟨A,c,rfl⟩:=mj _ b
  obtain⟨news,x,J⟩:=aku b
  exact⟨A,c,news,rfl,x,J⟩
 ·obtain⟨rfl,rfl⟩:=Fp h
  simp only[ao]at b
  obtain⟨A,c,rfl⟩:=mj _ b.1
  obtain⟨news,x,J⟩:=aku b.1
  exact⟨A,c,news,rfl,x,J⟩
 ·simp only[aD]at h
  subst h
  simp only[ao]at b
  exact⟨none,0,[],b,.inl ⟨rfl,rfl⟩,rfl⟩
 ·simp only[aD]at h
  subst h
  simp only[ao]at b
  exact⟨_,_,[],b,.inl ⟨rfl,rfl⟩,rfl⟩
 ·rename_i j g
  split at h
  ·rename_i t' C k l' hi
   rw[cW]at hi
   split at h
   ·rename_i af
    obtain⟨rfl,rfl⟩:=Fp h
    simp only[ao]at b
    obtain⟨_,aK,o,D,e⟩:=b
    rw[hi]at e
    obtain⟨A,c,xs,e1,e2,e3⟩:=s.ok j _ _ hi o
    rw[e (a_ af),e1]
    exact⟨A,c,xs,rfl,Zv (e1▸e2) (GX _ e3),e3⟩
   ·cases h
  ·rename_i t' sz C cs hi
   rw[cW]at hi
   split at h
   ·rename_i af
    simp only[bC]at af
    simp only[ao]at b
    obtain⟨_,aK,o,D,e⟩:=b
    rw[hi]at e
    obtain⟨A,m,c,xs,e1,e2,e3⟩:=s.ok j _ _ hi o
    have H:=ck af.2
    have d:=e3.len
    have J:=e2.len
    have I:cs.length / sz=m:=by rw[<-d,J];exact Nat.mul_div_cancel _ H
    rw[I]at h
    obtain⟨F,K⟩:=Wi aZ m e3 J h
    rw[e (a_ af.1.1),e1,K]
    have:=Zv (e1▸e2) (GX _ F)
    rw[a_ af.1.2]at this
    exact⟨A,c,xs,rfl,this,F⟩
   ·cases h
  ·cases h
 ·rename_i j g lo i
  split at h
  ·rename_i t' C k l' hi
   rw[cW]at hi
   split at h
   ·rename_i af
    obtain⟨rfl,rfl⟩:=Fp h
    simp only[ao]at b
    obtain⟨_,aK,o,D,e⟩:=b
    rw[hi]at e
    obtain⟨cb,P,Q,B,z,l0,l1,R,L,S,M⟩:=e (a_ af)
    obtain⟨A,c,xs,e1,e2,e3⟩:=s.ok j _ _ hi o
    rw[e1]at z e2
    simp only[Value.slice.injEq]at z
    obtain⟨rfl,rfl,rfl⟩:=z
    have d:((l'.take i.toNat).drop lo.toNat).length=i.toNat-lo.toNat:=by rw[kp,fP];omega
    refine⟨B,c-lo.toNat,(xs.take (i.toNat*(E.T.ty t').size)).drop (lo.toNat*(E.T.ty t').size),by rw[d];exact L,?_,uG _ _ e3⟩
    have p:=uG lo.toNat i.toNat e3
    rcases Int.lt_or_le lo i with N |NR
    ·right
     obtain⟨gb,rfl⟩:=G2 e2 (by omega)
     obtain⟨U,O,_,hc,_⟩:=uI (by omega) e2
     cases O
     refine⟨⟨gb,lo.toNat*(E.T.ty t').size,none⟩,by rw[M N];simp[k3,jk],xK _ p,λ q u r=>?_,GX _ p⟩
     rw[iN,gI]at r
     split at r
     ·rw[k3]
      have:=hc _ u r
      simpa using this
     ·cases r
    ·left
     have:i.toNat-lo.toNat=0:=by omega
     have G:((l'.take i.toNat).drop lo.toNat)=[]:=gK (by rw[d];exact this)
     refine⟨by rw[G];rfl,?_⟩
     rw[G]at p
     exact p
   ·cases h
  ·cases h
 ·cases h
end
end a8
namespace a8
open Go Go.RowKit aq I
def Qq(E:Env)(bl:List (aC E.T.El))(t:Nat):aF E.T.El->Option (Option (Nat×Nat)×List (E.T.El t))
 | .p (.slice none 0 0)=>some (none,[])
 | .q _ []=>some (none,[])
 | .r i g=>match nth bl i with
   |some (.r t' a _ l)=>match bP g a,y4 t' t l with
    |true,some l'=>some (some (i,g),l')
    |_,_=>none
   |_=>none
 | .v i g (.ofNat 0) hi=>match nth bl i with
   |some (.r t' a _ l)=>match bP g a,y4 t' t (l.take hi.toNat)with
    |true,some l'=>some (some (i,g),l')
    |_,_=>none
   |_=>none
 |_=>none
def AP(E:Env)(bl:List (aC E.T.El))(e sz:Nat):aF E.T.El->Option (Option (Nat×Nat)×List (aF E.T.El))
 | .p (.slice none 0 0)=>some (none,[])
 | .q _ []=>some (none,[])
 | .r i g=>match nth bl i with
   |some (.k t' a b cs)=>match bP g b&&bP t' e&&bP a sz with
    |true=>some (some (i,g),cs)
    |false=>none
   |_=>none
 |_=>none
def Tn(E:Env)(bl:List (aC E.T.El))(t:Nat)(u v:aF E.T.El):D (ej E.T.El):=match tx E.P t with
 |some (e,sz,bV)=>match bP sz (E.T.ty e).size,Qq E bl e u,K8 E bl e v with
  |true,some (none,_),some m=>.op (bD bV [] m) λ l=>.ok ⟨some (.r bl.length 0),bl++[.r e 0 0 l],[]⟩
  |true,some (some (i,g),b),some m=>.op (bD bV b m) λ l=>.ok ⟨some (.r i (g+1)),bl.set i (.r e (g+1) 0 l),[i]⟩
  |_,_,_=>match AP E bl e sz u,(match AP E bl e sz v with
   |some (_,m)=>match xE m with
    |true=>some m
    |false=>none
   |none=>none)with
    |some (none,_),some m=>.op (bD bV [] (eH (m.length / sz) ())) λ _=>.ok ⟨some (.r bl.length 0),bl++[.k e sz 0 m],[]⟩
    |some (some (i,g),b),some m=>.op (bD bV (eH (b.length / sz) ()) (eH (m.length / sz) ())) λ _=>.ok ⟨some (.r i (g+1)),bl.set i (.k e sz (g+1) (b++m)),[i]⟩
    |_,_=>.no
 |none=>.no
section
variable{E:Env}{W w w':World}{M0:List Nat}{X:Nat->Prop}{n:ct}{f:cq E.T.El}{bl:List (aC E.T.El)}{ρ:List Value}{a:Act}{cur:List (Nat×Bool)}
def St(w:World)(bl:List (aC E.T.El))(ρ:List Value)(e sz n:Nat)(v:Value)(xs:List Value):Option (Nat×Nat)->Prop
 |none=>∃A,v= .slice A 0 0/\n=0/\xs=[]
 |some (i,g)=>∃A c h B,v= .slice A n c/\rowIs w e sz v n xs/\bl[i]? =some B/\ρ[i]? =some h/\bz B h=a8.af v/\kJ h/\bW (some B)=g
theorem akE(r:Mem E.T W M0 X bl ρ w){e:Nat}{u:aF E.T.El}{v:Value}{p:Option (Nat×Nat)}{l:List (E.T.El e)}(h:Qq E bl e u=some (p,l))(b:ao E.T (bi X bl ρ w) w ρ bl u v) :
 ∃xs,St (E:=E) w bl ρ e (E.T.ty e).size l.length v xs p/\dx (E.T.ty e) (bi X bl ρ w) w xs l:=by
 unfold Qq at h
 split at h
 ·simp only[aD,b5]at h
  obtain⟨rfl,rfl⟩:=h
  simp only[ao]at b
  exact⟨[],⟨none,b,rfl,rfl⟩,rfl⟩
 ·simp only[aD,b5]at h
  obtain⟨rfl,rfl⟩:=h
  simp only[ao]at b
  obtain⟨A,t⟩:=b.2
  exact⟨[],⟨A,t,rfl,rfl⟩,rfl⟩
 ·rename_i i g
  split at h
  ·rename_i t' x k l' hi
   rw[cW]at hi
   split at h
   ·rename_i s af hc
    simp only[aD,b5]at h
    obtain⟨rfl,rfl⟩:=h
    obtain⟨rfl,rfl⟩:=Fp hc
    have af:=a_ af
    simp only[ao]at b
    obtain⟨_,aK,m,y,o⟩:=b
    rw[hi]at o
    have z:=o af
    obtain⟨A,c,xs,e1,e2,e3⟩:=r.ok i _ _ hi m
    rw[z]
    exact⟨xs,⟨A,c,aK,_,e1,e2,hi,m,rfl,by rw[e1];trivial,af.symm⟩,e3⟩
   ·cases h
  ·cases h
 ·rename_i i g j
  split at h
  ·rename_i t' x k l' hi
   rw[cW]at hi
   split at h
   ·rename_i s af hc
    simp only[aD,b5]at h
    obtain⟨rfl,rfl⟩:=h
    obtain⟨rfl,rfl⟩:=Fp hc
    have af:=a_ af
    simp only[ao]at b
    obtain⟨_,aK,m,y,o⟩:=b
    rw[hi]at o
    obtain⟨cb,G,H,B,q,l0,l1,s,C,D,_⟩:=o af
    obtain⟨A,c,xs,e1,e2,e3⟩:=r.ok i _ _ hi m
    rw[e1]at q e2
    simp only[Value.slice.injEq]at q
    obtain⟨rfl,rfl,rfl⟩:=q
    have F:=D rfl
    subst F
    have d:(l'.take j.toNat).length=j.toNat:=by rw[fP];omega
    have e4:=e2.short (k:=j.toNat) (by omega)
    have e5:v= .slice B j.toNat c:=by rw[C];simp
    rw[e5]
    refine⟨xs.take (j.toNat*(E.T.ty t').size),⟨B,c,aK,_,by rw[d],by rw[d];exact e4,hi,m,by rw[e1];cases B<;>cases c<;>rfl,by rw[e1];trivial,af.symm⟩,?_⟩
    have:=uG 0 j.toNat e3
    simpa using this
   ·cases h
  ·cases h
 ·cases h
theorem ZS(l:Mem E.T W M0 X bl ρ w){e sz:Nat}{u:aF E.T.El}{v:Value}{p:Option (Nat×Nat)}{cs:List (aF E.T.El)}(o:0<sz)(h:AP E bl e sz u=some (p,cs))(b:ao E.T (bi X bl ρ w) w ρ bl u v) :
 ∃xs,St (E:=E) w bl ρ e sz (cs.length / sz) v xs p/\a1 E.T (bi X bl ρ w) w ρ bl cs xs:=by
 unfold AP at h
 split at h
 ·simp only[aD,b5]at h
  obtain⟨rfl,rfl⟩:=h
  simp only[ao]at b
  exact⟨[],⟨none,b,by simp,rfl⟩,by simp[a1]⟩
 ·simp only[aD,b5]at h
  obtain⟨rfl,rfl⟩:=h
  simp only[ao]at b
  obtain⟨A,q⟩:=b.2
  exact⟨[],⟨A,q,by simp,rfl⟩,by simp[a1]⟩
 ·rename_i i g
  split at h
  ·rename_i t' r z s hi
   rw[cW]at hi
   split at h
   ·rename_i af
    simp only[bC]at af
    simp only[aD,b5]at h
    obtain⟨rfl,rfl⟩:=h
    have bO:=a_ af.1.1
    have t:=a_ af.1.2
    have gd:=a_ af.2
    subst t;subst gd
    simp only[ao]at b
    obtain⟨_,aK,j,B,k⟩:=b
    rw[hi]at k
    have x:=k bO
    obtain⟨A,m,c,xs,e1,e2,e3⟩:=l.ok i _ _ hi j
    have d:=e3.len
    have J:=e2.len
    have y:s.length / r=m:=by rw[<-d,J];exact Nat.mul_div_cancel _ o
    rw[x,y]
    exact⟨xs,⟨A,c,aK,_,e1,e2,hi,j,rfl,by rw[e1];trivial,bO.symm⟩,e3⟩
   ·cases h
  ·cases h
 ·cases h
theorem acF(r:Mem E.T W M0 X bl ρ w){o:Oper}{t e sz bV:Nat}{x y:Operand}{p:Option (Nat×Nat)}{n m:Nat}{xs news:List Value}{v:Option Addr}{c2:Nat}(B':Nat->aC E.T.El)(Z:tx E.P t=some (e,sz,bV))(ap:o.op= .call { callee:=.builtin .append,args:=#[x,y],argTypes:=#[t,t] })
 (I:St (E:=E) w bl ρ e sz n (a.eval x) xs p)(hy:a.eval y= .slice v m c2)(aj:Fh w sz m v news)(af:(n+m)*bV<=140737488355328)
 (C:∀g,bW (some (B' g))=g)(K:∀g h,bz (B' g) h=a8.af h)
 (L:∀(bl':List (aC E.T.El))(ρ':List Value)(w':World)(g:Nat)(cb:Option Addr)(b:Nat),To X bl bl' ρ ρ' w w'->rowIs w' e sz (.slice cb (n+m) b) (n+m) (xs++news)->iX E.T (bi X bl' ρ' w') w' ρ' bl' (B' g) (.slice cb (n+m) b)) :
 gV E o a W M0 X bl ρ w (match p with
  |none=>⟨some (.r bl.length 0),bl++[B' 0],[]⟩
  |some (i,g)=>⟨some (.r i (g+1)),bl.set i (B' (g+1)),[i]⟩):=by
 obtain⟨M,i0,z,hi,N,O,J,P,Q,df⟩:=y_ Z
 have R:n+m<=maxLen:=by
  have eC:=lj (n+m) df;simp only[maxLen];omega
 have S:∀ {A:Option Addr}{c:Nat}{D:Value}{w':World},a.eval x= .slice A n c->(Builtin.append_ #[t,t] o.type #[.slice A n c,.slice v m c2]).run E.P w= .ok D w'->bc E.P o a w D w':=λ{A c D w'} l gj=>by
  simp only[bc,execOp,ap,resolve,invoke,builtin,Sem.run_bind,Sem.run_pure,Result.andThen_ok,gJ,eu,hK,l,hy,gj]
 cases p with
 |none=>
  obtain⟨A,l,rfl,rfl⟩:=I
  obtain⟨cb,b,w',F,G,d,s⟩:=acE (w:=w) (ty:=o.type) M hi N O J P Q (show rowIs w e sz (.slice A 0 0) 0 [] from .inr ⟨rfl,rfl,A,rfl⟩) aj R af
  have qc:a8.af (.slice A 0 0)=[]:=by cases A<;>rfl
  rw[qc]at d s
  have ad:∀k∈bz (B' 0) (.slice cb (0+m) b),w.heap.size<=k/\k<w'.heap.size:=λ k j=>by
   rw[K]at j;rcases s k j with e |e
   ·simp at e
   ·exact e
  have q:=r.AQ (B:=B' 0) (h:=.slice cb (0+m) b) d ad
  refine⟨w',ρ++[.slice cb (0+m) b],r.push d ad (L _ _ _ _ _ _ q G),q,λ k j _=>d.block k j (by simp),_,S l F,?_⟩
  simp only[ao]
  refine⟨trivial,.slice cb (0+m) b,by rw[<-r.len];simp,gD _,λ _=>rfl⟩
 |some H=>
  obtain⟨i,g⟩:=H
  obtain⟨A,c,h,B,l,U,u,kD,V,VY,Y⟩:=I
  rw[l]at U V
  obtain⟨cb,b,w',F,G,d,s⟩:=acE (w:=w) (ty:=o.type) M hi N O J P Q U aj R af
  rw[<-V]at d s
  have ad:∀k∈bz (B' (g+1)) (.slice cb (n+m) b),k∈bz B h\/(w.heap.size<=k/\k<w'.heap.size):=λ k j=>s k (by rw[K]at j;exact j)
  have q:=r.D9 (B':=B' (g+1)) (h':=.slice cb (n+m) b) u kD d ad ⟨λ az=>absurd VY az,by rw[C,Y];omega,λ e=>by rw[C,Y]at e;omega⟩
  refine⟨w',ρ.set i (.slice cb (n+m) b),r.gl u kD d ad q (L _ _ _ _ _ _ q G),q,λ k j cP=>d.block k j (cP i (by simp) B h u kD),_,S l F,?_⟩
  simp only[ao]
  have l1:=(aM.1 u).1
  have cA:=(aM.1 kD).1
  refine⟨trivial,_,ff cA,?_,λ _=>rfl⟩
  rw[ff l1,C]
  exact cu _
theorem avh(aZ:cX E)(z:Mem E.T W M0 X bl ρ w){o:Oper}{t:Nat}{x y:Operand}{u v:aF E.T.El}{r:ej E.T.El}(h:(Tn E bl t u v).out r)(ap:o.op= .call { callee:=.builtin .append,args:=#[x,y],argTypes:=#[t,t] })
 (H:ao E.T (bi X bl ρ w) w ρ bl u (a.eval x))(hy:ao E.T (bi X bl ρ w) w ρ bl v (a.eval y)):gV E o a W M0 X bl ρ w r:=by
 unfold Tn at h
 split at h
 ·rename_i e sz bV M
  obtain⟨_,_,_,_,_,_,_,_,N,_⟩:=y_ M
  have C:∀ {p:Option (Nat×Nat)}{b m l:List (E.T.El e)},bP sz (E.T.ty e).size=true->Qq E bl e u=some (p,b)->K8 E bl e v=some m->bD bV b m=some l->gV E o a W M0 X bl ρ w (match p with
   |none=>⟨some (.r bl.length 0),bl++[.r e 0 0 l],[]⟩
   |some (i,g)=>⟨some (.r i (g+1)),bl.set i (.r e (g+1) 0 l),[i]⟩):=λ{p b m l} j J k s=>by
   have j:=a_ j
   subst j
   obtain⟨af,rfl⟩:=Mt s
   obtain⟨xs,O,P⟩:=akE z J H
   obtain⟨I,c2,news,K,L,hb⟩:=akt aZ z k hy
   have:=acF (B':=λ g=>aC.r e g 0 (b++m)) z M ap O K L af (λ _=>rfl) (λ _ _=>rfl) (λ bl' ρ' w' g cb Q D R=>⟨cb,Q,xs++news,by rw[dS],by rw[dS];exact R,KE _ (ou _ D.F hb) (ou _ D.F P)⟩)
   cases p<;>exact this
  have F:∀ {p q:Option (Nat×Nat)}{b m:List (aF E.T.El)}{l:List Unit},AP E bl e sz u=some (p,b)->AP E bl e sz v=some (q,m)->xE m=true->bD bV (eH (b.length / sz) ()) (eH (m.length / sz) ())=some l->gV E o a W M0 X bl ρ w (match p with
   |none=>⟨some (.r bl.length 0),bl++[.k e sz 0 (b++m)],[]⟩
   |some (i,g)=>⟨some (.r i (g+1)),bl.set i (.k e sz (g+1) (b++m)),[i]⟩):=λ{p q b m l} j J S k=>by
   obtain⟨af,_⟩:=Mt k
   simp only[jZ]at af
   obtain⟨xs,O,P⟩:=ZS z N j H
   obtain⟨ys,K,L⟩:=ZS z N J hy
   have U:∃I c2,a.eval y= .slice I (m.length / sz) c2/\Fh w sz (m.length / sz) I ys:=by
    cases q with
    |none=>
     obtain⟨A,e1,e2,rfl⟩:=K
     rw[e2]
     exact⟨A,0,e1,.inl ⟨rfl,rfl⟩⟩
    |some V=>
     obtain⟨A,c,h,B,e1,e2,_⟩:=K
     rw[e1]at e2
     exact⟨A,c,e1,Zv e2 (λ u Y=>jN.1 (Km S L) u Y)⟩
   obtain⟨I,c2,Z,s2⟩:=U
   have:=acF (B':=λ g=>aC.k e sz g (b++m)) z M ap O Z s2 af (λ _=>rfl) (λ _ _=>rfl) (λ bl' ρ' w' g cb Q D R=>⟨cb,_,Q,xs++ys,rfl,R,a1.bD (D.vs P) (D.vs L)⟩)
   cases p<;>exact this
  split at h
  ·rename_i b m j J k
   obtain⟨l,s,d⟩:=h
   have d:(⟨some (.r bl.length 0),bl++[.r e 0 0 l],[]⟩:ej E.T.El)=r:=d
   subst d
   have qc:b=[]:=by
    obtain⟨xs,⟨A,_,e2,_⟩,_⟩:=akE z J H;exact gK e2
   subst qc
   exact C (p:=none) j J k s
  ·rename_i i g b m j J k
   obtain⟨l,s,d⟩:=h
   have d:(⟨some (.r i (g+1)),bl.set i (.r e (g+1) 0 l),[i]⟩:ej E.T.El)=r:=d
   subst d
   exact C j J k s
  ·have G:∀ {m:List (aF E.T.El)},(match AP E bl e sz v with
    |some (_,m)=>match xE m with
     |true=>some m
     |false=>none
    |none=>none)=some m-> ∃q,AP E bl e sz v=some (q,m)/\xE m=true:=λ{m} h=>by
    split at h
    ·rename_i q eR aJ
     split at h
     ·rename_i lW
      simp only[aD]at h
      subst h
      exact⟨q,aJ,lW⟩
     ·cases h
    ·cases h
   split at h
   ·rename_i b m j J
    obtain⟨q,J,k⟩:=G J
    obtain⟨l,s,d⟩:=h
    have d:(⟨some (.r bl.length 0),bl++[.k e sz 0 m],[]⟩:ej E.T.El)=r:=d
    subst d
    have qc:b=[]:=by
     obtain⟨xs,⟨A,_,e2,e3⟩,e4⟩:=ZS z N j H;subst e3;exact gK e4.len.symm
    subst qc
    exact F (p:=none) (b:=[]) j J k (by simpa using s)
   ·rename_i i g b m j J
    obtain⟨q,J,k⟩:=G J
    obtain⟨l,s,d⟩:=h
    have d:(⟨some (.r i (g+1)),bl.set i (.k e sz (g+1) (b++m)),[i]⟩:ej E.T.El)=r:=d
    subst d
    exact F j J k s
   ·exact h.elim
 ·exact h.elim
end
end a8
namespace a8
open Go Go.RowKit aq I
def lH{α:Type}(z:List α):Nat->List α
 |0=>[]
 |n+1=>z++lH z n
theorem RN{α:Type}(z:List α):∀n,(lH z n).length=n*z.length
 |0=>by simp[lH]
 |n+1=>by simp only[lH,dS,RN z n,jr];omega
theorem an4{α:Type}{z:List α}:∀ {n i:Nat},i<n*z.length->(lH z n)[i]? =z[i%z.length]?
 |0,i,h=>by simp at h
 |n+1,i,h=>by
  simp only[lH];rcases fN i z.length with c |c
  ·rw[eW c,Nat.mod_eq_of_lt c]
  ·rw[fs c,an4 (by rw[jr]at h;omega),Nat.mod_eq_sub_mod c]
theorem an3(a:Array Value)(n:Nat)(h:0<a.size):((Array.range (n*a.size)).map (a[·%a.size]!))=⟨lH a.toList n⟩:=by
 rw[<-Array.toList_inj];apply j4;intro i;rcases fN i (n*a.size)with c |c
 ·simp only
  rw[an4 (by simpa using c)]
  have b:i%a.size<a.size:=Nat.mod_lt _ h
  simp[c,b]
 ·rw[gz (by simpa using c),gz (by rw[RN];simpa using c)]
theorem an5{El:Nat->Type}(z:List Value):∀n,(lH z n).map (aF.p (El:=El))=lH (z.map .p) n
 |0=>rfl
 |n+1=>by simp[lH,an5 z n]
def aeK(E:Env)(bl:List (aC E.T.El))(t n:Nat)(ps:List (Nat×aF E.T.El)):Option (ej E.T.El):=match tx E.P t,n,ps with
 |some (e,sz,_),0,[]=>match bP sz (E.T.ty e).size with
  |true=>some ⟨some (.r bl.length 0),bl++[.r e 0 0 []],[]⟩
  |false=>some ⟨some (.r bl.length 0),bl++[.k e sz 0 []],[]⟩
 |_,_,_=>none
def Ty(E:Env)(bl:List (aC E.T.El))(t n:Nat)(ps:List (Nat×aF E.T.El)):D (ej E.T.El):=match tx E.P t with
 |some (e,sz,_)=>match ES E.P e,iI n 100000&&ee 0 n&&iI (n*sz) 16777216 with
  |some z,true=>match wb (λ i=>some (i*sz,sz)) (lH (z.map .p) n) ps with
   |some cs=>match nR bl cs with
    |(bl',a)=>match bP sz (E.T.ty e).size,Gi (E.T.e e) (Ft sz n a)with
     |true,some l=>.ok ⟨some (.r bl'.length 0),bl'++[.r e 0 0 l],[]⟩
     |_,_=>.ok ⟨some (.r bl.length 0),bl++[.k e sz 0 cs],[]⟩
   |none=>.no
  |_,_=>.no
 |none=>.no
def Tx(E:Env)(bl:List (aC E.T.El))(t n:Nat)(ps:List (Nat×aF E.T.El)):D (ej E.T.El):=match aeK E bl t n ps with
 |some r=>.ok r
 |none=>Ty E bl t n ps
def Zy:Operand->Operand->Bool
 | .tmp a,.tmp b=>bP a b
 | .const (.int .i64 m),.const (.int .i64 n)=>decide (m=n)
 |_,_=>false
theorem aGD{a:Act}{x y:Operand}(h:Zy x y=true):a.eval x=a.eval y:=by
 unfold Zy at h;split at h
 ·rw[a_ h]
 ·rw[of_decide_eq_true h]
 ·cases h
def TC(E:Env)(bl:List (aC E.T.El))(t:Nat)(x y:Operand)(u:aF E.T.El):D (ej E.T.El):=match tx E.P t,u with
 |some (e,sz,bV),.p (.int .i64 k)=>match bP sz (E.T.ty e).size,yo E e e,Zy x y with
  |true,some z0,true=>.op (ui z0 bV k) λ l=>.ok ⟨some (.r bl.length 0),bl++[.r e 0 0 l],[]⟩
  |_,_,_=>.no
 |_,_=>.no
section
variable{E:Env}{W w w':World}{M0:List Nat}{X:Nat->Prop}{n:ct}{f:cq E.T.El}{bl:List (aC E.T.El)}{ρ:List Value}{a:Act}{cur:List (Nat×Bool)}
theorem Kf(c:Mem E.T W M0 X bl ρ w){o:Oper}{e sz n:Nat}{vs:List Value}{B:aC E.T.El}(r:bW (some B)=0)(j:∀h,bz B h=a8.af h)(d:vs.length=n*sz)(l:n<=maxLen)
 (m:∀(bl':List (aC E.T.El))(ρ':List Value)(w':World),To X bl bl' ρ ρ' w w'->rowIs w' e sz (.slice (some ⟨w.heap.size,0,none⟩) n n) n vs->iX E.T (bi X bl' ρ' w') w' ρ' bl' B (.slice (some ⟨w.heap.size,0,none⟩) n n))
 (hy:bc E.P o a w (.slice (some ⟨w.heap.size,0,none⟩) n n) (w.alloc (.cells ⟨vs⟩ e))):gV E o a W M0 X bl ρ w ⟨some (.r bl.length 0),bl++[B],[]⟩:=by
 have g:bj [] w (w.alloc (.cells ⟨vs⟩ e)):=bj.alloc _ _ _
 have p:rowIs (w.alloc (.cells ⟨vs⟩ e)) e sz (.slice (some ⟨w.heap.size,0,none⟩) n n) n vs:=
  .inl ⟨d,.inr ⟨w.heap.size,n,⟨vs⟩,rfl,gD _,heap_alloc_new w _,cu _,l,by simpa using d,by rw[<-d,jP]⟩⟩
 have ad:∀k∈bz B (.slice (some ⟨w.heap.size,0,none⟩) n n),w.heap.size<=k/\k<(w.alloc (.cells ⟨vs⟩ e)).heap.size:=λ k b=>by
  rw[j]at b;have:k=w.heap.size:=by
   cases n with
   |zero=>simp[a8.af]at b
   |succ q=>simpa[a8.af]using b
  subst this;simp
 have i:=c.AQ (B:=B) (h:=.slice (some ⟨w.heap.size,0,none⟩) n n) g ad
 refine⟨_,ρ++[.slice (some ⟨w.heap.size,0,none⟩) n n],c.push g ad (m _ _ _ i p),i,λ k b _=>g.block k b (by simp),_,hy,?_⟩
 simp only[ao]
 exact⟨trivial,.slice (some ⟨w.heap.size,0,none⟩) n n,by rw[<-c.len];simp,gD _,λ _=>rfl⟩
theorem avq(aZ:cX E)(B:Mem E.T W M0 X bl ρ w){o:Oper}{t n:Nat}{xs:List (Nat×Operand)}{ps:List (Nat×aF E.T.El)}{r:ej E.T.El}(h:(Ty E bl t n ps).out r)(ap:o.op= .buildSlice t n xs.toArray)
 (K:rr E.T (bi X bl ρ w) w ρ bl ps (xs.map λ p=>(p.1,a.eval p.2))):gV E o a W M0 X bl ρ w r:=by
 unfold Ty at h
 split at h
 ·rename_i e sz bV L
  obtain⟨M,i0,N,hi,O,P,J,k,Q,df⟩:=y_ L
  split at h
  ·rename_i z R af
   simp only[bC]at af
   have I1:=ck af.1.1
   have FU:=ck af.1.2
   have NK:=ck af.2
   obtain⟨g,C,m⟩:=L2 R
   have S:g=N:=by
    have e1:=C w;simp only[zeroValue,typeInfo,Sem.run_bind]at e1;simp[go_sem,hi,O]at e1;exact e1.symm
   subst S
   have s:z.length=sz:=by rw[<-k,m];simp
   split at h
   ·rename_i cs ad
    obtain⟨os,U,u⟩:=TM (sA (lH z n)) K (by rw[an5];exact ad)
    have C5:os.length=n*sz:=by
     have e1:=u.len;have key:∀ {ps:List (Nat×aF E.T.El)}{c d:List (aF E.T.El)},wb (λ i=>some (i*sz,sz)) c ps=some d->d.length=c.length:=by
      intro ps;induction ps with
      |nil=>intro c d b;simp only[wb,aD]at b;rw[b]
      |cons p r V=>
       intro c d b
       obtain⟨i,y⟩:=p
       simp only[wb]at b
       split at b
       ·rename_i D
        simp only[bC]at D
        rw[V b,WU (ck D.2)]
       ·cases b
     rw[e1,key ad,RN,hl,s]
    have j:=an3 g.cells n (by rw[k];exact Q)
    rw[k,m]at j
    have F:bc E.P o a w (.slice (some ⟨w.heap.size,0,none⟩) n n) (w.alloc (.cells ⟨os⟩ e)):=by
     have Y: ¬(n*sz>2^24):=by omega
     have Z:n*sz≠0:=by
      intro b;rcases Nat.mul_eq_zero.1 b with q |q<;>omega
     simp only[bc,execOp,ap,Instr.buildSlice,Sem.run_bind,Sem.run_pure,run_sizeOf hi,P,C,Result.andThen_ok,run_underlying M,gJ,if_neg Y,if_neg Z];have G:g.cells.size=sz:=k;rw[m]at G;simp only[m];rw[G,j,U];rfl
    have H:n<=maxLen:=by simp only[maxLen];omega
    split at h
    rename_i bl' kz qf
    obtain⟨m1,t1,v1⟩:=Nq B qf u
    split at h
    ·rename_i l v ai
     have h:(⟨some (.r bl'.length 0),bl'++[.r e 0 0 l],[]⟩:ej E.T.El)=r:=h
     subst h
     have v:=a_ v
     obtain⟨cB,I⟩:=Wi aZ n v1 C5 ai
     refine gV.first t1 (λ i hi=>by simp at hi) (Kf (e:=e) (sz:=sz) (n:=n) (vs:=os) m1 rfl (λ _=>rfl) C5 H (λ y0 lI cO x A=>?_) F)
     subst v
     exact⟨_,_,os,by rw[I],by rw[I];exact A,ou _ x.F cB⟩
    ·have h:(⟨some (.r bl.length 0),bl++[.k e sz 0 cs],[]⟩:ej E.T.El)=r:=h
     subst h
     exact Kf (e:=e) (sz:=sz) (n:=n) (vs:=os) B rfl (λ _=>rfl) C5 H (λ y0 lI cO x A=>⟨_,_,_,os,rfl,A,x.vs u⟩) F
   ·exact h.elim
  ·exact h.elim
 ·exact h.elim
theorem avr(aZ:cX E)(c:Mem E.T W M0 X bl ρ w){o:Oper}{t n:Nat}{xs:List (Nat×Operand)}{ps:List (Nat×aF E.T.El)}{r:ej E.T.El}(h:(Tx E bl t n ps).out r)(ap:o.op= .buildSlice t n xs.toArray)
 (g:rr E.T (bi X bl ρ w) w ρ bl ps (xs.map λ p=>(p.1,a.eval p.2))):gV E o a W M0 X bl ρ w r:=by
 unfold Tx at h
 split at h
 ·rename_i i b
  have h:i=r:=h
  subst h
  unfold aeK at b
  split at b
  ·rename_i e sz bV j
   obtain⟨k,l,y,hi,z,A,J,B,C,D⟩:=y_ j
   have m:xs=[]:=by
    cases xs with
    |nil=>rfl
    |cons p q=>simp[rr]at g
   subst m
   have hy:bc E.P o a w _ _:=aKU (sz:=l.size) k (λ w=>run_sizeOf hi w) ap
   split at b
   ·rename_i af
    simp only[aD]at b
    subst b
    exact Kf (e:=e) (sz:=sz) (n:=0) (vs:=[]) c rfl (λ _=>rfl) (by simp) (gD _) (λ s u v x d=>⟨_,_,[],rfl,by rw[<-a_ af];exact d,rfl⟩) hy
   ·simp only[aD]at b
    subst b
    exact Kf (e:=e) (sz:=sz) (n:=0) (vs:=[]) c rfl (λ _=>rfl) (by simp) (gD _) (λ s u v x d=>⟨_,_,_,[],rfl,d,rfl⟩) hy
  ·cases b
 ·exact avq aZ c h ap g
theorem ajL{α:Type}{T:cY α}{F:Nat->Prop}{w:World}{z:List Value}{z0:α}(h:T.rd F w z z0):∀n,dx T F w (lH z n) (eH n z0)
 |0=>rfl
 |n+1=>⟨z,lH z n,rfl,h,ajL h n⟩
theorem avw(aZ:cX E)(B:Mem E.T W M0 X bl ρ w){o:Oper}{t:Nat}{x y:Operand}{u:aF E.T.El}{r:ej E.T.El}(h:(TC E bl t x y u).out r)(ap:o.op= .makeSlice t x y)(g:ao E.T (bi X bl ρ w) w ρ bl u (a.eval x)):gV E o a W M0 X bl ρ w r:=by
 unfold TC at h;split at h
 ·rename_i e sz bV k C
  obtain⟨D,v,b,hi,z,F,J,d,G,H⟩:=y_ C
  split at h
  ·rename_i z0 i c aj
   obtain⟨l,I,j⟩:=h
   have j:(⟨some (.r bl.length 0),bl++[.r e 0 0 l],[]⟩:ej E.T.El)=r:=j
   subst j
   have i:=a_ i
   obtain⟨K,V,rfl⟩:=aB6 I
   obtain⟨m,rfl⟩:=kr K
   simp only[cN]at *
   have L:m<=bV*m:=Nat.le_mul_of_pos_left m H
   have A:m<=maxLen:=by simp only[maxLen];omega
   simp only[ao]at g
   have hy:a.eval y= .int .i64 (m:Int):=by rw[<-aGD aj,g]
   have M:(E.T.ty e).rd (bi X bl ρ w) w b.cells.toList z0:=by
    unfold yo at c;split at c
    ·rename_i N p
     split at c
     ·have e1:N=b:=by
       simp only[HL,hi]at p;rw[z]at p;exact(dT p).symm
      subst e1;exact aZ.tb.hs _ _ _ c _ _ ρ bl _ (sA _)
     ·cases c
    ·cases c
   have O:(v.bytes:Int)*(m:Int)<=281474976710656:=by
    rw[J];have Q:((bV*m:Nat):Int)<=281474976710656:=by omega
    rwa [Int.natCast_mul]at Q
   have q:=run_make (P:=E.P) w t e v b D hi z .i64 .i64 (m:Int) (m:Int) (by omega) (kj _) O (by simp only[maxLen]at A;omega)
   simp only[cN]at q
   have s:madeCells b.cells (m*sz)=⟨lH b.cells.toList m⟩:=by
    have:=an3 b.cells m (by rw[d];exact G);rw[d]at this;simp only[madeCells,d];exact this
   rw[F,s]at q
   have R:bc E.P o a w (.slice (some ⟨w.heap.size,0,none⟩) m m) (w.alloc (.cells ⟨lH b.cells.toList m⟩ e)):=by
    simp only[bc,execOp,ap,g,hy,Sem.run_bind,q,Result.andThen_ok,Sem.run_pure]
   refine Kf (e:=e) (sz:=sz) (n:=m) (vs:=lH b.cells.toList m) B rfl (λ _=>rfl) (by rw[RN];simp[d]) A (λ Y Z cO S U=>?_) R
   subst i
   exact⟨_,_,_,by rw[jZ],by rw[jZ];exact U,ajL ((E.T.ty e).law S.F M) m⟩
  ·exact h.elim
 ·exact h.elim
end
end a8
namespace a8
open Go Go.RowKit aq I
def akO(P:Program)(t:Nat):Bool:=match P.underlying t with
 |some (.int .u8)=>true
 |_=>false
def TH(E:Env)(bl:List (aC E.T.El))(s d:Nat)(u:aF E.T.El):D (ej E.T.El):=match E.P.underlying s,E.P.underlying d,u with
 |some .string,some (.slice e),.p (.string ⟨⟨l⟩⟩)=>match bP e E.lN,akO E.P E.lN with
  |true,true=>.op (bytesOf l) λ r=>.ok ⟨some (.s E.lN (E.Mz r)),bl,[]⟩
  |_,_=>.no
 |_,_,_=>.no
section
variable{E:Env}{W w w':World}{M0:List Nat}{X:Nat->Prop}{bl:List (aC E.T.El)}{ρ:List Value}{a:Act}
theorem avB(aZ:cX E)(i:Mem E.T W M0 X bl ρ w){o:Oper}{s d:Nat}{x:Operand}{u:aF E.T.El}{r:ej E.T.El}(f:(TH E bl s d u).out r)(ap:o.op= .convert s d x)(p:ao E.T (bi X bl ρ w) w ρ bl u (a.eval x)):gV E o a W M0 X bl ρ w r:=by
 unfold TH at f;split at f
 ·rename_i e l A wS
  split at f
  ·rename_i af m
   have af:=a_ af
   subst af
   have C:E.P.underlying E.lN=some (.int .u8):=by
    unfold akO at m;split at m
    ·assumption
    ·cases m
   obtain⟨q,c,J⟩:=f
   have J:(⟨some (.s E.lN (E.Mz q)),bl,[]⟩:ej E.T.El)=r:=J
   subst J
   simp only[ao]at p
   unfold bytesOf at c
   split at c
   ·rename_i D
    simp only[aD]at c
    subst c
    have t:=run_bytes_of_string (P:=E.P) w s d E.lN ⟨⟨l⟩⟩ A wS C
    have F:(⟨⟨l⟩⟩:ByteArray).size=l.length:=rfl
    have hc:=grownCap_ge w l.length 0 E.lN
    have v:=grownCap_le_maxLen w l.length 0 E.lN (by simp only[maxLen];omega)
    obtain⟨B,y⟩:∃B,B=bytesRow ⟨⟨l⟩⟩ (grownCap w l.length 0 E.lN):=⟨_,rfl⟩
    obtain⟨ev,z⟩:∃ev,ev=grownCap w l.length 0 E.lN:=⟨_,rfl⟩
    rw[F,<-y,<-z]at t
    rw[<-z]at hc v
    have hy:bc E.P o a w (.slice (some ⟨w.heap.size,0,none⟩) l.length ev) (w.drew.alloc (.cells B E.lN (B.size,B.size+1))):=by
     simp only[bc,execOp,ap,p,Sem.run_bind,t,Result.andThen_ok];rfl
    have n:bj [] w (w.drew.alloc (.cells B E.lN (B.size,B.size+1))):=(bj.drew [] w).trans (bj.alloc [] _ _) (by simp)
    refine⟨_,ρ,i.eQ n,Mem.sG n,λ k g _=>n.block k g (by simp),_,hy,?_⟩
    simp only[ao]
    refine⟨_,ev,by rw[aZ.acL],by rw[aZ.acL];exact hc,v,(λ h=>by cases h),λ _=>⟨rfl,⟨?_,?_,by show w.heap.size<_;simp⟩,_,aZ.ass _ _ _ _ (ajK l),λ j u aA=>?_⟩⟩
    ·intro g
     have c:w.heap.size<W.heap.size:=(i.hP _ g).1
     have J:=i.bS.size
     omega
    ·intro g
     have c:w.heap.size<w.heap.size:=(i.lt _ g).1
     omega
    ·rw[iT,cd]at aA
     obtain⟨b,af,rfl⟩:=aA
     obtain⟨G,H⟩:=aM.1 af
     have:=bytesRow_at ⟨⟨l⟩⟩ (grownCap w l.length 0 E.lN) j (by simpa using G)
     rw[<-y]at this
     show World.cell? _ ⟨w.heap.size,0+j,none⟩=_
     simp only[World.cell?,World.alloc]
     rw[show(w.drew.heap.push _)[w.heap.size]? =some _ from Array.getElem?_push_size (xs:=w.heap)]
     simp only[ji,this]
     simp[H]
   ·cases c
  ·exact f.elim
 ·exact f.elim
end
end a8
namespace a8
open Go Go.RowKit aq I
def Tp(E:Env)(bl:List (aC E.T.El))(t tn:Nat)(u v:aF E.T.El):D (ej E.T.El):=match tx E.P t,kL (E.P.underlying tn),u,v with
 |some (e,sz,bV),some (.i .i64),.p (.slice none 0 0),.p (.int .i64 k)=>match bP sz 1&&bP (E.T.ty e).size 1,yo E e e with
  |true,some z0=>.op (Ig z0 bV k) λ l=>.ok ⟨some (.r bl.length 0),bl++[.r e 0 0 l],[]⟩
  |_,_=>.no
 |_,_,_,_=>.no
section
variable{E:Env}{W w w':World}{M0:List Nat}{X:Nat->Prop}{n:ct}{f:cq E.T.El}{bl:List (aC E.T.El)}{ρ:List Value}{a:Act}{cur:List (Nat×Bool)}
theorem avg(aZ:cX E)(i:Mem E.T W M0 X bl ρ w){o:Oper}{t tn:Nat}{x y:Operand}{u v:aF E.T.El}{r:ej E.T.El}(h:(Tp E bl t tn u v).out r)(ap:o.op= .call { callee:=.builtin .append,args:=#[x,y],argTypes:=#[t,tn] })
 (H:ao E.T (bi X bl ρ w) w ρ bl u (a.eval x))(I:ao E.T (bi X bl ρ w) w ρ bl v (a.eval y)):gV E o a W M0 X bl ρ w r:=by
 unfold Tp at h
 split at h
 ·rename_i e sz bV k N p
  obtain⟨O,Q,b,hi,K,R,J,g,hr,S⟩:=y_ N
  have s:=w3 p
  split at h
  ·rename_i z0 af d
   simp only[bC]at af
   have aj:=a_ af.1
   have U:=a_ af.2
   subst aj
   obtain⟨l,V,z⟩:=h
   have z:(⟨some (.r bl.length 0),bl++[.r e 0 0 l],[]⟩:ej E.T.El)=r:=z
   subst z
   obtain⟨Y,bh,rfl⟩:=aso V
   obtain⟨m,rfl⟩:=kr (Int.le_of_lt Y)
   simp only[cN]at *
   have Z:m<=bV*m:=Nat.le_mul_of_pos_left m S
   simp only[ao]at H I
   have fE:(E.T.ty e).rd (bi X bl ρ w) w b.cells.toList z0:=by
    unfold yo at d;split at d
    ·rename_i L3 A
     split at d
     ·have e1:L3=b:=by
       simp only[HL,hi]at A;rw[K]at A;exact(dT A).symm
      subst e1;exact aZ.tb.hs _ _ _ d _ _ ρ bl _ (sA _)
     ·cases d
    ·cases d
   obtain⟨ev,C⟩:∃ev,b.cells= #[ev]:=by
    revert g;generalize b.cells=cs;obtain⟨l⟩:=cs;intro g;cases l with
    |nil=>simp at g
    |cons c r=>cases r with
     |nil=>exact⟨c,rfl⟩
     |cons _ _=>simp at g
   have gj:=Lib.run_append_nil_zeros (P:=E.P) w t tn o.type e Q b .i64 .i64 O s hi K m (by omega) (by omega) (by omega) (by rw[J,Nat.mul_comm];omega)
   let cap:=grownCap w m 0 e
   have FX:m<=cap:=grownCap_ge w m 0 e
   have I5:cap<=maxLen:=grownCap_le_maxLen w m 0 e (by simp only[maxLen];omega)
   have V_:∀q,(Builtin.zeroCells b.cells q).toList=eH q ev:=by
    intro q;rw[C];apply List.ext_getElem
    ·simp[Builtin.zeroCells]
    ·intro j R J
     simp[Builtin.zeroCells,Nat.mod_one]
   let cur:=Builtin.zeroCells b.cells m++Builtin.zeroCells b.cells (cap-m)
   have hcs:cur.size=cap:=by simp only[cur,Array.size_append,size_zeroCells,C];simp;omega
   have o7:bc E.P o a w (.slice (some ⟨w.heap.size,0,none⟩) m cap) (w.drew.alloc (.cells cur e)):=by
    simp only[bc,execOp,ap,resolve,invoke,builtin,Sem.run_bind,Sem.run_pure,Result.andThen_ok,gJ,eu,hK,H,I,gj,cap,cur]
   have D:bj [] w (w.drew.alloc (.cells cur e)):=(bj.drew [] w).trans (bj.alloc [] w.drew (.cells cur e)) (by simp)
   have NU:w.drew.heap.size=w.heap.size:=rfl
   have n3:rowIs (w.drew.alloc (.cells cur e)) e 1 (.slice (some ⟨w.heap.size,0,none⟩) m cap) m (eH m ev):=by
    refine .inl ⟨by simp,.inr ⟨w.heap.size,cap,cur,rfl,gD _,?_,FX,I5,by simp[hcs],?_⟩⟩
    ·rw[<-NU];exact heap_alloc_new w.drew _
    ·simp only[cur,Array.toList_append,V_,js]
     rw[List.take_append_of_le_length (by simp),hF (by simp)]
   have tJ:cap=(cap-1)+1:=by omega
   have ad:∀q∈bz (aC.r (El:=E.T.El) e 0 0 (eH m z0)) (.slice (some ⟨w.heap.size,0,none⟩) m cap),w.heap.size<=q/\q<(w.drew.alloc (.cells cur e)).heap.size:=λ q L=>by
    rw[tJ]at L;have:q=w.heap.size:=by simpa[bz,a8.af]using L
    subst this;simp
   have M:=i.AQ (B:=aC.r e 0 0 (eH m z0)) (h:=.slice (some ⟨w.heap.size,0,none⟩) m cap) D ad
   have G:∀(q:Nat)(F:Nat->Prop)(w':World),(E.T.ty e).rd F w' [ev] z0->dx (E.T.ty e) F w' (eH q ev) (eH q z0):=λ q F w' h=>by
    induction q with
    |zero=>rfl
    |succ q ba=>exact⟨[ev],eH q ev,rfl,h,ba⟩
   refine⟨_,ρ++[.slice (some ⟨w.heap.size,0,none⟩) m cap],i.push D ad ⟨some ⟨w.heap.size,0,none⟩,cap,eH m ev,by rw[jZ],by rw[U,jZ];exact n3,G m _ _ ?_⟩,M,λ k p _=>D.block k p (by simp),_,o7,?_⟩
   ·have:=(E.T.ty e).law M.F fE
    rwa [C]at this
   ·simp only[ao]
    exact⟨trivial,.slice (some ⟨w.heap.size,0,none⟩) m cap,by rw[<-i.len];simp,gD _,λ _=>rfl⟩
  ·exact h.elim
 ·exact h.elim
end
end a8
namespace I
def gF{α:Type}(l:List α)(p:Nat)(ds:List α):List α:=l.take p++ds++l.drop (p+ds.length)
theorem Pv{α:Type}{l:List α}{p:Nat}{ds:List α}(h:p+ds.length<=l.length):(gF l p ds).length=l.length:=by
 simp[gF];omega
end I
namespace a8
open Go Go.RowKit aq I
theorem aeP(b:Nat):∀(vs:List Value)(o:Nat)(w:World),bj [b] w (w.setCells b o vs)
 |[],_,w=>bj.refl _ w
 |v::r,o,w=>(bj.set w ⟨b,o,none⟩ v).trans (aeP b r (o+1) _) (λ x a=>.inl a)
theorem aki(b:Nat)(e:TypeId)(a:Nat×Nat):∀(vs:List Value)(o:Nat)(w:World)(cur:List Value),w.heap[b]? =some (.cells cur.toArray e a)->o+vs.length<=cur.length ->
 (w.setCells b o vs).heap[b]? =some (.cells (gF cur o vs).toArray e a)
 |[],o,w,cur,h,_=>by simpa[World.setCells,gF]using h
 |v::r,o,w,cur,h,d=>by
  simp only[cV]at d;have af:b<w.heap.size:=by
   rcases fN b w.heap.size with h' |h'
   ·exact h'
   ·rw[hA h']at h;cases h
  have f:(w.setCell ⟨b,o,none⟩ v).heap[b]? =some (.cells (cur.set o v).toArray e a):=by
   simp only[World.setCell,ju,if_pos,h,fI];simp
  have:=aki b e a r (o+1) _ (cur.set o v) f (by simp;omega);show((w.setCell ⟨b,o,none⟩ v).setCells b (o+1) r).heap[b]? =_
  rw[this];have g:cur.set o v=cur.take o++v::cur.drop (o+1):=by rw[List.set_eq_take_append_cons_drop,if_pos (by omega)]
  have c:(cur.take o).length=o:=by rw[fP];omega
  have e1:(cur.set o v).take (o+1)=cur.take o++[v]:=by
   rw[g,kl,c,hF (by rw[c];omega)];simp
  have e2:(cur.set o v).drop (o+1+r.length)=cur.drop (o+(v::r).length):=by
   rw[List.drop_set_of_lt (by omega)];congr 1;simp;omega
  simp only[gF];rw[e1,e2];simp
theorem aDg{α:Type}{l ds:List α}{p n:Nat}(h:p+ds.length<=n)(a:n<=l.length):(gF l p ds).take n=gF (l.take n) p ds:=ZL h a
structure Sj (El:Nat->Type) where
 i:Nat
 t:Nat
 g:Nat
 k:Nat
 l:List (El t)
 lo:Int
 hi:Int
def PC{El:Nat->Type}(bl:List (aC El)):aF El->Option (Sj El)
 | .v i g lo hi=>match nth bl i with
   |some (.r t a k l)=>match bP g a with
    |true=>some ⟨i,t,a,k,l,lo,hi⟩
    |false=>none
   |_=>none
 | .r i g=>match nth bl i with
   |some (.r t a k l)=>match bP g a with
    |true=>some ⟨i,t,a,k,l,0,(l.length:Int)⟩
    |false=>none
   |_=>none
 |_=>none
def Tt(E:Env)(bl:List (aC E.T.El))(t:Nat)(u v:aF E.T.El):D (ej E.T.El):=match tx E.P t,PC bl u with
 |some (_,n,_),some p=>match bP n 1&&bP (E.T.ty p.t).size 1,K8 E bl p.t v with
  |true,some m=>.op (DT (decide (0<p.l.length))) λ _=>.ok ⟨some (.p (.int .i64 ((m.take (p.hi-p.lo).toNat).length:Int))),bl.set p.i (.r p.t p.g (p.k+1) (gF p.l p.lo.toNat (m.take (p.hi-p.lo).toNat))),[p.i]⟩
  |_,_=>.no
 |_,_=>.no
def Ts(E:Env)(bl:List (aC E.T.El))(t:Nat)(u:aF E.T.El):D (ej E.T.El):=match tx E.P t,PC bl u with
 |some (e,sz,_),some p=>match bP sz 1&&bP (E.T.ty p.t).size 1&& !(E.T.e p.t).agg,yo E p.t e with
  |true,some z0=>.op (DT (decide (p.lo<p.hi))) λ _=>.ok ⟨some (.u []),bl.set p.i (.r p.t p.g (p.k+1) (gF p.l p.lo.toNat (eH (p.hi-p.lo).toNat z0))),[p.i]⟩
  |_,_=>.no
 |_,_=>.no
section
variable{E:Env}{W w w':World}{M0:List Nat}{X:Nat->Prop}{n:ct}{f:cq E.T.El}{bl:List (aC E.T.El)}{ρ:List Value}{a:Act}{cur:List (Nat×Bool)}
theorem ai7(r:Mem E.T W M0 X bl ρ w){u:aF E.T.El}{v:Value}{p:Sj E.T.El}(h:PC bl u=some p)(s:(E.T.ty p.t).size=1)(q:ao E.T (bi X bl ρ w) w ρ bl u v) :
 bl[p.i]? =some (.r p.t p.g p.k p.l)/\0<=p.lo/\p.lo<=p.hi/\p.hi<=p.l.length/\ ∃A c B j,ρ[p.i]? =some (.slice A p.l.length c)/\v= .slice B (p.hi.toNat-p.lo.toNat) j/\(p.lo<p.hi->B=A.map (·.add p.lo.toNat)):=by
 unfold PC at h
 split at h
 ·rename_i i g lo hi
  split at h
  ·rename_i t x k l b
   rw[cW]at b
   split at h
   ·rename_i af
    simp only[aD]at h
    subst h
    simp only[ao]at q
    obtain⟨_,aK,m,y,o⟩:=q
    rw[b]at o
    obtain⟨A,n,c,B,e1,e2,e3,e4,e5,e6,e7⟩:=o (a_ af)
    obtain⟨cb,j,xs,d,z,C⟩:=r.ok _ _ _ b m
    rw[e1]at d
    simp only[Value.slice.injEq]at d
    obtain⟨rfl,rfl,rfl⟩:=d
    refine⟨b,e2,e3,e4,A,c,B,_,e1▸m,e5,λ D=>?_⟩
    have:=e7 D
    simp only[jk,s,js]at this
    exact this
   ·cases h
  ·cases h
 ·rename_i i g
  split at h
  ·rename_i t x k l b
   rw[cW]at b
   split at h
   ·rename_i af
    simp only[aD]at h
    subst h
    simp only[ao]at q
    obtain⟨_,aK,m,y,o⟩:=q
    rw[b]at o
    have e:=o (a_ af)
    subst e
    obtain⟨cb,j,xs,d,z,C⟩:=r.ok _ _ _ b m
    refine⟨b,kj _,by simp,kj _,cb,j,cb,j,d▸m,by simpa using d,λ _=>?_⟩
    cases cb with
    |none=>rfl
    |some dW=>
     simp[Addr.add]
   ·cases h
  ·cases h
 ·cases h
theorem aj3(m:Mem E.T W M0 X bl ρ w){o:Oper}{p:Sj E.T.El}{A:Option Addr}{c:Nat}(hi:bl[p.i]? =some (.r p.t p.g p.k p.l))(d:ρ[p.i]? =some (.slice A p.l.length c))(g:(E.T.ty p.t).size=1){q:Nat}{ds:List (E.T.El p.t)}{vs:List Value}(x:dx (E.T.ty p.t) (bi X bl ρ w) w vs ds)(z:0<p.l.length)(i:q+ds.length<=p.l.length) :
 ∃gb,A=some ⟨gb,0,none⟩/\vs.length=ds.length/\(∀j,j<p.l.length->(w.cell? ⟨gb,j,none⟩).isSome=true)/\(∀j,w.frozen? ⟨gb,j,none⟩=false)/\
  ∀ {r:Value}{y:aF E.T.El},(∀(F:Nat->Prop)(w:World)(ρ:List Value)(bl:List (aC E.T.El)),ao E.T F w ρ bl y r)->bc E.P o a w r (w.setCells gb q vs)->gV E o a W M0 X bl ρ w ⟨some y,bl.set p.i (.r p.t p.g (p.k+1) (gF p.l q ds)),[p.i]⟩:=by
 obtain⟨cb,S,xs,B,C,D⟩:=m.ok _ _ _ hi d
 simp only[Value.slice.injEq,true_and]at B
 obtain⟨rfl,rfl⟩:=B
 obtain⟨gb,rfl,U,hc,K⟩:=uI z C
 have s:=xK _ x
 rw[g,js]at s
 have G:=xK _ D
 rw[g,js]at G
 have H:=C.own z
 rw[g]at H
 rcases H.2 with⟨_,V⟩|⟨g',cap,cur,e1,e2,e3,e4,e5,e6,e7⟩
 ·omega
 simp only[Value.slice.injEq,aD,Addr.mk.injEq,and_true,true_and]at e1
 obtain⟨rfl,rfl⟩:=e1
 rw[js]at e6 e7
 have L:(⟨cur.toList⟩:Array Value)=cur:=by simp
 refine⟨gb,rfl,s,λ j aA=>?_,λ j=>by simp[World.frozen?,e3],λ{r y} hy M=>?_⟩
 ·have:j<cur.size:=by omega
  simp[World.cell?,e3,this]
 have N:bz (aC.r p.t p.g p.k p.l) (.slice (some ⟨gb,0,none⟩) p.l.length c)=[gb]:=K _
 have t:bj (bz (aC.r p.t p.g p.k p.l) (.slice (some ⟨gb,0,none⟩) p.l.length c)) w (w.setCells gb q vs):=by rw[N];exact aeP gb vs q w
 have u:=aki gb p.t (0,0) vs q w cur.toList (by rw[<-L]at e3;exact e3) (by simp;omega)
 have O:rowIs (w.setCells gb q vs) p.t 1 (.slice (some ⟨gb,0,none⟩) p.l.length c) p.l.length (gF xs q vs):=by
  refine .inl ⟨by rw[Pv (by omega),G,js],.inr ⟨gb,c,_,rfl,e2,u,e4,e5,?_,?_⟩⟩
  ·have:=Pv (l:=cur.toList) (p:=q) (ds:=vs) (by simp;omega)
   simpa[e6]using this
  ·simp only[js]
   rw[aDg (by omega) (by simp;omega),e7]
 have ad:∀k∈bz (aC.r p.t p.g (p.k+1) (gF p.l q ds)) (.slice (some ⟨gb,0,none⟩) p.l.length c),k∈bz (aC.r p.t p.g p.k p.l) (.slice (some ⟨gb,0,none⟩) p.l.length c)\/(w.heap.size<=k/\k<(w.setCells gb q vs).heap.size):=λ k v=>.inl v
 have C1:∀ {h:Value},(¬kJ h->h=h)/\bW (some (aC.r p.t p.g p.k p.l))<=bW (some (aC.r p.t p.g (p.k+1) (gF p.l q ds)))/\(bW (some (aC.r p.t p.g (p.k+1) (gF p.l q ds)))=bW (some (aC.r p.t p.g p.k p.l))->h=h/\jk E.T (some (aC.r p.t p.g (p.k+1) (gF p.l q ds)))=jk E.T (some (aC.r p.t p.g p.k p.l))/\gQ (some (aC.r p.t p.g p.k p.l))<=gQ (some (aC.r p.t p.g (p.k+1) (gF p.l q ds)))/\(gQ (some (aC.r p.t p.g (p.k+1) (gF p.l q ds)))=gQ (some (aC.r p.t p.g p.k p.l))->jj (some (aC.r p.t p.g (p.k+1) (gF p.l q ds)))=jj (some (aC.r p.t p.g p.k p.l)))):=λ{h}=>
  ⟨λ _=>rfl,cu _,λ _=>⟨rfl,rfl,Nat.le_succ _,λ e=>by simp[gQ]at e⟩⟩
 have b:=m.D9 (B':=aC.r p.t p.g (p.k+1) (gF p.l q ds)) (h':=.slice (some ⟨gb,0,none⟩) p.l.length c) hi d t ad C1
 have aj:=G6 d
 have P:dx (E.T.ty p.t) (bi X (bl.set p.i (.r p.t p.g (p.k+1) (gF p.l q ds))) ρ (w.setCells gb q vs)) (w.setCells gb q vs) (gF xs q vs) (gF p.l q ds):=by
  rw[aj]at b;have I:=ou _ b.F D;have Q:=ou _ b.F x;have c1:=uG 0 q I;have c2:=uG (q+ds.length) p.l.length I;rw[g]at c1 c2;simp only[js,Nat.zero_mul,fK]at c1 c2;rw[hF (by omega),hF (by omega)]at c2;have:=KE _ c2 (KE _ Q c1);unfold gF;rw[s];exact this
 have J:=m.gl (B':=aC.r p.t p.g (p.k+1) (gF p.l q ds)) (h':=.slice (some ⟨gb,0,none⟩) p.l.length c) hi d t ad b (by
  rw[aj];exact⟨some ⟨gb,0,none⟩,c,gF xs q vs,by rw[Pv i],by rw[g,Pv i];exact O,P⟩)
 rw[aj]at J b
 exact⟨_,ρ,J,b,λ k v R=>t.block k v (R p.i (by simp) _ _ hi d),r,M,hy _ _ _ _⟩
theorem avl(aZ:cX E)(i:Mem E.T W M0 X bl ρ w){o:Oper}{t:Nat}{x y:Operand}{u v:aF E.T.El}{r:ej E.T.El}(h:(Tt E bl t u v).out r)(ap:o.op= .call { callee:=.builtin .copy,args:=#[x,y],argTypes:=#[t,t] })
 (J:ao E.T (bi X bl ρ w) w ρ bl u (a.eval x))(hy:ao E.T (bi X bl ρ w) w ρ bl v (a.eval y)):gV E o a W M0 X bl ρ w r:=by
 unfold Tt at h
 split at h
 ·rename_i e n bV p K L
  obtain⟨C,i0,eI,kE,n4,M,jM,N,hr,O⟩:=y_ K
  split at h
  ·rename_i m af Q
   simp only[bC]at af
   have R:=a_ af.1
   have d:=a_ af.2
   subst R
   obtain⟨_,k,h⟩:=h
   have k:0<p.l.length:=of_decide_eq_true (Xx k)
   have h:(⟨some (.p (.int .i64 ((m.take (p.hi-p.lo).toNat).length:Int))),bl.set p.i (.r p.t p.g (p.k+1) (gF p.l p.lo.toNat (m.take (p.hi-p.lo).toNat))),[p.i]⟩:ej E.T.El)=r:=h
   subst h
   obtain⟨hi,l1,cA,jO,A,c,B,D,S,e1,e2⟩:=ai7 i L d J
   obtain⟨U,c2,news,G,V,H⟩:=akt aZ i Q hy
   have Y:=xK _ H
   rw[d,js]at Y
   have b:(m.take (p.hi-p.lo).toNat).length=Nat.min m.length (p.hi.toNat-p.lo.toNat):=by
    rw[fP,Nat.min_comm];congr 1;omega
   have l:=uG 0 (p.hi-p.lo).toNat H
   rw[d]at l
   simp only[js,Nat.zero_mul,fK]at l
   have I:(E.P.info? e).map (·.size)=some 1:=by rw[kE];simp[M]
   obtain⟨gb,rfl,g,Z,Vn,fin⟩:=aj3 (o:=o) (a:=a) (q:=p.lo.toNat) i hi S d l k (by rw[b];have:=Nat.min_le_right m.length (p.hi.toNat-p.lo.toNat);have e:Nat.min m.length (p.hi.toNat-p.lo.toNat)=min m.length (p.hi.toNat-p.lo.toNat):=rfl;omega)
   refine fin (r:=.int .i64 ((m.take (p.hi-p.lo).toNat).length:Int)) (λ F w ρ bl=>by simp only[ao]) ?_
   rcases kx (m.take (p.hi-p.lo).toNat).length with aI |aI
   ·have s:=run_copy_none (P:=E.P) w t t o.type e B U (p.hi.toNat-p.lo.toNat) D m.length c2 C I (by rw[<-b];exact aI)
    have cf:news.take (p.hi-p.lo).toNat=[]:=gK (g.trans aI)
    rw[cf,aI]
    simp only[bc,execOp,ap,resolve,invoke,builtin,Sem.run_bind,Sem.run_pure,Result.andThen_ok,gJ,eu,hK,e1,G,s]
    rfl
   ·have bw:p.lo<p.hi:=by
     rw[b]at aI;have e:Nat.min m.length (p.hi.toNat-p.lo.toNat)=min m.length (p.hi.toNat-p.lo.toNat):=rfl;omega
    rcases V with⟨bn,_⟩|⟨dW,rfl,bx,bM,fh⟩
    ·rw[b,bn]at aI
     have e:Nat.min 0 (p.hi.toNat-p.lo.toNat)=min 0 (p.hi.toNat-p.lo.toNat):=rfl
     omega
    ·have z:=e2 bw
     have z:B=some ⟨gb,p.lo.toNat,none⟩:=by rw[z];simp[Addr.add];try omega
     subst z
     have s:=run_copy_cells (P:=E.P) w t t o.type e gb p.lo.toNat (p.hi.toNat-p.lo.toNat) D dW m.length c2 (news.take (p.hi-p.lo).toNat) C I (by rw[g,b]) (λ j u aA=>by
      rw[gI]at aA;split at aA
      ·exact bM j u aA
      ·cases aA) (λ j aA=>Z _ (by rw[g,b]at aA;have e:Nat.min m.length (p.hi.toNat-p.lo.toNat)=min m.length (p.hi.toNat-p.lo.toNat):=rfl;omega)) (λ j _=>Vn _) (λ v ag=>fh v (List.mem_of_mem_take ag))
     rw[<-g]
     simp only[bc,execOp,ap,resolve,invoke,builtin,Sem.run_bind,Sem.run_pure,Result.andThen_ok,gJ,eu,hK,e1,G,s]
     rfl
  ·exact h.elim
 ·exact h.elim
theorem avk(aZ:cX E)(C:Mem E.T W M0 X bl ρ w){o:Oper}{t:Nat}{x:Operand}{u:aF E.T.El}{r:ej E.T.El}(h:(Ts E bl t u).out r)(ap:o.op= .call { callee:=.builtin .clear,args:=#[x],argTypes:=#[t] })
 (J:ao E.T (bi X bl ρ w) w ρ bl u (a.eval x)):gV E o a W M0 X bl ρ w r:=by
 unfold Ts at h
 split at h
 ·rename_i e n bV p K L
  obtain⟨M,i0,d,kE,D,fO,jM,k,hr,N⟩:=y_ K
  split at h
  ·rename_i z0 af b
   simp only[bC]at af
   have O:(E.T.e p.t).agg=false:=by simpa using af.2
   have Q:=a_ af.1.1
   have G:=a_ af.1.2
   subst Q
   obtain⟨_,R,h⟩:=h
   have S:p.lo<p.hi:=of_decide_eq_true (Xx R)
   have h:(⟨some (.u []),bl.set p.i (.r p.t p.g (p.k+1) (gF p.l p.lo.toNat (eH (p.hi-p.lo).toNat z0))),[p.i]⟩:ej E.T.El)=r:=h
   subst h
   obtain⟨hi,l1,cA,jO,A,c,B,U,V,e1,e2⟩:=ai7 C L G J
   obtain⟨ev,m⟩:∃ev,d.cells= #[ev]:=by
    revert k;generalize d.cells=cs;obtain⟨l⟩:=cs;intro H;cases l with
    |nil=>simp at H
    |cons c r=>cases r with
     |nil=>exact⟨c,rfl⟩
     |cons _ _=>simp at H
   have i:(E.T.ty p.t).rd (bi X bl ρ w) w [ev] z0/\d=ev:=by
    unfold yo at b;split at b
    ·rename_i Y s
     split at b
     ·rename_i v
      have e1:Y=d:=by
       simp only[HL,kE]at s;rw[D]at s;exact(dT s).symm
      subst e1
      have:=aZ.tb.hs _ _ _ b (bi X bl ρ w) w ρ bl _ (sA _)
      rw[m]at this
      have g:=an2 v
      rw[O,m]at g
      exact⟨this,g⟩
     ·cases b
    ·cases b
   obtain⟨i,y⟩:=i
   have C6:ev.oneCell'=true:=(E.T.ty p.t).one i ev (by simp)
   have Z:dx (E.T.ty p.t) (bi X bl ρ w) w (eH (p.hi-p.lo).toNat ev) (eH (p.hi-p.lo).toNat z0):=by
    generalize(p.hi-p.lo).toNat=q;induction q with
    |zero=>rfl
    |succ q ba=>exact⟨[ev],eH q ev,rfl,i,ba⟩
   obtain⟨gb,rfl,wT,ja,Vn,fin⟩:=aj3 (o:=o) (a:=a) (q:=p.lo.toNat) C hi V G Z (by omega) (by rw[jZ];omega)
   refine fin (λ F w ρ bl=>by simp only[ao];exact⟨[],rfl,by simp[a1]⟩) ?_
   have z:=e2 S
   have z:B=some ⟨gb,p.lo.toNat,none⟩:=by rw[z];simp[Addr.add];try omega
   subst z
   have I:=Lib.run_clear_slice (P:=E.P) w t e o.type d M (λ w=>by simp only[zeroValue,typeInfo,Sem.run_bind];simp[go_sem,kE,D]) (by rw[m,y]) (by rw[y];exact C6) gb p.lo.toNat (p.hi.toNat-p.lo.toNat) U (by omega) (λ j aA=>ja _ (by omega)) (λ j _=>Vn _)
   have e:p.hi.toNat-p.lo.toNat=(p.hi-p.lo).toNat:=by omega
   rw[e,y]at I
   simp only[bc,execOp,ap,resolve,invoke,builtin,Sem.run_bind,Sem.run_pure,Result.andThen_ok,gJ,eu,hK,e1,e,I]
  ·exact h.elim
 ·exact h.elim
end
end a8
namespace a8
open Go Go.RowKit aq I
def M_(E:Env)(bl:List (aC E.T.El))(f:cq E.T.El)(cur:List (Nat×Bool)):Op->D (ej E.T.El)
 | .alloc t=>match ES E.P t with
   |some z=>.ok ⟨some (.b bl.length 0),bl++[.c t (z.map .p)],[]⟩
   |none=>.no
 | .box t x=>match od E bl f cur x with
   |some y=>.ok ⟨some (.b bl.length 0),bl++[.c t (cellsOf y)],[]⟩
   |none=>.no
 | .makeMap t none=>match mapOf E.P t with
   |some (k,e)=>match(E.T.e k).key with
    |some _=>.ok ⟨some (.m bl.length),bl++[.m k e []],[]⟩
    |none=>.no
   |none=>.no
 | .store t p x=>match od E bl f cur p,od E bl f cur x with
   |some u,some v=>TG E bl t u v
   |_,_=>.no
 | .mapUpdate t m k x=>match od E bl f cur m,od E bl f cur k,od E bl f cur x with
   |some u,some v,some z=>M' E bl t u v z
   |_,_,_=>.no
 | .insert t m k x=>match od E bl f cur m,od E bl f cur k,od E bl f cur x with
   |some u,some v,some z=>M' E bl t u v z
   |_,_,_=>.no
 | .buildSlice t n ⟨ps⟩=>match GC E bl f cur ps with
   |some ys=>Tx E bl t n ys
   |none=>.no
 | .makeSlice t x y=>match od E bl f cur x with
   |some u=>TC E bl t x y u
   |none=>.no
 | .convert s d x=>match od E bl f cur x with
   |some u=>TH E bl s d u
   |none=>.no
 | .call ⟨.builtin .append,⟨[x,y]⟩,⟨[t,t']⟩⟩=>match bP t t',od E bl f cur x,od E bl f cur y with
   |true,some u,some v=>Tn E bl t u v
   |false,some u,some v=>Tp E bl t t' u v
   |_,_,_=>.no
 | .call ⟨.builtin .copy,⟨[x,y]⟩,⟨[t,t']⟩⟩=>match bP t t',od E bl f cur x,od E bl f cur y with
   |true,some u,some v=>Tt E bl t u v
   |_,_,_=>.no
 | .call ⟨.builtin .clear,⟨[x]⟩,⟨[t]⟩⟩=>match od E bl f cur x with
   |some u=>Ts E bl t u
   |none=>.no
 |_=>.no
section
variable{E:Env}{W w w':World}{M0:List Nat}{X:Nat->Prop}{n:ct}{f:cq E.T.El}{bl:List (aC E.T.El)}{ρ:List Value}{a:Act}{cur:List (Nat×Bool)}
theorem avo(aZ:cX E)(h:R E W M0 X n f bl ρ a w)(hc:jG a cur){o:Oper}{op:Op}(ap:o.op=op){r:ej E.T.El}(b:(M_ E bl f cur op).out r):gV E o a W M0 X bl ρ w r:=by
 unfold M_ at b;split at b
 ·rename_i t
  split at b
  ·rename_i z c
   have b:(⟨some (.b bl.length 0),bl++[.c t (z.map .p)],[]⟩:ej E.T.El)=r:=b
   subst b
   obtain⟨j,g,i⟩:=L2 c
   exact aih h.mem (sA z) (Br g i ap)
  ·exact b.elim
 ·rename_i t x
  split at b
  ·rename_i y c
   have b:(⟨some (.b bl.length 0),bl++[.c t (cellsOf y)],[]⟩:ej E.T.El)=r:=b
   subst b
   exact aih h.mem (oV (di h hc c)) (RA (v:=a.eval x) (by simp) ap rfl)
  ·exact b.elim
 ·rename_i t
  split at b
  ·rename_i k e c
   split at b
   ·rename_i K J
    have b:(⟨some (.m bl.length),bl++[.m k e []],[]⟩:ej E.T.El)=r:=b
    subst b
    exact aCs h.mem J (aK9 ap)
   ·exact b.elim
  ·exact b.elim
 ·split at b
  ·rename_i u v c J
   exact avA aZ h.mem b ap (di h hc c) (di h hc J)
  ·exact b.elim
 ·split at b
  ·rename_i u v z c J d
   exact aeN aZ h.mem b (.inl ap) (di h hc c) (di h hc J) (di h hc d)
  ·exact b.elim
 ·split at b
  ·rename_i u v z c J d
   exact aeN aZ h.mem b (.inr ap) (di h hc c) (di h hc J) (di h hc d)
  ·exact b.elim
 ·split at b
  ·rename_i ys c
   exact avr aZ h.mem b ap (XH h hc c)
  ·exact b.elim
 ·split at b
  ·rename_i u c
   exact avw aZ h.mem b ap (di h hc c)
  ·exact b.elim
 ·split at b
  ·rename_i u c
   exact avB aZ h.mem b ap (di h hc c)
  ·exact b.elim
 ·rename_i x y t t'
  split at b
  ·rename_i u v c J d
   have:=a_ c
   subst this
   exact avh aZ h.mem b ap (di h hc J) (di h hc d)
  ·rename_i u v c J d
   exact avg aZ h.mem b ap (di h hc J) (di h hc d)
  ·exact b.elim
 ·rename_i x y t t'
  split at b
  ·rename_i u v c J d
   have:=a_ c
   subst this
   exact avl aZ h.mem b ap (di h hc J) (di h hc d)
  ·exact b.elim
 ·split at b
  ·rename_i u c
   exact avk aZ h.mem b ap (di h hc c)
  ·exact b.elim
 ·exact b.elim
end
inductive Mi
 |q
 |e
 |c
 |no
def OA(P:Program):Op->Mi
 | .call c=>match c.callee with
   | .value _=>.c
   | .builtin .len=>.q
   | .builtin .cap=>.q
   | .builtin .append=>.e
   | .builtin .copy=>.e
   | .builtin .clear=>.e
   |_=>.no
 | .alloc _ | .box _ _ | .makeMap _ _ | .store _ _ _ | .mapUpdate _ _ _ _ | .insert _ _ _ _ | .buildSlice _ _ _ | .makeSlice _ _ _=>.e
 | .convert s _ _=>match P.underlying s with
   |some .string=>.e
   |_=>.q
 | .move _ | .assign _ | .pick _ _ _ | .binOp _ _ _ _ _ | .unOp _ _ _ | .load _ _ | .fieldAddr _ _ _ | .nilCheck _ | .extract _ _ | .makeFunc _ _ _ | .makeInterface _ _ | .indexAddr _ _ _ | .index _ _ _
   | .slice _ _ _ _ _ | .lookup _ _ _ _ | .field _ _ _ | .build _ _=>.q
 |_=>.no
inductive acf
 |run
 |skip
 |maybe (bu:Nat) (want b:Bool)
 |cond (bu:Nat) (want:Bool)
 |no
def Fk:Bool->Bool->Bool
 |true,true=>true
 |false,false=>true
 |_,_=>false
theorem yZ{a b:Bool}:Fk a b=true↔a=b:=by cases a<;>cases b<;>simp[Fk]
def Ny(E:Env)(ops:Array Oper)(f:cq E.T.El)(n:Nat):Option (Nat×Bool)->acf
 |none=>.run
 |some (j,want)=>match IL ops j with
  |none=>.no
  |some bu=>match ee bu n with
   |false=>.no
   |true=>match cv f.ea bu with
    |some b=>match Fk b want with
     |true=>.run
     |false=>.skip
    |none=>match cv f.fr bu with
     |some (.p (.tuple ⟨[]⟩))=>.skip
     |some (.p (.bool b))=>match E.cl with
      |true=>match Fk b want with
       |true=>.run
       |false=>.skip
      |false=>.maybe bu want b
     |some _=>.no
     |none=>.cond bu want
section
variable{E:Env}{W w w':World}{M0:List Nat}{X:Nat->Prop}{n:ct}{f:cq E.T.El}{bl:List (aC E.T.El)}{ρ:List Value}{a:Act}{cur:List (Nat×Bool)}{ops:Array Oper}{o:Oper}
theorem aHL{j bu:Nat}{want:Bool}(aj:a.tmps.size=n.n)(c:o.guard=some (j,want))(aA:(ops[j]?).bind (·.dst)=some bu)(d:ee bu n.n=true) :
 Region.wanted o (yielded ops a.tmps)=true↔a.tmps.getD bu undef= .bool want:=by
 have e:bu<n.n:=ck d
 have J:a.tmps[bu]? =some (a.tmps.getD bu undef):=by
  rw[iR (by omega)];simp[dP,aj,e]
 simp only[Region.wanted,c,yielded,aA,ae,J,beq_iff_eq]
 constructor
 ·intro h
  split at h
  ·rename_i b af
   simp only[aD]at h af
   rw[af,h]
  ·cases h
 ·intro h
  rw[h]
def ar'(E:Env)(ops:Array Oper)(o:Oper)(a:Act)(f:cq E.T.El)(n:Nat):acf->Prop
 | .run=>Region.wanted o (yielded ops a.tmps)=true
 | .skip=>Region.wanted o (yielded ops a.tmps)=false
 | .maybe bu want b=>ee bu n=true/\a.tmps.getD bu undef= .bool b/\(Region.wanted o (yielded ops a.tmps)=true↔a.tmps.getD bu undef= .bool want)
 | .cond bu want=>ee bu n=true/\(Region.wanted o (yielded ops a.tmps)=true↔a.tmps.getD bu undef= .bool want)
 | .no=>True
theorem afo(h:R E W M0 X n f bl ρ a w):ar' E ops o a f n.n (Ny E ops f n.n o.guard):=by
 have aj:=h.dL.dZ.size;cases i:o.guard with
 |none=>exact QB i
 |some p=>
  obtain⟨j,want⟩:=p
  simp only[Ny]
  split
  ·trivial
  ·rename_i bu k
   have l:=afC k
   split
   ·trivial
   ·rename_i g
    have c:=aHL (ops:=ops) (o:=o) aj i l g
    split
    ·rename_i b m
     have e:=h.dL.ea _ (oa m)
     split
     ·rename_i af
      rw[yZ]at af
      subst af
      exact c.2 e
     ·rename_i af
      refine(gX).2 λ d=>?_
      have:=c.1 d
      rw[e]at this
      injection this with this
      rw[yZ.2 this]at af
      cases af
    ·split
     ·rename_i ad
      have e:=h.dL.dZ.get _ _ ad
      simp only[ao]at e
      refine(gX).2 λ d=>?_
      have:=c.1 d
      rw[e]at this
      cases this
     ·rename_i b ad
      have e:=h.dL.dZ.get _ _ ad
      simp only[ao]at e
      split
      ·split
       ·rename_i af
        rw[yZ]at af
        subst af
        exact c.2 e
       ·rename_i af
        refine(gX).2 λ d=>?_
        have:=c.1 d
        rw[e]at this
        injection this with this
        rw[yZ.2 this]at af
        cases af
      ·exact⟨g,e,c⟩
     ·trivial
     ·exact⟨g,c⟩
end
end a8
namespace a8
open Go Go.RowKit aq I
section
variable{α:Type}{β:Type 1}
noncomputable def tC(l:List α)(k:List α->β):β:=List.rec (motive:=λ _=>(List α->β)->β) (λ k=>k []) (λ p _ a k=>a λ r=>k (p::r)) l k
theorem TW(l:List α):∀k:List α->β,tC l k=k l:=by
 induction l with
 |nil=>exact λ k=>rfl
 |cons p r a=>exact λ k=>a λ r=>k (p::r)
noncomputable def p_(n:Nat)(k:Nat->β):β:=Nat.casesOn (motive:=λ _=>β) n (k 0) λ m=>k (Nat.succ m)
theorem Nn(n:Nat)(k:Nat->β):p_ n k=k n:=by cases n<;>rfl
noncomputable def Nl(n:Int)(k:Int->β):β:=Int.casesOn (motive:=λ _=>β) n (λ m=>p_ m λ m=>k (Int.ofNat m)) (λ m=>p_ m λ m=>k (Int.negSucc m))
theorem afe(n:Int)(k:Int->β):Nl n k=k n:=by
 cases n
 ·rename_i m;exact Nn m λ m=>k (Int.ofNat m)
 ·rename_i m;exact Nn m λ m=>k (Int.negSucc m)
noncomputable def afd(b:Bool)(k:Bool->β):β:=Bool.casesOn (motive:=λ _=>β) b (k false) (k true)
theorem avX(b:Bool)(k:Bool->β):afd b k=k b:=by cases b<;>rfl
noncomputable def TX(v:Value)(k:Value->β):β:=match v with
 | .int i n=>Nl n λ n=>k (.int i n)
 | .bool b=>afd b λ b=>k (.bool b)
 |v=>k v
theorem av1(v:Value)(k:Value->β):TX v k=k v:=by
 unfold TX;split
 ·exact afe _ _
 ·exact avX _ _
 ·rfl
variable{El:Nat->Type}
noncomputable def TY(y:aF El)(k:aF El->β):β:=match y with
 | .p v=>TX v λ v=>k (.p v)
 | .b i o=>p_ i λ i=>p_ o λ o=>k (.b i o)
 | .r i g=>p_ i λ i=>p_ g λ g=>k (.r i g)
 | .v i g lo hi=>p_ i λ i=>p_ g λ g=>Nl lo λ lo=>Nl hi λ hi=>k (.v i g lo hi)
 | .s t l=>tC l λ l=>k (.s t l)
 | .a l=>tC l λ l=>k (.a l)
 |y=>k y
theorem av2(y:aF El)(k:aF El->β):TY y k=k y:=by
 unfold TY;split<;>simp only[av1,Nn,afe,TW]
noncomputable def Nk(B:aC El)(k:aC El->β):β:=match B with
 | .c ty cs=>tC cs λ cs=>k (.c ty cs)
 | .r t g n l=>p_ g λ g=>p_ n λ n=>tC l λ l=>k (.r t g n l)
 | .k t sz g cs=>p_ g λ g=>tC cs λ cs=>k (.k t sz g cs)
 | .m kt vt d=>tC d λ d=>k (.m kt vt d)
 |B=>k B
theorem avZ(B:aC El)(k:aC El->β):Nk B k=k B:=by
 unfold Nk;split<;>simp only[Nn,TW]
noncomputable def Nj(ws:List Nat)(b:Nat)(l:List (aC El)):Nat->(List (aC El)->β)->β:=List.rec (motive:=λ _=>Nat->(List (aC El)->β)->β) (λ _ k=>k []) (λ B _ a n k=>cond (eX ws n||iI b n) (Nk B λ B=>a (n+1) λ r=>k (B::r)) (a (n+1) λ r=>k (B::r))) l
theorem avY(ws:List Nat)(a:Nat)(l:List (aC El)):∀(n:Nat)(k:List (aC El)->β),Nj ws a l n k=k l:=by
 induction l with
 |nil=>exact λ n k=>rfl
 |cons B r b=>
  intro n k
  show cond (eX ws n||iI a n) (Nk B λ B=>Nj ws a r (n+1) λ r=>k (B::r)) (Nj ws a r (n+1) λ r=>k (B::r))=_
  rw[avZ,b]
  cases eX ws n||iI a n<;>rfl
noncomputable def TV(f:cq El)(k:cq El->β):β:=match f with
 |⟨(d,y)::r,gs,ea⟩=>TY y λ y=>tC r λ r=>tC gs λ gs=>tC ea λ ea=>k ⟨(d,y)::r,gs,ea⟩
 |f=>k f
theorem av0(f:cq El)(k:cq El->β):TV f k=k f:=by
 unfold TV;split<;>simp only[av2,TW]
end
noncomputable def DV(E:Env){β:Type 1}(f:cq E.T.El)(k:cq E.T.El->β):β:=match E.cl with
 |true=>TV f k
 |false=>k f
theorem DW{E:Env}{β:Type 1}(f:cq E.T.El)(k:cq E.T.El->β):DV E f k=k f:=by
 unfold DV;split
 ·exact av0 f k
 ·rfl
noncomputable def Ki(E:Env){β:Type 1}(ws:List Nat)(a:Nat)(l:List (aC E.T.El))(k:List (aC E.T.El)->β):β:=match E.cl with
 |true=>Nj ws a l 0 k
 |false=>k l
theorem Pn{E:Env}{β:Type 1}(ws:List Nat)(a:Nat)(l:List (aC E.T.El))(k:List (aC E.T.El)->β):Ki E ws a l k=k l:=by
 unfold Ki;split
 ·exact avY ws a l 0 k
 ·rfl
end a8
