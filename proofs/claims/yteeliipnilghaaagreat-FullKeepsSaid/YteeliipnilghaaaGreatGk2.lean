/- Part 2 of the proof that is ended in the last text: small logic, what the functions compute, walks, plain laws. -/
import Derived.Test.YteeliipnilghaaaGreatGk1
import Derived.Lib.AppendStr
import Derived.Lib.UnsafeStr
import Derived.Lib.Builder
import Derived.Laws.Externs
import Derived.LaidEql
import Derived.WalkSmall
import Derived.Laws.IdiomCopy
import Derived.Lib.SliceRun
open Array renaming getD_eq_getD_getElem?->ek,getElem?_eq_getElem->jh,getElem?_eq_none->hJ,getElem?_eq_some_iff->fJ,getElem?_modify->jO,getElem?_setIfInBounds->fe,getElem?_toList->ht
open Bool renaming and_eq_true->bH,eq_false_iff->hz,false_eq_true->hG,or_eq_false_iff->h0,or_eq_true->hV
open Int renaming eq_ofNat_of_zero_le->lh,le_refl->k2,toNat_natCast->c6
open List renaming all_eq_true->kh,append_assoc->hM,cons.injEq->hA,cons_append->jv,drop_zero->gS,eq_nil_of_length_eq_zero->hf,ext_getElem?->kL,foldl_cons->lK,getElem?_append->mm,getElem?_append_left->fc,getElem?_append_right->fI,getElem?_cons_zero->dG,getElem?_drop->je,getElem?_eq_getElem->aJ,getElem?_eq_none->gH,getElem?_eq_some_iff->aO,getElem?_map->jb,getElem?_set_ne->jg,getElem?_set_self->fH,getElem?_take->gT,length_append->dJ,length_cons->de,length_drop->k8,length_map->fW,length_pos_iff->lD,length_replicate->ks,length_set->kb,length_take->gw,map_append->kc,map_cons->eu,map_nil->hS,map_toArray->gX,mem_append->b_,mem_cons->cR,mem_cons_of_mem->dX,mem_flatMap->hF,mem_map->hB,mem_of_getElem?->bE,mem_singleton->dR,replicate->fN,set_getElem_self->me,take_append->k6,take_append_drop->ja,take_length->jZ,take_of_length_le->hQ,take_succ_cons->ke
open Nat renaming add_assoc->kg,add_mul->jy,add_zero->ky,beq->bS,ble->jc,blt->ez,decEq->lu,eq_of_beq_eq_true->bd,eq_zero_or_pos->lj,le_mul_of_pos_right->l2,le_of_ble_eq_true->cv,le_refl->cC,le_trans->gJ,lt_of_lt_of_le->en,lt_or_ge->gg,lt_succ_self->lv,min_eq_left->lJ,mul_le_mul_right->j1,mul_one->jB,zero_add->jx,zero_le->gK
open Option renaming bind_some->ae,getD_none->jw,getD_some->iM,map_eq_some_iff->cu,map_none->iW,map_some->fm,some.inj->ei,some.injEq->aF
open Prod renaming mk.injEq->ca
namespace bc
open Go Go.RowKit aw I
def af:Value->List Nat
 | .pointer (some a)=>[a.block]
 | .map (some r)=>[r]
 | .slice (some a) _ (_+1)=>[a.block]
 |_=>[]
def bB{El:Nat->Type}:aD El->Value->List Nat
 | .z _ _ _ _,_=>[]
 | .no _,_=>[]
 |_,h=>af h
def pT{El:Nat->Type}(bl:List (aD El))(ρ:List Value)(k:Nat):Prop:=∃(i:Nat)(B:aD El)(h:Value),bl[i]? =some B/\ρ[i]? =some h/\k∈bB B h
def bi{El:Nat->Type}(X:Nat->Prop)(bl:List (aD El))(ρ:List Value)(w:World):Nat->Prop:=λ k=>¬X k/\ ¬pT bl ρ k/\k<w.heap.size
def rowIs(w:World)(t sz:Nat)(h:Value)(n:Nat)(xs:List Value):Prop:=w.ownsRow 0 t sz h n xs\/(n=0/\xs=[]/\ ∃A,h= .slice A 0 0)
section
variable(T:bR)(F:Nat->Prop)(w:World)
variable(ρ:List Value)(bl:List (aD T.El))
def iU:aD T.El->Value->Prop
 | .c ty cs,h=>∃g vs,h= .pointer (some ⟨g,0,none⟩)/\w.heap[g]? =some (.cells ⟨vs⟩ ty (0,0))/\a7 T F w ρ bl cs vs
 | .r t _ _ l,h=>∃A c xs,h= .slice A l.length c/\rowIs w t (T.ty t).size h l.length xs/\dE (T.ty t) F w xs l
 | .k t sz _ cs,h=>∃A n c xs,h= .slice A n c/\rowIs w t sz h n xs/\a7 T F w ρ bl cs xs
 | .z t _ _ l,h=>(b3 (T.ty t)).rd F w [h] l
 | .m kt vt d,h=>∃r,h= .map (some r)/\xR T F w kt vt r d
 | .o XS,h=>∃g,h= .pointer (some ⟨g,0,none⟩)/\w.heap[g]? =some XS
 | .no _,_=>True
end
section
variable{T:bR}{F F':Nat->Prop}{w w':World}{ρ ρ':List Value}{bl bl':List (aD T.El)}
theorem rowIs.len{t sz n:Nat}{h:Value}{xs:List Value}(e:rowIs w t sz h n xs):xs.length=n*sz:=by
 rcases e with e |⟨rfl,rfl,_⟩
 ·exact e.1
 ·simp
theorem rowIs.own{t sz n:Nat}{h:Value}{xs:List Value}(e:rowIs w t sz h n xs)(a:0<n):w.ownsRow 0 t sz h n xs:=by
 rcases e with e |⟨rfl,_⟩
 ·exact e
 ·omega
theorem rowIs.cap{t sz n c:Nat}{A:Option Addr}{xs:List Value}(e:rowIs w t sz (.slice A n c) n xs):n<=c/\c<=maxLen/\(A=none->c=0)/\(0<c-> ∃g,A=some ⟨g,0,none⟩):=by
 rcases e with e |⟨rfl,_,cj,e⟩
 ·rcases e.2 with⟨a,b⟩|⟨g,cap,cur,a,_,_,J,ap,_⟩
  ·simp only[Value.slice.injEq]at a
   obtain⟨rfl,rfl,rfl⟩:=a
   exact⟨cC _,gK _,λ _=>rfl,λ h=>by omega⟩
  ·simp only[Value.slice.injEq]at a
   obtain⟨rfl,_,rfl⟩:=a
   exact⟨J,ap,(λ h=>by cases h),λ _=>⟨g,rfl⟩⟩
 ·simp only[Value.slice.injEq]at e
  obtain⟨rfl,_,rfl⟩:=e
  exact⟨cC _,gK _,λ _=>rfl,λ h=>by omega⟩
theorem rowIs.later{t sz n c:Nat}{A:Option Addr}{xs:List Value}(e:rowIs w t sz (.slice A n c) n xs)(aj:∀k∈af (.slice A n c),w'.heap[k]? =w.heap[k]?):rowIs w' t sz (.slice A n c) n xs:=by
 cases c with
 |zero=>
  have f:=e.cap.1
  have J:=e.len
  have d:n=0:=by omega
  subst d
  exact .inr ⟨rfl,hf (by rw[J];simp),A,rfl⟩
 |succ c=>
  rcases e with e |⟨rfl,_,cj,e⟩
  ·left
   have:=(ba.row t sz (.slice A n (c+1)) (fN n ()) xs).law w w' (λ k b=>aj k (by cases A with|none=>simp[ba.row,Value.ownBlock]at b |some a=>simpa[af,ba.row,Value.ownBlock]using b))
   simpa[ba.row]using this (by simpa[ba.row]using e)
  ·simp at e
theorem iU.later(a:∀k,F k->F' k/\w'.heap[k]? =w.heap[k]?)(b:mr T ρ ρ' bl bl'){B:aD T.El}{h:Value}(aj:∀k∈bB B h,w'.heap[k]? =w.heap[k]?)(bO:iU T F w ρ bl B h):iU T F' w' ρ' bl' B h:=by
 cases B with
 |c ty cs=>
  obtain⟨g,vs,rfl,J,ap⟩:=bO
  exact⟨g,vs,rfl,(aj g (by simp[bB,af])).trans J,a7.later a b cs ap⟩
 |r t g k l=>
  obtain⟨A,c,xs,rfl,J,ap⟩:=bO
  exact⟨A,c,xs,rfl,J.later aj,ov _ a ap⟩
 |k t sz g cs=>
  obtain⟨A,n,c,xs,rfl,J,ap⟩:=bO
  exact⟨A,n,c,xs,rfl,J.later aj,a7.later a b cs ap⟩
 |z t g k l=>exact(b3 (T.ty t)).law a bO
 |m kt vt d=>
  obtain⟨r,rfl,J⟩:=bO
  exact⟨r,rfl,J.law a (aj r (by simp[bB,af]))⟩
 |o XS=>
  obtain⟨g,rfl,J⟩:=bO
  exact⟨g,rfl,(aj g (by simp[bB,af])).trans J⟩
 |no g=>trivial
end
structure Mem (T:bR) (W:World) (M0:List Nat) (X:Nat->Prop) (bl:List (aD T.El)) (ρ:List Value) (w:World):Prop where
 bW:bp M0 W w
 len:ρ.length=bl.length
 hL:∀k,X k->k<W.heap.size/\k∉M0
 lt:∀k,pT bl ρ k->k<w.heap.size/\(k∈M0\/W.heap.size<=k)
 bz:∀(i j:Nat)(B C:aD T.El)(h g:Value),bl[i]? =some B->ρ[i]? =some h->bl[j]? =some C->ρ[j]? =some g->i≠j-> ∀k∈bB B h,k∉bB C g
 ok:∀(i:Nat)(B:aD T.El)(h:Value),bl[i]? =some B->ρ[i]? =some h->iU T (bi X bl ρ w) w ρ bl B h
section
variable{T:bR}{W w w':World}{M0:List Nat}{X:Nat->Prop}{bl bl':List (aD T.El)}{ρ ρ':List Value}
abbrev Mem.F(_:Mem T W M0 X bl ρ w):Nat->Prop:=bi X bl ρ w
structure To (X:Nat->Prop) (bl bl':List (aD T.El)) (ρ ρ':List Value) (w w':World):Prop where
 F:∀k,bi X bl ρ w k->bi X bl' ρ' w' k/\w'.heap[k]? =w.heap[k]?
 L:mr T ρ ρ' bl bl'
 sz:w.heap.size<=w'.heap.size
 nT:∀(i:Nat)(B':aD T.El)(h':Value),bl'[i]? =some B'->ρ'[i]? =some h'-> ∀k∈bB B' h',k<w.heap.size-> ∃B h,bl[i]? =some B/\ρ[i]? =some h/\k∈bB B h
theorem To.v(h:To X bl bl' ρ ρ' w w'){y:aH T.El}{v:Value}(a:ar T (bi X bl ρ w) w ρ bl y v):ar T (bi X bl' ρ' w') w' ρ' bl' y v:=a.later h.F h.L
theorem To.vs(h:To X bl bl' ρ ρ' w w'){y:List (aH T.El)}{v:List Value}(a:a7 T (bi X bl ρ w) w ρ bl y v):a7 T (bi X bl' ρ' w') w' ρ' bl' y v:=a7.later h.F h.L y a
theorem To.trans{b:List (aD T.El)}{c:List Value}{w'':World}(h:To X bl bl' ρ ρ' w w')(k:To X bl' b ρ' c w' w''):To X bl b ρ c w w'':=
 ⟨λ q a=>⟨(k.F q (h.F q a).1).1,((k.F q (h.F q a).1).2).trans (h.F q a).2⟩,h.L.trans k.L,gJ h.sz k.sz,λ i B' h' hi e q a d=>by
  obtain⟨AQ,f,g,ak,aS⟩:=k.nT i B' h' hi e q a (en d h.sz);exact h.nT i AQ f g ak q aS d⟩
theorem To.refl:To X bl bl ρ ρ w w:=⟨λ _ h=>⟨h,rfl⟩,.refl,cC _,λ _ B h hi a _ b _=>⟨B,h,hi,a,b⟩⟩
theorem Mem.rY(a:Mem T W M0 X bl ρ w){i:Nat}{B:aD T.El}(hi:bl[i]? =some B):∃h,ρ[i]? =some h:=by
 have:=(aO.1 hi).1;exact⟨ρ[i]'(by rw[a.len];exact this),aJ _⟩
theorem Mem.su(b:bp [] w w'):To X bl bl ρ ρ w w':=⟨λ k a=>⟨⟨a.1,a.2.1,en a.2.2 b.size⟩,b.block k a.2.2 (by simp)⟩,.refl,b.size,λ _ B h hi c _ a _=>⟨B,h,hi,c,a⟩⟩
theorem Mem.eV(a:Mem T W M0 X bl ρ w)(b:bp [] w w'):Mem T W M0 X bl ρ w':=
 ⟨a.bW.trans b (by simp),a.len,a.hL,λ k c=>⟨en (a.lt k c).1 b.size,(a.lt k c).2⟩,a.bz,λ i B h hi d=>(a.ok i B h hi d).later (Mem.su b).F .refl λ k c=>b.block k (a.lt k ⟨i,B,h,hi,d,c⟩).1 (by simp)⟩
theorem Mem.Dq(o:Mem T W M0 X bl ρ w){i:Nat}{B B':aD T.El}{h h':Value}(hi:bl[i]? =some B)(c:ρ[i]? =some h)(d:bp (bB B h) w w')
 (ad:∀k∈bB B' h',k∈bB B h\/(w.heap.size<=k/\k<w'.heap.size))
 (m:(¬kE h->h'=h)/\b1 (some B)<=b1 (some B')/\(b1 (some B')=b1 (some B)->h'=h/\jj T (some B')=jj T (some B)/\gQ (some B)<=gQ (some B')/\(gQ (some B')=gQ (some B)->ji (some B')=ji (some B)))) :
 To X bl (bl.set i B') ρ (ρ.set i h') w w':=by
 have l1:=(aO.1 hi).1
 have f:=(aO.1 c).1
 refine⟨λ k a=>⟨⟨a.1,?_,en a.2.2 d.size⟩,d.block k a.2.2 λ n=>a.2.1 ⟨i,B,h,hi,c,n⟩⟩,⟨λ j u aA=>?_⟩,d.size,λ j C g aA b k a p=>?_⟩
 ·rintro⟨j,C,g,aA,b,l⟩
  by_cases e:j=i
  ·subst e
   rw[fH l1]at aA
   rw[fH f]at b
   cases aA;cases b
   rcases ad k l with e |e
   ·exact a.2.1 ⟨j,B,h,hi,c,e⟩
   ·have:=a.2.2;omega
  ·rw[jg (Ne.symm e)]at aA b
   exact a.2.1 ⟨j,C,g,aA,b,l⟩
 ·by_cases e:j=i
  ·subst e
   rw[c]at aA
   cases aA
   refine⟨h',fH f,?_⟩
   rw[fH l1,hi]
   exact m
  ·refine⟨u,by rw[jg (Ne.symm e)];exact aA,λ _=>rfl,?_⟩
   rw[jg (Ne.symm e)]
   exact⟨cC _,λ _=>⟨rfl,rfl,cC _,λ _=>rfl⟩⟩
 ·by_cases e:j=i
  ·subst e
   rw[fH l1]at aA
   rw[fH f]at b
   cases aA;cases b
   rcases ad k a with e |e
   ·exact⟨B,h,hi,c,e⟩
   ·omega
  ·rw[jg (Ne.symm e)]at aA b
   exact⟨C,g,aA,b,a⟩
theorem Mem.gP(c:Mem T W M0 X bl ρ w){i:Nat}{B B':aD T.El}{h h':Value}(hi:bl[i]? =some B)(m:ρ[i]? =some h)(n:bp (bB B h) w w')
 (ad:∀k∈bB B' h',k∈bB B h\/(w.heap.size<=k/\k<w'.heap.size))(s:To X bl (bl.set i B') ρ (ρ.set i h') w w')
 (bO:iU T (bi X (bl.set i B') (ρ.set i h') w') w' (ρ.set i h') (bl.set i B') B' h'):Mem T W M0 X (bl.set i B') (ρ.set i h') w':=by
 have l1:=(aO.1 hi).1
 have y:=(aO.1 m).1
 have key:∀ {j:Nat}{C:aD T.El}{g:Value},(bl.set i B')[j]? =some C->(ρ.set i h')[j]? =some g->(j=i/\C=B'/\g=h')\/(j≠i/\bl[j]? =some C/\ρ[j]? =some g):=λ{j C g} aA f=>by
  by_cases e:j=i
  ·subst e
   rw[fH l1]at aA
   rw[fH y]at f
   cases aA;cases f
   exact .inl ⟨rfl,rfl,rfl⟩
  ·rw[jg (Ne.symm e)]at aA f
   exact .inr ⟨e,aA,f⟩
 refine⟨c.bW.trans n λ k d=>(c.lt k ⟨i,B,h,hi,m,d⟩).2,by simp[c.len],c.hL,?_,?_,?_⟩
 ·rintro k ⟨j,C,g,aA,f,d⟩
  rcases key aA f with⟨rfl,rfl,rfl⟩|⟨_,l,J⟩
  ·rcases ad k d with e |e
   ·have:=c.lt k ⟨j,B,h,hi,m,e⟩
    exact⟨en this.1 n.size,this.2⟩
   ·exact⟨e.2,.inr (gJ c.bW.size e.1)⟩
  ·have:=c.lt k ⟨j,C,g,l,J,d⟩
   exact⟨en this.1 n.size,this.2⟩
 ·intro a b C D g u z f t v o k d p
  rcases key z f with⟨rfl,rfl,rfl⟩|⟨x,l,J⟩
  ·rcases key t v with⟨rfl,_⟩|⟨ak,q,r⟩
   ·exact o rfl
   ·rcases ad k d with e |e
    ·exact c.bz _ _ _ _ _ _ hi m q r o k e p
    ·have:=(c.lt k ⟨b,D,u,q,r,p⟩).1;omega
  ·rcases key t v with⟨rfl,rfl,rfl⟩|⟨ak,q,r⟩
   ·rcases ad k p with e |e
    ·exact c.bz _ _ _ _ _ _ l J hi m o k d e
    ·have:=(c.lt k ⟨a,C,g,l,J,d⟩).1;omega
   ·exact c.bz _ _ _ _ _ _ l J q r o k d p
 ·intro j C g aA f
  rcases key aA f with⟨rfl,rfl,rfl⟩|⟨x,l,J⟩
  ·exact bO
  ·exact(c.ok j C g l J).later s.F s.L λ k d=>n.block k (c.lt k ⟨j,C,g,l,J,d⟩).1 λ A=>c.bz _ _ _ _ _ _ l J hi m x k d A
theorem Mem.z1(c:Mem T W M0 X bl ρ w){B:aD T.El}{h:Value}(d:bp [] w w')(ad:∀k∈bB B h,w.heap.size<=k/\k<w'.heap.size):To X bl (bl++[B]) ρ (ρ++[h]) w w':=by
 refine⟨λ k b=>⟨⟨b.1,?_,en b.2.2 d.size⟩,d.block k b.2.2 (by simp)⟩,⟨λ j u aA=>?_⟩,d.size,λ j C g aA a k b i=>?_⟩
 ·rintro⟨j,C,g,aA,a,f⟩
  rcases gg j bl.length with e |e
  ·rw[fc e]at aA
   rw[fc (by rw[c.len];exact e)]at a
   exact b.2.1 ⟨j,C,g,aA,a,f⟩
  ·rw[fI e]at aA
   rw[fI (by rw[c.len];exact e),c.len]at a
   cases aL:j-bl.length with
   |zero=>
    rw[aL]at aA a
    simp only[dG,aF]at aA a
    subst aA;subst a
    have:=(ad k f).1
    have:=b.2.2
    omega
   |succ q=>rw[aL]at aA;simp at aA
 ·have e:=(aO.1 aA).1
  have e':j<bl.length:=by rw[<-c.len];exact e
  refine⟨u,by rw[fc e];exact aA,λ _=>rfl,?_⟩
  rw[fc e']
  exact⟨cC _,λ _=>⟨rfl,rfl,cC _,λ _=>rfl⟩⟩
 ·rcases gg j bl.length with e |e
  ·rw[fc e]at aA
   rw[fc (by rw[c.len];exact e)]at a
   exact⟨C,g,aA,a,b⟩
  ·rw[fI e]at aA
   rw[fI (by rw[c.len];exact e),c.len]at a
   cases aL:j-bl.length with
   |zero=>
    rw[aL]at aA a
    simp only[dG,aF]at aA a
    subst aA;subst a
    have:=(ad k b).1
    omega
   |succ q=>rw[aL]at aA;simp at aA
theorem Mem.push(c:Mem T W M0 X bl ρ w){B:aD T.El}{h:Value}(l:bp [] w w')(ad:∀k∈bB B h,w.heap.size<=k/\k<w'.heap.size)
 (bO:iU T (bi X (bl++[B]) (ρ++[h]) w') w' (ρ++[h]) (bl++[B]) B h):Mem T W M0 X (bl++[B]) (ρ++[h]) w':=by
 have p:=c.z1 l ad (B:=B) (h:=h)
 have key:∀ {j:Nat}{C:aD T.El}{g:Value},(bl++[B])[j]? =some C->(ρ++[h])[j]? =some g->(j=bl.length/\C=B/\g=h)\/(j<bl.length/\bl[j]? =some C/\ρ[j]? =some g):=λ{j C g} aA d=>by
  rcases gg j bl.length with e |e
  ·rw[fc e]at aA
   rw[fc (by rw[c.len];exact e)]at d
   exact .inr ⟨e,aA,d⟩
  ·rw[fI e]at aA
   rw[fI (by rw[c.len];exact e),c.len]at d
   cases aL:j-bl.length with
   |zero=>
    rw[aL]at aA d
    simp only[dG,aF]at aA d
    exact .inl ⟨by omega,aA.symm,d.symm⟩
   |succ q=>rw[aL]at aA;simp at aA
 refine⟨c.bW.trans l (by simp),by simp[c.len],c.hL,?_,?_,?_⟩
 ·rintro k ⟨j,C,g,aA,d,f⟩
  rcases key aA d with⟨rfl,rfl,rfl⟩|⟨_,i,J⟩
  ·exact⟨(ad k f).2,.inr (gJ c.bW.size (ad k f).1)⟩
  ·have:=c.lt k ⟨j,C,g,i,J,f⟩
   exact⟨en this.1 l.size,this.2⟩
 ·intro a b C D g u v d r s t k f m
  rcases key v d with⟨rfl,rfl,rfl⟩|⟨x,i,J⟩
  ·rcases key r s with⟨rfl,_⟩|⟨ak,n,o⟩
   ·exact t rfl
   ·have:=(c.lt k ⟨b,D,u,n,o,m⟩).1
    have:=(ad k f).1
    omega
  ·rcases key r s with⟨rfl,rfl,rfl⟩|⟨ak,n,o⟩
   ·have:=(c.lt k ⟨a,C,g,i,J,f⟩).1
    have:=(ad k m).1
    omega
   ·exact c.bz _ _ _ _ _ _ i J n o t k f m
 ·intro j C g aA d
  rcases key aA d with⟨rfl,rfl,rfl⟩|⟨x,i,J⟩
  ·exact bO
  ·exact(c.ok j C g i J).later p.F p.L λ k f=>l.block k (c.lt k ⟨j,C,g,i,J,f⟩).1 (by simp)
end
def cD{α:Type}:List (Nat×α)->Nat->Option α
 |[],_=>none
 |p::r,t=>match bS p.1 t with
  |true=>some p.2
  |false=>cD r t
structure q7 (T:bR) (F:Nat->Prop) (w:World) (ρ:List Value) (bl:List (aD T.El)) (n:cB) (fr:List (Nat×aH T.El)) (a:Act):Prop where
 size:a.tmps.size=n.n
 defers:a.defers=n.ds
 get:∀t y,cD fr t=some y->ar T F w ρ bl y (a.tmps.getD t undef)
section
variable{T:bR}{F F':Nat->Prop}{w w':World}{ρ ρ':List Value}{bl bl':List (aD T.El)}{n:cB}{fr:List (Nat×aH T.El)}{a:Act}
theorem q7.later(b:∀k,F k->F' k/\w'.heap[k]? =w.heap[k]?)(c:mr T ρ ρ' bl bl')(h:q7 T F w ρ bl n fr a):q7 T F' w' ρ' bl' n fr a:=⟨h.size,h.defers,λ t y hy=>(h.get t y hy).later b c⟩
theorem yz{a:Act}{d t:Nat}{v:Value}(aL:d<a.tmps.size):(a.put (some d) v).tmps.getD t undef=if d=t then v else a.tmps.getD t undef:=by
 simp only[Act.put,ek,fe];by_cases e:d=t
 ·subst e;simp[aL]
 ·simp[e]
theorem q7.put{d:Nat}{y:aH T.El}{v:Value}(h:q7 T F w ρ bl n fr a)(aL:ez d n.n=true)(c:ar T F w ρ bl y v):q7 T F w ρ bl n ((d,y)::fr) (a.put (some d) v):=by
 have f:d<n.n:=cv aL;refine⟨by simpa[Act.put]using h.size,h.defers,λ t z b=>?_⟩;rw[yz (by rw[h.size];exact f)];simp only[cD]at b;cases af:bS d t with
 |true=>
  rw[af]at b
  simp only[aF]at b
  rw[if_pos (bd af),<-b];exact c
 |false=>
  rw[af]at b
  rw[if_neg (λ e=>by subst e;simp at af)]
  exact h.get t z b
def ox{α:Type}:List (Nat×α)->Nat->List (Nat×α)
 |[],_=>[]
 |p::r,t=>match bS p.1 t with
  |true=>ox r t
  |false=>p::ox r t
theorem Ot{α:Type}{d t:Nat}{y:α}:∀ {fr:List (Nat×α)},cD (ox fr d) t=some y->t≠d/\cD fr t=some y
 |[],h=>by simp[ox,cD]at h
 |p::r,h=>by
  simp only[ox]at h;cases af:bS p.1 d with
  |true=>
   rw[af]at h
   obtain⟨b,J⟩:=Ot h
   refine⟨b,?_⟩
   simp only[cD]
   cases hc:bS p.1 t with
   |true=>exact absurd ((bd hc).symm.trans (bd af)) b
   |false=>exact J
  |false=>
   rw[af]at h
   simp only[cD]at h⊢
   cases hc:bS p.1 t with
   |true=>
    rw[hc]at h
    refine⟨λ e=>?_,h⟩
    rw[bd hc,e]at af
    simp at af
   |false=>rw[hc]at h;exact Ot h
theorem q7.PL{d:Nat}{v:Value}(h:q7 T F w ρ bl n fr a)(aL:ez d n.n=true):q7 T F w ρ bl n (ox fr d) (a.put (some d) v):=by
 have b:d<n.n:=cv aL;refine⟨by simpa[Act.put]using h.size,h.defers,λ t z c=>?_⟩;obtain⟨e,J⟩:=Ot c;rw[yz (by rw[h.size];exact b),if_neg (Ne.symm e)];exact h.get t z J
end
end bc
namespace I
def di{α β cx:Type}(o:Option (α⊕β))(k:α->Option cx)(l:β->Option cx):Option cx:=match o with
 |none=>none
 |some (.inl a)=>k a
 |some (.inr b)=>l b
end I
namespace bc
open Go Go.RowKit aw I
inductive D (α:Type):Type 1
 |ok (a:α)
 |no
 |op {β:Type} (o:Option β) (k:β->D α)
 |pZ (c:Bool) (x y:D α)
 |uA {β cx:Type} (o:Option (β⊕cx)) (k:β->D α) (l:cx->D α)
def D.bind{α β:Type}:D α->(α->D β)->D β
 | .ok a,f=>f a
 | .no,_=>.no
 | .op o k,f=>.op o λ b=>(k b).bind f
 | .pZ c x y,f=>.pZ c (x.bind f) (y.bind f)
 | .uA o k l,f=>.uA o (λ b=>(k b).bind f) (λ c=>(l c).bind f)
def D.run{α ρ:Type}:D α->(α->Option ρ)->Option ρ
 | .ok a,K=>K a
 | .no,_=>none
 | .op o k,K=>o.bind λ b=>(k b).run K
 | .pZ c x y,K=>cond c (x.run K) (y.run K)
 | .uA o k l,K=>di o (λ b=>(k b).run K) (λ c=>(l c).run K)
def D.out{α:Type}:D α->α->Prop
 | .ok b,a=>b=a
 | .no,_=>False
 | .op o k,a=>∃b,o=some b/\(k b).out a
 | .pZ c x y,a=>(c=true/\x.out a)\/(c=false/\y.out a)
 | .uA o k l,a=>(∃b,o=some (.inl b)/\(k b).out a)\/(∃c,o=some (.inr c)/\(l c).out a)
theorem D.sn{α ρ:Type}{r:ρ}:∀ {d:D α}{K:α->Option ρ},d.run K=some r-> ∃a,d.out a/\K a=some r
 | .ok a,K,h=>⟨a,rfl,h⟩
 | .no,K,h=>by cases h
 | .op o k,K,h=>by
   obtain⟨b,f,J⟩:=fM h;obtain⟨a,ap,e⟩:=D.sn J;exact⟨a,⟨b,f,ap⟩,e⟩
 | .pZ c x y,K,h=>by
   cases c with
   |true=>obtain⟨a,ap,e⟩:=D.sn (d:=x) h;exact⟨a,.inl ⟨rfl,ap⟩,e⟩
   |false=>obtain⟨a,ap,e⟩:=D.sn (d:=y) h;exact⟨a,.inr ⟨rfl,ap⟩,e⟩
 | .uA o k l,K,h=>by
   cases o with
   |none=>cases h
   |some s=>
    cases s with
    |inl b=>obtain⟨a,ap,e⟩:=D.sn (d:=k b) h;exact⟨a,.inl ⟨b,rfl,ap⟩,e⟩
    |inr c=>obtain⟨a,ap,e⟩:=D.sn (d:=l c) h;exact⟨a,.inr ⟨c,rfl,ap⟩,e⟩
theorem D.jR{α β:Type}:∀ {d:D α}{f:α->D β}{b:β},(d.bind f).out b-> ∃a,d.out a/\(f a).out b
 | .ok a,f,b,h=>⟨a,rfl,h⟩
 | .no,f,b,h=>h.elim
 | .op o k,f,b,h=>by
   obtain⟨x,e,J⟩:=h;obtain⟨a,ap,g⟩:=D.jR J;exact⟨a,⟨x,e,ap⟩,g⟩
 | .pZ c x y,f,b,h=>by
   rcases h with⟨e,J⟩|⟨e,J⟩
   ·obtain⟨a,ap,g⟩:=D.jR J;exact⟨a,.inl ⟨e,ap⟩,g⟩
   ·obtain⟨a,ap,g⟩:=D.jR J;exact⟨a,.inr ⟨e,ap⟩,g⟩
 | .uA o k l,f,b,h=>by
   rcases h with⟨x,e,J⟩|⟨x,e,J⟩
   ·obtain⟨a,ap,g⟩:=D.jR J;exact⟨a,.inl ⟨x,e,ap⟩,g⟩
   ·obtain⟨a,ap,g⟩:=D.jR J;exact⟨a,.inr ⟨x,e,ap⟩,g⟩
def D.of{α:Type}:Option α->D α
 |some a=>.ok a
 |none=>.no
theorem D.pr{α:Type}{o:Option α}{a:α}(h:(D.of o).out a):o=some a:=by
 cases o with
 |none=>exact h.elim
 |some b=>exact congrArg some h
structure Env where
 P:Program
 T:bR
 cQ:List (Nat×aH T.El)
 cl:Bool
 cb:List Nat
 lG:Nat
 L9:List UInt8->List (T.El lG)
def lay(P:Program)(t:TypeId):Option (Bool×Nat):=match P.underlying t,P.info? t with
 |some (.struct _),some i=>some (true,i.size)
 |some (.array _ _),some i=>some (true,i.size)
 |some _,some i=>some (false,i.size)
 |_,_=>none
theorem run_sizeOf{P:Program}{t:TypeId}{i:TypeInfo}(h:P.info? t=some i)(w:World):(Go.sizeOf t).run P w= .ok i.size w:=by
 simp[Go.sizeOf,typeInfo,go_sem,h]
theorem JA{P:Program}{t:TypeId}{b:Bool}{n:Nat}(h:lay P t=some (b,n)):(∀w,(isAgg t).run P w= .ok b w)/\ ∀w,(Go.sizeOf t).run P w= .ok n w:=by
 unfold lay at h;split at h
 ·rename_i a J
  simp only[aF,ca]at h
  obtain⟨rfl,rfl⟩:=h
  exact⟨λ w=>by simp[isAgg,run_underlying a],run_sizeOf J⟩
 ·rename_i a J
  simp only[aF,ca]at h
  obtain⟨rfl,rfl⟩:=h
  exact⟨λ w=>by simp[isAgg,run_underlying a],run_sizeOf J⟩
 ·rename_i d i c e a J
  simp only[aF,ca]at h
  obtain⟨rfl,rfl⟩:=h
  refine⟨λ w=>?_,run_sizeOf J⟩
  simp only[isAgg,Sem.run_bind,run_underlying a,Result.andThen_ok]
  cases d<;>first |rfl |(exact absurd a (by simpa using c _))|(exact absurd a (by simpa using e _ _))
 ·cases h
def kG:Option TypeDesc->Option nD
 |some (.int k)=>some (.i k)
 |some .bool=>some .b
 |some .string=>some .s
 |some (.slice _)=>some .cr
 |_=>none
theorem wj{P:Program}{t:TypeId}{k:nD}(h:kG (P.underlying t)=some k):k.ok P t:=by
 unfold kG at h;split at h<;>simp only[aF,reduceCtorEq]at h<;>subst h
 ·rename_i h;exact h
 ·rename_i h;exact h
 ·rename_i h;exact h
 ·rename_i e h;exact⟨e,h⟩
def MQ(P:Program)(s j:Nat):Option (Nat×Nat×Nat):=match P.underlying s with
 |some (.struct cb)=>match nth cb.toList j with
  |some f=>match P.info? f.type with
   |some i=>match bS i.size 0 with
    |true=>none
    |false=>some (f.offset,f.type,i.size)
   |none=>none
  |none=>none
 |_=>none
theorem afx{P:Program}{s j off t n:Nat}(h:MQ P s j=some (off,t,n)):∃cb f,P.underlying s=some (.struct cb)/\cb[j]? =some f/\f.offset=off/\f.type=t/\(∀w,(Go.sizeOf f.type).run P w= .ok n w)/\bS n 0=false:=by
 unfold MQ at h;split at h
 ·rename_i cb a
  split at h
  ·rename_i f J
   split at h
   ·rename_i i ap
    split at h
    ·cases h
    ·rename_i b
     simp only[aF,ca]at h
     obtain⟨rfl,rfl,rfl⟩:=h
     rw[c7,ht]at J
     exact⟨cb,f,a,J,rfl,rfl,run_sizeOf ap,b⟩
   ·cases h
  ·cases h
 ·cases h
section
variable{El:Nat->Type}
def mx(cs:List (aH El))(o:Nat):Bool×Nat->Option (aH El)
 |(false,_)=>nth cs o
 |(true,n)=>match jc (o+n) cs.length with
  |true=>some (.a ((cs.drop o).take n))
  |false=>none
end
section
variable{T:bR}{F:Nat->Prop}{w:World}{ρ:List Value}{bl:List (aD T.El)}{P:Program}
theorem EN{cs:List (aH T.El)}{o a q t:Nat}{c:Bool×Nat}{y:aH T.El}{vs:List Value}(l:lay P t=some c)(h:mx cs o c=some y)(d:a7 T F w ρ bl cs vs)(hc:fa w ⟨a,q,none⟩ vs) :
 ∃v us,ar T F w ρ bl y v/\fa w ⟨a,q+o,none⟩ us/\ ∀(op:Oper)(ac:Act)(x:Operand)(w':World),op.op= .load t x->ac.eval x= .pointer (some ⟨a,q+o,none⟩)->fa w' ⟨a,q+o,none⟩ us->bg P op ac w' v w':=by
 obtain⟨b,n⟩:=c
 have e:=JA l
 cases b with
 |false=>
  simp only[mx]at h
  rw[c7]at h
  obtain⟨v,m,J⟩:=d.at_ h
  refine⟨v,[v],J,λ j u aA=>?_,λ op ac x w' f g i=>xD e.1 f g (by simpa using i 0 v rfl)⟩
  cases j with
  |zero=>simp only[dG,aF]at aA;subst aA;simpa using hc o v m
  |succ j=>simp at aA
 |true=>
  simp only[mx]at h
  split at h
  ·rename_i af
   simp only[aF]at h
   subst h
   have p:=cv af
   have k:=d.len
   refine⟨.agg ⟨(vs.drop o).take n⟩,(vs.drop o).take n,?_,λ j u aA=>?_,λ op ac x w' f g i=>an9 e.1 e.2 (by simp;omega) f g i⟩
   ·simp only[ar]
    exact⟨_,rfl,a7.take n (a7.drop o d)⟩
   ·rw[gT]at aA
    split at aA
    ·rw[je]at aA
     have:=hc (o+j) u aA
     simpa[kg]using this
    ·cases aA
  ·cases h
end
end bc
namespace bc
open Go Go.RowKit aw I
structure x9 (T:bR):Prop where
 cs:∀t d F w xs,(T.ty t).rd F w xs d->a7 T F w [] [] ((T.e t).cs d) xs
 hn:∀t aY d,(T.e t).hn aY=some d-> ∀F w ρ bl xs,a7 T F w ρ bl aY xs->(T.ty t).rd F w xs d
 key:∀t K,(T.e t).key=some K-> ∀F w xs k,(T.ty t).rd F w xs k->zy (T.e t).agg xs= @lC.enc _ K.dec K.rX k
 one:∀t,(T.e t).agg=false-> ∀d,((T.e t).cs d).length=1
def bR.val(T:bR)(t:Nat)(d:T.El t):aH T.El:=match(T.e t).agg with
 |true=>.a ((T.e t).cs d)
 |false=>((T.e t).cs d).headD (.p undef)
structure c8 (E:Env):Prop where
 tb:x9 E.T
 call:∀f∈E.cb,∀args w,(callFunc f args).run E.P w= .ok (.enter f args) w
 aCo:E.P.follows .mixedOrders=true
 ac7:∀l,(E.L9 l).length=l.length
 asL:∀F w l xs,dE Qb F w xs l->dE (E.T.ty E.lG) F w xs (E.L9 l)
 eq:∀t f,(E.T.e t).eq=some f-> ∀F w xs ys d e,(E.T.ty t).rd F w xs d->(E.T.ty t).rd F w ys e-> ∀(o:Oper)(a:Act)(x y:Operand)(t':TypeId)(b:Bool),o.op= .binOp (cond b .eql .neq) t x y t'->a.eval x= .agg ⟨xs⟩->a.eval y= .agg ⟨ys⟩-> ∀w',bg E.P o a w' (.bool (cond b (f d e) (!f d e))) w'
section
variable{T:bR}{F:Nat->Prop}{w:World}{ρ:List Value}{bl:List (aD T.El)}
theorem aBO{w:World}{F:Nat->Prop}{l:List (aH T.El)}{vs:List Value}(h:a7 T F w [] [] l vs):a7 T F w ρ bl l vs:=a7.later (λ _ h=>⟨h,rfl⟩) ⟨λ i h hi=>by simp at hi⟩ l h
theorem x9.cells(a:x9 T){t:Nat}{d:T.El t}{xs:List Value}(h:(T.ty t).rd F w xs d):a7 T F w ρ bl ((T.e t).cs d) xs:=aBO (a.cs t d F w xs h)
theorem x9.val(a:x9 T){t:Nat}{d:T.El t}{xs:List Value}(h:(T.ty t).rd F w xs d):ar T F w ρ bl (T.val t d) (zy (T.e t).agg xs):=by
 have hc:=a.cells (ρ:=ρ) (bl:=bl) h;unfold bR.val;cases c:(T.e t).agg with
 |true=>simp only[ar,zy];exact⟨xs,rfl,hc⟩
 |false=>
  have b:=a.one t c d
  cases hcs:(T.e t).cs d with
  |nil=>rw[hcs]at b;simp at b
  |cons y r=>
   rw[hcs]at hc
   simp only[a7]at hc
   obtain⟨u,us,rfl,e,_⟩:=hc
   exact e
def Yc{El:Nat->Type}:aH El->Nat->Option (aH El)
 | .b i o,n=>some (.b i (o+n))
 | .x t d o,n=>some (.x t d (o+n))
 | .e i g k t j d o,n=>some (.e i g k t j d (o+n))
 | .w i g o,n=>some (.w i g (o+n))
 |_,_=>none
def Pj{El:Nat->Type}(gs:Nat->Nat):aH El->Bool
 | .b _ _=>true
 | .x _ _ _=>true
 | .e i g _ _ _ _ _=>bS g (gs i)
 | .w i g _=>bS g (gs i)
 |_=>false
def tr{El:Nat->Type}(bl:List (aD El))(i:Nat):Nat:=b1 (nth bl i)
theorem B6{El:Nat->Type}(bl:List (aD El))(i:Nat):tr bl i=b1 bl[i]? :=by rw[tr,c7]
theorem aDS{y e9:aH T.El}{n:Nat}{v:Value}(hi:Pj (tr bl) y=true)(h:Yc y n=some e9)(b:ar T F w ρ bl y v):∃g o,v= .pointer (some ⟨g,o,none⟩)/\ar T F w ρ bl e9 (.pointer (some ⟨g,o+n,none⟩)):=by
 cases y<;>simp only[Yc,aF,reduceCtorEq]at h<;>subst h
 ·simp only[ar]at b
  obtain⟨g,d,J⟩:=b
  refine⟨g,_,J,?_⟩
  simp only[ar]
  exact⟨g,d,rfl⟩
 ·simp only[ar]at b
  obtain⟨a,q,cs,d,J,ap,k⟩:=b
  refine⟨a,_,d,?_⟩
  simp only[ar]
  exact⟨a,q,cs,by rw[kg],J,ap,k⟩
 ·simp only[ar]at b
  obtain⟨_,u,d,J,ap⟩:=b
  simp only[Pj]at hi
  have hi:=bd hi
  rw[B6]at hi
  obtain⟨⟨A,e,c,f,i,l,j⟩,m,p⟩:=ap hi
  refine⟨_,_,j,?_⟩
  simp only[ar]
  exact⟨trivial,u,d,J,λ _=>⟨⟨A,e,c,f,i,l,by rw[kg]⟩,m,p⟩⟩
 ·simp only[ar]at b
  obtain⟨_,u,d,J,ap⟩:=b
  simp only[Pj]at hi
  have hi:=bd hi
  rw[B6]at hi
  obtain⟨A,e,c,f,i,j⟩:=ap hi
  refine⟨_,_,j,?_⟩
  simp only[ar]
  exact⟨trivial,u,d,J,λ _=>⟨A,e,c,f,i,rfl⟩⟩
def nm{El:Nat->Type}(bl:List (aD El)):aH El->aH El
 | .r i g=>match nth bl i with
   |some (.z t g' _ l)=>match bS g g' with
    |true=>.s t l
    |false=>.r i g
   |_=>.r i g
 |y=>y
end
section
variable{T:bR}{W w:World}{M0:List Nat}{X:Nat->Prop}{bl:List (aD T.El)}{ρ:List Value}
theorem O1(b:Mem T W M0 X bl ρ w){y:aH T.El}{v:Value}(a:ar T (bi X bl ρ w) w ρ bl y v):ar T (bi X bl ρ w) w ρ bl (nm bl y) v:=by
 cases y with
 |r i g=>
  simp only[nm]
  split
  ·rename_i t g' k l hi
   rw[c7]at hi
   split
   ·rename_i af
    have af:=bd af
    simp only[ar]at a⊢
    obtain⟨_,h,c,J,ap⟩:=a
    rw[hi]at ap
    have:=ap af
    subst this
    exact b.ok i _ _ hi c
   ·exact a
  ·exact a
 |_=>exact a
def E2(E:Env)(bl:List (aD E.T.El))(t:Nat):aH E.T.El->D (aH E.T.El)
 | .b i o=>match nth bl i,lay E.P t with
   |some (.c _ cs),some a=>.of (mx cs o a)
   |_,_=>.no
 | .x t' d o=>match lay E.P t with
   |some a=>.of (mx ((E.T.e t').cs d) o a)
   |none=>.no
 | .e i g k t' j d o=>match nth bl i,lay E.P t with
   |some (.r c b e l),some a=>match bS g b,bS k e with
    |true,true=>.of (mx ((E.T.e t').cs d) o a)
    |true,false=>.op (idx l j) λ d'=>.of (mx ((E.T.e c).cs d') o a)
    |_,_=>.no
   |_,_=>.no
 | .w i g o=>match nth bl i,lay E.P t with
   |some (.k _ _ b cs),some a=>match bS g b with
    |true=>.of (mx cs o a)
    |false=>.no
   |_,_=>.no
 | .zF i g sz q=>match nth bl i,lay E.P t with
   |some (.r c b e l),some a=>match bS g b&&bS sz (E.T.ty c).size with
    |true=>.op (idx l q) λ d=>.of (mx [.e i g e c q d 0] 0 a)
    |false=>.no
   |_,_=>.no
 |_=>.no
def W_{El:Nat->Type}:aH El->Option Nat
 | .b i _=>some i
 | .e i _ _ _ _ _ _=>some i
 | .w i _ _=>some i
 |_=>none
def LU(X:Nat->Prop)(bl:List (aD T.El))(ρ:List Value)(w:World)(k:Nat):Option Nat->Prop
 |none=>bi X bl ρ w k
 |some i=>∃B h,bl[i]? =some B/\ρ[i]? =some h/\k∈bB B h
def Hy(P:Program)(t:Nat)(ec:Addr)(us:List Value)(v:Value):Prop:=∀(op:Oper)(ac:Act)(x:Operand)(w':World),op.op= .load t x->ac.eval x= .pointer (some ec)->fa w' ec us->bg P op ac w' v w'
theorem uw{w:World}{t sz n c:Nat}{A:Option Addr}{xs:List Value}(d:0<n)(h:rowIs w t sz (.slice A n c) n xs):∃g,A=some ⟨g,0,none⟩/\dv A=g/\fa w ⟨g,0,none⟩ xs/\ ∀m:Nat,af (.slice A m c)=[g]:=by
 have hc:=h.cap;have h:=h.own d;rcases h.2 with⟨a,e⟩|⟨g,cap,cur,a,_⟩
 ·omega
 ·simp only[Value.slice.injEq]at a
  obtain⟨rfl,_,rfl⟩:=a
  refine⟨g,rfl,rfl,λ j u aA=>?_,λ m=>?_⟩
  ·have b:=h.cells (g:=g) rfl j u aA
   rw[kY]at b
   exact b
  ·cases c with
   |zero=>omega
   |succ c=>rfl
theorem akh{α:Type}{T:c9 α}{F:Nat->Prop}{w:World}{g:Nat}{l:List α}{xs:List Value}{j:Int}{d:α}(hc:fa w ⟨g,0,none⟩ xs)(a:dE T F w xs l)(hi:idx l j=some d):∃cs,T.rd F w cs d/\fa w ⟨g,j.toNat*T.size,none⟩ cs:=by
 obtain⟨_,_,J⟩:=lc hi;obtain⟨cs,ap,b⟩:=Kh T a J;refine⟨cs,ap,λ q u c=>?_⟩;have:=hc (j.toNat*T.size+q) u (b q u c);simpa using this
theorem avM{E:Env}(R:x9 E.T){W w:World}{M0:List Nat}{X:Nat->Prop}{bl:List (aD E.T.El)}{ρ:List Value}(S:Mem E.T W M0 X bl ρ w){t:Nat}{p y:aH E.T.El}{L:Value}(m:ar E.T (bi X bl ρ w) w ρ bl p L)(h:(E2 E bl t p).out y) :
 ∃ec us v,L= .pointer (some ec)/\ar E.T (bi X bl ρ w) w ρ bl y v/\fa w ec us/\Hy E.P t ec us v/\LU X bl ρ w ec.block (W_ p):=by
 unfold E2 at h
 split at h
 ·rename_i i o
  split at h
  ·rename_i ty cs Q b J
   rw[c7]at b
   have h:=D.pr h
   simp only[ar]at m
   obtain⟨g,r,rfl⟩:=m
   obtain⟨g',vs,H,ak,aS⟩:=S.ok i _ _ b r
   simp only[Value.pointer.injEq,aF,Addr.mk.injEq,and_true]at H
   subst H
   have hc:fa w ⟨g,0,none⟩ vs:=λ j u aA=>by
    have af:(ba.cg g ty vs).ok w:=ak;simpa using yd af aA
   obtain⟨v,us,e,I,f⟩:=EN J h aS hc
   refine⟨⟨g,o,none⟩,us,v,rfl,e,by simpa using I,λ op ac x w' aq aa lO=>f op ac x w' aq (by simpa using aa) (by simpa using lO),_,_,b,r,by simp[bB,af]⟩
  ·exact h.elim
 ·rename_i t' d o
  split at h
  ·rename_i Q J
   have h:=D.pr h
   simp only[ar]at m
   obtain⟨a,q,cs,rfl,ap,a',c0⟩:=m
   obtain⟨v,us,e,I,f⟩:=EN J h (R.cells a') c0
   exact⟨_,us,v,rfl,e,I,f,ap⟩
  ·exact h.elim
 ·rename_i i g k t' j d o
  split at h
  ·rename_i U g2 I l Q b J
   rw[c7]at b
   simp only[ar]at m
   obtain⟨_,u,C,z,B⟩:=m
   rw[b]at B
   obtain⟨A,c,xs,H,ak,aS⟩:=S.ok i _ _ b C
   subst H
   split at h
   ·rename_i r hk
    have h:=D.pr h
    obtain⟨⟨cj,f_,bG,s,M,V,gd⟩,aD8,Yf⟩:=B (bd r)
    obtain⟨l',K,F⟩:=Yf (bd hk)
    simp only[ji,aF,Sigma.mk.injEq]at K
    obtain⟨e3,K⟩:=K
    subst e3
    have K:=eq_of_heq K
    subst K
    simp only[Value.slice.injEq]at s
    obtain⟨rfl,rfl,rfl⟩:=s
    obtain⟨gb,rfl,N,hc,O⟩:=uw (by have:=(lc F).2.1;omega) ak
    obtain⟨cs,Y,Z⟩:=akh hc aS F
    obtain⟨v,us,e,G,f⟩:=EN J h (R.cells Y) Z
    refine⟨_,us,v,gd,e,?_,?_,_,_,b,C,by simp[bB,O,N,dv]⟩
    ·simpa[jj,dv]using G
    ·simpa[jj,dv,Hy]using f
   ·rename_i r hk
    obtain⟨d',F,h⟩:=h
    have h:=D.pr h
    obtain⟨⟨cj,f_,bG,s,M,V,gd⟩,_,_⟩:=B (bd r)
    simp only[Value.slice.injEq]at s
    obtain⟨rfl,rfl,rfl⟩:=s
    obtain⟨gb,rfl,N,hc,O⟩:=uw (by have:=(lc F).2.1;omega) ak
    obtain⟨cs,Y,Z⟩:=akh hc aS F
    obtain⟨v,us,e,G,f⟩:=EN J h (R.cells Y) Z
    refine⟨_,us,v,gd,e,?_,?_,_,_,b,C,by simp[bB,O,N,dv]⟩
    ·simpa[jj,dv]using G
    ·simpa[jj,dv,Hy]using f
   ·exact h.elim
  ·exact h.elim
 ·rename_i i g o
  split at h
  ·rename_i U sz g2 cs Q b J
   rw[c7]at b
   split at h
   ·rename_i r
    have h:=D.pr h
    simp only[ar]at m
    obtain⟨_,u,C,z,B⟩:=m
    rw[b]at B
    obtain⟨A,n,c,xs,H,ak,aS⟩:=S.ok i _ _ b C
    subst H
    obtain⟨cj,f_,bG,s,M,gd⟩:=B (bd r)
    simp only[Value.slice.injEq]at s
    obtain⟨rfl,rfl,rfl⟩:=s
    obtain⟨gb,rfl,N,hc,O⟩:=uw M ak
    obtain⟨v,us,e,G,f⟩:=EN J h aS hc
    refine⟨_,us,v,gd,e,?_,?_,_,_,b,C,by simp[bB,O,N,dv]⟩
    ·simpa[dv]using G
    ·simpa[dv,Hy]using f
   ·exact h.elim
  ·exact h.elim
 ·rename_i i g sz q
  split at h
  ·rename_i U g2 I l Q b J
   rw[c7]at b
   split at h
   ·rename_i af
    simp only[bH]at af
    have r:=bd af.1
    have ah:=bd af.2
    obtain⟨d,F,h⟩:=h
    have h:=D.pr h
    simp only[ar]at m
    obtain⟨a,o,P,rfl,aB,⟨g_,u,C,z,B⟩,hc⟩:=m
    have Ft:=z
    rw[b]at B Ft
    obtain⟨A,n,c,s,M,V,gd⟩:=B r
    have az:a7 E.T (bi X bl ρ w) w ρ bl [.e i g I U q d 0] [P]:=by
     simp only[a7,ar];refine⟨P,[],rfl,⟨g_,u,C,z,λ _=>⟨⟨A,n,c,s,M,V,?_⟩,by rw[b];exact cC _,λ _=>⟨l,by rw[b];rfl,F⟩⟩⟩,rfl⟩;rw[b,gd,ah];rfl
    obtain⟨v,us,e,G,f⟩:=EN J h az hc
    exact⟨_,us,v,rfl,e,by simpa using G,by simpa[Hy]using f,aB⟩
   ·exact h.elim
  ·exact h.elim
 ·exact h.elim
end
end bc
namespace bc
open Go Go.RowKit aw I
def cellsOf{El:Nat->Type}:aH El->List (aH El)
 | .a l=>l
 | .p (.agg ⟨vs⟩)=>vs.map .p
 |y=>[y]
def fE{α:Type}:List α->Nat->List α->List α
 |l,0,cs=>cs++l.drop cs.length
 |[],_+1,_=>[]
 |u::l,n+1,cs=>u::fE l n cs
theorem wF{α:Type}:∀(l:List α)(n:Nat)(cs:List α),n+cs.length<=l.length->fE l n cs=l.take n++cs++l.drop (n+cs.length)
 |l,0,cs,_=>by simp[fE]
 |[],n+1,cs,h=>by simp at h
 |u::l,n+1,cs,h=>by
  have:=wF l n cs (by simp at h;omega);simp only[fE,this,ke,jv];have e:n+1+cs.length=(n+cs.length)+1:=by omega
  rw[e,List.drop_succ_cons]
theorem W8{α:Type}{l:List α}{n:Nat}{cs:List α}(h:n+cs.length<=l.length):(fE l n cs).length=l.length:=by
 rw[wF l n cs h];simp;omega
theorem afz(off:Nat):∀(cs:List Value)(k:Nat)(l:Array Value),off+k+cs.length<=l.size->((cs.zipIdx k).foldl (λ(a:Array Value)(x:Value×Nat)=>a.setIfInBounds (off+x.2) x.1) l).toList=fE l.toList (off+k) cs
 |[],k,l,h=>by
  rw[wF _ _ _ (by simpa using h)];simp
 |c::r,k,l,h=>by
  simp only[List.zipIdx_cons,lK];have h':off+(k+1)+r.length<=(l.setIfInBounds (off+k) c).size:=by simp at h⊢;omega
  rw[afz off r (k+1) _ h',wF _ _ _ (by simpa using h'),wF _ _ _ (by simpa using h)];have b:off+k<l.toList.length:=by simp at h⊢;omega
  simp only[Array.toList_setIfInBounds,de];apply kL;intro i;simp only[mm,gw,kb,gT,List.getElem?_set,je,dJ,de];have d:min (off+(k+1)) l.toList.length=off+k+1:=by simp at h b⊢;omega
  have ak:min (off+k) l.toList.length=off+k:=by omega
  rw[d,ak];by_cases c1:i<off+k
  ·simp[c1,show i<off+k+1 by omega,show i<off+k+1+r.length by omega,show i<off+k+(r.length+1) by omega,show i<off+(k+1) by omega,show¬off+k=i by omega]
  ·by_cases c2:i=off+k
   ·subst c2
    simp only[show off+k<off+k+1 by omega,show off+k<off+k+1+r.length by omega,show off+k<off+k+(r.length+1) by omega,show off+k<off+(k+1) by omega,if_true,b,Nat.lt_irrefl,if_false,Nat.sub_self,dG]
   ·by_cases c3:i<off+k+1+r.length
    ·simp only[show¬i<off+k+1 by omega,c3,show i<off+k+(r.length+1) by omega,c1,if_false,if_true]
     have:i- (off+k)=(i- (off+k+1))+1:=by omega
     rw[this,List.getElem?_cons_succ]
    ·simp only[show¬i<off+k+1 by omega,c3,show¬i<off+k+(r.length+1) by omega,if_false,show¬(off+k=off+(k+1)+r.length+(i- (off+k+1+r.length))) by omega]
     congr 1
     omega
def vv{El:Nat->Type}(pl:Nat->Option (Nat×Nat)):List (aH El)->List (Nat×aH El)->Option (List (aH El))
 |cs,[]=>some cs
 |cs,(i,y)::r=>match pl i with
  |some (off,size)=>match bS (cellsOf y).length size&&jc (off+(cellsOf y).length) cs.length with
   |true=>vv pl (fE cs off (cellsOf y)) r
   |false=>none
  |none=>none
section
variable{T:bR}{F:Nat->Prop}{w:World}{ρ:List Value}{bl:List (aD T.El)}
theorem sl:∀(vs:List Value),a7 T F w ρ bl (vs.map .p) vs
 |[]=>by simp[a7]
 |v::r=>by simp only[eu,a7];exact⟨v,r,rfl,rfl,sl r⟩
theorem lp{z:aH T.El}{u:Value}(a:ar T F w ρ bl z u):a7 T F w ρ bl [z] [u]:=by
 simp only[a7];exact⟨u,[],rfl,a,rfl⟩
theorem Mn{v:Value}(h:kE v):v.cells.toList=[v]:=by cases v<;>simp[kE]at h;rfl
theorem Mm{v:Value}(h:wh v):v.cells.toList=[v]:=by cases v<;>simp[wh]at h;rfl
theorem oZ{y:aH T.El}{v:Value}(h:ar T F w ρ bl y v):a7 T F w ρ bl (cellsOf y) v.cells.toList:=by
 cases y with
 |a l=>simp only[ar]at h;obtain⟨vs,rfl,h⟩:=h;exact h
 |p u=>
  simp only[ar]at h
  subst h
  cases v with
  |agg cs=>obtain⟨vs⟩:=cs;exact sl vs
  |_=>exact lp (by simp[ar])
 |b i o=>have h':=h;simp only[ar]at h';obtain⟨g,_,rfl⟩:=h';exact lp h
 |x t d o=>have h':=h;simp only[ar]at h';obtain⟨a,q,cs,rfl,_⟩:=h';exact lp h
 |s t l=>have h':=h;simp only[ar]at h';obtain⟨A,c,e⟩:=l_ _ h';subst e;exact lp h
 |q t l=>have h':=h;simp only[ar]at h';obtain⟨_,A,rfl⟩:=h';exact lp h
 |r i g=>have h':=h;simp only[ar]at h';rw[Mn h'.1];exact lp h
 |v i g lo hi=>have h':=h;simp only[ar]at h';rw[Mn h'.1];exact lp h
 |e i g k t j d o=>have h':=h;simp only[ar]at h';rw[Mm h'.1];exact lp h
 |w i g o=>have h':=h;simp only[ar]at h';rw[Mm h'.1];exact lp h
 |m i=>have h':=h;simp only[ar]at h';obtain⟨g,_,rfl⟩:=h';exact lp h
 |n _ _ _=>have h':=h;simp only[ar]at h';obtain⟨g,rfl,_⟩:=h';exact lp h
 |f fn cs=>have h':=h;simp only[ar]at h';obtain⟨g,rfl,_⟩:=h';exact lp h
 |h fn us=>have h':=h;simp only[ar]at h';obtain⟨g,rfl,_⟩:=h';exact lp h
 |u l=>have h':=h;simp only[ar]at h';obtain⟨g,rfl,_⟩:=h';exact lp h
 |i t z=>have h':=h;simp only[ar]at h';obtain⟨g,rfl,_⟩:=h';exact lp h
 |pp i g sz dY=>have h':=h;simp only[ar]at h';obtain⟨_,_,rfl,_⟩:=h';exact lp h
 |zF i g sz q=>have h':=h;simp only[ar]at h';obtain⟨_,_,_,rfl,_⟩:=h';exact lp h
theorem a7.lay{l cs:List (aH T.El)}{vs us:List Value}{n:Nat}(h:a7 T F w ρ bl l vs)(h':a7 T F w ρ bl cs us)(a:n+cs.length<=l.length):a7 T F w ρ bl (fE l n cs) (fE vs n us):=by
 have b:=h.len;have ak:=h'.len;rw[wF _ _ _ a,wF _ _ _ (by omega),ak];exact a7.bF (a7.bF (a7.take n h) h') (a7.drop _ h)
def rb(T:bR)(F:Nat->Prop)(w:World)(ρ:List Value)(bl:List (aD T.El)):List (Nat×aH T.El)->List (Nat×Value)->Prop
 |[],vs=>vs=[]
 |(i,y)::r,vs=>∃v ws,vs=(i,v)::ws/\ar T F w ρ bl y v/\rb T F w ρ bl r ws
theorem TU{pl:Nat->Option (Nat×Nat)}:∀ {ps:List (Nat×aH T.El)}{vs:List (Nat×Value)}{cs out:List (aH T.El)}{us:List Value},a7 T F w ρ bl cs us->rb T F w ρ bl ps vs->vv pl cs ps=some out-> ∃os,Instr.fill pl ⟨us⟩ vs=some ⟨os⟩/\a7 T F w ρ bl out os
 |[],vs,cs,out,us,h,b,a=>by
  simp only[rb]at b;subst b;simp only[vv,aF]at a;subst a;exact⟨us,rfl,h⟩
 |(i,y)::r,vs,cs,out,us,h,b,a=>by
  simp only[rb]at b;obtain⟨v,ws,rfl,hy,c⟩:=b;simp only[vv]at a;split at a
  ·rename_i off size d
   split at a
   ·rename_i af
    simp only[bH]at af
    have g:=bd af.1
    have ak:=cv af.2
    have hc:=oZ hy
    have l1:=hc.len
    have j:=h.len
    have k:v.cells.size=(cellsOf y).length:=by rw[<-l1];simp
    obtain⟨os,e,J⟩:=TU (h.lay hc ak) c a
    refine⟨os,?_,J⟩
    simp only[Instr.fill,d]
    rw[if_neg (by simp only[hV,decide_eq_true_eq,bne_iff_ne,not_or];simp only[List.size_toArray];omega)]
    have f:v.cells.zipIdx.toList=v.cells.toList.zipIdx:=by simp
    rw[<-Array.foldl_toList,f]
    have:=afz off v.cells.toList 0 ⟨us⟩ (by simp;omega)
    simp only[ky]at this
    rw[<-e]
    congr 1
    rw[<-Array.toList_inj]
    exact this
   ·cases a
  ·cases a
end
def J5(P:Program):List Go.Field->Option (List (Nat×Nat))
 |[]=>some []
 |f::r=>match P.info? f.type,J5 P r with
  |some i,some l=>some ((f.offset,i.size)::l)
  |_,_=>none
theorem ajn{P:Program}{w:World}:∀ {cb:List Go.Field}{l:List (Nat×Nat)},J5 P cb=some l->(cb.mapM λ(f:Go.Field)=>(do pure (f.offset,<-Go.sizeOf f.type):Sem (Nat×Nat))).run P w= .ok l w
 |[],l,h=>by simp only[J5,aF]at h;subst h;rfl
 |f::r,l,h=>by
  simp only[J5]at h;split at h
  ·rename_i i l' a J
   simp only[aF]at h
   subst h
   rw[List.mapM_cons]
   simp only[Sem.run_bind,run_sizeOf a,ajn J,Result.andThen_ok,Sem.run_pure]
  ·cases h
def Ed(P:Program)(t:TypeId):Option (List Value):=match P.info? t with
 |some i=>match i.zero with
  |some z=>some z.cells.toList
  |none=>none
 |none=>none
theorem LC{P:Program}{t:TypeId}{l:List Value}(h:Ed P t=some l):∃z,(∀w,(zeroValue t).run P w= .ok z w)/\z.cells=⟨l⟩:=by
 unfold Ed at h;split at h
 ·rename_i i a
  split at h
  ·rename_i z J
   simp only[aF]at h
   subst h
   refine⟨z,λ w=>?_,by simp⟩
   simp only[zeroValue,typeInfo,Sem.run_bind]
   simp[go_sem,a,J]
  ·cases h
 ·cases h
def Ty(E:Env)(t:Nat)(ps:List (Nat×aH E.T.El)):D (aH E.T.El):=match E.P.underlying t,Ed E.P t with
 |some (.struct cb),some z=>match J5 E.P cb.toList with
  |some pl=>match vv (λ i=>nth pl i) (z.map .p) ps with
   |some cs=>.ok (.a cs)
   |none=>.no
  |none=>.no
 |_,_=>.no
section
variable{E:Env}{F:Nat->Prop}{w:World}{ρ:List Value}{bl:List (aD E.T.El)}
theorem avB{t:Nat}{ps:List (Nat×aH E.T.El)}{vs:List (Nat×Value)}{y:aH E.T.El}(d:rb E.T F w ρ bl ps vs)(h:(Ty E t ps).out y) :
 ∃v,ar E.T F w ρ bl y v/\ ∀(o:Oper)(a:Act)(xs:List (Nat×Operand))(w':World),o.op= .build t xs.toArray->xs.map (λ p=>(p.1,a.eval p.2))=vs->bg E.P o a w' v w':=by
 unfold Ty at h
 split at h
 ·rename_i cb z g J
  split at h
  ·rename_i pl ap
   split at h
   ·rename_i cs j
    have h:aH.a cs=y:=h
    subst h
    obtain⟨u,k,l⟩:=LC J
    obtain⟨os,c,m⟩:=TU (sl z) d j
    refine⟨.agg ⟨os⟩,by simp only[ar];exact⟨os,rfl,m⟩,λ o a xs w' n q=>?_⟩
    have b:(λ i=>nth pl i)=(λ i=>(⟨pl⟩:Array (Nat×Nat))[i]?):=by funext i;rw[c7];simp
    have r:(cb.mapM λ(f:Go.Field)=>(do pure (f.offset,<-Go.sizeOf f.type):Sem (Nat×Nat))).run E.P w'= .ok ⟨pl⟩ w':=by
     have s:=ajn (w:=w') ap;have e:cb.mapM (λ(f:Go.Field)=>(do pure (f.offset,<-Go.sizeOf f.type):Sem (Nat×Nat)))=List.toArray <$> cb.toList.mapM (λ(f:Go.Field)=>(do pure (f.offset,<-Go.sizeOf f.type):Sem (Nat×Nat))):=by
      rw[<-List.mapM_toArray]
     rw[e,map_eq_pure_bind,Sem.run_bind,s];rfl
    rw[b]at c
    simp only[bg,execOp,n,Instr.build,Sem.run_bind,k,Result.andThen_ok,run_underlying g,r,gX,q,l,c]
    rfl
   ·exact h.elim
  ·exact h.elim
 ·exact h.elim
end
end bc
namespace aw
open Go Go.RowKit I
section
variable{P:Program}{ops:Array Oper}{Q:Exit->Act->World->Prop}{a:Act}{w:World}{rest:List Oper}{o:Oper}{n:cB}{d:Nat}{l:List (Nat×Value)}
 {W:World}{M0 X:List Nat}{E:List ba}{D:List bD}
def ba.nil:ba:=⟨[],λ _=>True,λ _ _ _ _=>trivial⟩
theorem bw.MI{x:ba}{w':World}(b:bw W M0 X w E D)(i:Nat)(hi:E[i]? =some x)(c:bp [] w w'):x.ok w':=
 x.law w w' (λ k e=>c.block k (b.lt k (hF.2 ⟨x,bE hi,e⟩)).1 (by simp)) (b.e i hi)
theorem aLx{t:TypeId}{x:Operand}{lo hi:Option Operand}{p r:List UInt8}{i j:Int}(q:P.underlying t=some .string)(u:o.op= .slice t x lo hi none)(v:a.eval x=ct p)
 (y:(lo=none/\i=0)\/ ∃z,lo=some z/\a.eval z= .int .i64 i)(A:(hi=none/\j=p.length)\/ ∃z,hi=some z/\a.eval z= .int .i64 j)(B:cut p i j=some r):bg P o a w (ct r) w:=by
 obtain⟨⟨K,J,ap⟩,rfl⟩:=S7 B
 have b:(⟨p.toArray⟩:ByteArray).size=p.length:=by simp[ByteArray.size]
 have f:∀code,(Instr.sliceBound (.int .i64 j) (⟨p.toArray⟩:ByteArray).size code).run P w= .ok j.toNat w:=λ code=>zL rfl (by rw[b];omega)
 rw[b]at f
 have C:∀code,(Instr.sliceBound (.int .i64 i) j.toNat code).run P w= .ok i.toNat w:=λ code=>zL rfl (by omega)
 have s:∀code,(Instr.sliceBound (.int .i64 i) (⟨p.toArray⟩:ByteArray).size code).run P w= .ok i.toNat w:=λ code=>zL rfl (by rw[b];omega)
 rw[b]at s
 have F:(⟨p.toArray⟩:ByteArray).extract i.toNat j.toNat=⟨((p.take j.toNat).drop i.toNat).toArray⟩:=by
  apply ByteArray.ext;simp[ByteArray.data_extract,List.drop_take]
 have key:∀c e:Option Value,((c=none/\i=0)\/c=some (.int .i64 i))->((e=none/\j=p.length)\/e=some (.int .i64 j)) ->
  (Instr.slice t (.string ⟨p.toArray⟩) c e none).run P w= .ok (ct ((p.take j.toNat).drop i.toNat)) w:=by
  intro c e G H
  have af:∃m,(Instr.sliceBounds false (⟨p.toArray⟩:ByteArray).size (⟨p.toArray⟩:ByteArray).size c e none).run P w= .ok (i.toNat,j.toNat,m) w:=by
   rcases G with⟨rfl,rfl⟩|rfl<;>rcases H with⟨rfl,aA⟩|rfl
   ·exact⟨_,by simp[Instr.sliceBounds,aA,b];rfl⟩
   ·exact⟨_,by simp[Instr.sliceBounds,b,f];rfl⟩
   ·exact⟨_,by simp[Instr.sliceBounds,s,aA,b];rfl⟩
   ·exact⟨_,by simp[Instr.sliceBounds,b,f,C];rfl⟩
  obtain⟨m,af⟩:=af
  simp only[Instr.slice,Sem.run_bind,run_underlying q,Result.andThen_ok,Option.isSome_none,hG,if_false,af,Sem.run_pure,F,ct]
 have I:=key (lo.map a.eval) (hi.map a.eval) (y.imp (λ h=>⟨by rw[h.1];rfl,h.2⟩) (λ⟨z,g,k⟩=>by rw[g,fm,k])) (A.imp (λ h=>⟨by rw[h.1];rfl,h.2⟩) (λ⟨z,g,k⟩=>by rw[g,fm,k]))
 simp only[bg,execOp,u,v,ct,Instr.sliceAt,Sem.run_bind,run_underlying q,Result.andThen_ok,iW,I]
 rfl
theorem aLC{t:TypeId}{x:Operand}{v:Value}(hc:P.concrete t=true)(b:o.op= .makeInterface t x)(c:a.eval x=v):bg P o a w (.iface t v) w:=by
 simp only[bg,execOp,b,c];simp[go_sem,run_makeInterface _ _ _ hc]
end
end aw
namespace bc
open Go Go.RowKit aw I
abbrev kT(P:Program)(o:Oper)(a:Act)(v:Value):Prop:=∀w,bg P o a w v w
section
variable{E:Env}{W w:World}{M0:List Nat}{X:Nat->Prop}{bl:List (aD E.T.El)}{ρ:List Value}
def X7(E:Env)(x y:Operand)(b:Bool):aH E.T.El->aH E.T.El->D (aH E.T.El)
 | .p u,.p v=>match Pf x y b u v with
   |some r=>.ok (.p r)
   |none=>.pZ b (.ok (.p u)) (.ok (.p v))
 |u,v=>.pZ b (.ok u) (.ok v)
theorem aDF{F:Nat->Prop}{a:Act}{x y:Operand}{b:Bool}{u v z:aH E.T.El}(h:(X7 E x y b u v).out z)(c:b=true->ar E.T F w ρ bl u (a.eval x))(hy:b=false->ar E.T F w ρ bl v (a.eval y)) :
 ∃r,(if b then a.eval x else a.eval y)=r/\ar E.T F w ρ bl z r:=by
 have key:(D.pZ b (.ok u) (.ok v)).out z-> ∃r,(if b then a.eval x else a.eval y)=r/\ar E.T F w ρ bl z r:=λ h=>by
  rcases h with⟨af,h⟩|⟨af,h⟩
  ·have h:u=z:=h
   subst h;subst af
   exact⟨_,rfl,by simpa using c rfl⟩
  ·have h:v=z:=h
   subst h;subst af
   exact⟨_,rfl,by simpa using hy rfl⟩
 unfold X7 at h
 split at h
 ·rename_i u v
  split at h
  ·rename_i r d
   have h:aH.p r=z:=h
   subst h
   refine⟨r,ajj (a:=a) d (λ af=>?_) (λ af=>?_),by simp[ar]⟩
   ·simpa[ar]using c af
   ·simpa[ar]using hy af
  ·exact key h
 ·exact key h
theorem aLP{P:Program}{o:Oper}{a:Act}{c x y:Operand}{b:Bool}{r:Value}(d:o.op= .pick c x y)(hc:a.eval c= .bool b)(h:(if b then a.eval x else a.eval y)=r):bg P o a w r w:=by
 cases b with
 |true=>exact RF d hc (by simpa using h)
 |false=>exact RE d hc (by simpa using h)
def azU(P:Program)(t:TypeId):Bool:=match P.underlying t with
 |some (.struct _)=>true
 |_=>false
def lf{El:Nat->Type}:aH El->Bool
 | .a _=>true
 | .p (.agg _)=>true
 |_=>false
def Mz(E:Env)(t:Nat)(b:Bool)(u v:aH E.T.El):D (aH E.T.El):=match lf u&&lf v with
 |true=>match(E.T.e t).eq,(E.T.e t).hn (cellsOf u),(E.T.e t).hn (cellsOf v)with
  |some f,some d,some e=>.ok (.p (.bool (cond b (f d e) (!f d e))))
  |_,_,_=>.no
 |false=>.no
def ahf:Value->Bool
 | .pointer none=>true
 |_=>false
def N2{El:Nat->Type}:aH El->Bool
 | .b _ _=>true
 | .x _ _ _=>true
 | .e _ _ _ _ _ _ _=>true
 | .w _ _ _=>true
 |_=>false
def Yb(P:Program)(t:TypeId):Bool:=match P.underlying t with
 |some (.pointer _)=>true
 |_=>false
def C'(op:BinOp)(b:Bool):Option Bool:=match op with
 | .eql=>some b
 | .neq=>some (!b)
 |_=>none
def adW(op:BinOp)(m n:Int):Option Value:=match op with
 | .quo=>some (.int .i64 (ax (m.tdiv n)))
 | .rem=>some (.int .i64 (m.tmod n))
 |_=>none
def Tx(E:Env)(t:Nat)(op:BinOp)(f':Bool)(u v:aH E.T.El):D (aH E.T.El):=match azU E.P t,op with
 |true,.eql=>Mz E t true u v
 |true,.neq=>Mz E t false u v
 |_,_=>match u,v with
  | .p x,.p y=>match bin (kG (E.P.underlying t)) f' op x y with
    |some r=>.ok (.p r)
    |none=>match x,y with
     | .int .i64 m,.int .i64 n=>match adW op m n with
       |some r=>.op (C9 (!decide (n=0))) λ _=>.ok (.p r)
       |none=>.no
     | .int .u64 m,.int _ (.ofNat n)=>match op,jc n 64 with
       | .shr,true=>.ok (.p (.int .u64 (w7 m n)))
       |_,_=>.no
     |_,_=>.no
  |u,.p y=>match Yb E.P t&&N2 u&&ahf y,C' op false with
   |true,some b=>.ok (.p (.bool b))
   |_,_=>.no
  |_,_=>.no
theorem aLQ{P:Program}{o:Oper}{a:Act}{t t':TypeId}{x y:Operand}{p:Addr}{op:BinOp}{b:Bool}(c:Yb P t=true)(af:C' op false=some b)(g:o.op= .binOp op t x y t')(i:a.eval x= .pointer (some p))(hy:a.eval y= .pointer none):bg P o a w (.bool b) w:=by
 have f:∃e,P.underlying t=some (.pointer e):=by
  unfold Yb at c;split at c
  ·rename_i e h;exact⟨e,h⟩
  ·cases c
 obtain⟨e,f⟩:=f;have h:∀d:Nat,(Op.equalIn (d+1) t (.pointer (some p)) (.pointer none)).run P w= .ok false w:=λ d=>by
  simp[Op.equalIn,run_underlying f]
 cases op<;>simp only[C',aF,reduceCtorEq]at af<;>subst af
 ·have J:(binOp .eql t (.pointer (some p)) (.pointer none)).run P w= .ok (.bool false) w:=by
   simp only[binOp];simp[Op.equal,Op.maxDepth,h 9999]
  simp only[bg,execOp,g,i,hy];simp[go_sem,J]
 ·have J:(binOp .neq t (.pointer (some p)) (.pointer none)).run P w= .ok (.bool true) w:=by
   simp only[binOp];simp[Op.equal,Op.maxDepth,h 9999]
  simp only[bg,execOp,g,i,hy];simp[go_sem,J]
theorem ahg{F:Nat->Prop}{y:aH E.T.El}{v:Value}(h:N2 y=true)(a:ar E.T F w ρ bl y v):∃p,v= .pointer (some p):=by
 cases y<;>simp only[N2,reduceCtorEq]at h
 ·simp only[ar]at a;obtain⟨g,_,rfl⟩:=a;exact⟨_,rfl⟩
 ·simp only[ar]at a;obtain⟨_,_,_,rfl,_⟩:=a;exact⟨_,rfl⟩
 ·simp only[ar]at a;cases v<;>simp[wh]at a;rename_i p;cases p<;>simp at a;exact⟨_,rfl⟩
 ·simp only[ar]at a;cases v<;>simp[wh]at a;rename_i p;cases p<;>simp at a;exact⟨_,rfl⟩
theorem Jq{F:Nat->Prop}{y:aH E.T.El}{v:Value}(h:lf y=true)(a:ar E.T F w ρ bl y v):v= .agg ⟨v.cells.toList⟩:=by
 cases y<;>simp only[lf,reduceCtorEq]at h
 ·rename_i u
  simp only[ar]at a
  subst a
  cases v<;>simp only[lf,reduceCtorEq]at h
  simp[Value.cells]
 ·simp only[ar]at a
  obtain⟨vs,rfl,_⟩:=a
  simp[Value.cells]
theorem avA(a6:c8 E){F:Nat->Prop}{o:Oper}{a:Act}{t:Nat}{op:BinOp}{f':Bool}{x y:Operand}{t':TypeId}{u v z:aH E.T.El}(h:(Tx E t op f' u v).out z)(j:o.op= .binOp op t x y t')(C:f'=true-> ∀k n,a.eval y= .int k n->n≠0)
 (i:ar E.T F w ρ bl u (a.eval x))(hy:ar E.T F w ρ bl v (a.eval y)):∃r,kT E.P o a r/\ar E.T F w ρ bl z r:=by
 have A:∀ {b:Bool},op=cond b .eql .neq->(Mz E t b u v).out z-> ∃r,kT E.P o a r/\ar E.T F w ρ bl z r:=λ{b} af h=>by
  unfold Mz at h;split at h
  ·rename_i l
   simp only[bH]at l
   split at h
   ·rename_i f d e c J ap
    have h:aH.p (.bool (cond b (f d e) (!f d e)))=z:=h
    subst h
    have D:=a6.tb.hn _ _ _ J _ _ _ _ _ (oZ i)
    have s:=a6.tb.hn _ _ _ ap _ _ _ _ _ (oZ hy)
    exact⟨.bool (cond b (f d e) (!f d e)),λ w'=>a6.eq t f c _ _ _ _ d e D s o a x y t' b (by rw[j,af]) (Jq l.1 i) (Jq l.2 hy) w',by simp only[ar]⟩
   ·exact h.elim
  ·exact h.elim
 unfold Tx at h
 split at h
 ·exact A (b:=true) rfl h
 ·exact A (b:=false) rfl h
 ·split at h
  ·rename_i p q
   simp only[ar]at i hy
   split at h
   ·rename_i r g
    have h:aH.p r=z:=h
    subst h
    exact⟨r,λ w'=>adb (λ k G=>wj G) C g j i hy,by simp only[ar]⟩
   ·split at h
    ·rename_i m n
     split at h
     ·rename_i r g
      obtain⟨b,c,J⟩:=h
      have J:aH.p r=z:=J
      subst J
      have B:=XL c
      refine⟨r,λ w'=>?_,by simp only[ar]⟩
      unfold adW at g
      split at g
      ·simp only[aF]at g;subst g;exact aoa j i hy B
      ·simp only[aF]at g;subst g;exact aob j i hy B
      ·cases g
     ·exact h.elim
    ·rename_i m k n _
     split at h
     ·rename_i af _
      have h:aH.p (.int .u64 (w7 m n))=z:=h
      subst h
      exact⟨_,λ w'=>aLS (by assumption) j i hy,by simp only[ar]⟩
     ·exact h.elim
    ·exact h.elim
  ·rename_i q _
   split at h
   ·rename_i b c J
    have h:aH.p (.bool b)=z:=h
    subst h
    simp only[bH]at c
    simp only[ar]at hy
    obtain⟨p,H⟩:=ahg c.1.2 i
    have I:q= .pointer none:=by
     cases q<;>simp only[ahf,reduceCtorEq,and_false]at c;rename_i K;cases K<;>simp at c⊢
    exact⟨_,λ w'=>aLQ c.1.1 J j H (by rw[hy,I]),by simp only[ar]⟩
   ·exact h.elim
  ·exact h.elim
end
end bc
namespace bc
open Go Go.RowKit aw I
def oz(P:Program)(t:TypeId):Option (Nat×Nat):=match P.underlying t with
 |some (.slice e)=>match P.info? e with
  |some i=>some (e,i.size)
  |none=>none
 |_=>none
theorem sq{P:Program}{t e n:Nat}(h:oz P t=some (e,n)):P.underlying t=some (.slice e)/\ ∀w,(Go.sizeOf e).run P w= .ok n w:=by
 unfold oz at h;split at h
 ·rename_i e' a
  split at h
  ·rename_i i J
   simp only[aF,ca]at h
   obtain⟨rfl,rfl⟩:=h
   exact⟨a,run_sizeOf J⟩
  ·cases h
 ·cases h
def TD(E:Env)(bl:List (aD E.T.El))(t:Nat):aH E.T.El->aH E.T.El->D (aH E.T.El)
 | .s t' l,.p (.int .i64 j)=>match oz E.P t with
   |some (_,n)=>match bS n (E.T.ty t').size with
    |true=>.op (idx l j) λ d=>.ok (.x t' d 0)
    |false=>.no
   |none=>.no
 | .q t' l,.p (.int .i64 j)=>match oz E.P t with
   |some (_,n)=>match bS n (E.T.ty t').size with
    |true=>.op (idx l j) λ d=>.ok (.x t' d 0)
    |false=>.no
   |none=>.no
 | .r i g,.p (.int .i64 j)=>match oz E.P t,nth bl i with
   |some (_,n),some (.r t' a k l)=>match bS g a&&bS n (E.T.ty t').size with
    |true=>.op (idx l j) λ d=>.ok (.e i g k t' j d 0)
    |false=>.no
   |some (_,n),some (.k _ sz a cs)=>match bS g a&&bS n sz&&decide (0<=j)&&jc ((j.toNat+1)*sz) cs.length&&ez 0 sz with
    |true=>.ok (.w i g (j.toNat*sz))
    |false=>.no
   |_,_=>.no
 | .v i g lo hi,.p (.int .i64 j)=>match oz E.P t,nth bl i with
   |some (_,n),some (.r t' a k l)=>match bS g a&&bS n (E.T.ty t').size with
    |true=>.op (idx ((l.take hi.toNat).drop lo.toNat) j) λ d=>.ok (.e i g k t' (lo+j) d 0)
    |false=>.no
   |_,_=>.no
 | .pp i g sz dY,.p (.int .i64 j)=>match oz E.P t with
   |some (_,n)=>match bS n 1 with
    |true=>.op (idx dY j) λ q=>.ok (.zF i g sz q)
    |false=>.no
   |none=>.no
 |_,_=>.no
theorem azA{α:Type}{l:List α}{lo hi j:Int}{d:α}(e:0<=lo)(f:hi<=l.length)(h:idx ((l.take hi.toNat).drop lo.toNat) j=some d):idx l (lo+j)=some d/\0<=j/\lo+j<hi:=by
 obtain⟨a,b,c⟩:=lc h;simp only[k8,gw]at b;rw[je,gT]at c;split at c
 ·refine⟨?_,a,by omega⟩
  unfold idx
  rw[if_pos (by omega),show(lo+j).toNat=lo.toNat+j.toNat by omega]
  exact c
 ·cases c
section
variable{E:Env}{W w:World}{M0:List Nat}{X:Nat->Prop}{bl:List (aD E.T.El)}{ρ:List Value}
theorem Gt{t sz n c:Nat}{A:Option Addr}{xs:List Value}(h:rowIs w t sz (.slice A n c) n xs)(a:0<n):∃g,A=some ⟨g,0,none⟩:=h.cap.2.2.2 (by have:=h.cap.1;omega)
theorem PN{t sz n c:Nat}{A:Option Addr}{xs:List Value}(h:rowIs w t sz (.slice A n c) n xs):n<=c:=h.cap.1
theorem afc{F:Nat->Prop}{t':Nat}{l:List (E.T.El t')}{o:Oper}{a:Act}{t e n:Nat}{x y:Operand}{j:Int}{d:E.T.El t'}{A:Option Addr}{c:Nat}(aj:oz E.P t=some (e,n))(h:n=(E.T.ty t').size)(b:idx l j=some d)(i:o.op= .indexAddr t x y)
 (k:a.eval x= .slice A l.length c)(f:(b3 (E.T.ty t')).rd F w [.slice A l.length c] l)(hy:a.eval y= .int .i64 j):∃r,kT E.P o a r/\ar E.T F w ρ bl (.x t' d 0) r:=by
 have m:=b
 obtain⟨p,q⟩:=sq aj
 obtain⟨s,aA,cs,u,v⟩:=Dm _ f b
 refine⟨_,λ w'=>pO p q i k hy s aA,?_⟩
 simp only[ar]
 obtain⟨cj,C,g,ak,aS,bN,dq⟩:=(f:(b3 _).rd _ w _ l)
 have z:l≠[]:=by intro e;subst e;have:=(lc m).2.1;simp at this
 have B:=(dq z).2.1
 simp only[hA,Value.slice.injEq,and_true,true_and]at g
 obtain⟨rfl,rfl⟩:=g
 exact⟨dv A,fF A+j.toNat*(E.T.ty t').size,cs,by rw[h];simp,B,u,v⟩
theorem avH{o:Oper}{a:Act}{t:Nat}{x y:Operand}{u v z:aH E.T.El}(D:Mem E.T W M0 X bl ρ w)(h:(TD E bl t u v).out z)(L:o.op= .indexAddr t x y)
 (b:ar E.T (bi X bl ρ w) w ρ bl u (a.eval x))(hy:ar E.T (bi X bl ρ w) w ρ bl v (a.eval y)):∃r,kT E.P o a r/\ar E.T (bi X bl ρ w) w ρ bl z r:=by
 unfold TD at h
 split at h
 ·rename_i t' l j
  split at h
  ·rename_i e n aj
   split at h
   ·rename_i af
    obtain⟨d,f,J⟩:=h
    have J:aH.x t' d 0=z:=J
    subst J
    simp only[ar]at b hy
    obtain⟨A,c,F⟩:=l_ _ b
    rw[F]at b
    exact afc aj (bd af) f L F b hy
   ·exact h.elim
  ·exact h.elim
 ·rename_i t' l j
  split at h
  ·rename_i e n aj
   split at h
   ·rename_i af
    obtain⟨d,f,J⟩:=h
    have J:aH.x t' d 0=z:=J
    subst J
    simp only[ar]at b hy
    obtain⟨A,c,F⟩:=l_ _ b.1
    have b:=b.1
    rw[F]at b
    exact afc aj (bd af) f L F b hy
   ·exact h.elim
  ·exact h.elim
 ·rename_i i g j
  split at h
  ·rename_i e n t' R k l aj hi
   rw[c7]at hi
   split at h
   ·rename_i af
    simp only[bH]at af
    obtain⟨d,f,J⟩:=h
    have J:aH.e i g k t' j d 0=z:=J
    subst J
    simp only[ar]at b hy
    obtain⟨_,aL,p,s,C⟩:=b
    rw[hi]at s C
    have G:=C (bd af.1)
    obtain⟨A,c,xs,M,ak,aS⟩:=D.ok i _ _ hi p
    subst M
    obtain⟨N,S,U⟩:=lc f
    obtain⟨gb,rfl⟩:=Gt ak (by omega)
    obtain⟨H,I⟩:=sq aj
    have K:=bd af.2
    refine⟨_,λ w'=>pO H I L G hy rfl ⟨N,by omega⟩,?_⟩
    simp only[ar]
    refine⟨trivial,_,p,by rw[hi];exact s,λ _=>⟨⟨_,_,_,rfl,N,by omega,by simp[dv,fF,hi,jj,K]⟩,by rw[hi];exact cC _,λ _=>⟨l,by rw[hi];rfl,f⟩⟩⟩
   ·exact h.elim
  ·rename_i e n t' sz R cs aj hi
   rw[c7]at hi
   split at h
   ·rename_i af
    simp only[bH,decide_eq_true_eq]at af
    obtain⟨⟨⟨⟨Z,dS⟩,fB⟩,O⟩,V⟩:=af
    have h:aH.w i g (j.toNat*sz)=z:=h
    subst h
    simp only[ar]at b hy
    obtain⟨_,aL,p,s,C⟩:=b
    rw[hi]at s C
    have G:=C (bd Z)
    obtain⟨A,m,c,xs,M,ak,aS⟩:=D.ok i _ _ hi p
    subst M
    have O:=cv O
    have V:=cv V
    have Y:=aS.len
    have aMC:=ak.len
    have aMA:j.toNat<m:=by
     rcases gg j.toNat m with q |q
     ·exact q
     ·have:=j1 sz q
      rw[jy]at O
      omega
    obtain⟨gb,rfl⟩:=Gt ak (by omega)
    obtain⟨H,I⟩:=sq aj
    have K:=bd dS
    refine⟨_,λ w'=>pO H I L G hy rfl ⟨fB,by omega⟩,?_⟩
    simp only[ar]
    exact⟨trivial,_,p,by rw[hi];exact s,λ _=>⟨_,_,_,rfl,by omega,by simp[dv,fF,K]⟩⟩
   ·exact h.elim
  ·exact h.elim
 ·rename_i i g lo cU j
  split at h
  ·rename_i e n t' R k l aj hi
   rw[c7]at hi
   split at h
   ·rename_i af
    simp only[bH]at af
    obtain⟨d,f,J⟩:=h
    have J:aH.e i g k t' (lo+j) d 0=z:=J
    subst J
    simp only[ar]at b hy
    obtain⟨_,aL,p,s,C⟩:=b
    rw[hi]at s C
    obtain⟨cj,eW,bG,B,P,l0,l1,cI,G,_,bO⟩:=C (bd af.1)
    obtain⟨A,c,xs,M,ak,aS⟩:=D.ok i _ _ hi p
    rw[M]at P ak
    simp only[Value.slice.injEq]at P
    obtain⟨rfl,rfl,rfl⟩:=P
    obtain⟨k3,Q,kF⟩:=azA l0 cI f
    obtain⟨gb,rfl⟩:=Gt ak (by omega)
    have tw:=PN ak
    obtain⟨H,I⟩:=sq aj
    have K:=bd af.2
    rw[bO (by omega)]at G
    simp only[fm,kY]at G
    refine⟨_,λ w'=>pO H I L G hy rfl ⟨Q,by omega⟩,?_⟩
    simp only[ar]
    refine⟨trivial,_,p,by rw[hi];exact s,λ _=>⟨⟨_,_,_,M,by omega,by omega,?_⟩,by rw[hi];exact cC _,λ _=>⟨l,by rw[hi];rfl,k3⟩⟩⟩
    rw[hi]
    have:(lo+j).toNat=lo.toNat+j.toNat:=by omega
    simp[dv,fF,jj,K,this,jy]
   ·exact h.elim
  ·exact h.elim
 ·rename_i i g sz dY j
  split at h
  ·rename_i e n aj
   split at h
   ·rename_i af
    obtain⟨q,f,J⟩:=h
    have J:aH.zF i g sz q=z:=J
    subst J
    simp only[ar]at b hy
    obtain⟨A,c,F,_,_,a'⟩:=b
    obtain⟨N,S,U⟩:=lc f
    have b2:dY≠[]:=by intro e;subst e;simp at S
    obtain⟨cN,aB,xs,bk,bh⟩:=a' b2
    obtain⟨u,jp,mb⟩:=bk.at_ U
    obtain⟨H,I⟩:=sq aj
    have K:=bd af
    refine⟨_,λ w'=>pO H I L F hy cN ⟨N,by omega⟩,?_⟩
    simp only[ar]
    refine⟨dv A,fF A+j.toNat,u,by rw[K];simp,aB,mb,λ m y D=>?_⟩
    cases m with
    |zero=>
     simp only[dG,aF]at D
     subst D
     simpa using bh _ _ jp
    |succ m=>simp at D
   ·exact h.elim
  ·exact h.elim
 ·exact h.elim
def TG(E:Env)(bl:List (aD E.T.El))(t:Nat):aH E.T.El->D (aH E.T.El)
 | .p (.string ⟨⟨p⟩⟩)=>match kG (E.P.underlying t)with
   |some .s=>.ok (.p (.int .i64 (p.length:Int)))
   |_=>.no
 | .p (.slice _ n _)=>match kG (E.P.underlying t)with
   |some .cr=>.ok (.p (.int .i64 (n:Int)))
   |_=>.no
 | .s _ l=>match kG (E.P.underlying t)with
   |some .cr=>.ok (.p (.int .i64 (l.length:Int)))
   |_=>.no
 | .q _ l=>match kG (E.P.underlying t)with
   |some .cr=>.ok (.p (.int .i64 (l.length:Int)))
   |_=>.no
 | .pp _ _ _ l=>match kG (E.P.underlying t)with
   |some .cr=>.ok (.p (.int .i64 (l.length:Int)))
   |_=>.no
 | .r i g=>match kG (E.P.underlying t),nth bl i with
   |some .cr,some (.r _ a _ l)=>match bS g a with
    |true=>.ok (.p (.int .i64 (l.length:Int)))
    |false=>.no
   |some .cr,some (.k _ sz a cs)=>match bS g a&&ez 0 sz with
    |true=>.ok (.p (.int .i64 ((cs.length / sz:Nat):Int)))
    |false=>.no
   |_,_=>.no
 | .v i g lo hi=>match kG (E.P.underlying t)with
   |some .cr=>match bS g (tr bl i)with
    |true=>.ok (.p (.int .i64 (hi-lo)))
    |false=>.no
   |_=>.no
 |_=>.no
theorem avL{o:Oper}{a:Act}{t:Nat}{x:Operand}{u z:aH E.T.El}(C:Mem E.T W M0 X bl ρ w)(h:(TG E bl t u).out z)(F:o.op= .call { callee:=.builtin .len,args:=#[x],argTypes:=#[t] })
 (d:ar E.T (bi X bl ρ w) w ρ bl u (a.eval x)):∃r,kT E.P o a r/\ar E.T (bi X bl ρ w) w ρ bl z r:=by
 have fin:∀ {A:Option Addr}{n c:Nat},kG (E.P.underlying t)=some .cr->a.eval x= .slice A n c->(D.ok (aH.p (.int .i64 (n:Int)))).out z-> ∃r,kT E.P o a r/\ar E.T (bi X bl ρ w) w ρ bl z r:=λ{A n c} b f h=>by
  have h:aH.p (.int .i64 (n:Int))=z:=h;subst h;obtain⟨e,H⟩:=(wj b:nD.ok E.P t .cr)
  exact⟨_,λ w'=>an7 H F f,by simp only[ar]⟩
 unfold TG at h
 split at h
 ·rename_i p
  split at h
  ·rename_i b
   have h:aH.p (.int .i64 (p.length:Int))=z:=h
   subst h
   simp only[ar]at d
   exact⟨_,λ w'=>an8 (wj b) F d,by simp only[ar]⟩
  ·exact h.elim
 ·split at h
  ·rename_i b;simp only[ar]at d;exact fin b d h
  ·exact h.elim
 ·split at h
  ·rename_i b;simp only[ar]at d;obtain⟨A,c,f⟩:=l_ _ d;exact fin b f h
  ·exact h.elim
 ·split at h
  ·rename_i b;simp only[ar]at d;obtain⟨A,f⟩:=d.2;exact fin b f h
  ·exact h.elim
 ·split at h
  ·rename_i b;simp only[ar]at d;obtain⟨A,c,f,_⟩:=d;exact fin b f h
  ·exact h.elim
 ·rename_i i g
  split at h
  ·rename_i t' I k l b hi
   rw[c7]at hi
   split at h
   ·rename_i af
    simp only[ar]at d
    obtain⟨_,aL,s,G,j⟩:=d
    rw[hi]at j
    obtain⟨A,c,xs,v,_⟩:=C.ok i _ _ hi s
    exact fin b ((j (bd af)).trans v) h
   ·exact h.elim
  ·rename_i t' sz I cs b hi
   rw[c7]at hi
   split at h
   ·rename_i af
    simp only[bH]at af
    simp only[ar]at d
    obtain⟨_,aL,s,G,j⟩:=d
    rw[hi]at j
    obtain⟨A,m,c,xs,v,ak,aS⟩:=C.ok i _ _ hi s
    have q:=aS.len
    have J:=ak.len
    have K:=cv af.2
    have L:cs.length / sz=m:=by rw[<-q,J];exact Nat.mul_div_cancel _ K
    rw[L]at h
    exact fin b ((j (bd af.1)).trans v) h
   ·exact h.elim
  ·exact h.elim
 ·rename_i i g lo y
  split at h
  ·rename_i b
   split at h
   ·rename_i af
    have af:=bd af
    rw[B6]at af
    simp only[ar]at d
    obtain⟨_,aL,s,G,j⟩:=d
    obtain⟨A,m,c,B,M,l0,l1,N,f,_⟩:=j af
    refine fin b f ?_
    have h:aH.p (.int .i64 (y-lo))=z:=h
    rw[<-h,show((y.toNat-lo.toNat:Nat):Int)=y-lo by omega]
    exact rfl
   ·exact h.elim
  ·exact h.elim
 ·exact h.elim
end
end bc
namespace bc
open Go Go.RowKit aw I
theorem atO{α:Type}{T:c9 α}{F:Nat->Prop}{w:World}{A:Option Addr}{c:Nat}{li r:List α}{i j:Int}(h:(b3 T).rd F w [.slice A li.length c] li)(g:cut li i j=some r) :
 (b3 T).rd F w [.slice (if c=i.toNat then A else A.map (·.add (i.toNat*T.size))) (j.toNat-i.toNat) (c-i.toNat)] r/\j.toNat-i.toNat=r.length/\li.length<=c:=by
 obtain⟨⟨x,y,J⟩,rfl⟩:=S7 g
 obtain⟨z,c1,f,ak,aS,bN,dq⟩:=h
 simp only[hA,Value.slice.injEq,and_true,true_and]at f
 obtain⟨rfl,rfl⟩:=f
 have a:((li.take j.toNat).drop i.toNat).length=j.toNat-i.toNat:=by rw[k8,gw];omega
 refine⟨?_,a.symm,ak⟩
 refine⟨_,c-i.toNat,by rw[a],by rw[a];omega,by omega,λ d=>?_,λ k=>?_⟩
 ·split at d
  ·have:=bN d;omega
  ·cases A with
   |none=>have:=bN rfl;omega
   |some ec=>cases d
 ·have l:0<((li.take j.toNat).drop i.toNat).length:=lD.2 k
  have m:li≠[]:=by intro e;subst e;simp at l
  obtain⟨n,o,xs,p,s⟩:=dq m
  have t:c≠i.toNat:=by omega
  rw[if_neg t,n]
  refine⟨?_,?_⟩
  ·simp only[fm,kY]
   rfl
  simp only[fm,kY]
  refine⟨o,_,uu i.toNat j.toNat p,λ q u v=>?_⟩
  have b:(xs.take (j.toNat*T.size))[i.toNat*T.size+q]? =some u:=by rwa [je]at v
  rw[gT]at b
  split at b
  ·have:=s (i.toNat*T.size+q) u b
   simpa[dv,fF,kg]using this
  ·cases b
def rj{El:Nat->Type}(z:Int):Option (aH El)->Option Int
 |none=>some z
 |some (.p (.int .i64 n))=>some n
 |_=>none
def qO(n:Nat)(lo hi:Int):Option Unit:=if 0<=lo/\lo<=hi/\hi<=(n:Int)then some ()else none
theorem alw{n:Nat}{lo hi:Int}{u:Unit}(h:qO n lo hi=some u):0<=lo/\lo<=hi/\hi<=(n:Int):=by
 unfold qO at h;split at h
 ·assumption
 ·cases h
def Ho{El:Nat->Type}:Option (aH El)->Bool
 |none=>true
 |some (.p (.int .i64 (.ofNat 0)))=>true
 |_=>false
def TB(E:Env)(bl:List (aD E.T.El))(t:Nat)(u:aH E.T.El)(lo hi:Option (aH E.T.El)):D (aH E.T.El):=match u with
 | .s t' l=>match oz E.P t,rj 0 lo,rj (l.length:Int) hi with
   |some (_,n),some i,some j=>match bS n (E.T.ty t').size with
    |true=>.op (cut l i j) λ r=>.ok (.s t' r)
    |false=>.no
   |_,_,_=>.no
 | .p (.string ⟨⟨p⟩⟩)=>match kG (E.P.underlying t),rj 0 lo,rj (p.length:Int) hi with
   |some .s,some i,some j=>.op (cut p i j) λ r=>.ok (.p (ct r))
   |_,_,_=>.no
 | .r i g=>match oz E.P t,nth bl i with
   |some (_,n),some (.r t' c _ l)=>match rj 0 lo,rj (l.length:Int) hi,bS g c&&bS n (E.T.ty t').size with
    |some a,some b,true=>.op (qO l.length a b) λ _=>.ok (.v i g a b)
    |_,_,_=>.no
   |_,_=>.no
 | .v i g p q=>match oz E.P t,nth bl i with
   |some (_,n),some (.r t' c _ l)=>match rj 0 lo,rj (q-p) hi,bS g c&&bS n (E.T.ty t').size with
    |some a,some b,true=>.op (qO (q-p).toNat a b) λ _=>.ok (.v i g (p+a) (p+b))
    |_,_,_=>.no
   |_,_=>.no
 | .p (.slice none 0 0)=>match oz E.P t,Ho lo&&Ho hi with
   |some _,true=>.ok (.p (.slice none 0 0))
   |_,_=>.no
 |_=>.no
section
variable{E:Env}{W w:World}{M0:List Nat}{X:Nat->Prop}{bl:List (aD E.T.El)}{ρ:List Value}{a:Act}
def BG(E:Env)(F:Nat->Prop)(w:World)(ρ:List Value)(bl:List (aD E.T.El))(a:Act):Option Operand->Option (aH E.T.El)->Prop
 |none,none=>True
 |some x,some y=>ar E.T F w ρ bl y (a.eval x)
 |_,_=>False
theorem vk{F:Nat->Prop}{lo:Option Operand}{u:Option (aH E.T.El)}{z i:Int}(h:BG E F w ρ bl a lo u)(af:rj z u=some i):(lo=none/\i=z)\/ ∃x,lo=some x/\a.eval x= .int .i64 i:=by
 cases lo with
 |none=>
  cases u with
  |none=>simp only[rj,aF]at af;exact .inl ⟨rfl,af.symm⟩
  |some y=>exact h.elim
 |some x=>
  cases u with
  |none=>exact h.elim
  |some y=>
   right
   refine⟨x,rfl,?_⟩
   have h:ar E.T F w ρ bl y (a.eval x):=h
   unfold rj at af
   split at af
   ·rename_i e;cases e
   ·rename_i n e
    simp only[aF]at e af
    subst e;subst af
    simpa only[ar]using h
   ·cases af
theorem RL{F:Nat->Prop}{lo:Option Operand}{u:Option (aH E.T.El)}(h:BG E F w ρ bl a lo u)(af:Ho u=true):(lo=none/\(0 :Int)=0)\/ ∃x,lo=some x/\a.eval x= .int .i64 0:=by
 refine vk (z:=0) (i:=0) h ?_;unfold Ho at af;split at af
 ·rfl
 ·rfl
 ·cases af
theorem avE{o:Oper}{t:Nat}{x:Operand}{lo hi:Option Operand}{u z:aH E.T.El}{C D:Option (aH E.T.El)}(R:Mem E.T W M0 X bl ρ w)(h:(TB E bl t u C D).out z)(F:o.op= .slice t x lo hi none)
 (d:ar E.T (bi X bl ρ w) w ρ bl u (a.eval x))(G:BG E (bi X bl ρ w) w ρ bl a lo C)(H:BG E (bi X bl ρ w) w ρ bl a hi D):∃r,kT E.P o a r/\ar E.T (bi X bl ρ w) w ρ bl z r:=by
 unfold TB at h
 split at h
 ·rename_i t' l
  split at h
  ·rename_i e n i j aj m J
   split at h
   ·rename_i af
    obtain⟨r,ap,b⟩:=h
    have b:aH.s t' r=z:=b
    subst b
    obtain⟨v,y⟩:=sq aj
    simp only[ar]at d
    obtain⟨A,c,S⟩:=l_ _ d
    rw[S]at d
    obtain⟨Y,bh,Z⟩:=atO d ap
    have I:=bd af
    subst I
    exact⟨_,λ w'=>RA v y F S (vk G m) (vk H J) (S7 ap).1 Z,by simp only[ar];exact Y⟩
   ·exact h.elim
  ·exact h.elim
 ·rename_i p
  split at h
  ·rename_i i j hk m J
   obtain⟨r,ap,b⟩:=h
   have b:aH.p (ct r)=z:=b
   subst b
   simp only[ar]at d
   exact⟨_,λ w'=>aLx (wj hk) F d (vk G m) (vk H J) ap,by simp only[ar]⟩
  ·exact h.elim
 ·rename_i i g
  split at h
  ·rename_i e n t' g2 k l aj f
   rw[c7]at f
   split at h
   ·rename_i p q m J af
    simp only[bH]at af
    obtain⟨r,ap,b⟩:=h
    have b:aH.v i g p q=z:=b
    subst b
    obtain⟨v,y⟩:=sq aj
    simp only[ar]at d
    obtain⟨_,aL,K,L,M⟩:=d
    rw[f]at L M
    have O:=M (bd af.1)
    obtain⟨A,c,xs,N,ak,aS⟩:=R.ok i _ _ f K
    rw[N]at O ak
    obtain⟨v0,v1,P⟩:=alw ap
    have I:=bd af.2
    subst I
    refine⟨_,λ w'=>RA v y F O (vk G m) (vk H J) ⟨v0,v1,P⟩ (PN ak),?_⟩
    simp only[ar]
    have cN:A=A.map (·.add (0*(E.T.ty t').size)):=by
     cases A<;>simp[Addr.add]
    refine⟨trivial,aL,K,by rw[f];exact L,λ _=>⟨A,_,c,_,N,v0,v1,P,rfl,λ e=>?_,λ e=>?_⟩⟩
    ·subst e
     split
     ·rfl
     ·exact cN.symm
    ·rw[if_neg (by have:=PN ak;omega),f];rfl
   ·exact h.elim
  ·exact h.elim
 ·rename_i i g p q
  split at h
  ·rename_i e n t' g2 k l aj f
   rw[c7]at f
   split at h
   ·rename_i s r m J af
    simp only[bH]at af
    obtain⟨_,ap,b⟩:=h
    have b:aH.v i g (p+s) (p+r)=z:=b
    subst b
    obtain⟨v,y⟩:=sq aj
    simp only[ar]at d
    obtain⟨_,aL,K,L,M⟩:=d
    rw[f]at L M
    obtain⟨cj,eW,bG,B,Q,l0,l1,cI,O,Nd,bO⟩:=M (bd af.1)
    obtain⟨A,c,xs,N,ak,aS⟩:=R.ok i _ _ f K
    rw[N]at Q ak
    simp only[Value.slice.injEq]at Q
    obtain⟨rfl,rfl,rfl⟩:=Q
    have tw:=PN ak
    obtain⟨v0,v1,P⟩:=alw ap
    have I:=bd af.2
    subst I
    have U:=vk H J
    rw[show q-p=((q.toNat-p.toNat:Nat):Int) by omega]at U
    refine⟨_,λ w'=>RA v y F O (vk G m) U ⟨v0,v1,by omega⟩ (by omega),?_⟩
    simp only[ar]
    have V:(p+s).toNat=p.toNat+s.toNat:=by omega
    have kD:(p+r).toNat=p.toNat+r.toNat:=by omega
    refine⟨trivial,aL,K,by rw[f];exact L,λ _=>⟨A,_,c,(if c-p.toNat=s.toNat then B else B.map (·.add (s.toNat*(E.T.ty t').size))),N,by omega,by omega,by omega,?_,λ e=>?_,λ e=>?_⟩⟩
    ·rw[V,kD,show p.toNat+r.toNat- (p.toNat+s.toNat)=r.toNat-s.toNat by omega,show c-p.toNat-s.toNat=c- (p.toNat+s.toNat) by omega]
    ·have V4:p=0:=by omega
     have Cq:s=0:=by omega
     subst V4;subst Cq
     rw[Nd rfl]
     split
     ·rfl
     ·cases A<;>simp[Addr.add]
    ·obtain⟨gb,rfl⟩:=Gt ak (by omega)
     rw[if_neg (by omega),bO (by omega),f]
     simp[kY,jj,V,jy]
   ·exact h.elim
  ·exact h.elim
 ·split at h
  ·rename_i e aj af
   have h:aH.p (.slice none 0 0)=z:=h
   subst h
   simp only[bH]at af
   obtain⟨v,y⟩:=sq aj
   simp only[ar]at d
   exact⟨_,λ w'=>aLw v y F d (RL G af.1) ((RL H af.2).imp (λ h=>⟨h.1,rfl⟩) id),by simp only[ar]⟩
  ·exact h.elim
 ·exact h.elim
end
end bc
namespace bc
open Go Go.RowKit aw I
def tY{cM β:Type}(K:hX cM)(d:List (cM×β))(k:cM):Option β:=@cJ cM β K.dec d k
def jQ{cM β:Type}(K:hX cM)(d:List (cM×β))(k:cM):Option Nat:=@pk cM β K.dec d k
def tZ{cM β:Type}(K:hX cM)(d:List (cM×β))(k:cM)(v:β):List (cM×β):=@gA cM β K.dec d k v
abbrev hX.enc{cM:Type}(K:hX cM):cM->Value:=@lC.enc cM K.dec K.rX
abbrev hX.desc{cM:Type}(K:hX cM):TypeDesc:=@lC.desc cM K.dec K.rX
section
variable{T:bR}{F:Nat->Prop}{w:World}{kt vt:Nat}{K:hX (T.El kt)}
theorem TX(k:T.El kt):∀ {es:List MapEntry}{d:List (T.El kt×T.El vt)}(i:Nat),jA T F w K es d ->
 (tY K d k=none/\jQ K d k=none/\Instr.findNow K.desc (K.enc k) es i=some none)\/(∃p x v,tY K d k=some x/\jQ K d k=some p/\BI T F w vt x v/\Instr.findNow K.desc (K.enc k) es i=some (some (i+p,v)))
 |[],[],i,_=>.inl ⟨rfl,rfl,rfl⟩
 |[],_::_,_,h=>h.elim
 |_::_,[],_,h=>h.elim
 |e::es,p::d,i,h=>by
  obtain⟨j,J,ap⟩:=h;have aj:Instr.sameNow K.desc (K.enc k) e.key=some (@decide (p.1=k) (K.dec p.1 k)):=by rw[j];exact @lC.same _ K.dec K.rX k p.1
  by_cases a:p.1=k
  ·right
   refine⟨0,p.2,e.val,?_,?_,J,?_⟩
   ·simp only[tY,cJ,if_pos a]
   ·simp only[jQ,pk,if_pos a]
   ·simp only[Instr.findNow,aj,a,decide_true,ky]
  ·have g:Instr.findNow K.desc (K.enc k) (e::es) i=Instr.findNow K.desc (K.enc k) es (i+1):=by simp only[Instr.findNow,aj,a,decide_false]
   rcases TX k (i+1) ap with⟨c,b,f⟩|⟨q,x,v,c,b,f,gd⟩
   ·left
    refine⟨?_,?_,by rw[g];exact f⟩
    ·simp only[tY,cJ,if_neg a];exact c
    ·simp only[jQ,pk,if_neg a]
     simp only[jQ]at b
     rw[b];rfl
   ·right
    refine⟨q+1,x,v,?_,?_,f,?_⟩
    ·simp only[tY,cJ,if_neg a];exact c
    ·simp only[jQ,pk,if_neg a]
     simp only[jQ]at b
     rw[b];rfl
    ·rw[g,gd,show i+1+q=i+(q+1) by omega]
theorem jA.len:∀ {es:List MapEntry}{d:List (T.El kt×T.El vt)},jA T F w K es d->es.length=d.length
 |[],[],_=>rfl
 |[],_::_,h=>h.elim
 |_::_,[],h=>h.elim
 |_::_,_::_,h=>by simp[jA.len h.2.2]
theorem ZK{P:Program}{es:Array MapEntry}{d:List (T.El kt×T.El vt)}{t:Nat}(k:T.El kt)(b:P.underlying t=some K.desc)(c:jA T F w K es.toList d)(w':World) :
 (tY K d k=none/\jQ K d k=none/\(Instr.findKey t (K.enc k) es.toList).run P w'= .ok none w')\/(∃p x v,tY K d k=some x/\jQ K d k=some p/\BI T F w vt x v/\(Instr.findKey t (K.enc k) es.toList).run P w'= .ok (some (p,v)) w'):=by
 rcases TX k 0 c with⟨a,J,ap⟩|⟨p,x,v,a,J,ap,e⟩
 ·left
  refine⟨a,J,?_⟩
  simp only[Instr.findKey,Sem.run_bind,run_underlying b,Result.andThen_ok,ap]
  rfl
 ·right
  refine⟨p,x,v,a,J,ap,?_⟩
  simp only[Instr.findKey,Sem.run_bind,run_underlying b,Result.andThen_ok,e,jx]
  rfl
end
def Mt:Option TypeDesc->TypeDesc->Bool
 |some (.int k),.int k'=>mL k k'
 |some .string,.string=>true
 |_,_=>false
theorem adS{o:Option TypeDesc}{d:TypeDesc}(h:Mt o d=true):o=some d:=by
 unfold Mt at h;split at h
 ·rw[pd h]
 ·rfl
 ·cases h
def aci:Value->Bool->Bool
 | .agg _,b=>b
 |_,b=>!b
def Hp(P:Program)(t:TypeId):Option Value:=match P.info? t with
 |some i=>i.zero
 |none=>none
theorem aLV{P:Program}{t:TypeId}{z:Value}(h:Hp P t=some z):∀w,(zeroValue t).run P w= .ok z w:=by
 unfold Hp at h;split at h
 ·rename_i i a
  intro w
  simp only[zeroValue,typeInfo,Sem.run_bind]
  simp[go_sem,a,h]
 ·cases h
theorem aol{z:Value}{b:Bool}(h:aci z b=true):z=zy b z.cells.toList:=by
 unfold aci at h;split at h
 ·rename_i cs
  subst h
  obtain⟨vs⟩:=cs
  rfl
 ·rename_i a
  have af:b=false:=by simpa using h
  subst af
  cases z<;>first |rfl |exact(a _ rfl).elim
def xE(E:Env)(vt a:Nat):Option (E.T.El vt):=match Hp E.P a with
 |some z=>match aci z (E.T.e vt).agg with
  |true=>(E.T.e vt).hn (z.cells.toList.map .p)
  |false=>none
 |none=>none
def mapOf(P:Program)(t:TypeId):Option (Nat×Nat):=match P.underlying t with
 |some (.map k e)=>some (k,e)
 |_=>none
theorem Xk{P:Program}{t k e:Nat}(h:mapOf P t=some (k,e)):P.underlying t=some (.map k e):=by
 unfold mapOf at h;split at h
 ·rename_i a
  simp only[aF,ca]at h
  obtain⟨rfl,rfl⟩:=h
  exact a
 ·cases h
def Ox{El:Nat->Type}(bl:List (aD El)):aH El->Option (Σ a:Nat×Nat,List (El a.1×El a.2))
 | .m i=>match nth bl i with
   |some (.m kt vt d)=>some ⟨(kt,vt),d⟩
   |_=>none
 | .n kt vt d=>some ⟨(kt,vt),d⟩
 |_=>none
def FU(E:Env)(ok:Bool){kt vt:Nat}(K:hX (E.T.El kt))(d:List (E.T.El kt×E.T.El vt))(k:E.T.El kt)(z:E.T.El vt):aH E.T.El:=match ok with
 |true=>.u [E.T.val vt ((tY K d k).getD z),.p (.bool (tY K d k).isSome)]
 |false=>E.T.val vt ((tY K d k).getD z)
def TI(E:Env)(bl:List (aD E.T.El))(t:Nat)(ok:Bool)(u v:aH E.T.El):D (aH E.T.El):=match mapOf E.P t,Ox bl u with
 |some (k,e),some ⟨(kt,vt),d⟩=>match(E.T.e kt).key with
  |some K=>match Mt (E.P.underlying k) K.desc,(E.T.e kt).hn (cellsOf v),xE E vt e,(match lf v with|true=>(E.T.e kt).agg |false=>!(E.T.e kt).agg)with
   |true,some key,some z,true=>.ok (FU E ok K d key z)
   |_,_,_,_=>.no
  |none=>.no
 |_,_=>.no
section
variable{E:Env}{W w:World}{M0:List Nat}{X:Nat->Prop}{bl:List (aD E.T.El)}{ρ:List Value}{a:Act}
def C1{El:Nat->Type}:aH El->Option Nat
 | .m i=>some i
 |_=>none
theorem aii(j:Mem E.T W M0 X bl ρ w){u:aH E.T.El}{v:Value}{kt vt:Nat}{d:List (E.T.El kt×E.T.El vt)}(h:Ox bl u=some ⟨(kt,vt),d⟩)(b:ar E.T (bi X bl ρ w) w ρ bl u v) :
 ∃r,v= .map (some r)/\xR E.T (bi X bl ρ w) w kt vt r d/\LU X bl ρ w r (C1 u):=by
 cases u<;>simp only[Ox,reduceCtorEq]at h
 ·rename_i i
  split at h
  ·rename_i e f d' hi
   simp only[aF,Sigma.mk.injEq,ca]at h
   obtain⟨⟨rfl,rfl⟩,h⟩:=h
   have h:=eq_of_heq h
   subst h
   rw[c7]at hi
   simp only[ar]at b
   obtain⟨r,c,rfl⟩:=b
   obtain⟨k,g,ak⟩:=j.ok i _ _ hi c
   simp only[Value.map.injEq,aF]at g
   subst g
   exact⟨r,rfl,ak,_,_,hi,c,by simp[bB,af]⟩
  ·cases h
 ·rename_i e f d'
  simp only[aF,Sigma.mk.injEq,ca]at h
  obtain⟨⟨rfl,rfl⟩,h⟩:=h
  have h:=eq_of_heq h
  subst h
  simp only[ar]at b
  obtain⟨r,rfl,c,J⟩:=b
  exact⟨r,rfl,J,c⟩
theorem SG{F:Nat->Prop}{u:aH E.T.El}{v:Value}{b:Bool}(y:ar E.T F w ρ bl u v)(h:(match lf u with|true=>b |false=>!b)=true):v=zy b v.cells.toList:=by
 cases B:lf u with
 |true=>
  rw[B]at h
  have h:b=true:=h
  subst h
  exact Jq B y
 |false=>
  rw[B]at h
  have h:b=false:=by simpa using h
  subst h
  have hc:=oZ y
  have:v.cells.toList=[v]:=by
   cases u with
   |p u=>
    simp only[ar]at y
    subst y
    cases v<;>first |rfl |(simp[lf]at B)
   |a l=>simp[lf]at B
   |b i o=>simp only[ar]at y;obtain⟨g,_,rfl⟩:=y;rfl
   |x t d o=>simp only[ar]at y;obtain⟨_,_,_,rfl,_⟩:=y;rfl
   |s t l=>simp only[ar]at y;obtain⟨A,c,e⟩:=l_ _ y;subst e;rfl
   |q t l=>simp only[ar]at y;obtain⟨_,A,rfl⟩:=y;rfl
   |r i g=>simp only[ar]at y;exact Mn y.1
   |v i g lo hi=>simp only[ar]at y;exact Mn y.1
   |e i g k t j d o=>simp only[ar]at y;exact Mm y.1
   |w i g o=>simp only[ar]at y;exact Mm y.1
   |m i=>simp only[ar]at y;obtain⟨g,_,rfl⟩:=y;rfl
   |n _ _ _=>simp only[ar]at y;obtain⟨g,rfl,_⟩:=y;rfl
   |f fn cs=>simp only[ar]at y;obtain⟨g,rfl,_⟩:=y;rfl
   |h fn us=>simp only[ar]at y;obtain⟨g,rfl,_⟩:=y;rfl
   |u l=>simp only[ar]at y;obtain⟨g,rfl,_⟩:=y;rfl
   |i t z=>simp only[ar]at y;obtain⟨g,rfl,_⟩:=y;rfl
   |pp i g sz dY=>simp only[ar]at y;obtain⟨_,_,rfl,_⟩:=y;rfl
   |zF i g sz q=>simp only[ar]at y;obtain⟨_,_,_,rfl,_⟩:=y;rfl
  rw[this];rfl
theorem alv(a6:c8 E){F:Nat->Prop}{vt:Nat}{x:E.T.El vt}{v:Value}(h:BI E.T F w vt x v):ar E.T F w ρ bl (E.T.val vt x) v:=by
 obtain⟨xs,b,rfl⟩:=h;exact a6.tb.val b
theorem val_zero(a6:c8 E){F:Nat->Prop}{vt c:Nat}{z:E.T.El vt}(h:xE E vt c=some z):∃b,(∀w,(zeroValue c).run E.P w= .ok b w)/\ar E.T F w ρ bl (E.T.val vt z) b:=by
 unfold xE at h;split at h
 ·rename_i b d
  split at h
  ·rename_i J
   refine⟨b,aLV d,?_⟩
   have:=a6.tb.hn _ _ _ h F w ρ bl _ (sl b.cells.toList)
   rw[aol J]
   have e:=a6.tb.val (ρ:=ρ) (bl:=bl) this
   exact e
  ·cases h
 ·cases h
theorem avN(a6:c8 E)(N:Mem E.T W M0 X bl ρ w){o:Oper}{t:Nat}{ok:Bool}{x y:Operand}{u v z:aH E.T.El}(h:(TI E bl t ok u v).out z)(B:o.op= .lookup t x y ok)
 (O:ar E.T (bi X bl ρ w) w ρ bl u (a.eval x))(hy:ar E.T (bi X bl ρ w) w ρ bl v (a.eval y)) :
 ∃r q,ar E.T (bi X bl ρ w) w ρ bl z r/\LU X bl ρ w q (C1 u)/\ ∀w',w'.heap[q]? =w.heap[q]? ->bg E.P o a w' r w':=by
 unfold TI at h
 split at h
 ·rename_i k e kt vt d P J
  split at h
  ·rename_i K C
   split at h
   ·rename_i key z0 aL Q R S
    have h:FU E ok K d key z0=z:=h
    subst h
    obtain⟨q,D,⟨U,G,es,cl,V,m,m3⟩,H⟩:=aii N J O
    rw[C]at G
    cases G
    have I:a.eval y=K.enc key:=by
     have Y:=a6.tb.hn _ _ _ Q _ _ _ _ _ (oZ hy);have ak:=a6.tb.key _ _ C _ _ _ _ Y;exact(SG hy S).trans ak
    have Z:=Xk P
    have f:=adS aL
    obtain⟨n,n4,g⟩:=val_zero a6 (w:=w) (F:=bi X bl ρ w) (ρ:=ρ) (bl:=bl) R
    have i:∀w',w'.heap[q]? =w.heap[q]? ->(Instr.lookup t (.map (some q)) (K.enc key) ok).run E.P w'=(do
     let(v,s) <-match<-Instr.findKey k (K.enc key) es.toList with
      |some (_,v)=>pure (v,true)
      |none=>pure (<-zeroValue e,false)
     pure (if ok then Value.tuple #[v,.bool s]else v):Sem Value).run E.P w':=λ w' j=>by
     simp only[Instr.lookup,Sem.run_bind,Sem.run_pure,run_underlying Z,Result.andThen_ok,MapKept.run_getObj_map (j.trans V),@lC.check _ K.dec K.rX E.P w' es.isEmpty k key f]
     rfl
    rcases ZK (vt:=vt) key f m w with⟨b,f2,_⟩|⟨p,A,l,b,f2,L,f6⟩
    ·refine⟨if ok then .tuple #[n,.bool false]else n,q,?_,H,λ w' j=>?_⟩
     ·cases ok with
      |true=>simp only[FU,b,jw,Option.isSome_none,ar,if_true];exact⟨[n,.bool false],rfl,by simp only[a7];exact⟨_,_,rfl,g,_,_,rfl,by simp only[ar],rfl⟩⟩
      |false=>simp only[FU,b,jw];exact g
     ·simp only[bg,execOp,B,D,I,Sem.run_bind,i w' j]
      rcases ZK (vt:=vt) key f m w' with⟨_,_,f4⟩|⟨p,A,l,c,_⟩
      ·simp only[f4,Result.andThen_ok,Sem.run_bind,n4,Sem.run_pure]
      ·rw[b]at c;cases c
    ·refine⟨if ok then .tuple #[l,.bool true]else l,q,?_,H,λ w' j=>?_⟩
     ·cases ok with
      |true=>simp only[FU,b,iM,Option.isSome_some,ar,if_true];exact⟨[l,.bool true],rfl,by simp only[a7];exact⟨_,_,rfl,alv a6 L,_,_,rfl,by simp only[ar],rfl⟩⟩
      |false=>simp only[FU,b,iM];exact alv a6 L
     ·simp only[bg,execOp,B,D,I,Sem.run_bind,i w' j]
      have f5:∀w',(Instr.findKey k (K.enc key) es.toList).run E.P w'= .ok (some (p,l)) w':=by
       intro w';rcases TX (vt:=vt) key 0 m with⟨c,_⟩|⟨uk,fU,e8,c,g2,g3,M⟩
       ·rw[b]at c;cases c
       ·have:(Instr.findKey k (K.enc key) es.toList).run E.P w= .ok (some (uk,e8)) w:=by
         simp only[Instr.findKey,Sem.run_bind,run_underlying f,Result.andThen_ok,M,jx];rfl
        rw[f6]at this;simp only[Result.ok.injEq,aF,ca,and_true]at this;obtain⟨rfl,rfl⟩:=this;simp only[Instr.findKey,Sem.run_bind,run_underlying f,Result.andThen_ok,M,jx];rfl
      simp only[f5,Result.andThen_ok,Sem.run_bind,Sem.run_pure]
   ·exact h.elim
  ·exact h.elim
 ·exact h.elim
def TH(E:Env)(bl:List (aD E.T.El))(t:Nat)(u:aH E.T.El):D (aH E.T.El):=match mapOf E.P t,Ox bl u with
 |some _,some ⟨_,d⟩=>.ok (.p (.int .i64 (d.length:Int)))
 |_,_=>.no
theorem avK(b:Mem E.T W M0 X bl ρ w){o:Oper}{t:Nat}{x:Operand}{u z:aH E.T.El}(h:(TH E bl t u).out z)(c:o.op= .call { callee:=.builtin .len,args:=#[x],argTypes:=#[t] })
 (e:ar E.T (bi X bl ρ w) w ρ bl u (a.eval x)):∃r q,ar E.T (bi X bl ρ w) w ρ bl z r/\LU X bl ρ w q (C1 u)/\ ∀w',w'.heap[q]? =w.heap[q]? ->bg E.P o a w' r w':=by
 unfold TH at h
 split at h
 ·rename_i p s d f J
  have h:aH.p (.int .i64 (d.length:Int))=z:=h
  subst h
  obtain⟨q,g,⟨K,v,es,cl,i,j,y⟩,k⟩:=aii b J e
  have l:=Xk f
  have m:es.size=d.length:=by have:=j.len;simpa using this
  refine⟨.int .i64 (d.length:Int),q,by simp only[ar],k,λ w' n=>?_⟩
  simp only[bg,execOp,c,resolve,invoke,gX,eu,hS,g]
  simp[go_sem,Builtin.len_,run_underlying l,goInt,MapKept.run_getObj_map (n.trans i),m]
 ·exact h.elim
def TL(E:Env)(t j:Nat)(u:aH E.T.El):D (aH E.T.El):=match lf u,MQ E.P t j with
 |true,some (off,nT,_)=>match lay E.P nT with
  |some b=>.of (mx (cellsOf u) off b)
  |none=>.no
 |_,_=>.no
theorem avQ{F:Nat->Prop}{o:Oper}{t j:Nat}{x:Operand}{u z:aH E.T.El}(h:(TL E t j u).out z)(d:o.op= .field t x j)(e:ar E.T F w ρ bl u (a.eval x)):∃r,kT E.P o a r/\ar E.T F w ρ bl z r:=by
 unfold TL at h;split at h
 ·rename_i off nT sz m ad
  split at h
  ·rename_i p q
   have h:=D.pr h
   obtain⟨cb,f,g,i,s,y,G,H⟩:=afx ad
   have k:=Jq m e
   have hc:=oZ e
   obtain⟨b,n⟩:=p
   have c:=JA q
   subst y;subst s
   cases b with
   |false=>
    simp only[mx]at h
    rw[c7]at h
    obtain⟨v,A,J⟩:=hc.at_ h
    have B:(a.eval x).cells[f.offset]? =some v:=by rw[<-ht];exact A
    refine⟨v,λ w'=>?_,J⟩
    simp only[bg,execOp,d,Instr.field,Sem.run_bind,run_underlying g,Result.andThen_ok,i]
    rw[k]
    simp[asAgg,part,c.1,B]
   |true=>
    simp only[mx]at h
    split at h
    ·rename_i af
     simp only[aF]at h
     subst h
     have C:=cv af
     have l:=hc.len
     refine⟨.agg ⟨((a.eval x).cells.toList.drop f.offset).take n⟩,λ w'=>?_,?_⟩
     ·simp only[bg,execOp,d,Instr.field,Sem.run_bind,run_underlying g,Result.andThen_ok,i]
      rw[k]
      simp only[asAgg,part,Sem.run_bind,Sem.run_pure,c.1,c.2,Result.andThen_ok,if_true]
      congr 2
      apply congrArg Value.agg
      rw[<-Array.toList_inj]
      simp[List.extract_eq_take_drop,Nat.add_sub_cancel_left,Value.cells]
     ·simp only[ar]
      exact⟨_,rfl,a7.take n (a7.drop _ hc)⟩
    ·cases h
  ·exact h.elim
 ·exact h.elim
end
end bc
namespace bc
open Go Go.RowKit aw I
structure cy (El:Nat->Type) where
 fr:List (Nat×aH El)
 gs:List (Nat×Nat×Bool×aH El)
 eg:List (Nat×Bool)
def FR{El:Nat->Type}:List (Nat×Nat×Bool×aH El)->List (Nat×Bool)->Nat->Option (aH El)
 |[],_,_=>none
 |p::r,cur,t=>match bS p.1 t&&Ca cur p.2.1 p.2.2.1 with
  |true=>some p.2.2.2
  |false=>FR r cur t
def zJ{El:Nat->Type}:List (Nat×Nat×Bool×aH El)->Nat->List (Nat×Nat×Bool×aH El)
 |[],_=>[]
 |p::r,d=>match bS p.1 d||bS p.2.1 d with
  |true=>zJ r d
  |false=>p::zJ r d
structure oO (T:bR) (F:Nat->Prop) (w:World) (ρ:List Value) (bl:List (aD T.El)) (n:cB) (f:cy T.El) (a:Act):Prop where
 ef:q7 T F w ρ bl n f.fr a
 gs:∀p∈f.gs,a.tmps.getD p.2.1 undef= .bool p.2.2.1 ->ar T F w ρ bl p.2.2.2 (a.tmps.getD p.1 undef)
 eg:∀p∈f.eg,a.tmps.getD p.1 undef= .bool p.2
section
variable{T:bR}{F F':Nat->Prop}{w w':World}{ρ ρ':List Value}{bl bl':List (aD T.El)}{n:cB}{f:cy T.El}{a:Act}
theorem oO.later(b:∀k,F k->F' k/\w'.heap[k]? =w.heap[k]?)(c:mr T ρ ρ' bl bl')(h:oO T F w ρ bl n f a):oO T F' w' ρ' bl' n f a:=⟨h.ef.later b c,λ p d af=>(h.gs p d af).later b c,h.eg⟩
theorem Xf(h:oO T F w ρ bl n f a){cur:List (Nat×Bool)}(hc:jF a cur):∀ {gs:List (Nat×Nat×Bool×aH T.El)}{t:Nat}{y:aH T.El},(∀p∈gs,p∈f.gs)->FR gs cur t=some y->ar T F w ρ bl y (a.tmps.getD t undef)
 |[],_,_,_,J=>by simp[FR]at J
 |p::r,t,y,b,J=>by
  simp only[FR]at J;split at J
  ·rename_i af
   simp only[bH,aF]at af J
   subst J
   have:=h.gs p (b p (by simp)) (agl hc af.2)
   rwa [bd af.1]at this
  ·exact Xf h hc (λ q c=>b q (by simp[c])) J
theorem ZF{d:Nat}{p:Nat×Nat×Bool×aH T.El}:∀ {gs:List (Nat×Nat×Bool×aH T.El)},p∈zJ gs d->p∈gs/\p.1≠d/\p.2.1≠d
 |[],h=>by simp[zJ]at h
 |q::r,h=>by
  simp only[zJ]at h;split at h
  ·obtain⟨b,J⟩:=ZF h;exact⟨by simp[b],J⟩
  ·rename_i af
   simp only[h0]at af
   rcases cR.1 h with rfl |h
   ·exact⟨by simp,λ e=>by rw[e]at af;simp at af,λ e=>by rw[e]at af;simp at af⟩
   ·obtain⟨b,J⟩:=ZF h;exact⟨by simp[b],J⟩
theorem ZE{α:Type}{d:Nat}{p:Nat×α}:∀ {l:List (Nat×α)},p∈ox l d->p∈l/\p.1≠d
 |[],h=>by simp[ox]at h
 |q::r,h=>by
  simp only[ox]at h;split at h
  ·obtain⟨b,J⟩:=ZE h;exact⟨by simp[b],J⟩
  ·rename_i af
   rcases cR.1 h with rfl |h
   ·exact⟨by simp,λ e=>by rw[e]at af;simp at af⟩
   ·obtain⟨b,J⟩:=ZE h;exact⟨by simp[b],J⟩
def cy.put(f:cy T.El)(d:Nat)(y:aH T.El):cy T.El:=⟨(d,y)::ox f.fr d,zJ f.gs d,ox f.eg d⟩
def cy.qD(f:cy T.El)(d j:Nat)(b:Bool)(y:aH T.El):cy T.El:=⟨ox f.fr d,(d,j,b,y)::zJ f.gs d,ox f.eg d⟩
theorem oO.ajw{d:Nat}{v:Value}(h:oO T F w ρ bl n f a)(aL:ez d n.n=true):(∀p∈zJ f.gs d,(a.put (some d) v).tmps.getD p.2.1 undef= .bool p.2.2.1 ->ar T F w ρ bl p.2.2.2 ((a.put (some d) v).tmps.getD p.1 undef))/\ ∀p∈ox f.eg d,(a.put (some d) v).tmps.getD p.1 undef= .bool p.2:=by
 have b:d<a.tmps.size:=by rw[h.ef.size];exact cv aL
 refine⟨λ p c af=>?_,λ p c=>?_⟩
 ·obtain⟨e,J,ap⟩:=ZF c
  rw[yz b,if_neg (Ne.symm ap)]at af
  rw[yz b,if_neg (Ne.symm J)]
  exact h.gs p e af
 ·obtain⟨e,J⟩:=ZE c
  rw[yz b,if_neg (Ne.symm J)]
  exact h.eg p e
theorem oO.put{d:Nat}{y:aH T.El}{v:Value}(h:oO T F w ρ bl n f a)(aL:ez d n.n=true)(c:ar T F w ρ bl y v):oO T F w ρ bl n (f.put d y) (a.put (some d) v):=by
 obtain⟨e,J⟩:=h.ajw (v:=v) aL;refine⟨⟨(h.ef.put aL c).size,(h.ef.put aL c).defers,λ t z b=>(h.ef.put aL c).get t z ?_⟩,e,J⟩;simp only[cy.put,cD]at b⊢;split at b
 ·exact b
 ·exact(Ot b).2
theorem oO.qD{d j:Nat}{b:Bool}{y:aH T.El}{v:Value}(h:oO T F w ρ bl n f a)(aL:ez d n.n=true)(i:bS j d=false)(k:a.tmps.getD j undef= .bool b->ar T F w ρ bl y v):oO T F w ρ bl n (f.qD d j b y) (a.put (some d) v):=by
 obtain⟨l,J⟩:=h.ajw (v:=v) aL;have g:d<a.tmps.size:=by rw[h.ef.size];exact cv aL
 have c:d≠j:=λ e=>by subst e;simp at i
 refine⟨h.ef.PL aL,λ p aI af=>?_,J⟩;rcases cR.1 aI with rfl |aI
 ·simp only at af⊢
  rw[yz g,if_neg c]at af
  rw[yz g,if_pos rfl]
  exact k af
 ·exact l p aI af
end
def od(E:Env)(bl:List (aD E.T.El))(f:cy E.T.El)(cur:List (Nat×Bool)):Operand->Option (aH E.T.El)
 | .const v=>some (.p v)
 | .global g=>cD E.cQ g
 | .func g=>some (.f (.func g) [])
 | .tmp t=>match cD f.fr t with
   |some y=>some (nm bl y)
   |none=>match FR f.gs cur t with
    |some y=>some (nm bl y)
    |none=>match FR f.gs f.eg t with
     |some y=>some (nm bl y)
     |none=>none
def po(E:Env)(bl:List (aD E.T.El))(f:cy E.T.El)(cur:List (Nat×Bool)):List Operand->Option (List (aH E.T.El))
 |[]=>some []
 |x::r=>match od E bl f cur x,po E bl f cur r with
  |some y,some ys=>some (y::ys)
  |_,_=>none
def JW(E:Env)(bl:List (aD E.T.El))(f:cy E.T.El)(cur:List (Nat×Bool)):Option Operand->Option (Option (aH E.T.El))
 |none=>some none
 |some x=>match od E bl f cur x with
  |some y=>some (some y)
  |none=>none
def F4(E:Env)(bl:List (aD E.T.El))(f:cy E.T.El)(cur:List (Nat×Bool)):List (Nat×Operand)->Option (List (Nat×aH E.T.El))
 |[]=>some []
 |(i,x)::r=>match od E bl f cur x,F4 E bl f cur r with
  |some y,some ys=>some ((i,y)::ys)
  |_,_=>none
structure R (E:Env) (W:World) (M0:List Nat) (X:Nat->Prop) (n:cB) (f:cy E.T.El) (bl:List (aD E.T.El)) (ρ:List Value) (a:Act) (w:World):Prop where
 mem:Mem E.T W M0 X bl ρ w
 dT:oO E.T (bi X bl ρ w) w ρ bl n f a
 cQ:∀g y,cD E.cQ g=some y->ar E.T (bi X bl ρ w) w ρ bl y (.pointer (some ⟨g,0,none⟩))
section
variable{E:Env}{W w w':World}{M0:List Nat}{X:Nat->Prop}{n:cB}{f:cy E.T.El}{bl bl':List (aD E.T.El)}{ρ ρ':List Value}{a:Act}{cur:List (Nat×Bool)}
theorem R.to(h:R E W M0 X n f bl ρ a w)(b:To X bl bl' ρ ρ' w w')(c:Mem E.T W M0 X bl' ρ' w'):R E W M0 X n f bl' ρ' a w':=⟨c,h.dT.later b.F b.L,λ g y d=>b.v (h.cQ g y d)⟩
theorem R.put{d:Nat}{y:aH E.T.El}{v:Value}(h:R E W M0 X n f bl ρ a w)(aL:ez d n.n=true)(b:ar E.T (bi X bl ρ w) w ρ bl y v):R E W M0 X n (f.put d y) bl ρ (a.put (some d) v) w:=⟨h.mem,h.dT.put aL b,h.cQ⟩
theorem adO{a:Act}:∀ {l:List (Nat×Bool)},(∀p∈l,a.tmps.getD p.1 undef= .bool p.2)->jF a l
 |[],_=>trivial
 |p::r,h=>⟨h p (by simp),adO λ q b=>h q (by simp[b])⟩
theorem dt(h:R E W M0 X n f bl ρ a w)(hc:jF a cur){x:Operand}{y:aH E.T.El}(b:od E bl f cur x=some y):ar E.T (bi X bl ρ w) w ρ bl y (a.eval x):=by
 cases x with
 |const v=>simp only[od,aF]at b;subst b;simp only[ar];rfl
 |global g=>exact h.cQ g y b
 |func g=>simp only[od,aF]at b;subst b;simp only[ar];exact⟨[],rfl,by simp[a7]⟩
 |tmp t=>
  simp only[od]at b
  split at b
  ·rename_i z c
   simp only[aF]at b
   subst b
   exact O1 h.mem (h.dT.ef.get t z c)
  ·split at b
   ·rename_i z c
    simp only[aF]at b
    subst b
    exact O1 h.mem (Xf h.dT hc (λ p d=>d) c)
   ·split at b
    ·rename_i z c
     simp only[aF]at b
     subst b
     exact O1 h.mem (Xf h.dT (adO h.dT.eg) (λ p d=>d) c)
    ·cases b
theorem zx(h:R E W M0 X n f bl ρ a w)(hc:jF a cur):∀ {xs:List Operand}{ys:List (aH E.T.El)},po E bl f cur xs=some ys->a7 E.T (bi X bl ρ w) w ρ bl ys (xs.map a.eval)
 |[],ys,b=>by simp only[po,aF]at b;subst b;simp[a7]
 |x::r,ys,b=>by
  simp only[po]at b;split at b
  ·rename_i y d c J
   simp only[aF]at b
   subst b
   simp only[eu,a7]
   exact⟨_,_,rfl,dt h hc c,zx h hc J⟩
  ·cases b
theorem aiU(h:R E W M0 X n f bl ρ a w)(hc:jF a cur){x:Option Operand}{y:Option (aH E.T.El)}(b:JW E bl f cur x=some y):BG E (bi X bl ρ w) w ρ bl a x y:=by
 cases x with
 |none=>simp only[JW,aF]at b;subst b;trivial
 |some x=>
  simp only[JW]at b
  split at b
  ·rename_i z c
   simp only[aF]at b
   subst b
   exact dt h hc c
  ·cases b
theorem XT(h:R E W M0 X n f bl ρ a w)(hc:jF a cur):∀ {xs:List (Nat×Operand)}{ys:List (Nat×aH E.T.El)},F4 E bl f cur xs=some ys->rb E.T (bi X bl ρ w) w ρ bl ys (xs.map λ p=>(p.1,a.eval p.2))
 |[],ys,b=>by simp only[F4,aF]at b;subst b;simp[rb]
 |(i,x)::r,ys,b=>by
  simp only[F4]at b;split at b
  ·rename_i y d c J
   simp only[aF]at b
   subst b
   simp only[eu,rb]
   exact⟨_,_,rfl,dt h hc c,XT h hc J⟩
  ·cases b
end
def TM(E:Env)(bl:List (aD E.T.El))(f:cy E.T.El)(cur:List (Nat×Bool))(c x y:Operand):D (aH E.T.El):=
 match od E bl f cur c with
 |some (.p (.bool b))=>match E.cl,c with
  |true,_=>match b with
   |true=>.of (od E bl f cur x)
   |false=>.of (od E bl f cur y)
  |false,.tmp a=>match cD f.eg a with
   |some true=>.of (od E bl f cur x)
   |some false=>.of (od E bl f cur y)
   |none=>match od E bl f ((a,true)::cur) x,od E bl f ((a,false)::cur) y with
    |some u,some v=>X7 E x y b u v
    |_,_=>.no
  |false,_=>.no
 |_=>.no
def aav:IntKind->Int->Option Int
 | .i64,m=>some (ax m)
 | .u64,m=>some (GM m)
 | .u8,m=>some ((oX m).toNat:Int)
 |_,_=>none
def TC(P:Program)(s d:Nat):Value->Option Value
 | .int k m=>match kG (P.underlying s),kG (P.underlying d)with
   |some (.i j),some (.i k')=>match mL j k,aav k' m with
    |true,some r=>some (.int k' r)
    |_,_=>none
   |_,_=>none
 |_=>none
def T8(E:Env)(bl:List (aD E.T.El))(t:Nat)(u:aH E.T.El)(hi qv:Option (aH E.T.El)):D (aH E.T.El):=match oz E.P t,Ho hi&&Ho qv with
 |some (e,n),true=>match bS n (E.T.ty e).size with
  |true=>match u with
   | .s _ _=>.ok (.q e [])
   | .q _ _=>.ok (.q e [])
   | .r i g=>match bS g (tr bl i)with
     |true=>.ok (.q e [])
     |false=>.no
   | .p (.slice none 0 0)=>.ok (.p (.slice none 0 0))
   | .p (.slice (some _) 0 _)=>.ok (.q e [])
   |_=>.no
  |false=>.no
 |_,_=>.no
def XO{El:Nat->Type}(bl:List (aD El)):aH El->Bool
 | .s _ (_::_)=>true
 | .q _ (_::_)=>true
 | .p (.slice (some _) _ _)=>true
 | .r i g=>match nth bl i with
   |some (.r _ a _ (_::_))=>bS g a
   |_=>false
 |_=>false
def O0{El:Nat->Type}:aH El->Bool
 | .p (.slice none _ _)=>true
 |_=>false
def TK(P:Program){El:Nat->Type}(bl:List (aD El))(t:Nat)(op:BinOp)(u v:aH El):Option Bool:=match kG (P.underlying t),O0 v,C' op true with
 |some .cr,true,some b=>match O0 u with
  |true=>some b
  |false=>match XO bl u with
   |true=>some (!b)
   |false=>none
 |_,_,_=>none
def E3(E:Env)(bl:List (aD E.T.El))(f:cy E.T.El)(cur:List (Nat×Bool)):Op->D (aH E.T.El)
 | .move x=>.of (od E bl f cur x)
 | .assign x=>.of (od E bl f cur x)
 | .pick c x y=>TM E bl f cur c x y
 | .binOp op t x y _=>match od E bl f cur x,od E bl f cur y with
   |some u,some v=>match TK E.P bl t op u v with
    |some b=>.ok (.p (.bool b))
    |none=>Tx E t op (Jr y) u v
   |_,_=>.no
 | .unOp .not _ x=>match od E bl f cur x with
   |some (.p (.bool p))=>.ok (.p (.bool (!p)))
   |_=>.no
 | .unOp .neg _ x=>match od E bl f cur x with
   |some (.p (.int .i64 m))=>.ok (.p (.int .i64 (ax (0-m))))
   |_=>.no
 | .convert s d x=>match od E bl f cur x with
   |some (.p u)=>match TC E.P s d u with
    |some r=>.ok (.p r)
    |none=>.no
   |_=>.no
 | .load t x=>match od E bl f cur x with
   |some p=>E2 E bl t p
   |none=>.no
 | .fieldAddr s x j=>match od E bl f cur x,MQ E.P s j with
   |some p,some (off,_,_)=>match Pj (tr bl) p with
    |true=>.of (Yc p off)
    |false=>.no
   |_,_=>.no
 | .nilCheck x=>match od E bl f cur x with
   |some p=>match N2 p with
    |true=>.ok p
    |false=>.no
   |none=>.no
 | .extract x i=>match od E bl f cur x with
   |some (.u l)=>.of (nth l i)
   |_=>.no
 | .makeFunc fn ⟨[]⟩ ⟨ys⟩=>match po E bl f cur ys with
   |some us=>.ok (.f fn us)
   |none=>.no
 | .makeFunc fn ⟨xs⟩ ⟨[]⟩=>match po E bl f cur xs with
   |some us=>.ok (.h fn us)
   |none=>.no
 | .makeInterface t x=>match od E bl f cur x,E.P.concrete t with
   |some y,true=>.ok (.i t y)
   |_,_=>.no
 | .indexAddr t x y=>match od E bl f cur x,od E bl f cur y with
   |some u,some v=>TD E bl t u v
   |_,_=>.no
 | .index t x y=>match od E bl f cur x,od E bl f cur y,kG (E.P.underlying t)with
   |some (.p (.string ⟨⟨p⟩⟩)),some (.p (.int .i64 j)),some .s=>.op (idx p j) λ b=>.ok (.p (.int .u8 (b.toNat:Int)))
   |_,_,_=>.no
 | .slice t x lo hi none=>match od E bl f cur x,JW E bl f cur lo,JW E bl f cur hi with
   |some u,some a,some b=>TB E bl t u a b
   |_,_,_=>.no
 | .slice t x none (some hi) (some qv)=>match od E bl f cur x,od E bl f cur hi,od E bl f cur qv with
   |some u,some a,some b=>T8 E bl t u (some a) (some b)
   |_,_,_=>.no
 | .lookup t x y ok=>match od E bl f cur x,od E bl f cur y with
   |some u,some v=>TI E bl t ok u v
   |_,_=>.no
 | .field t x j=>match od E bl f cur x with
   |some u=>TL E t j u
   |none=>.no
 | .build t ⟨ps⟩=>match F4 E bl f cur ps with
   |some ys=>Ty E t ys
   |none=>.no
 | .call ⟨.builtin .len,⟨[x]⟩,⟨[t]⟩⟩=>match od E bl f cur x with
   |some u=>match mapOf E.P t with
    |some _=>TH E bl t u
    |none=>TG E bl t u
   |none=>.no
 | .call ⟨.builtin .cap,⟨[x]⟩,⟨[t]⟩⟩=>match oz E.P t,od E bl f cur x with
   |some _,some (.p (.slice _ _ c))=>.ok (.p (.int .i64 (c:Int)))
   |_,_=>.no
 |_=>.no
def qp(E:Env)(bl:List (aD E.T.El))(f:cy E.T.El)(cur:List (Nat×Bool)):Op->Option (Option Nat)
 | .load _ x=>match od E bl f cur x with
   |some p=>some (W_ p)
   |none=>none
 | .lookup _ x _ _=>match od E bl f cur x with
   |some u=>some (C1 u)
   |none=>none
 | .call ⟨.builtin .len,⟨[x]⟩,⟨[t]⟩⟩=>match mapOf E.P t,od E bl f cur x with
   |some _,some u=>some (C1 u)
   |_,_=>none
 |_=>none
def x'(P:Program)(o:Oper)(a:Act)(X:Nat->Prop){El:Nat->Type}(bl:List (aD El))(ρ:List Value)(w:World)(r:Value):Option (Option Nat)->Prop
 |none=>kT P o a r
 |some i=>∃(q:Nat)(S:World->Prop),(match i with
  |none=>bi X bl ρ w q
  |some i=>∃B h,bl[i]? =some B/\ρ[i]? =some h/\q∈bB B h)/\S w/\(∀w',w'.heap[q]? =w.heap[q]? ->S w')/\ ∀w',S w'->bg P o a w' r w'
theorem x'.now{P:Program}{o:Oper}{a:Act}{X:Nat->Prop}{El:Nat->Type}{bl:List (aD El)}{ρ:List Value}{w:World}{r:Value}:∀ {i:Option (Option Nat)},x' P o a X bl ρ w r i->bg P o a w r w
 |none,h=>h w
 |some _,⟨_,_,_,b,_,J⟩=>J w b
end bc
namespace bc
open Go Go.RowKit aw I
theorem ob{α:Type}{t:Nat}{y:α}:∀ {l:List (Nat×α)},cD l t=some y->(t,y)∈l
 |[],h=>by simp[cD]at h
 |p::r,h=>by
  simp only[cD]at h;split at h
  ·rename_i af
   simp only[aF]at h
   subst h
   rw[<-bd af]
   simp
  ·exact dX _ (ob h)
section
variable{E:Env}{W w w':World}{M0:List Nat}{X:Nat->Prop}{n:cB}{f:cy E.T.El}{bl:List (aD E.T.El)}{ρ:List Value}{a:Act}{cur:List (Nat×Bool)}
theorem an5{P:Program}{o:Oper}{A:Option Addr}{m c sz t e:Nat}{x hi qv:Operand}(b:P.underlying t=some (.slice e))(aj:∀w,(Go.sizeOf e).run P w= .ok sz w)(d:o.op= .slice t x none (some hi) (some qv))(g:a.eval x= .slice A m c)(h:a.eval hi= .int .i64 0)(J:a.eval qv= .int .i64 0)(w:World):bg P o a w (.slice A 0 0) w:=by
 have i:=aGM (P:=P) (w:=w) (A:=A) (m:=m) (c:=c) (j:=0) b aj ⟨k2 _,by omega⟩;simp only[bg,execOp,d,g,Instr.sliceAt,Sem.run_bind,run_underlying b,Result.andThen_ok,iW,fm,h,J,i];rfl
theorem aEd{F:Nat->Prop}{t:Nat}(A:Option Addr):ar E.T F w ρ bl (.q t []) (.slice A 0 0):=by
 simp only[ar];exact⟨⟨A,0,rfl,cC _,gK _,λ _=>rfl,λ h=>absurd rfl h⟩,A,rfl⟩
theorem ZX{v:Value}(h:kE v):∃A m c,v= .slice A m c:=by
 cases v<;>simp[kE]at h;exact⟨_,_,_,rfl⟩
theorem aws(y:Mem E.T W M0 X bl ρ w){o:Oper}{t:Nat}{x hi qv:Operand}{u z g i:aH E.T.El}(h:(T8 E bl t u (some g) (some i)).out z)(j:o.op= .slice t x none (some hi) (some qv))
 (b:ar E.T (bi X bl ρ w) w ρ bl u (a.eval x))(v:ar E.T (bi X bl ρ w) w ρ bl g (a.eval hi))(J:ar E.T (bi X bl ρ w) w ρ bl i (a.eval qv)):∃r,kT E.P o a r/\ar E.T (bi X bl ρ w) w ρ bl z r:=by
 unfold T8 at h
 split at h
 ·rename_i e B aj af
  simp only[bH]at af
  have l:a.eval hi= .int .i64 0:=by
   rcases RL (lo:=some hi) (u:=some g) (show BG E _ w ρ bl a (some hi) (some g) from v) af.1 with⟨e,_⟩|⟨_,e,k⟩
   ·cases e
   ·cases e;exact k
  have p:a.eval qv= .int .i64 0:=by
   rcases RL (lo:=some qv) (u:=some i) (show BG E _ w ρ bl a (some qv) (some i) from J) af.2 with⟨e,_⟩|⟨_,e,k⟩
   ·cases e
   ·cases e;exact k
  obtain⟨q,s⟩:=sq aj
  have fin:∀ {A:Option Addr}{m c:Nat},a.eval x= .slice A m c->(D.ok (aH.q e ([]:List (E.T.El e)))).out z-> ∃r,kT E.P o a r/\ar E.T (bi X bl ρ w) w ρ bl z r:=λ{A m c} d h=>by
   have h:aH.q e []=z:=h;subst h;exact⟨_,λ w'=>an5 q s j d l p w',aEd A⟩
  split at h
  ·split at h
   ·simp only[ar]at b;obtain⟨A,c,d⟩:=l_ _ b;exact fin d h
   ·simp only[ar]at b;obtain⟨A,d⟩:=b.2;exact fin d h
   ·split at h
    ·simp only[ar]at b;obtain⟨A,m,c,d⟩:=ZX b.1;exact fin d h
    ·exact h.elim
   ·have h:aH.p (.slice none 0 0)=z:=h
    subst h
    simp only[ar]at b
    exact⟨_,λ w'=>an5 q s j b l p w',by simp only[ar]⟩
   ·simp only[ar]at b;exact fin b h
   ·exact h.elim
  ·exact h.elim
 ·exact h.elim
theorem aIp{k:IntKind}{m r:Int}(h:aav k m=some r):k.wrap m=r:=by
 unfold aav at h;split at h<;>simp only[aF,reduceCtorEq]at h<;>subst h
 ·exact xh m
 ·rw[IntKind.wrap_u64];rfl
 ·exact ald m
theorem avF{P:Program}{o:Oper}{s d:Nat}{x:Operand}{u r:Value}(h:TC P s d u=some r)(b:o.op= .convert s d x)(c:a.eval x=u):kT P o a r:=by
 unfold TC at h;split at h
 ·rename_i k m
  split at h
  ·rename_i j k' e J
   split at h
   ·rename_i i ap g
    simp only[aF]at h
    subst h
    have:=pd ap
    subst this
    rw[<-aIp g]
    exact λ w=>ab5 (wj e) (wj J) b c
   ·cases h
  ·cases h
 ·cases h
theorem azR{y:Operand}(b:Jr y=true)(k:IntKind)(n:Int)(c:a.eval y= .int k n):n≠0:=by
 unfold Jr at b;split at b
 ·rename_i k' d
  have:a.eval (.const (.int k' d))= .int k' d:=rfl
  rw[this]at c
  injection c with _ e
  subst e
  simpa using b
 ·cases b
theorem avR(h:R E W M0 X n f bl ρ a w)(hc:jF a cur){o:Oper}{c x y:Operand}{z:aH E.T.El}(d:(TM E bl f cur c x y).out z)(k:o.op= .pick c x y):∃r,kT E.P o a r/\ar E.T (bi X bl ρ w) w ρ bl z r:=by
 unfold TM at d;split at d
 ·rename_i b m
  have g:=dt h hc m
  simp only[ar]at g
  have tk:b=true->(D.of (od E bl f cur x)).out z-> ∃r,kT E.P o a r/\ar E.T (bi X bl ρ w) w ρ bl z r:=λ af d=>by
   have:=dt h hc (D.pr d);exact⟨_,λ w'=>RF k (by rw[g,af]) rfl,this⟩
  have i:b=false->(D.of (od E bl f cur y)).out z-> ∃r,kT E.P o a r/\ar E.T (bi X bl ρ w) w ρ bl z r:=λ af d=>by
   have:=dt h hc (D.pr d);exact⟨_,λ w'=>RE k (by rw[g,af]) rfl,this⟩
  split at d
  ·cases b with
   |true=>exact tk rfl d
   |false=>exact i rfl d
  ·rename_i j _
   split at d
   ·rename_i l
    have:=h.dT.eg _ (ob l)
    have e:a.eval (.tmp j)= .bool true:=this
    rw[g]at e
    exact tk (by injection e) d
   ·rename_i l
    have:=h.dT.eg _ (ob l)
    have e:a.eval (.tmp j)= .bool false:=this
    rw[g]at e
    exact i (by injection e) d
   ·split at d
    ·rename_i u v p q
     obtain⟨r,s,J⟩:=aDF (a:=a) (x:=x) (y:=y) d (λ af=>dt h (show jF a ((j,true)::cur) from⟨by subst af;exact g,hc⟩) p) (λ af=>dt h (show jF a ((j,false)::cur) from⟨by subst af;exact g,hc⟩) q)
     exact⟨r,λ w'=>aLP k g s,J⟩
    ·exact d.elim
  ·exact d.elim
 ·exact d.elim
theorem aoc{P:Program}{o:Oper}{t t':TypeId}{x y:Operand}{A:Option Addr}{m c g i:Nat}{op:BinOp}{b:Bool}(l:kG (P.underlying t)=some .cr)(af:C' op A.isNone=some b)(j:o.op= .binOp op t x y t')(k:a.eval x= .slice A m c)(hy:a.eval y= .slice none g i)(w:World):bg P o a w (.bool b) w:=by
 obtain⟨e,p⟩:=wj l;have h:∀d:Nat,(Op.equalIn (d+1) t (.slice A m c) (.slice none g i)).run P w= .ok A.isNone w:=λ d=>by
  cases A<;>simp[Op.equalIn,run_underlying p]
 cases op<;>simp only[C',aF,reduceCtorEq]at af<;>subst af
 ·have J:(binOp .eql t (.slice A m c) (.slice none g i)).run P w= .ok (.bool A.isNone) w:=by
   simp only[binOp];simp[Op.equal,Op.maxDepth,h 9999]
  simp only[bg,execOp,j,k,hy];simp[go_sem,J]
 ·have J:(binOp .neq t (.slice A m c) (.slice none g i)).run P w= .ok (.bool (!A.isNone)) w:=by
   simp only[binOp];simp[Op.equal,Op.maxDepth,h 9999]
  simp only[bg,execOp,j,k,hy];simp[go_sem,J]
theorem akL{α:Type}{T:c9 α}{F:Nat->Prop}{v:Value}{d:α}{l:List α}(h:(b3 T).rd F w [v] (d::l)):∃g m c,v= .slice (some g) m c:=by
 obtain⟨A,c,e,_,_,_,J⟩:=h;simp only[hA,and_true]at e;subst e;rw[(J (by simp)).1];exact⟨_,_,_,rfl⟩
theorem aDd(j:Mem E.T W M0 X bl ρ w){u:aH E.T.El}{v:Value}(h:XO bl u=true)(b:ar E.T (bi X bl ρ w) w ρ bl u v):∃g m c,v= .slice (some g) m c:=by
 unfold XO at h;split at h
 ·simp only[ar]at b;exact akL b
 ·simp only[ar]at b;exact akL b.1
 ·simp only[ar]at b;exact⟨_,_,_,b⟩
 ·split at h
  ·rename_i t' p k d l hi
   rw[c7]at hi
   simp only[ar]at b
   obtain⟨_,aL,o,q,e⟩:=b
   rw[hi]at e
   obtain⟨A,c,xs,i,ak,aS⟩:=j.ok _ _ _ hi o
   rw[e (bd h),i]
   rw[i]at ak
   obtain⟨g,rfl⟩:=Gt ak (by simp)
   exact⟨_,_,_,rfl⟩
  ·cases h
 ·cases h
theorem aiE{F:Nat->Prop}{u:aH E.T.El}{v:Value}(h:O0 u=true)(b:ar E.T F w ρ bl u v):∃m c,v= .slice none m c:=by
 unfold O0 at h;split at h
 ·simp only[ar]at b;exact⟨_,_,b⟩
 ·cases h
theorem avP(l:Mem E.T W M0 X bl ρ w){t:Nat}{op:BinOp}{u v:aH E.T.El}{o:Oper}{x y:Operand}{t':TypeId}{b:Bool}(h:TK E.P bl t op u v=some b)(e:o.op= .binOp op t x y t')(i:ar E.T (bi X bl ρ w) w ρ bl u (a.eval x))(hy:ar E.T (bi X bl ρ w) w ρ bl v (a.eval y)):kT E.P o a (.bool b):=by
 unfold TK at h;split at h
 ·rename_i b0 j J ap
  obtain⟨p,q,k⟩:=aiE J hy
  split at h
  ·rename_i d
   simp only[aF]at h
   subst h
   obtain⟨m,c,ex⟩:=aiE d i
   exact λ w'=>aoc (A:=none) j ap e ex k w'
  ·split at h
   ·rename_i d
    simp only[aF]at h
    subst h
    obtain⟨g,m,c,ex⟩:=aDd l d i
    refine λ w'=>aoc (A:=some g) j ?_ e ex k w'
    cases op<;>simp only[C',aF,reduceCtorEq]at ap⊢ <;>subst ap<;>rfl
   ·cases h
 ·cases h
theorem afj(a6:c8 E)(h:R E W M0 X n f bl ρ a w)(hc:jF a cur){o:Oper}{op:Op}(k:o.op=op){z:aH E.T.El}(d:(E3 E bl f cur op).out z):∃r,ar E.T (bi X bl ρ w) w ρ bl z r/\x' E.P o a X bl ρ w r (qp E bl f cur op):=by
 have s:(∃r,kT E.P o a r/\ar E.T (bi X bl ρ w) w ρ bl z r)-> ∃r,ar E.T (bi X bl ρ w) w ρ bl z r/\x' E.P o a X bl ρ w r none:=λ⟨r,i,J⟩=>⟨r,J,i⟩
 unfold E3 at d;split at d
 ·exact s ⟨_,λ w'=>uU k rfl,dt h hc (D.pr d)⟩
 ·exact s ⟨_,λ w'=>xC k rfl,dt h hc (D.pr d)⟩
 ·exact s (avR h hc d k)
 ·split at d
  ·rename_i u v i J
   split at d
   ·rename_i b af
    have d:aH.p (.bool b)=z:=d
    subst d
    exact s ⟨_,avP h.mem af k (dt h hc i) (dt h hc J),by simp only[ar]⟩
   ·exact s (avA a6 d k (λ G=>azR G) (dt h hc i) (dt h hc J))
  ·exact d.elim
 ·split at d
  ·rename_i p i
   have d:aH.p (.bool (!p))=z:=d
   subst d
   have:=dt h hc i
   simp only[ar]at this
   exact s ⟨_,λ w'=>an' k this,by simp only[ar]⟩
  ·exact d.elim
 ·split at d
  ·rename_i m i
   have d:aH.p (.int .i64 (ax (0-m)))=z:=d
   subst d
   have:=dt h hc i
   simp only[ar]at this
   exact s ⟨_,λ w'=>aLN k this,by simp only[ar]⟩
  ·exact d.elim
 ·split at d
  ·rename_i u i
   split at d
   ·rename_i r J
    have d:aH.p r=z:=d
    subst d
    have:=dt h hc i
    simp only[ar]at this
    exact s ⟨_,avF J k this,by simp only[ar]⟩
   ·exact d.elim
  ·exact d.elim
 ·rename_i t x
  split at d
  ·rename_i p i
   obtain⟨ec,us,v,H,C,I,M,K⟩:=avM a6.tb h.mem (dt h hc i) d
   refine⟨v,C,?_⟩
   simp only[qp,i,x']
   refine⟨ec.block,λ w'=>fa w' ec us,?_,I,λ w' F=>I.law F,λ w' F=>M o a x w' k H F⟩
   revert K
   cases W_ p<;>exact λ h=>h
  ·exact d.elim
 ·split at d
  ·rename_i p off nT sz i J
   split at d
   ·rename_i L
    obtain⟨g,q,B,ak⟩:=aDS L (D.pr d) (dt h hc i)
    obtain⟨cb,P,H,C,I,M,K,O⟩:=afx J
    subst I
    exact s ⟨_,λ w'=>RC H C K O k B,ak⟩
   ·exact d.elim
  ·exact d.elim
 ·split at d
  ·rename_i p i
   split at d
   ·rename_i L
    have d:p=z:=d
    subst d
    have:=dt h hc i
    obtain⟨q,e⟩:=ahg L this
    exact s ⟨_,λ w'=>Lz k e,by rw[<-e];exact this⟩
   ·exact d.elim
  ·exact d.elim
 ·split at d
  ·rename_i l i
   have:=dt h hc i
   simp only[ar]at this
   obtain⟨vs,B,ak⟩:=this
   have hi:=D.pr d
   rw[c7]at hi
   obtain⟨v,aS,bN⟩:=ak.at_ hi
   exact s ⟨v,λ w'=>Ly (vs:=vs) k B aS,bN⟩
  ·exact d.elim
 ·split at d
  ·rename_i us i
   have d:aH.f _ us=z:=d
   subst d
   have:=zx h hc i
   refine s ⟨_,λ w'=>?_,by simp only[ar];exact⟨_,rfl,this⟩⟩
   simp only[bg,execOp,k,Instr.makeFunc]
   simp only[gX,hS]
   rfl
  ·exact d.elim
 ·split at d
  ·rename_i us i
   have d:aH.h _ us=z:=d
   subst d
   have:=zx h hc i
   refine s ⟨_,λ w'=>?_,by simp only[ar];exact⟨_,rfl,this⟩⟩
   simp only[bg,execOp,k,Instr.makeFunc]
   simp only[gX,hS]
   rfl
  ·exact d.elim
 ·split at d
  ·rename_i y i J
   have d:aH.i _ y=z:=d
   subst d
   exact s ⟨_,λ w'=>aLC J k rfl,by simp only[ar];exact⟨_,rfl,dt h hc i⟩⟩
  ·exact d.elim
 ·split at d
  ·rename_i u v i J
   exact s (avH h.mem d k (dt h hc i) (dt h hc J))
  ·exact d.elim
 ·split at d
  ·rename_i p j i J ap
   obtain⟨b,H,C⟩:=d
   have C:aH.p (.int .u8 (b.toNat:Int))=z:=C
   subst C
   have B:=dt h hc i
   have ak:=dt h hc J
   simp only[ar]at B ak
   exact s ⟨_,λ w'=>aLE (wj ap) k B ak H,by simp only[ar]⟩
  ·exact d.elim
 ·split at d
  ·rename_i u lo hi i J ap
   exact s (avE h.mem d k (dt h hc i) (aiU h hc J) (aiU h hc ap))
  ·exact d.elim
 ·split at d
  ·rename_i u lo hi i J ap
   exact s (aws h.mem d k (dt h hc i) (dt h hc J) (dt h hc ap))
  ·exact d.elim
 ·split at d
  ·rename_i u v i J
   obtain⟨r,q,B,ak,aS⟩:=avN a6 h.mem d k (dt h hc i) (dt h hc J)
   refine⟨r,B,?_⟩
   simp only[qp,i,x']
   refine⟨q,λ w'=>w'.heap[q]? =w.heap[q]?,?_,rfl,λ w' F=>F,aS⟩
   revert ak
   cases C1 u<;>exact λ h=>h
  ·exact d.elim
 ·split at d
  ·rename_i u i
   exact s (avQ d k (dt h hc i))
  ·exact d.elim
 ·split at d
  ·rename_i ys i
   obtain⟨v,B,ak⟩:=avB (XT h hc i) d
   exact s ⟨v,λ w'=>ak o a _ w' k rfl,B⟩
  ·exact d.elim
 ·split at d
  ·rename_i x t _ u i
   split at d
   ·rename_i Q G
    obtain⟨r,q,B,ak,aS⟩:=avK h.mem d k (dt h hc i)
    refine⟨r,B,?_⟩
    simp only[qp,G,i,x']
    refine⟨q,λ w'=>w'.heap[q]? =w.heap[q]?,?_,rfl,λ w' F=>F,aS⟩
    revert ak
    cases C1 u<;>exact λ h=>h
   ·rename_i G
    have:=s (avL h.mem d k (dt h hc i))
    simpa only[qp,G]using this
  ·exact d.elim
 ·split at d
  ·rename_i e A m c aj i
   have d:aH.p (.int .i64 (c:Int))=z:=d
   subst d
   have N:=dt h hc i
   simp only[ar]at N
   exact s ⟨_,λ w'=>aLv (sq (e:=e.1) (n:=e.2) aj).1 k N,by simp only[ar]⟩
  ·exact d.elim
 ·exact d.elim
end
end bc
namespace bc
open Go Go.RowKit aw I
structure eo (El:Nat->Type) where
 y:Option (aH El)
 bl:List (aD El)
 ws:List Nat
section
variable{T:bR}{W w w':World}{M0:List Nat}{X:Nat->Prop}{bl:List (aD T.El)}{ρ:List Value}
theorem Mem.aiQ(a:Mem T W M0 X bl ρ w){k:Nat}(h:pT bl ρ k): ¬X k:=λ b=>by
 have c:=a.hL k b;rcases(a.lt k h).2 with e |e
 ·exact c.2 e
 ·omega
theorem Gy{α:Type}{l:List α}{i:Nat}{x:α}(h:l[i]? =some x):l.set i x=l:=by
 obtain⟨a,J⟩:=aO.1 h;rw[<-J,me]
theorem Mem.freeze(a:Mem T W M0 X bl ρ w){i t g k:Nat}{l:List (T.El t)}(hi:bl[i]? =some (.r t g k l)):Mem T W M0 X (bl.set i (.z t g k l)) ρ w/\To X bl (bl.set i (.z t g k l)) ρ ρ w w:=by
 obtain⟨h,b⟩:=a.rY hi;have d:=a.Dq (B':=aD.z t g k l) (h':=h) (w':=w) hi b (bp.refl _ _) (λ q f=>by simp[bB]at f) ⟨λ _=>rfl,cC _,λ _=>⟨rfl,rfl,cC _,λ _=>rfl⟩⟩;have m:=a.gP (B':=aD.z t g k l) (h':=h) (w':=w) hi b (bp.refl _ _) (λ q f=>by simp[bB]at f) d (by
  obtain⟨A,c,xs,rfl,J,ap⟩:=a.ok i _ _ hi b;obtain⟨c1,c2,c3,c4⟩:=J.cap;refine⟨A,c,rfl,c1,c2,c3,λ s=>?_⟩;have u:0<l.length:=lD.2 s;obtain⟨gb,rfl,v,hc,n⟩:=uw u J;refine⟨rfl,?_,xs,ov _ d.F ap,by simpa[dv,fF]using hc⟩;have o:pT bl ρ gb:=⟨i,_,_,hi,b,by simp only[bB];rw[n];simp⟩
  refine⟨by simpa[dv]using a.aiQ o,?_,by simpa[dv]using(a.lt gb o).1⟩;rintro⟨j,B,g',aA,p,r⟩;by_cases e:j=i
  ·subst e
   rw[fH (aO.1 hi).1]at aA
   cases aA
   simp[bB]at r
  ·rw[jg (Ne.symm e)]at aA
   rw[jg (Ne.symm e)]at p
   exact a.bz i j _ _ _ _ hi b aA p (Ne.symm e) gb (by simp only[bB];rw[n];simp) (by simpa[dv]using r))
 rw[Gy b]at m d;exact⟨m,d⟩
end
def gk{El:Nat->Type}(bl:List (aD El)):aH El->List (aD El)×aH El
 | .r i g=>match nth bl i with
   |some (.r t a k l)=>match bS g a with
    |true=>(bl.set i (.z t a k l),.s t l)
    |false=>(bl,.r i g)
   |some (.z t a _ l)=>match bS g a with
    |true=>(bl,.s t l)
    |false=>(bl,.r i g)
   |_=>(bl,.r i g)
 | .q t l=>(bl,.s t l)
 |y=>(bl,y)
def nR{El:Nat->Type}:List (aD El)->List (aH El)->List (aD El)×List (aH El)
 |bl,[]=>(bl,[])
 |bl,y::r=>match gk bl y with
  |(bl',e9)=>match nR bl' r with
   |(a,b)=>(a,e9::b)
section
variable{T:bR}{W w w':World}{M0:List Nat}{X:Nat->Prop}{bl:List (aD T.El)}{ρ:List Value}
theorem afF(b:Mem T W M0 X bl ρ w){y e9:aH T.El}{bl':List (aD T.El)}{v:Value}(h:gk bl y=(bl',e9))(a:ar T (bi X bl ρ w) w ρ bl y v):Mem T W M0 X bl' ρ w/\To X bl bl' ρ ρ w w/\ar T (bi X bl' ρ w) w ρ bl' e9 v:=by
 have same:∀ {u:aH T.El},(bl,u)=(bl',e9)->ar T (bi X bl ρ w) w ρ bl u v->Mem T W M0 X bl' ρ w/\To X bl bl' ρ ρ w w/\ar T (bi X bl' ρ w) w ρ bl' e9 v:=λ{u} h j=>by
  simp only[ca]at h;obtain⟨rfl,rfl⟩:=h;exact⟨b,.refl,j⟩
 unfold gk at h;split at h
 ·rename_i i g
  split at h
  ·rename_i t m k l hi
   rw[c7]at hi
   split at h
   ·rename_i af
    have af:=bd af
    subst af
    simp only[ca]at h
    obtain⟨rfl,rfl⟩:=h
    obtain⟨c,J⟩:=b.freeze hi
    refine⟨c,J,?_⟩
    have d:=J.v a
    simp only[ar]at d⊢
    obtain⟨_,aL,n,o,e⟩:=d
    have f:(bl.set i (aD.z t g k l))[i]? =some (aD.z t g k l):=fH (aO.1 hi).1
    rw[f]at e
    rw[e rfl]
    exact c.ok i _ _ f n
   ·exact same h a
  ·rename_i t m k l hi
   rw[c7]at hi
   split at h
   ·rename_i af
    refine same h ?_
    have:=O1 b a
    simp only[nm,c7,hi,af]at this
    exact this
   ·exact same h a
  ·exact same h a
 ·refine same h ?_
  simp only[ar]at a⊢
  exact a.1
 ·exact same h a
theorem MZ:∀ {ys a:List (aH T.El)}{bl bl':List (aD T.El)}{vs:List Value},Mem T W M0 X bl ρ w->nR bl ys=(bl',a)->a7 T (bi X bl ρ w) w ρ bl ys vs->Mem T W M0 X bl' ρ w/\To X bl bl' ρ ρ w w/\a7 T (bi X bl' ρ w) w ρ bl' a vs
 |[],a,bl,bl',vs,c,h,b=>by
  simp only[nR,ca]at h;obtain⟨rfl,rfl⟩:=h;exact⟨c,.refl,b⟩
 |y::r,a,bl,bl',vs,c,h,b=>by
  simp only[a7]at b;obtain⟨u,us,rfl,g,i⟩:=b;simp only[nR]at h;cases d:gk bl y with
  |mk j n=>
   rw[d]at h
   cases J:nR j r with
   |mk o p=>
    rw[J]at h
    simp only[ca]at h
    obtain⟨rfl,rfl⟩:=h
    obtain⟨k,e,v1⟩:=afF c d g
    obtain⟨l,f,m⟩:=MZ k J (e.vs i)
    refine⟨l,e.trans f,?_⟩
    simp only[a7]
    exact⟨u,us,rfl,f.v v1,m⟩
end
section
variable{E:Env}{W w w':World}{M0:List Nat}{X:Nat->Prop}{n:cB}{f:cy E.T.El}{bl:List (aD E.T.El)}{ρ:List Value}{a:Act}{cur:List (Nat×Bool)}
def gV(E:Env)(o:Oper)(a:Act)(W:World)(M0:List Nat)(X:Nat->Prop)(bl:List (aD E.T.El))(ρ:List Value)(w:World)(e:eo E.T.El):Prop:=
 ∃w' ρ',Mem E.T W M0 X e.bl ρ' w'/\To X bl e.bl ρ ρ' w w'/\(∀k,k<w.heap.size->(∀i∈e.ws,∀B h,bl[i]? =some B->ρ[i]? =some h->k∉bB B h)->w'.heap[k]? =w.heap[k]?)/\
  match e.y with
  |some y=>∃v,bg E.P o a w v w'/\ar E.T (bi X e.bl ρ' w') w' ρ' e.bl y v
  |none=>rh E.P o a w w'
theorem aiC(c:Mem E.T W M0 X bl ρ w){o:Oper}{t:Nat}{cs:List (aH E.T.El)}{vs:List Value}(g:a7 E.T (bi X bl ρ w) w ρ bl cs vs)(hy:bg E.P o a w (.pointer (some ⟨w.heap.size,0,none⟩)) (w.alloc (.cells ⟨vs⟩ t))) :
 gV E o a W M0 X bl ρ w ⟨some (.b bl.length 0),bl++[.c t cs],[]⟩:=by
 have d:bp [] w (w.alloc (.cells ⟨vs⟩ t)):=bp.alloc _ _ _
 have ad:∀k∈bB (aD.c t cs) (.pointer (some ⟨w.heap.size,0,none⟩)),w.heap.size<=k/\k<(w.alloc (.cells ⟨vs⟩ t)).heap.size:=λ k b=>by
  simp only[bB,af,dR]at b;subst b;simp
 have e:=c.z1 (B:=aD.c t cs) (h:=.pointer (some ⟨w.heap.size,0,none⟩)) d ad
 refine⟨_,ρ++[.pointer (some ⟨w.heap.size,0,none⟩)],c.push d ad ⟨_,vs,rfl,heap_alloc_new w _,e.vs g⟩,e,λ k b _=>d.block k b (by simp),_,hy,?_⟩
 simp only[ar]
 exact⟨_,by rw[<-c.len];simp,rfl⟩
theorem aCO(c:Mem E.T W M0 X bl ρ w){o:Oper}{kt vt:Nat}{K:hX (E.T.El kt)}(e:(E.T.e kt).key=some K)(hy:bg E.P o a w (.map (some w.heap.size)) (w.alloc (.map #[] 0))) :
 gV E o a W M0 X bl ρ w ⟨some (.m bl.length),bl++[.m kt vt []],[]⟩:=by
 have d:bp [] w (w.alloc (.map #[] 0)):=bp.alloc _ _ _
 have ad:∀k∈bB (aD.m kt vt ([]:List (E.T.El kt×E.T.El vt))) (.map (some w.heap.size)),w.heap.size<=k/\k<(w.alloc (.map #[] 0)).heap.size:=λ k b=>by
  simp only[bB,af,dR]at b;subst b;simp
 have g:=c.z1 (B:=aD.m kt vt ([]:List (E.T.El kt×E.T.El vt))) (h:=.map (some w.heap.size)) d ad
 refine⟨_,ρ++[.map (some w.heap.size)],c.push d ad ⟨_,rfl,K,e,#[],0,heap_alloc_new w _,trivial,by simp,by simp⟩,g,λ k b _=>d.block k b (by simp),_,hy,?_⟩
 simp only[ar]
 exact⟨_,by rw[<-c.len];simp,rfl⟩
def O9{El:Nat->Type}:aH El->Bool
 | .a _=>false
 | .u _=>false
 | .p v=>v.oneCell'
 |_=>true
theorem aDu{F:Nat->Prop}{y:aH E.T.El}{v:Value}(h:O9 y=true)(B:ar E.T F w ρ bl y v):v.oneCell'=true:=by
 cases y with
 |p u=>simp only[ar]at B;subst B;exact h
 |a l=>simp[O9]at h
 |b i o=>simp only[ar]at B;obtain⟨g,_,rfl⟩:=B;rfl
 |x t d o=>simp only[ar]at B;obtain⟨_,_,_,rfl,_⟩:=B;rfl
 |s t l=>simp only[ar]at B;obtain⟨A,c,e⟩:=l_ _ B;subst e;rfl
 |q t l=>simp only[ar]at B;obtain⟨_,A,rfl⟩:=B;rfl
 |r i g=>simp only[ar]at B;obtain⟨A,m,c,rfl⟩:=ZX B.1;rfl
 |v i g lo hi=>simp only[ar]at B;obtain⟨A,m,c,rfl⟩:=ZX B.1;rfl
 |e i g k t j d o=>simp only[ar]at B;have:=B.1;cases v<;>simp[wh]at this;rfl
 |w i g o=>simp only[ar]at B;have:=B.1;cases v<;>simp[wh]at this;rfl
 |m i=>simp only[ar]at B;obtain⟨g,_,rfl⟩:=B;rfl
 |n _ _ _=>simp only[ar]at B;obtain⟨g,rfl,_⟩:=B;rfl
 |f fn cs=>simp only[ar]at B;obtain⟨g,rfl,_⟩:=B;rfl
 |h fn us=>simp only[ar]at B;obtain⟨g,rfl,_⟩:=B;rfl
 |u l=>simp[O9]at h
 |i t z=>simp only[ar]at B;obtain⟨g,rfl,_⟩:=B;rfl
 |pp i g sz dY=>simp only[ar]at B;obtain⟨_,_,rfl,_⟩:=B;rfl
 |zF i g sz q=>simp only[ar]at B;obtain⟨_,_,_,rfl,_⟩:=B;rfl
def wZ{El:Nat->Type}:List (aH El)->Bool
 |[]=>true
 |y::r=>O9 y&&wZ r
theorem JY{F:Nat->Prop}:∀ {ys:List (aH E.T.El)}{vs:List Value},wZ ys=true->a7 E.T F w ρ bl ys vs->vs.all (·.oneCell')=true
 |[],vs,_,b=>by simp only[a7]at b;subst b;rfl
 |y::r,vs,h,b=>by
  simp only[a7]at b;obtain⟨u,us,rfl,c,J⟩:=b;simp only[wZ,bH]at h;simp only[List.all_cons,bH];exact⟨aDu h.1 c,JY h.2 J⟩
theorem Ol:∀(l:List Value)(n:Nat)(cs:List Value),aw.lay l n cs=fE l n cs
 |l,0,cs=>by cases l<;>rfl
 |[],n+1,cs=>rfl
 |u::l,n+1,cs=>by simp only[aw.lay,fE,Ol l n cs]
def P4{El:Nat->Type}(bl:List (aD El))(i:Nat):Bool:=match nth bl i with
 |some (.r _ _ _ _)=>true
 |_=>false
def TN(E:Env)(bl:List (aD E.T.El))(t:Nat)(p y:aH E.T.El):D (eo E.T.El):=match lay E.P t,wZ (cellsOf y)with
 |some (_,sz),true=>match bS (cellsOf y).length sz with
  |true=>match p with
   | .b i o=>match nth bl i with
     |some (.c ty cs)=>match jc (o+(cellsOf y).length) cs.length with
      |true=>.ok ⟨none,bl.set i (.c ty (fE cs o (cellsOf y))),[i]⟩
      |false=>.no
     |_=>.no
   | .e i g k t' j d o=>match nth bl i with
     |some (.r b c e l)=>match bS g c,bS k e with
      |true,true=>match nR bl (fE ((E.T.e t').cs d) o (cellsOf y)),lu t' b,jc (o+(cellsOf y).length) ((E.T.e t').cs d).length with
       |(bl',cs),.isTrue h,true=>match(E.T.e t').hn cs,P4 bl' i with
        |some d',true=>.ok ⟨none,bl'.set i (.r b c (e+1) (l.set j.toNat (h▸d'))),[i]⟩
        |_,_=>.no
       |_,_,_=>.no
      |true,false=>.op (idx l j) λ d=>match nR bl (fE ((E.T.e b).cs d) o (cellsOf y)),jc (o+(cellsOf y).length) ((E.T.e b).cs d).length with
       |(bl',cs),true=>match(E.T.e b).hn cs,P4 bl' i with
        |some d',true=>.ok ⟨none,bl'.set i (.r b c (e+1) (l.set j.toNat d')),[i]⟩
        |_,_=>.no
       |_,_=>.no
      |_,_=>.no
     |_=>.no
   | .w i g o=>match nth bl i with
     |some (.k b m c cs)=>match bS g c&&jc (o+(cellsOf y).length) cs.length with
      |true=>.ok ⟨none,bl.set i (.k b m c (fE cs o (cellsOf y))),[i]⟩
      |false=>.no
     |_=>.no
   |_=>.no
  |false=>.no
 |_,_=>.no
theorem aki{o:Oper}{t g c m sz n q tb:Nat}{x y:Operand}{v:Value}{xs vs:List Value}(j:v.cells=vs.toArray)(aj:∀w,(Go.sizeOf t).run E.P w= .ok sz w)(k:bS vs.length sz=true)(l:vs.all (·.oneCell')=true)
 (p:0<n)(e:rowIs w tb m (.slice (some ⟨g,0,none⟩) n c) n xs)(b:q+vs.length<=xs.length)(r:o.op= .store t x y)(s:a.eval x= .pointer (some ⟨g,q,none⟩))(hy:a.eval y=v) :
 ∃w',rh E.P o a w w'/\bp [g] w w'/\rowIs w' tb m (.slice (some ⟨g,0,none⟩) n c) n (fE xs q vs):=by
 have d:=e.len
 have e:=e.own p
 rcases e.2 with⟨_,D⟩|⟨g',cap,cur,h,ak,aS,bN,dq,eH,i⟩
 ·omega
 ·simp only[Value.slice.injEq,aF,Addr.mk.injEq,and_true,true_and]at h
  obtain⟨rfl,rfl⟩:=h
  have u:xs.length<=cur.toList.length:=by rw[<-i,gw];omega
  obtain⟨w',z,A,B⟩:=ab6 (tb:=tb) (cs:=cur.toList) j aj k l (by simpa using gJ b (by simpa using u)) (show(ba.cg g tb cur.toList).ok w by simpa[ba.cg]using aS) r s hy
  refine⟨w',z,A,.inl ⟨by rw[W8 b,d],.inr ⟨g,c,⟨aw.lay cur.toList q vs⟩,rfl,ak,B,bN,dq,?_,?_⟩⟩⟩
  ·rw[Ol]
   simp only[List.size_toArray]
   rw[W8 (by omega)]
   simpa using eH
  ·rw[Ol]
   simp only
   subst i
   rw[wF _ _ _ (by omega),wF _ _ _ b]
   have C:n*m<=cur.toList.length:=by have:=eH;have F:n*m<=c*m:=j1 m bN;simp;omega
   exact Z2 (by rw[d]at b;exact b) C
theorem aie{j n sz o k:Nat}(h:j<n)(J:o+k<=sz):j*sz+o+k<=n*sz:=by
 have:(j+1)*sz<=n*sz:=j1 sz h;rw[jy]at this;omega
end
end bc
namespace bc
open Go Go.RowKit aw I
section
variable{E:Env}{W w w':World}{M0:List Nat}{X:Nat->Prop}{n:cB}{f:cy E.T.El}{bl:List (aD E.T.El)}{ρ:List Value}{a:Act}{cur:List (Nat×Bool)}
theorem NV(g:Mem E.T W M0 X bl ρ w){o:Oper}{i:Nat}{B B':aD E.T.El}{h:Value}(hi:bl[i]? =some B)(c:ρ[i]? =some h)(d:bp (bB B h) w w')(ad:bB B' h=bB B h)
 (j:b1 (some B')=b1 (some B)/\jj E.T (some B')=jj E.T (some B)/\gQ (some B)<=gQ (some B')/\(gQ (some B')=gQ (some B)->ji (some B')=ji (some B)))(hy:rh E.P o a w w')
 (bO:To X bl (bl.set i B') ρ ρ w w'->iU E.T (bi X (bl.set i B') ρ w') w' ρ (bl.set i B') B' h):gV E o a W M0 X bl ρ w ⟨none,bl.set i B',[i]⟩:=by
 have l:∀k∈bB B' h,k∈bB B h\/(w.heap.size<=k/\k<w'.heap.size):=λ k e=>.inl (ad▸e)
 have b:=g.Dq (B':=B') (h':=h) hi c d l ⟨λ _=>rfl,by rw[j.1];exact cC _,λ _=>⟨rfl,j.2⟩⟩
 have aj:=Gy c
 have m:=g.gP (B':=B') (h':=h) hi c d l b (by rw[aj]at b⊢;exact bO b)
 rw[aj]at m b
 exact⟨w',ρ,m,b,λ k e p=>d.block k e (p i (by simp) B h hi c),hy⟩
theorem gV.first{o:Oper}{bl':List (aD E.T.El)}{e:eo E.T.El}(c:To X bl bl' ρ ρ w w)(d:∀i∈e.ws,∀B' h k,bl'[i]? =some B'->ρ[i]? =some h->k∈bB B' h-> ∃B,bl[i]? =some B/\k∈bB B h)(h:gV E o a W M0 X bl' ρ w e):gV E o a W M0 X bl ρ w e:=by
 obtain⟨w',ρ',j,J,ap,l⟩:=h;refine⟨w',ρ',j,c.trans J,λ k m p=>ap k m λ i hi B' g af b q=>?_,l⟩;obtain⟨B,r,s⟩:=d i hi B' g k af b q;exact p i hi B g r b s
theorem awq{bl bl':List (aD E.T.El)}{y e9:aH E.T.El}(h:gk bl y=(bl',e9))(i:Nat):bl'[i]? =bl[i]? \/ ∃t g k l,bl[i]? =some (.r t g k l)/\bl'[i]? =some (.z t g k l):=by
 unfold gk at h;split at h
 ·rename_i j g
  split at h
  ·rename_i t b k l aA
   rw[c7]at aA
   split at h
   ·simp only[ca]at h
    obtain⟨rfl,_⟩:=h
    by_cases e:i=j
    ·subst e
     exact .inr ⟨t,b,k,l,aA,fH (aO.1 aA).1⟩
    ·exact .inl (jg (Ne.symm e))
   ·simp only[ca]at h;exact .inl (by rw[h.1])
  ·split at h<;>(simp only[ca]at h;exact .inl (by rw[h.1]))
  ·simp only[ca]at h;exact .inl (by rw[h.1])
 ·simp only[ca]at h;exact .inl (by rw[h.1])
 ·simp only[ca]at h;exact .inl (by rw[h.1])
theorem MY:∀ {ys c:List (aH E.T.El)}{bl bl':List (aD E.T.El)},nR bl ys=(bl',c)-> ∀i:Nat,bl'[i]? =bl[i]? \/ ∃t g k l,bl[i]? =some (.r t g k l)/\bl'[i]? =some (.z t g k l)
 |[],c,bl,bl',h,i=>by
  simp only[nR,ca]at h;exact .inl (by rw[h.1])
 |y::r,c,bl,bl',h,i=>by
  simp only[nR]at h;cases d:gk bl y with
  |mk e j=>
   rw[d]at h
   cases J:nR e r with
   |mk m o=>
    rw[J]at h
    simp only[ca]at h
    obtain⟨rfl,_⟩:=h
    rcases awq d i with b |⟨t,g,k,l,b,ak⟩
    ·rcases MY J i with aS |⟨t,g,k,l,aS,bN⟩
     ·exact .inl (aS.trans b)
     ·exact .inr ⟨t,g,k,l,by rw[<-b];exact aS,bN⟩
    ·rcases MY J i with aS |⟨t',g',k',l',aS,bN⟩
     ·exact .inr ⟨t,g,k,l,b,by rw[aS,ak]⟩
     ·rw[ak]at aS;cases aS
theorem ah1{α:Type}:∀(l:List α)(q:Nat)(cs b:List α),q+cs.length<=l.length->fE (l++b) q cs=fE l q cs++b
 |l,0,cs,b,h=>by
  have e:∀m:List α,fE m 0 cs=cs++m.drop cs.length:=λ m=>by cases m<;>rfl
  rw[e,e,List.drop_append_of_le_length (by simpa using h),hM]
 |[],q+1,cs,b,h=>by simp at h
 |u::l,q+1,cs,b,h=>by
  simp only[jv,fE,ah1 l q cs b (by simp at h;omega)]
theorem ah2{α:Type}:∀(a l:List α)(q:Nat)(cs:List α),fE (a++l) (a.length+q) cs=a++fE l q cs
 |[],l,q,cs=>by simp
 |u::a,l,q,cs=>by
  have e:(u::a).length+q=(a.length+q)+1:=by simp only[de];omega
  rw[e];simp only[jv,fE,ah2 a l q cs]
theorem aBQ{α:Type}{xs cs0 vs:List α}{p q:Nat}(h:(xs.drop p).take cs0.length=cs0)(i:p+cs0.length<=xs.length)(b:q+vs.length<=cs0.length):xs.take p++fE cs0 q vs++xs.drop (p+cs0.length)=fE xs (p+q) vs:=by
 have c:xs=xs.take p++(cs0++xs.drop (p+cs0.length)):=by
  have d:xs.drop p=cs0++xs.drop (p+cs0.length):=by
   rw[<-List.drop_drop];have:=(ja cs0.length (xs.drop p)).symm;rwa [h]at this
  rw[<-d,ja]
 have g:(xs.take p).length=p:=by rw[gw];omega
 have e:=ah2 (xs.take p) (cs0++xs.drop (p+cs0.length)) q vs;rw[<-c,g,ah1 _ _ _ _ b,<-hM]at e;exact e.symm
theorem aet(a6:c8 E)(I:Mem E.T W M0 X bl ρ w){o:Oper}{t sz i b g k q:Nat}{l:List (E.T.El b)}{x y:Operand}{j:Int}{d d':E.T.El b}{u:aH E.T.El}{bl':List (aD E.T.El)}{cs:List (aH E.T.El)}{h:Value}{A:Option Addr}{c m:Nat}
 (aj:∀w,(Go.sizeOf t).run E.P w= .ok sz w)(V:wZ (cellsOf u)=true)(J:bS (cellsOf u).length sz=true)(hi:bl[i]? =some (.r b g k l))(K:ρ[i]? =some h)(aL:idx l j=some d)(z:q+(cellsOf u).length<=((E.T.e b).cs d).length)
 (B:P4 bl' i=true)(qc:nR bl (fE ((E.T.e b).cs d) q (cellsOf u))=(bl',cs))(Y:(E.T.e b).hn cs=some d')(r:h= .slice A m c)(Z:o.op= .store t x y)(aa:a.eval x= .pointer (some ⟨dv A,j.toNat*(E.T.ty b).size+q,none⟩))(hu:ar E.T (bi X bl ρ w) w ρ bl u (a.eval y)) :
 gV E o a W M0 X bl ρ w ⟨none,bl'.set i (.r b g (k+1) (l.set j.toNat d')),[i]⟩:=by
 have C:=oZ hu
 have L:=C.len
 obtain⟨cj,bG,xs,D,ak,aS⟩:=I.ok i _ _ hi K
 rw[r]at D
 simp only[Value.slice.injEq]at D
 obtain⟨rfl,rfl,rfl⟩:=D
 obtain⟨ahj,F,pb⟩:=lc aL
 obtain⟨gb,rfl,vL,hc,k7⟩:=uw (by omega) (r▸ak)
 obtain⟨cs0,M,bA⟩:=Kh (E.T.ty b) aS pb
 have s:=a6.tb.cells (ρ:=ρ) (bl:=bl) M
 have lQ:=s.len
 have N:=(E.T.ty b).len M
 obtain⟨m1,O,v1⟩:=MZ I qc (s.lay C z)
 have fD:=a6.tb.hn _ _ _ Y _ _ _ _ _ v1
 have P:=w5 _ aS
 have p:j.toNat*(E.T.ty b).size+q+(a.eval y).cells.toList.length<=xs.length:=by
  rw[P,L];exact aie F (by omega)
 obtain⟨w',bk,bh,cd⟩:=aki (E:=E) (a:=a) (v:=a.eval y) (vs:=(a.eval y).cells.toList) (by simp) aj (by rw[L];exact J) (JY V C) (show 0<l.length by omega) (r▸ak) p Z (by simpa[dv]using aa) rfl
 have Q:bl'[i]? =some (.r b g k l):=by
  rcases MY qc i with e |⟨t',g',k',l',bN,dq⟩
  ·exact e.trans hi
  ·unfold P4 at B
   rw[c7,dq]at B
   cases B
 have aB:bB (aD.r b g k l) h=[gb]:=by subst r;simpa[bB]using k7 _
 have G:=NV (B':=aD.r b g (k+1) (l.set j.toNat d')) (w':=w') (o:=o) (a:=a) m1 Q K (by rw[aB];exact bh) rfl ⟨rfl,rfl,Nat.le_succ _,λ e=>absurd e (by simp[gQ])⟩ bk (λ R=>by
  refine⟨some ⟨gb,0,none⟩,c,fE xs (j.toNat*(E.T.ty b).size+q) (a.eval y).cells.toList,by subst r;simp,by subst r;simpa using cd,?_⟩;have H:dE (E.T.ty b) (bi X (bl'.set i (aD.r b g (k+1) (l.set j.toNat d'))) ρ w') w' xs l:=ov _ (O.trans R).F aS;have n2:=(E.T.ty b).law R.F fD;have c0:=Zq n2 H F;have e:xs.take (j.toNat*(E.T.ty b).size)++fE cs0 q (a.eval y).cells.toList++xs.drop (j.toNat*(E.T.ty b).size+(E.T.ty b).size)=fE xs (j.toNat*(E.T.ty b).size+q) (a.eval y).cells.toList:=by
   have eI:=afm bA;have S:=aBQ (q:=q) (vs:=(a.eval y).cells.toList) eI (by rw[N,P];have:=aie (o:=0) (k:=(E.T.ty b).size) (sz:=(E.T.ty b).size) F (by omega);omega) (by omega);rw[N]at S;exact S
  rw[<-e];exact c0)
 refine gV.first O (λ i' U B' g' Dg af ay aM=>?_) G
 simp only[dR]at U
 subst U
 exact⟨_,hi,by rw[Q]at af;cases af;exact aM⟩
end
end bc
namespace bc
open Go Go.RowKit aw I
section
variable{E:Env}{W w w':World}{M0:List Nat}{X:Nat->Prop}{n:cB}{f:cy E.T.El}{bl:List (aD E.T.El)}{ρ:List Value}{a:Act}{cur:List (Nat×Bool)}
theorem avS(a6:c8 E)(z:Mem E.T W M0 X bl ρ w){o:Oper}{t:Nat}{x y:Operand}{p u:aH E.T.El}{e:eo E.T.El}(h:(TN E bl t p u).out e)(M:o.op= .store t x y)
 (B:ar E.T (bi X bl ρ w) w ρ bl p (a.eval x))(R:ar E.T (bi X bl ρ w) w ρ bl u (a.eval y)):gV E o a W M0 X bl ρ w e:=by
 unfold TN at h
 split at h
 ·rename_i b sz al N
  have aj:=(JA al).2
  split at h
  ·rename_i J
   have G:=oZ R
   have O:=G.len
   split at h
   ·rename_i i r
    split at h
    ·rename_i ty cs hi
     rw[c7]at hi
     split at h
     ·rename_i af
      have h:(⟨none,bl.set i (.c ty (fE cs r (cellsOf u))),[i]⟩:eo E.T.El)=e:=h
      subst h
      have af:=cv af
      simp only[ar]at B
      obtain⟨g,q,S⟩:=B
      obtain⟨g',vs,H,ak,aS⟩:=z.ok i _ _ hi q
      simp only[Value.pointer.injEq,aF,Addr.mk.injEq,and_true]at H
      subst H
      have U:=aS.len
      obtain⟨w',V,I,Y⟩:=ab6 (tb:=ty) (cs:=vs) (v:=a.eval y) (vs:=(a.eval y).cells.toList) (by simp) aj (by rw[O];exact J) (JY N G) (by rw[O,U];exact Nat.ble_eq_true_of_le af) (show(ba.cg g ty vs).ok w from ak) M S rfl
      refine NV (B':=aD.c ty (fE cs r (cellsOf u))) z hi q (by simpa[bB,bc.af]using I) rfl ⟨rfl,rfl,cC _,λ _=>rfl⟩ V (λ K=>⟨g,aw.lay vs r (a.eval y).cells.toList,rfl,Y,?_⟩)
      rw[Ol]
      exact(K.vs aS).lay (K.vs G) af
     ·exact h.elim
    ·exact h.elim
   ·rename_i i g k t' j d r
    split at h
    ·rename_i C g2 I l hi
     rw[c7]at hi
     simp only[ar]at B
     obtain⟨_,aL,L,Z,D⟩:=B
     rw[hi]at D
     split at h
     ·rename_i q P
      have q:=bd q
      have P:=bd P
      subst q;subst P
      obtain⟨⟨A,m,c,s,Q,bU,gd⟩,aD8,Yf⟩:=D rfl
      obtain⟨l',F,dD⟩:=Yf rfl
      split at h
      ·rename_i bl' cs aML qc aMz ID
       simp only[ji,aF,Sigma.mk.injEq]at F
       obtain⟨e3,F⟩:=F
       subst e3
       have F:=eq_of_heq F
       subst F
       split at h
       ·rename_i d' fk eJ
        have h:(⟨none,bl'.set i (.r C g (k+1) (l.set j.toNat d')),[i]⟩:eo E.T.El)=e:=h
        subst h
        exact aet a6 z aj N J hi L dD (cv ID) eJ qc fk s M (by simpa[jj]using gd) R
       ·exact h.elim
      ·exact h.elim
     ·rename_i q P
      have q:=bd q
      subst q
      obtain⟨⟨A,m,c,s,Q,bU,gd⟩,_⟩:=D rfl
      obtain⟨d1,dD,h⟩:=h
      dsimp only at h
      split at h
      ·rename_i bl' cs qc ID
       split at h
       ·rename_i d' fk eJ
        have h:(⟨none,bl'.set i (.r C g (I+1) (l.set j.toNat d')),[i]⟩:eo E.T.El)=e:=h
        subst h
        exact aet a6 z aj N J hi L dD (cv ID) eJ qc fk s M (by simpa[jj]using gd) R
       ·exact h.elim
      ·exact h.elim
     ·exact h.elim
    ·exact h.elim
   ·rename_i i g r
    split at h
    ·rename_i C s2 g2 cs hi
     rw[c7]at hi
     split at h
     ·rename_i af
      simp only[bH]at af
      have h:(⟨none,bl.set i (.k C s2 g2 (fE cs r (cellsOf u))),[i]⟩:eo E.T.El)=e:=h
      subst h
      simp only[ar]at B
      obtain⟨_,aL,L,Z,D⟩:=B
      rw[hi]at D
      have q:=bd af.1
      subst q
      obtain⟨A,m,c,s,Q,bU⟩:=D rfl
      obtain⟨cj,eW,bG,xs,H,ak,aS⟩:=z.ok i _ _ hi L
      rw[H]at s
      simp only[Value.slice.injEq]at s
      obtain⟨rfl,rfl,rfl⟩:=s
      subst H
      have IC:=cv af.2
      have ayn:=aS.len
      obtain⟨gb,rfl,vL,hc,k7⟩:=uw Q ak
      obtain⟨w',V,I,Y⟩:=aki (E:=E) (a:=a) (v:=a.eval y) (vs:=(a.eval y).cells.toList) (by simp) aj (by rw[O];exact J) (JY N G) Q ak (by rw[O,ayn];exact IC) M (by simpa[dv]using bU) rfl
      have aB:bB (aD.k C s2 g cs) (.slice (some ⟨gb,0,none⟩) eW bG)=[gb]:=by simpa[bB]using k7 _
      exact NV (B':=aD.k C s2 g (fE cs r (cellsOf u))) z hi L (by rw[aB];exact I) rfl ⟨rfl,rfl,cC _,λ _=>rfl⟩ V (λ K=>⟨_,_,_,_,rfl,Y,(K.vs aS).lay (K.vs G) IC⟩)
     ·exact h.elim
    ·exact h.elim
   ·exact h.elim
  ·exact h.elim
 ·exact h.elim
theorem aey{F:Nat->Prop}{kt vt:Nat}{K:hX (E.T.El kt)}{k:E.T.El kt}{v:E.T.El vt}{u:Value}(g:BI E.T F w vt v u):∀ {es:List MapEntry}{d:List (E.T.El kt×E.T.El vt)}{p:Nat},jA E.T F w K es d->jQ K d k=some p->jA E.T F w K (es.modify p λ e=>{ e with key:=K.enc k,val:=u }) (tZ K d k v)
 |[],[],_,_,b=>by simp[jQ,pk]at b
 |[],_::_,_,h,_=>h.elim
 |_::_,[],_,h,_=>h.elim
 |e::es,q::d,p,h,b=>by
  obtain⟨i,J,ap⟩:=h;by_cases c:q.1=k
  ·simp only[jQ,pk,if_pos c,aF]at b
   subst b
   simp only[tZ,gA,if_pos c,List.modify_zero_cons]
   exact⟨rfl,g,ap⟩
  ·simp only[jQ,pk,if_neg c,cu]at b
   obtain⟨l,j,rfl⟩:=b
   simp only[tZ,gA,if_neg c,List.modify_succ_cons]
   exact⟨i,J,aey g ap j⟩
theorem aex{F:Nat->Prop}{kt vt:Nat}{K:hX (E.T.El kt)}{k:E.T.El kt}{v:E.T.El vt}{u:Value}{c:Nat}(i:BI E.T F w vt v u):∀ {es:List MapEntry}{d:List (E.T.El kt×E.T.El vt)},jA E.T F w K es d->jQ K d k=none->jA E.T F w K (es++[{ key:=K.enc k,val:=u,born:=c }]) (tZ K d k v)
 |[],[],_,_=>⟨rfl,i,trivial⟩
 |[],_::_,h,_=>h.elim
 |_::_,[],h,_=>h.elim
 |e::es,q::d,h,b=>by
  obtain⟨j,J,ap⟩:=h;by_cases g:q.1=k
  ·simp[jQ,pk,if_pos g]at b
  ·simp only[jQ,pk,if_neg g,Option.map_eq_none_iff]at b
   simp only[tZ,gA,if_neg g,jv]
   exact⟨j,J,aex i ap b⟩
theorem aew{F:Nat->Prop}{kt vt:Nat}{K:hX (E.T.El kt)}{k:E.T.El kt}:∀ {es:List MapEntry}{d:List (E.T.El kt×E.T.El vt)}{p:Nat},jA E.T F w K es d->jQ K d k=some p-> ∃e,es[p]? =some e/\e.key=K.enc k
 |[],[],_,_,b=>by simp[jQ,pk]at b
 |[],_::_,_,h,_=>h.elim
 |_::_,[],_,h,_=>h.elim
 |e::es,q::d,p,h,b=>by
  obtain⟨g,J,ap⟩:=h;by_cases c:q.1=k
  ·simp only[jQ,pk,if_pos c,aF]at b
   subst b
   exact⟨e,rfl,by rw[g,c]⟩
  ·simp only[jQ,pk,if_neg c,cu]at b
   obtain⟨j,i,rfl⟩:=b
   simpa using aew ap i
def MJ(E:Env)(bl:List (aD E.T.El))(t:Nat)(u k v:aH E.T.El):D (eo E.T.El):=match u,mapOf E.P t with
 | .m i,some (b,_)=>match nth bl i with
   |some (.m kt vt d)=>match(E.T.e kt).key with
    |some K=>match nR bl (cellsOf v)with
     |(bl',cs)=>match Mt (E.P.underlying b) K.desc,(E.T.e kt).hn (cellsOf k),(E.T.e vt).hn cs,(match lf k with|true=>(E.T.e kt).agg |false=>!(E.T.e kt).agg)&&(match lf v with|true=>(E.T.e vt).agg |false=>!(E.T.e vt).agg)with
      |true,some key,some val,true=>.ok ⟨none,bl'.set i (.m kt vt (tZ K d key val)),[i]⟩
      |_,_,_,_=>.no
    |none=>.no
   |_=>.no
 |_,_=>.no
theorem afi(a6:c8 E)(hm:Mem E.T W M0 X bl ρ w){o:Oper}{t:Nat}{x y z:Operand}{u k v:aH E.T.El}{e:eo E.T.El}(h:(MJ E bl t u k v).out e)(aq:o.op= .mapUpdate t x y z\/o.op= .insert t x y z)
 (P:ar E.T (bi X bl ρ w) w ρ bl u (a.eval x))(hy:ar E.T (bi X bl ρ w) w ρ bl k (a.eval y))(Q:ar E.T (bi X bl ρ w) w ρ bl v (a.eval z)):gV E o a W M0 X bl ρ w e:=by
 unfold MJ at h
 split at h
 ·rename_i i R aNc D
  split at h
  ·rename_i kt vt d hi
   rw[c7]at hi
   split at h
   ·rename_i K F
    split at h
    rename_i bl' cs qc
    split at h
    ·rename_i key val aL VO tM G
     have h:(⟨none,bl'.set i (.m kt vt (tZ K d key val)),[i]⟩:eo E.T.El)=e:=h
     subst h
     simp only[bH]at G
     simp only[ar]at P
     obtain⟨r,S,U⟩:=P
     have V:a.eval y=K.enc key:=by
      have j:=a6.tb.hn _ _ _ VO _ _ _ _ _ (oZ hy);exact(SG hy G.1).trans (a6.tb.key _ _ F _ _ _ _ j)
     obtain⟨Y,t1,v1⟩:=MZ hm qc (oZ Q)
     have fD:=a6.tb.hn _ _ _ tM _ _ _ _ _ v1
     have H:bl'[i]? =some (.m kt vt d):=by
      rcases MY qc i with e |⟨t',g',k',l',bN,dq⟩
      ·exact e.trans hi
      ·rw[hi]at bN;cases bN
     have m:BI E.T (bi X bl' ρ w) w vt val (a.eval z):=⟨_,fD,SG Q G.2⟩
     obtain⟨eM,j,acE,Z,es,clock,s,B,bU,gd⟩:=Y.ok i _ _ H S
     simp only[Value.map.injEq,aF]at j
     subst j
     rw[F]at Z
     cases Z
     have hu:=Xk D
     have I:=adS aL
     have bC:r<w.heap.size:=(fJ.1 s).1
     have iZ:∀L:Obj,bp [r] w { w with heap:=w.heap.setIfInBounds r L }:=λ L=>⟨rfl,rfl,rfl,by simp,λ q _ aC=>by
      show(w.heap.setIfInBounds r L)[q]? =_
      rw[fe,if_neg (λ e=>aC (by simp[e]))]⟩
     refine gV.first t1 (λ i' IR B' g' Dg af ay aM=>?_) ?_
     ·simp only[dR]at IR
      subst IR
      rw[H]at af
      cases af
      exact⟨_,hi,aM⟩
     have fin:∀(l:Array MapEntry)(A:Nat),rh E.P o a w { w with heap:=w.heap.setIfInBounds r (.map l A) } ->jA E.T (bi X bl' ρ w) w K l.toList (tZ K d key val)->(l.toList.map (·.born)).Pairwise (·< ·)->(∀e∈l.toList,e.born<A) ->
      gV E o a W M0 X bl' ρ w ⟨none,bl'.set i (.m kt vt (tZ K d key val)),[i]⟩:=λ l A Wk h1 J ap=>by
      refine NV (B':=aD.m kt vt (tZ K d key val)) (w':={ w with heap:=w.heap.setIfInBounds r (.map l A) }) Y H S (by simpa[bB,bc.af]using iZ _) rfl ⟨rfl,rfl,cC _,λ _=>rfl⟩ Wk (λ aK=>⟨r,rfl,K,F,l,A,by simp[bC],h1.law aK.F,J,ap⟩)
     rcases ZK (vt:=vt) key I B w with⟨f1,C,f3⟩|⟨p,an4,GL,f1,C,f3,f4⟩
     ·refine fin (es.push { key:=K.enc key,val:=a.eval z,born:=clock }) (clock+1) ?_ ?_ ?_ ?_
      ·rcases aq with aq |aq<;>
       ·simp only[rh,execOp,aq,U,V,Instr.mapUpdate,Sem.run_bind,run_underlying hu,Result.andThen_ok,MapKept.run_getObj_map s,@lC.check _ K.dec K.rX E.P w false R key I,f3,MapKept.run_setObj_map _ s]
        rfl
      ·simpa using aex m B C
      ·simp only[Array.toList_push,kc,eu,hS,List.pairwise_append]
       refine⟨bU,by simp,λ b af c hc=>?_⟩
       obtain⟨e,g,rfl⟩:=hB.1 af
       simp only[dR]at hc
       subst hc
       exact gd e g
      ·intro e g
       simp only[Array.toList_push,b_,dR]at g
       rcases g with g |rfl
       ·exact Nat.lt_succ_of_lt (gd e g)
       ·exact lv _
     ·obtain⟨e,g,M⟩:=aew (k:=key) B C
      have N:es[p]? =some e:=by simpa using g
      have Fg:((es.modify p λ e=>{ e with key:=K.enc key,val:=a.eval z }).toList.map (·.born))=es.toList.map (·.born):=by
       rw[Array.toList_modify];apply kL;intro i;simp only[jb,List.getElem?_modify];cases hi:es.toList[i]? with
       |none=>simp
       |some e'=>by_cases Nx:p=i<;>simp[Nx]
      refine fin (es.modify p λ e=>{ e with key:=K.enc key,val:=a.eval z }) clock ?_ ?_ ?_ ?_
      ·have I1:(Instr.keyThatStays e.key (K.enc key)).run E.P w= .ok (K.enc key) w:=by
        rw[M];simp only[Instr.keyThatStays,@lC.bits _ K.dec K.rX,if_true];rfl
       rcases aq with aq |aq<;>
       ·simp only[rh,execOp,aq,U,V,Instr.mapUpdate,Sem.run_bind,run_underlying hu,Result.andThen_ok,MapKept.run_getObj_map s,@lC.check _ K.dec K.rX E.P w false R key I,f4,N,fm,iM,I1,MapKept.run_setObj_map _ s]
        rfl
      ·rw[Array.toList_modify];exact aey m B C
      ·rw[Fg];exact bU
      ·intro j Vq
       have:j.born∈es.toList.map (·.born):=by rw[<-Fg];exact hB.2 ⟨j,Vq,rfl⟩
       obtain⟨ak,O,heq⟩:=hB.1 this
       rw[<-heq];exact gd ak O
    ·exact h.elim
   ·exact h.elim
  ·exact h.elim
 ·exact h.elim
end
end bc
namespace bc
open Go Go.RowKit aw I
section
variable{P:Program}{w w':World}
def EC(w:World)(sz m:Nat)(A:Option Addr)(news:List Value):Prop:=(m=0/\news=[])\/ ∃ec,A=some ec/\news.length=m*sz/\(∀j u,news[j]? =some u->w.cell? (ec.add j)=some u)/\ ∀u∈news,u.oneCell'=true
theorem aGJ{t ty e:TypeId}{i:TypeInfo}(d:P.underlying t=some (.slice e))(hi:P.info? e=some i)(A b:Option Addr)(n c c2:Nat)(a:n<=c):(Builtin.append_ #[t,t] ty #[.slice A n c,.slice b 0 c2]).run P w= .ok (.slice A n c) w:=by
 cases A<;>cases b<;>simp[Builtin.append_,run_underlying d,Go.sizeOf,typeInfo,hi,Builtin.lenOf,Builtin.firstCells,a,storeCells,loadCells,loadCellsFrom]
theorem rowIs.short{t sz n c k:Nat}{A:Option Addr}{xs:List Value}(e:rowIs w t sz (.slice A n c) n xs)(b:k<=n):rowIs w t sz (.slice A k c) k (xs.take (k*sz)):=by
 have j:=e.len;have d:k*sz<=n*sz:=j1 sz b;rcases e with e |⟨rfl,rfl,cj,e⟩
 ·rcases e.2 with⟨a,l⟩|⟨g,cap,cur,a,J,ap,m,f,h,i⟩
  ·simp only[Value.slice.injEq]at a
   obtain⟨rfl,rfl,rfl⟩:=a
   have:k=0:=by omega
   subst this
   exact .inl ⟨by simp,.inl ⟨rfl,rfl⟩⟩
  ·simp only[Value.slice.injEq]at a
   obtain⟨rfl,_,rfl⟩:=a
   refine .inl ⟨by rw[gw];omega,.inr ⟨g,c,cur,rfl,J,ap,by omega,f,h,?_⟩⟩
   rw[<-i,List.take_take,lJ d]
 ·have:k=0:=by omega
  subst this
  simp only[Value.slice.injEq]at e
  obtain⟨rfl,_,rfl⟩:=e
  exact .inr ⟨rfl,by simp,A,rfl⟩
theorem ac0{t ty e:TypeId}{i:TypeInfo}{z:Value}{bytes sz:Nat}(s:P.underlying t=some (.slice e))(hi:P.info? e=some i)(C:i.zero=some z)(D:i.size=sz)(E:i.bytes=bytes)(F:z.cells.size=sz)(G:0<sz)
 {A v:Option Addr}{n c m c2:Nat}{xs news:List Value}(x:rowIs w e sz (.slice A n c) n xs)(aj:EC w sz m v news)(H:n+m<=maxLen)(af:(n+m)*bytes<=140737488355328) :
 ∃cj I w',(Builtin.append_ #[t,t] ty #[.slice A n c,.slice v m c2]).run P w= .ok (.slice cj (n+m) I) w'/\rowIs w' e sz (.slice cj (n+m) I) (n+m) (xs++news)/\bp (bc.af (.slice A n c)) w w'/\ ∀k∈bc.af (.slice cj (n+m) I),k∈bc.af (.slice A n c)\/(w.heap.size<=k/\k<w'.heap.size):=by
 have N:=x.cap
 rcases lj m with O |hm
 ·subst O
  have K:news=[]:=by
   rcases aj with⟨_,h⟩|⟨_,_,h,_⟩
   ·exact h
   ·exact hf (by simpa using h)
  subst K
  exact⟨A,c,w,aGJ s hi A v n c c2 N.1,by simpa using x,bp.refl _ _,λ k a=>.inl a⟩
 ·obtain⟨ec,rfl,L,M,Q⟩:∃ec,v=some ec/\news.length=m*sz/\(∀j u,news[j]? =some u->w.cell? (ec.add j)=some u)/\ ∀u∈news,u.oneCell'=true:=by
   rcases aj with⟨h,_⟩|h
   ·omega
   ·exact h
  have grow:∀ {d:Value}{w':World}{b:Nat},w'.ownsRow b e sz d (n+m) (xs++news)-> ∃g cap cur,d= .slice (some ⟨g,0,none⟩) (n+m) cap/\b<=g/\w'.heap[g]? =some (.cells cur e (0,0))/\n+m<=cap:=λ{d w' b} h=>by
   rcases h.2 with⟨_,O⟩|⟨g,cap,cur,S,J,ap,T,_⟩
   ·omega
   ·exact⟨g,cap,cur,S,J,ap,T⟩
  have o:∀ {d:Value}{w':World}{b:Nat},w'.ownsRow b e sz d (n+m) (xs++news)->w'.ownsRow 0 e sz d (n+m) (xs++news):=λ{d w' b} h=>⟨h.1,h.2.imp id λ⟨g,cap,cur,U,_,l⟩=>⟨g,cap,cur,U,gK _,l⟩⟩
  rcases lj c with hc |hc
  ·subst hc
   have K:n=0:=by omega
   subst K
   have V:xs=[]:=hf (by rw[x.len];simp)
   subst V
   have W:bc.af (.slice A 0 0)=[]:=by cases A<;>rfl
   rw[W]
   cases A with
   |none=>
    obtain⟨d,w',p,f,r,_,R⟩:=run_append_own_at (P:=P) w w.heap.size t ty e i z sz bytes s hi C D E F G (.slice none 0 0) 0 [] ⟨by simp,.inl ⟨rfl,rfl⟩⟩ ec m c2 news L M Q H af (cC _)
    obtain⟨g,cap,cur,rfl,y,l,gd⟩:=grow (b:=w.heap.size) f
    refine⟨_,_,w',p,.inl (o f),bp.grown r,λ k a=>?_⟩
    right
    have:k=g:=by
     cases cap with
     |zero=>simp[bc.af]at a
     |succ q=>simpa[bc.af]using a
    subst this
    exact⟨y,(fJ.1 l).1⟩
   |some b=>
    obtain⟨d,w',p,f,r⟩:=run_append_arg_grows (P:=P) w t ty e i z sz bytes s hi C D E F G b 0 0 [] (by simp) (λ j u X=>by simp at X) ec m c2 news L M (by omega) H af
    obtain⟨g,cap,cur,rfl,y,l,gd⟩:=grow (b:=w.heap.size) f
    refine⟨_,_,w',p,.inl (o f),bp.grown r,λ k a=>?_⟩
    right
    have:k=g:=by
     cases cap with
     |zero=>simp[bc.af]at a
     |succ q=>simpa[bc.af]using a
    subst this
    exact⟨y,(fJ.1 l).1⟩
  ·obtain⟨B,rfl⟩:=N.2.2.2 hc
   have Y:w.ownsRow 0 e sz (.slice (some ⟨B,0,none⟩) n c) n xs:=by
    rcases x with h |⟨_,_,cj,h⟩
    ·exact h
    ·simp only[Value.slice.injEq]at h;omega
   obtain⟨d,w',p,f,r,_,R⟩:=run_append_own_at (P:=P) w 0 t ty e i z sz bytes s hi C D E F G (.slice (some ⟨B,0,none⟩) n c) n xs Y ec m c2 news L M Q H af (gK _)
   obtain⟨g,cap,cur,rfl,y,l,gd⟩:=grow (b:=0) f
   have Z:bc.af (.slice (some ⟨B,0,none⟩) n c)=[B]:=by
    cases c with
    |zero=>omega
    |succ c=>rfl
   rw[Z]
   refine⟨_,_,w',p,.inl f,bp.grown r,λ k a=>?_⟩
   have:k=g:=by
    cases cap with
    |zero=>simp[bc.af]at a
    |succ q=>simpa[bc.af]using a
   subst this
   rcases R with dq |dq
   ·left
    simp only[Value.ownBlock,aF]at dq
    simp[dq]
   ·right
    simp only[Value.ownBlock,aF]at dq
    rw[dq]
    refine⟨cC _,?_⟩
    rw[<-dq]
    exact(fJ.1 l).1
end
def td(P:Program)(t:TypeId):Option (Nat×Nat×Nat):=match P.underlying t with
 |some (.slice e)=>match P.info? e with
  |some i=>match i.zero with
   |some z=>match bS z.cells.size i.size&&ez 0 i.size&&ez 0 i.bytes with
    |true=>some (e,i.size,i.bytes)
    |false=>none
   |none=>none
  |none=>none
 |_=>none
theorem yn{P:Program}{t e sz bZ:Nat}(h:td P t=some (e,sz,bZ)):P.underlying t=some (.slice e)/\ ∃i z,P.info? e=some i/\i.zero=some z/\i.size=sz/\i.bytes=bZ/\z.cells.size=sz/\0<sz/\0<bZ:=by
 unfold td at h;split at h
 ·rename_i e' b
  split at h
  ·rename_i i J
   split at h
   ·rename_i z ap
    split at h
    ·rename_i a
     simp only[aF,ca]at h
     obtain⟨rfl,rfl,rfl⟩:=h
     simp only[bH]at a
     exact⟨b,i,z,J,ap,rfl,rfl,bd a.1.1,cv a.1.2,cv a.2⟩
    ·cases h
   ·cases h
  ·cases h
 ·cases h
def yh{El:Nat->Type}(t t':Nat)(l:List (El t)):Option (List (El t')):=match lu t t' with
 | .isTrue h=>some (h▸l)
 | .isFalse _=>none
def FJ{El:Nat->Type}{t:Nat}(e:b4 El t):List (List (aH El))->Option (List (El t))
 |[]=>some []
 |c::r=>match e.hn c,FJ e r with
  |some d,some ds=>some (d::ds)
  |_,_=>none
def EP{α:Type}(sz:Nat):Nat->List α->List (List α)
 |0,_=>[]
 |n+1,l=>l.take sz::EP sz n (l.drop sz)
def KL(E:Env)(bl:List (aD E.T.El))(t:Nat):aH E.T.El->Option (List (E.T.El t))
 | .s t' l=>yh t' t l
 | .q t' l=>yh t' t l
 | .p (.slice none 0 0)=>some []
 | .p (.slice (some _) 0 _)=>some []
 | .r j g=>match nth bl j with
   |some (.r t' a _ l)=>match bS g a with
    |true=>yh t' t l
    |false=>none
   |some (.k _ sz a cs)=>match bS g a&&bS sz (E.T.ty t).size&&ez 0 sz with
    |true=>FJ (E.T.e t) (EP sz (cs.length / sz) cs)
    |false=>none
   |_=>none
 | .v j g lo hi=>match nth bl j with
   |some (.r t' a _ l)=>match bS g a with
    |true=>yh t' t ((l.take hi.toNat).drop lo.toNat)
    |false=>none
   |_=>none
 |_=>none
section
variable{E:Env}{W w w':World}{M0:List Nat}{X:Nat->Prop}{n:cB}{f:cy E.T.El}{bl:List (aD E.T.El)}{ρ:List Value}{a:Act}{cur:List (Nat×Bool)}
theorem EM{El:Nat->Type}{t t':Nat}{l:List (El t)}{l':List (El t')}(h:yh t t' l=some l'):∃e:t=t',e▸l=l':=by
 unfold yh at h;split at h
 ·rename_i e _
  simp only[aF]at h
  exact⟨e,h⟩
 ·cases h
theorem Wv(a6:c8 E){F:Nat->Prop}{t sz:Nat}:∀(n:Nat){cs:List (aH E.T.El)}{vs:List Value}{l:List (E.T.El t)},a7 E.T F w ρ bl cs vs->vs.length=n*sz->FJ (E.T.e t) (EP sz n cs)=some l->dE (E.T.ty t) F w vs l/\l.length=n
 |0,cs,vs,l,h,b,hi=>by
  simp only[EP,FJ,aF]at hi;subst hi;exact⟨hf (by simpa using b),rfl⟩
 |n+1,cs,vs,l,h,b,hi=>by
  simp only[EP,FJ]at hi;split at hi
  ·rename_i d ds c J
   simp only[aF]at hi
   subst hi
   have e:=a6.tb.hn _ _ _ c _ _ _ _ _ (a7.take sz h)
   obtain⟨g,i⟩:=Wv a6 n (a7.drop sz h) (by rw[k8,b,jy];omega) J
   exact⟨⟨vs.take sz,vs.drop sz,(ja sz vs).symm,e,g⟩,by simp[i]⟩
  ·cases hi
theorem akS{F:Nat->Prop}{t:Nat}{l:List (E.T.El t)}{A:Option Addr}{c:Nat}(h:(b3 (E.T.ty t)).rd F w [.slice A l.length c] l):∃news,EC w (E.T.ty t).size l.length A news/\dE (E.T.ty t) F w news l:=by
 obtain⟨cj,m,d,ak,aS,bN,dq⟩:=h;simp only[hA,Value.slice.injEq,and_true,true_and]at d;obtain⟨rfl,rfl⟩:=d;by_cases e:l=[]
 ·subst e
  exact⟨[],.inl ⟨rfl,rfl⟩,rfl⟩
 ·obtain⟨g,o,xs,b,i⟩:=dq e
  exact⟨xs,.inr ⟨_,g,w5 _ b,λ j u k=>by rw[kY];exact i j u k,Gn _ b⟩,b⟩
theorem ZJ{t sz n c:Nat}{A:Option Addr}{xs:List Value}(h:rowIs w t sz (.slice A n c) n xs)(b:∀u∈xs,u.oneCell'=true):EC w sz n A xs:=by
 rcases lj n with aG |aG
 ·subst aG
  exact .inl ⟨rfl,hf (by rw[h.len];simp)⟩
 ·obtain⟨g,rfl,_,hc,_⟩:=uw aG h
  exact .inr ⟨_,rfl,h.len,λ j u d=>by rw[kY];exact hc j u d,b⟩
theorem akR(a6:c8 E)(x:Mem E.T W M0 X bl ρ w){t:Nat}{y:aH E.T.El}{l:List (E.T.El t)}{v:Value}(h:KL E bl t y=some l)(b:ar E.T (bi X bl ρ w) w ρ bl y v) :
 ∃A c news,v= .slice A l.length c/\EC w (E.T.ty t).size l.length A news/\dE (E.T.ty t) (bi X bl ρ w) w news l:=by
 unfold KL at h
 split at h
 ·obtain⟨rfl,rfl⟩:=EM h
  simp only[ar]at b
  obtain⟨A,c,rfl⟩:=l_ _ b
  obtain⟨news,z,J⟩:=akS b
  exact⟨A,c,news,rfl,z,J⟩
 ·obtain⟨rfl,rfl⟩:=EM h
  simp only[ar]at b
  obtain⟨A,c,rfl⟩:=l_ _ b.1
  obtain⟨news,z,J⟩:=akS b.1
  exact⟨A,c,news,rfl,z,J⟩
 ·simp only[aF]at h
  subst h
  simp only[ar]at b
  exact⟨none,0,[],b,.inl ⟨rfl,rfl⟩,rfl⟩
 ·simp only[aF]at h
  subst h
  simp only[ar]at b
  exact⟨_,_,[],b,.inl ⟨rfl,rfl⟩,rfl⟩
 ·rename_i j g
  split at h
  ·rename_i t' D k l' hi
   rw[c7]at hi
   split at h
   ·rename_i af
    obtain⟨rfl,rfl⟩:=EM h
    simp only[ar]at b
    obtain⟨_,aL,p,F,e⟩:=b
    rw[hi]at e
    obtain⟨A,c,xs,i,ak,aS⟩:=x.ok j _ _ hi p
    rw[e (bd af),i]
    exact⟨A,c,xs,rfl,ZJ (i▸ak) (Gn _ aS),aS⟩
   ·cases h
  ·rename_i t' sz D cs hi
   rw[c7]at hi
   split at h
   ·rename_i af
    simp only[bH]at af
    simp only[ar]at b
    obtain⟨_,aL,p,F,e⟩:=b
    rw[hi]at e
    obtain⟨A,m,c,xs,i,ak,aS⟩:=x.ok j _ _ hi p
    have I:=cv af.2
    have d:=aS.len
    have J:=ak.len
    have K:cs.length / sz=m:=by rw[<-d,J];exact Nat.mul_div_cancel _ I
    rw[K]at h
    obtain⟨G,L⟩:=Wv a6 m aS J h
    rw[e (bd af.1.1),i,L]
    have:=ZJ (i▸ak) (Gn _ G)
    rw[bd af.1.2]at this
    exact⟨A,c,xs,rfl,this,G⟩
   ·cases h
  ·cases h
 ·rename_i j g lo o
  split at h
  ·rename_i t' D k l' hi
   rw[c7]at hi
   split at h
   ·rename_i af
    obtain⟨rfl,rfl⟩:=EM h
    simp only[ar]at b
    obtain⟨_,aL,p,F,e⟩:=b
    rw[hi]at e
    obtain⟨cj,P,Q,B,C,l0,l1,R,M,S,bO⟩:=e (bd af)
    obtain⟨A,c,xs,i,ak,aS⟩:=x.ok j _ _ hi p
    rw[i]at C ak
    simp only[Value.slice.injEq]at C
    obtain⟨rfl,rfl,rfl⟩:=C
    have d:((l'.take o.toNat).drop lo.toNat).length=o.toNat-lo.toNat:=by rw[k8,gw];omega
    refine⟨B,c-lo.toNat,(xs.take (o.toNat*(E.T.ty t').size)).drop (lo.toNat*(E.T.ty t').size),by rw[d];exact M,?_,uu _ _ aS⟩
    have r:=uu lo.toNat o.toNat aS
    rcases Int.lt_or_le lo o with N |Nt
    ·right
     obtain⟨gb,rfl⟩:=Gt ak (by omega)
     obtain⟨U,O,_,hc,_⟩:=uw (by omega) ak
     cases O
     refine⟨⟨gb,lo.toNat*(E.T.ty t').size,none⟩,by rw[bO N];simp[kY,jj],w5 _ r,λ q u s=>?_,Gn _ r⟩
     rw[je,gT]at s
     split at s
     ·rw[kY]
      have:=hc _ u s
      simpa using this
     ·cases s
    ·left
     have:o.toNat-lo.toNat=0:=by omega
     have H:((l'.take o.toNat).drop lo.toNat)=[]:=hf (by rw[d];exact this)
     refine⟨by rw[H];rfl,?_⟩
     rw[H]at r
     exact r
   ·cases h
  ·cases h
 ·cases h
end
end bc
namespace bc
open Go Go.RowKit aw I
def P8(E:Env)(bl:List (aD E.T.El))(t:Nat):aH E.T.El->Option (Option (Nat×Nat)×List (E.T.El t))
 | .p (.slice none 0 0)=>some (none,[])
 | .q _ []=>some (none,[])
 | .r i g=>match nth bl i with
   |some (.r t' a _ l)=>match bS g a,yh t' t l with
    |true,some l'=>some (some (i,g),l')
    |_,_=>none
   |_=>none
 | .v i g (.ofNat 0) hi=>match nth bl i with
   |some (.r t' a _ l)=>match bS g a,yh t' t (l.take hi.toNat)with
    |true,some l'=>some (some (i,g),l')
    |_,_=>none
   |_=>none
 |_=>none
def zZ(E:Env)(bl:List (aD E.T.El))(e sz:Nat):aH E.T.El->Option (Option (Nat×Nat)×List (aH E.T.El))
 | .p (.slice none 0 0)=>some (none,[])
 | .q _ []=>some (none,[])
 | .r i g=>match nth bl i with
   |some (.k t' a b cs)=>match bS g b&&bS t' e&&bS a sz with
    |true=>some (some (i,g),cs)
    |false=>none
   |_=>none
 |_=>none
def Tv(E:Env)(bl:List (aD E.T.El))(t:Nat)(u v:aH E.T.El):D (eo E.T.El):=match td E.P t with
 |some (e,sz,bZ)=>match bS sz (E.T.ty e).size,P8 E bl e u,KL E bl e v with
  |true,some (none,_),some m=>.op (bF bZ [] m) λ l=>.ok ⟨some (.r bl.length 0),bl++[.r e 0 0 l],[]⟩
  |true,some (some (i,g),b),some m=>.op (bF bZ b m) λ l=>.ok ⟨some (.r i (g+1)),bl.set i (.r e (g+1) 0 l),[i]⟩
  |_,_,_=>match zZ E bl e sz u,(match zZ E bl e sz v with
   |some (_,m)=>match wZ m with
    |true=>some m
    |false=>none
   |none=>none)with
    |some (none,_),some m=>.op (bF bZ [] (fN (m.length / sz) ())) λ _=>.ok ⟨some (.r bl.length 0),bl++[.k e sz 0 m],[]⟩
    |some (some (i,g),b),some m=>.op (bF bZ (fN (b.length / sz) ()) (fN (m.length / sz) ())) λ _=>.ok ⟨some (.r i (g+1)),bl.set i (.k e sz (g+1) (b++m)),[i]⟩
    |_,_=>.no
 |none=>.no
section
variable{E:Env}{W w w':World}{M0:List Nat}{X:Nat->Prop}{n:cB}{f:cy E.T.El}{bl:List (aD E.T.El)}{ρ:List Value}{a:Act}{cur:List (Nat×Bool)}
def Sy(w:World)(bl:List (aD E.T.El))(ρ:List Value)(e sz n:Nat)(v:Value)(xs:List Value):Option (Nat×Nat)->Prop
 |none=>∃A,v= .slice A 0 0/\n=0/\xs=[]
 |some (i,g)=>∃A c h B,v= .slice A n c/\rowIs w e sz v n xs/\bl[i]? =some B/\ρ[i]? =some h/\bB B h=bc.af v/\kE h/\b1 (some B)=g
theorem ak2(s:Mem E.T W M0 X bl ρ w){e:Nat}{u:aH E.T.El}{v:Value}{p:Option (Nat×Nat)}{l:List (E.T.El e)}(h:P8 E bl e u=some (p,l))(b:ar E.T (bi X bl ρ w) w ρ bl u v) :
 ∃xs,Sy (E:=E) w bl ρ e (E.T.ty e).size l.length v xs p/\dE (E.T.ty e) (bi X bl ρ w) w xs l:=by
 unfold P8 at h
 split at h
 ·simp only[aF,ca]at h
  obtain⟨rfl,rfl⟩:=h
  simp only[ar]at b
  exact⟨[],⟨none,b,rfl,rfl⟩,rfl⟩
 ·simp only[aF,ca]at h
  obtain⟨rfl,rfl⟩:=h
  simp only[ar]at b
  obtain⟨A,x⟩:=b.2
  exact⟨[],⟨A,x,rfl,rfl⟩,rfl⟩
 ·rename_i i g
  split at h
  ·rename_i t' y k l' hi
   rw[c7]at hi
   split at h
   ·rename_i t af hc
    simp only[aF,ca]at h
    obtain⟨rfl,rfl⟩:=h
    obtain⟨rfl,rfl⟩:=EM hc
    have af:=bd af
    simp only[ar]at b
    obtain⟨_,aL,o,z,q⟩:=b
    rw[hi]at q
    have C:=q af
    obtain⟨A,c,xs,j,ak,aS⟩:=s.ok i _ _ hi o
    rw[C]
    exact⟨xs,⟨A,c,aL,_,j,ak,hi,o,rfl,by rw[j];trivial,af.symm⟩,aS⟩
   ·cases h
  ·cases h
 ·rename_i i g m
  split at h
  ·rename_i t' y k l' hi
   rw[c7]at hi
   split at h
   ·rename_i t af hc
    simp only[aF,ca]at h
    obtain⟨rfl,rfl⟩:=h
    obtain⟨rfl,rfl⟩:=EM hc
    have af:=bd af
    simp only[ar]at b
    obtain⟨_,aL,o,z,q⟩:=b
    rw[hi]at q
    obtain⟨cj,G,H,B,r,l0,l1,t,D,F,_⟩:=q af
    obtain⟨A,c,xs,j,ak,aS⟩:=s.ok i _ _ hi o
    rw[j]at r ak
    simp only[Value.slice.injEq]at r
    obtain⟨rfl,rfl,rfl⟩:=r
    have bO:=F rfl
    subst bO
    have d:(l'.take m.toNat).length=m.toNat:=by rw[gw];omega
    have bN:=ak.short (k:=m.toNat) (by omega)
    have dq:v= .slice B m.toNat c:=by rw[D];simp
    rw[dq]
    refine⟨xs.take (m.toNat*(E.T.ty t').size),⟨B,c,aL,_,by rw[d],by rw[d];exact bN,hi,o,by rw[j];cases B<;>cases c<;>rfl,by rw[j];trivial,af.symm⟩,?_⟩
    have:=uu 0 m.toNat aS
    simpa using this
   ·cases h
  ·cases h
 ·cases h
theorem Z9(q:Mem E.T W M0 X bl ρ w){e sz:Nat}{u:aH E.T.El}{v:Value}{p:Option (Nat×Nat)}{cs:List (aH E.T.El)}(r:0<sz)(h:zZ E bl e sz u=some (p,cs))(b:ar E.T (bi X bl ρ w) w ρ bl u v) :
 ∃xs,Sy (E:=E) w bl ρ e sz (cs.length / sz) v xs p/\a7 E.T (bi X bl ρ w) w ρ bl cs xs:=by
 unfold zZ at h
 split at h
 ·simp only[aF,ca]at h
  obtain⟨rfl,rfl⟩:=h
  simp only[ar]at b
  exact⟨[],⟨none,b,by simp,rfl⟩,by simp[a7]⟩
 ·simp only[aF,ca]at h
  obtain⟨rfl,rfl⟩:=h
  simp only[ar]at b
  obtain⟨A,s⟩:=b.2
  exact⟨[],⟨A,s,by simp,rfl⟩,by simp[a7]⟩
 ·rename_i i g
  split at h
  ·rename_i t' t D x hi
   rw[c7]at hi
   split at h
   ·rename_i af
    simp only[bH]at af
    simp only[aF,ca]at h
    obtain⟨rfl,rfl⟩:=h
    have j:=bd af.1.1
    have y:=bd af.1.2
    have z:=bd af.2
    subst y;subst z
    simp only[ar]at b
    obtain⟨_,aL,k,F,l⟩:=b
    rw[hi]at l
    have B:=l j
    obtain⟨A,m,c,xs,o,ak,aS⟩:=q.ok i _ _ hi k
    have d:=aS.len
    have J:=ak.len
    have C:x.length / t=m:=by rw[<-d,J];exact Nat.mul_div_cancel _ r
    rw[B,C]
    exact⟨xs,⟨A,c,aL,_,o,ak,hi,k,rfl,by rw[o];trivial,j.symm⟩,aS⟩
   ·cases h
  ·cases h
 ·cases h
theorem ac1(r:Mem E.T W M0 X bl ρ w){o:Oper}{t e sz bZ:Nat}{x y:Operand}{p:Option (Nat×Nat)}{n m:Nat}{xs news:List Value}{C:Option Addr}{c2:Nat}(B':Nat->aD E.T.El)(Y:td E.P t=some (e,sz,bZ))(Z:o.op= .call { callee:=.builtin .append,args:=#[x,y],argTypes:=#[t,t] })
 (K:Sy (E:=E) w bl ρ e sz n (a.eval x) xs p)(hy:a.eval y= .slice C m c2)(aj:EC w sz m C news)(af:(n+m)*bZ<=140737488355328)
 (D:∀g,b1 (some (B' g))=g)(L:∀g h,bB (B' g) h=bc.af h)
 (bO:∀(bl':List (aD E.T.El))(ρ':List Value)(w':World)(g:Nat)(cj:Option Addr)(b:Nat),To X bl bl' ρ ρ' w w'->rowIs w' e sz (.slice cj (n+m) b) (n+m) (xs++news)->iU E.T (bi X bl' ρ' w') w' ρ' bl' (B' g) (.slice cj (n+m) b)) :
 gV E o a W M0 X bl ρ w (match p with
  |none=>⟨some (.r bl.length 0),bl++[B' 0],[]⟩
  |some (i,g)=>⟨some (.r i (g+1)),bl.set i (B' (g+1)),[i]⟩):=by
 obtain⟨M,i0,z,hi,N,O,J,ap,P,c0⟩:=yn Y
 have Q:n+m<=maxLen:=by
  have eI:=l2 (n+m) c0;simp only[maxLen];omega
 have R:∀ {A:Option Addr}{c:Nat}{F:Value}{w':World},a.eval x= .slice A n c->(Builtin.append_ #[t,t] o.type #[.slice A n c,.slice C m c2]).run E.P w= .ok F w'->bg E.P o a w F w':=λ{A c F w'} l gm=>by
  simp only[bg,execOp,Z,resolve,invoke,builtin,Sem.run_bind,Sem.run_pure,Result.andThen_ok,gX,eu,hS,l,hy,gm]
 cases p with
 |none=>
  obtain⟨A,l,rfl,rfl⟩:=K
  obtain⟨cj,b,w',G,H,d,s⟩:=ac0 (w:=w) (ty:=o.type) M hi N O J ap P (show rowIs w e sz (.slice A 0 0) 0 [] from .inr ⟨rfl,rfl,A,rfl⟩) aj Q af
  have qa:bc.af (.slice A 0 0)=[]:=by cases A<;>rfl
  rw[qa]at d s
  have ad:∀k∈bB (B' 0) (.slice cj (0+m) b),w.heap.size<=k/\k<w'.heap.size:=λ k j=>by
   rw[L]at j;rcases s k j with e |e
   ·simp at e
   ·exact e
  have q:=r.z1 (B:=B' 0) (h:=.slice cj (0+m) b) d ad
  refine⟨w',ρ++[.slice cj (0+m) b],r.push d ad (bO _ _ _ _ _ _ q H),q,λ k j _=>d.block k j (by simp),_,R l G,?_⟩
  simp only[ar]
  refine⟨trivial,.slice cj (0+m) b,by rw[<-r.len];simp,gK _,λ _=>rfl⟩
 |some I=>
  obtain⟨i,g⟩:=I
  obtain⟨A,c,h,B,l,S,u,v,U,V_,V⟩:=K
  rw[l]at S U
  obtain⟨cj,b,w',G,H,d,s⟩:=ac0 (w:=w) (ty:=o.type) M hi N O J ap P S aj Q af
  rw[<-U]at d s
  have ad:∀k∈bB (B' (g+1)) (.slice cj (n+m) b),k∈bB B h\/(w.heap.size<=k/\k<w'.heap.size):=λ k j=>s k (by rw[L]at j;exact j)
  have q:=r.Dq (B':=B' (g+1)) (h':=.slice cj (n+m) b) u v d ad ⟨λ aC=>absurd V_ aC,by rw[D,V];omega,λ e=>by rw[D,V]at e;omega⟩
  refine⟨w',ρ.set i (.slice cj (n+m) b),r.gP u v d ad q (bO _ _ _ _ _ _ q H),q,λ k j cV=>d.block k j (cV i (by simp) B h u v),_,R l G,?_⟩
  simp only[ar]
  have l1:=(aO.1 u).1
  have cI:=(aO.1 v).1
  refine⟨trivial,_,fH cI,?_,λ _=>rfl⟩
  rw[fH l1,D]
  exact cC _
theorem avz(a6:c8 E)(s:Mem E.T W M0 X bl ρ w){o:Oper}{t:Nat}{x y:Operand}{u v:aH E.T.El}{r:eo E.T.El}(h:(Tv E bl t u v).out r)(U:o.op= .call { callee:=.builtin .append,args:=#[x,y],argTypes:=#[t,t] })
 (G:ar E.T (bi X bl ρ w) w ρ bl u (a.eval x))(hy:ar E.T (bi X bl ρ w) w ρ bl v (a.eval y)):gV E o a W M0 X bl ρ w r:=by
 unfold Tv at h
 split at h
 ·rename_i e sz bZ M
  obtain⟨_,_,_,_,_,_,_,_,N,_⟩:=yn M
  have z:∀ {p:Option (Nat×Nat)}{b m l:List (E.T.El e)},bS sz (E.T.ty e).size=true->P8 E bl e u=some (p,b)->KL E bl e v=some m->bF bZ b m=some l->gV E o a W M0 X bl ρ w (match p with
   |none=>⟨some (.r bl.length 0),bl++[.r e 0 0 l],[]⟩
   |some (i,g)=>⟨some (.r i (g+1)),bl.set i (.r e (g+1) 0 l),[i]⟩):=λ{p b m l} j J ap k=>by
   have j:=bd j
   subst j
   obtain⟨af,rfl⟩:=L7 k
   obtain⟨xs,O,P⟩:=ak2 s J G
   obtain⟨H,c2,news,I,K,ha⟩:=akR a6 s ap hy
   have:=ac1 (B':=λ g=>aD.r e g 0 (b++m)) s M U O I K af (λ _=>rfl) (λ _ _=>rfl) (λ bl' ρ' w' g cj Q C R=>⟨cj,Q,xs++news,by rw[dJ],by rw[dJ];exact R,Kg _ (ov _ C.F ha) (ov _ C.F P)⟩)
   cases p<;>exact this
  have D:∀ {p q:Option (Nat×Nat)}{b m:List (aH E.T.El)}{l:List Unit},zZ E bl e sz u=some (p,b)->zZ E bl e sz v=some (q,m)->wZ m=true->bF bZ (fN (b.length / sz) ()) (fN (m.length / sz) ())=some l->gV E o a W M0 X bl ρ w (match p with
   |none=>⟨some (.r bl.length 0),bl++[.k e sz 0 (b++m)],[]⟩
   |some (i,g)=>⟨some (.r i (g+1)),bl.set i (.k e sz (g+1) (b++m)),[i]⟩):=λ{p q b m l} j J V ap=>by
   obtain⟨af,_⟩:=L7 ap
   simp only[ks]at af
   obtain⟨xs,O,P⟩:=Z9 s N j G
   obtain⟨ys,I,K⟩:=Z9 s N J hy
   have Y:∃H c2,a.eval y= .slice H (m.length / sz) c2/\EC w sz (m.length / sz) H ys:=by
    cases q with
    |none=>
     obtain⟨A,L,ak,rfl⟩:=I
     rw[ak]
     exact⟨A,0,L,.inl ⟨rfl,rfl⟩⟩
    |some Z=>
     obtain⟨A,c,h,B,L,ak,_⟩:=I
     rw[L]at ak
     exact⟨A,c,L,ZJ ak (λ u hu=>kh.1 (JY V K) u hu)⟩
   obtain⟨H,c2,s1,s2⟩:=Y
   have:=ac1 (B':=λ g=>aD.k e sz g (b++m)) s M U O s1 s2 af (λ _=>rfl) (λ _ _=>rfl) (λ bl' ρ' w' g cj Q C R=>⟨cj,_,Q,xs++ys,rfl,R,a7.bF (C.vs P) (C.vs K)⟩)
   cases p<;>exact this
  split at h
  ·rename_i b m j J ap
   obtain⟨l,k,d⟩:=h
   have d:(⟨some (.r bl.length 0),bl++[.r e 0 0 l],[]⟩:eo E.T.El)=r:=d
   subst d
   have S:b=[]:=by
    obtain⟨xs,⟨A,_,ak,_⟩,_⟩:=ak2 s J G;exact hf ak
   subst S
   exact z (p:=none) j J ap k
  ·rename_i i g b m j J ap
   obtain⟨l,k,d⟩:=h
   have d:(⟨some (.r i (g+1)),bl.set i (.r e (g+1) 0 l),[i]⟩:eo E.T.El)=r:=d
   subst d
   exact z j J ap k
  ·have F:∀ {m:List (aH E.T.El)},(match zZ E bl e sz v with
    |some (_,m)=>match wZ m with
     |true=>some m
     |false=>none
    |none=>none)=some m-> ∃q,zZ E bl e sz v=some (q,m)/\wZ m=true:=λ{m} h=>by
    split at h
    ·rename_i q eW aM
     split at h
     ·rename_i lR
      simp only[aF]at h
      subst h
      exact⟨q,aM,lR⟩
     ·cases h
    ·cases h
   split at h
   ·rename_i b m j J
    obtain⟨q,J,ap⟩:=F J
    obtain⟨l,k,d⟩:=h
    have d:(⟨some (.r bl.length 0),bl++[.k e sz 0 m],[]⟩:eo E.T.El)=r:=d
    subst d
    have S:b=[]:=by
     obtain⟨xs,⟨A,_,ak,aS⟩,bN⟩:=Z9 s N j G;subst aS;exact hf bN.len.symm
    subst S
    exact D (p:=none) (b:=[]) j J ap (by simpa using k)
   ·rename_i i g b m j J
    obtain⟨q,J,ap⟩:=F J
    obtain⟨l,k,d⟩:=h
    have d:(⟨some (.r i (g+1)),bl.set i (.k e sz (g+1) (b++m)),[i]⟩:eo E.T.El)=r:=d
    subst d
    exact D j J ap k
   ·exact h.elim
 ·exact h.elim
end
end bc
namespace bc
open Go Go.RowKit aw I
def ly{α:Type}(z:List α):Nat->List α
 |0=>[]
 |n+1=>z++ly z n
theorem RN{α:Type}(z:List α):∀n,(ly z n).length=n*z.length
 |0=>by simp[ly]
 |n+1=>by simp only[ly,dJ,RN z n,jy];omega
theorem aon{α:Type}{z:List α}:∀ {n i:Nat},i<n*z.length->(ly z n)[i]? =z[i%z.length]?
 |0,i,h=>by simp at h
 |n+1,i,h=>by
  simp only[ly];rcases gg i z.length with c |c
  ·rw[fc c,Nat.mod_eq_of_lt c]
  ·rw[fI c,aon (by rw[jy]at h;omega),Nat.mod_eq_sub_mod c]
theorem aom(a:Array Value)(n:Nat)(h:0<a.size):((Array.range (n*a.size)).map (a[·%a.size]!))=⟨ly a.toList n⟩:=by
 rw[<-Array.toList_inj];apply kL;intro i;rcases gg i (n*a.size)with c |c
 ·simp only
  rw[aon (by simpa using c)]
  have b:i%a.size<a.size:=Nat.mod_lt _ h
  simp[c,b]
 ·rw[gH (by simpa using c),gH (by rw[RN];simpa using c)]
theorem aoo{El:Nat->Type}(z:List Value):∀n,(ly z n).map (aH.p (El:=El))=ly (z.map .p) n
 |0=>rfl
 |n+1=>by simp[ly,aoo z n]
def aff(E:Env)(bl:List (aD E.T.El))(t n:Nat)(ps:List (Nat×aH E.T.El)):Option (eo E.T.El):=match td E.P t,n,ps with
 |some (e,sz,_),0,[]=>match bS sz (E.T.ty e).size with
  |true=>some ⟨some (.r bl.length 0),bl++[.r e 0 0 []],[]⟩
  |false=>some ⟨some (.r bl.length 0),bl++[.k e sz 0 []],[]⟩
 |_,_,_=>none
def TF(E:Env)(bl:List (aD E.T.El))(t n:Nat)(ps:List (Nat×aH E.T.El)):D (eo E.T.El):=match td E.P t with
 |some (e,sz,_)=>match Ed E.P e,jc n 100000&&ez 0 n&&jc (n*sz) 16777216 with
  |some z,true=>match vv (λ i=>some (i*sz,sz)) (ly (z.map .p) n) ps with
   |some cs=>match nR bl cs with
    |(bl',a)=>match bS sz (E.T.ty e).size,FJ (E.T.e e) (EP sz n a)with
     |true,some l=>.ok ⟨some (.r bl'.length 0),bl'++[.r e 0 0 l],[]⟩
     |_,_=>.ok ⟨some (.r bl.length 0),bl++[.k e sz 0 cs],[]⟩
   |none=>.no
  |_,_=>.no
 |none=>.no
def TE(E:Env)(bl:List (aD E.T.El))(t n:Nat)(ps:List (Nat×aH E.T.El)):D (eo E.T.El):=match aff E bl t n ps with
 |some r=>.ok r
 |none=>TF E bl t n ps
def ZN:Operand->Operand->Bool
 | .tmp a,.tmp b=>bS a b
 | .const (.int .i64 m),.const (.int .i64 n)=>decide (m=n)
 |_,_=>false
theorem aGW{a:Act}{x y:Operand}(h:ZN x y=true):a.eval x=a.eval y:=by
 unfold ZN at h;split at h
 ·rw[bd h]
 ·rw[of_decide_eq_true h]
 ·cases h
def TJ(E:Env)(bl:List (aD E.T.El))(t:Nat)(x y:Operand)(u:aH E.T.El):D (eo E.T.El):=match td E.P t,u with
 |some (e,sz,bZ),.p (.int .i64 k)=>match bS sz (E.T.ty e).size,xE E e e,ZN x y with
  |true,some z0,true=>.op (za z0 bZ k) λ l=>.ok ⟨some (.r bl.length 0),bl++[.r e 0 0 l],[]⟩
  |_,_,_=>.no
 |_,_=>.no
section
variable{E:Env}{W w w':World}{M0:List Nat}{X:Nat->Prop}{n:cB}{f:cy E.T.El}{bl:List (aD E.T.El)}{ρ:List Value}{a:Act}{cur:List (Nat×Bool)}
theorem JS(c:Mem E.T W M0 X bl ρ w){o:Oper}{e sz n:Nat}{vs:List Value}{B:aD E.T.El}(p:b1 (some B)=0)(j:∀h,bB B h=bc.af h)(d:vs.length=n*sz)(l:n<=maxLen)
 (bO:∀(bl':List (aD E.T.El))(ρ':List Value)(w':World),To X bl bl' ρ ρ' w w'->rowIs w' e sz (.slice (some ⟨w.heap.size,0,none⟩) n n) n vs->iU E.T (bi X bl' ρ' w') w' ρ' bl' B (.slice (some ⟨w.heap.size,0,none⟩) n n))
 (hy:bg E.P o a w (.slice (some ⟨w.heap.size,0,none⟩) n n) (w.alloc (.cells ⟨vs⟩ e))):gV E o a W M0 X bl ρ w ⟨some (.r bl.length 0),bl++[B],[]⟩:=by
 have g:bp [] w (w.alloc (.cells ⟨vs⟩ e)):=bp.alloc _ _ _
 have m:rowIs (w.alloc (.cells ⟨vs⟩ e)) e sz (.slice (some ⟨w.heap.size,0,none⟩) n n) n vs:=
  .inl ⟨d,.inr ⟨w.heap.size,n,⟨vs⟩,rfl,gK _,heap_alloc_new w _,cC _,l,by simpa using d,by rw[<-d,jZ]⟩⟩
 have ad:∀k∈bB B (.slice (some ⟨w.heap.size,0,none⟩) n n),w.heap.size<=k/\k<(w.alloc (.cells ⟨vs⟩ e)).heap.size:=λ k b=>by
  rw[j]at b;have:k=w.heap.size:=by
   cases n with
   |zero=>simp[bc.af]at b
   |succ q=>simpa[bc.af]using b
  subst this;simp
 have i:=c.z1 (B:=B) (h:=.slice (some ⟨w.heap.size,0,none⟩) n n) g ad
 refine⟨_,ρ++[.slice (some ⟨w.heap.size,0,none⟩) n n],c.push g ad (bO _ _ _ i m),i,λ k b _=>g.block k b (by simp),_,hy,?_⟩
 simp only[ar]
 exact⟨trivial,.slice (some ⟨w.heap.size,0,none⟩) n n,by rw[<-c.len];simp,gK _,λ _=>rfl⟩
theorem avI(a6:c8 E)(B:Mem E.T W M0 X bl ρ w){o:Oper}{t n:Nat}{xs:List (Nat×Operand)}{ps:List (Nat×aH E.T.El)}{r:eo E.T.El}(h:(TF E bl t n ps).out r)(K:o.op= .buildSlice t n xs.toArray)
 (L:rb E.T (bi X bl ρ w) w ρ bl ps (xs.map λ p=>(p.1,a.eval p.2))):gV E o a W M0 X bl ρ w r:=by
 unfold TF at h
 split at h
 ·rename_i e sz bZ M
  obtain⟨N,i0,O,hi,P,Q,J,ap,R,c0⟩:=yn M
  split at h
  ·rename_i z S af
   simp only[bH]at af
   have IB:=cv af.1.1
   have Fc:=cv af.1.2
   have Nk:=cv af.2
   obtain⟨g,C,kD⟩:=LC S
   have U:g=O:=by
    have j:=C w;simp only[zeroValue,typeInfo,Sem.run_bind]at j;simp[go_sem,hi,P]at j;exact j.symm
   subst U
   have m:z.length=sz:=by rw[<-ap,kD];simp
   split at h
   ·rename_i cs ad
    obtain⟨os,V,s⟩:=TU (sl (ly z n)) L (by rw[aoo];exact ad)
    have u:os.length=n*sz:=by
     have j:=s.len;have key:∀ {ps:List (Nat×aH E.T.El)}{c d:List (aH E.T.El)},vv (λ i=>some (i*sz,sz)) c ps=some d->d.length=c.length:=by
      intro ps;induction ps with
      |nil=>intro c d b;simp only[vv,aF]at b;rw[b]
      |cons p r Y=>
       intro c d b
       obtain⟨i,y⟩:=p
       simp only[vv]at b
       split at b
       ·rename_i D
        simp only[bH]at D
        rw[Y b,W8 (cv D.2)]
       ·cases b
     rw[j,key ad,RN,fW,m]
    have k:=aom g.cells n (by rw[ap];exact R)
    rw[ap,kD]at k
    have F:bg E.P o a w (.slice (some ⟨w.heap.size,0,none⟩) n n) (w.alloc (.cells ⟨os⟩ e)):=by
     have Z: ¬(n*sz>2^24):=by omega
     have bA:n*sz≠0:=by
      intro b;rcases Nat.mul_eq_zero.1 b with q |q<;>omega
     simp only[bg,execOp,K,Instr.buildSlice,Sem.run_bind,Sem.run_pure,run_sizeOf hi,Q,C,Result.andThen_ok,run_underlying N,gX,if_neg Z,if_neg bA];have G:g.cells.size=sz:=ap;rw[kD]at G;simp only[kD];rw[G,k,V];rfl
    have H:n<=maxLen:=by simp only[maxLen];omega
    split at h
    rename_i bl' j9 qc
    obtain⟨m1,t1,v1⟩:=MZ B qc s
    split at h
    ·rename_i l v al
     have h:(⟨some (.r bl'.length 0),bl'++[.r e 0 0 l],[]⟩:eo E.T.El)=r:=h
     subst h
     have v:=bd v
     obtain⟨cz,I⟩:=Wv a6 n v1 u al
     refine gV.first t1 (λ i hi=>by simp at hi) (JS (e:=e) (sz:=sz) (n:=n) (vs:=os) m1 rfl (λ _=>rfl) u H (λ yc lz cS x A=>?_) F)
     subst v
     exact⟨_,_,os,by rw[I],by rw[I];exact A,ov _ x.F cz⟩
    ·have h:(⟨some (.r bl.length 0),bl++[.k e sz 0 cs],[]⟩:eo E.T.El)=r:=h
     subst h
     exact JS (e:=e) (sz:=sz) (n:=n) (vs:=os) B rfl (λ _=>rfl) u H (λ yc lz cS x A=>⟨_,_,_,os,rfl,A,x.vs s⟩) F
   ·exact h.elim
  ·exact h.elim
 ·exact h.elim
theorem avJ(a6:c8 E)(c:Mem E.T W M0 X bl ρ w){o:Oper}{t n:Nat}{xs:List (Nat×Operand)}{ps:List (Nat×aH E.T.El)}{r:eo E.T.El}(h:(TE E bl t n ps).out r)(g:o.op= .buildSlice t n xs.toArray)
 (i:rb E.T (bi X bl ρ w) w ρ bl ps (xs.map λ p=>(p.1,a.eval p.2))):gV E o a W M0 X bl ρ w r:=by
 unfold TE at h
 split at h
 ·rename_i j b
  have h:j=r:=h
  subst h
  unfold aff at b
  split at b
  ·rename_i e sz bZ k
   obtain⟨l,m,z,hi,A,B,J,ap,C,D⟩:=yn k
   have s:xs=[]:=by
    cases xs with
    |nil=>rfl
    |cons p q=>simp[rb]at i
   subst s
   have hy:bg E.P o a w _ _:=aLs (sz:=m.size) l (λ w=>run_sizeOf hi w) g
   split at b
   ·rename_i af
    simp only[aF]at b
    subst b
    exact JS (e:=e) (sz:=sz) (n:=0) (vs:=[]) c rfl (λ _=>rfl) (by simp) (gK _) (λ u v x y d=>⟨_,_,[],rfl,by rw[<-bd af];exact d,rfl⟩) hy
   ·simp only[aF]at b
    subst b
    exact JS (e:=e) (sz:=sz) (n:=0) (vs:=[]) c rfl (λ _=>rfl) (by simp) (gK _) (λ u v x y d=>⟨_,_,_,[],rfl,d,rfl⟩) hy
  ·cases b
 ·exact avI a6 c h g i
theorem aj6{α:Type}{T:c9 α}{F:Nat->Prop}{w:World}{z:List Value}{z0:α}(h:T.rd F w z z0):∀n,dE T F w (ly z n) (fN n z0)
 |0=>rfl
 |n+1=>⟨z,ly z n,rfl,h,aj6 h n⟩
theorem avO(a6:c8 E)(z:Mem E.T W M0 X bl ρ w){o:Oper}{t:Nat}{x y:Operand}{u:aH E.T.El}{r:eo E.T.El}(h:(TJ E bl t x y u).out r)(A:o.op= .makeSlice t x y)(d:ar E.T (bi X bl ρ w) w ρ bl u (a.eval x)):gV E o a W M0 X bl ρ w r:=by
 unfold TJ at h;split at h
 ·rename_i e sz bZ k B
  obtain⟨C,q,b,hi,s,D,J,ap,F,G⟩:=yn B
  split at h
  ·rename_i z0 g c aj
   obtain⟨l,H,i⟩:=h
   have i:(⟨some (.r bl.length 0),bl++[.r e 0 0 l],[]⟩:eo E.T.El)=r:=i
   subst i
   have g:=bd g
   obtain⟨I,V,rfl⟩:=aCr H
   obtain⟨m,rfl⟩:=lh I
   simp only[c6]at *
   have K:m<=bZ*m:=Nat.le_mul_of_pos_left m G
   have v:m<=maxLen:=by simp only[maxLen];omega
   simp only[ar]at d
   have hy:a.eval y= .int .i64 (m:Int):=by rw[<-aGW aj,d]
   have L:(E.T.ty e).rd (bi X bl ρ w) w b.cells.toList z0:=by
    unfold xE at c;split at c
    ·rename_i M kD
     split at c
     ·have N:M=b:=by
       simp only[Hp,hi]at kD;rw[s]at kD;exact(ei kD).symm
      subst N;exact a6.tb.hn _ _ _ c _ _ ρ bl _ (sl _)
     ·cases c
    ·cases c
   have O:(q.bytes:Int)*(m:Int)<=281474976710656:=by
    rw[J];have Q:((bZ*m:Nat):Int)<=281474976710656:=by omega
    rwa [Int.natCast_mul]at Q
   have j:=run_make (P:=E.P) w t e q b C hi s .i64 .i64 (m:Int) (m:Int) (by omega) (k2 _) O (by simp only[maxLen]at v;omega)
   simp only[c6]at j
   have p:madeCells b.cells (m*sz)=⟨ly b.cells.toList m⟩:=by
    have:=aom b.cells m (by rw[ap];exact F);rw[ap]at this;simp only[madeCells,ap];exact this
   rw[D,p]at j
   have R:bg E.P o a w (.slice (some ⟨w.heap.size,0,none⟩) m m) (w.alloc (.cells ⟨ly b.cells.toList m⟩ e)):=by
    simp only[bg,execOp,A,d,hy,Sem.run_bind,j,Result.andThen_ok,Sem.run_pure]
   refine JS (e:=e) (sz:=sz) (n:=m) (vs:=ly b.cells.toList m) z rfl (λ _=>rfl) (by rw[RN];simp[ap]) v (λ Y Z cS S U=>?_) R
   subst g
   exact⟨_,_,_,by rw[ks],by rw[ks];exact U,aj6 ((E.T.ty e).law S.F L) m⟩
  ·exact h.elim
 ·exact h.elim
end
end bc
namespace bc
open Go Go.RowKit aw I
def alc(P:Program)(t:Nat):Bool:=match P.underlying t with
 |some (.int .u8)=>true
 |_=>false
def TP(E:Env)(bl:List (aD E.T.El))(s d:Nat)(u:aH E.T.El):D (eo E.T.El):=match E.P.underlying s,E.P.underlying d,u with
 |some .string,some (.slice e),.p (.string ⟨⟨l⟩⟩)=>match bS e E.lG,alc E.P E.lG with
  |true,true=>.op (bytesOf l) λ r=>.ok ⟨some (.s E.lG (E.L9 r)),bl,[]⟩
  |_,_=>.no
 |_,_,_=>.no
section
variable{E:Env}{W w w':World}{M0:List Nat}{X:Nat->Prop}{bl:List (aD E.T.El)}{ρ:List Value}{a:Act}
theorem avT(a6:c8 E)(i:Mem E.T W M0 X bl ρ w){o:Oper}{s d:Nat}{x:Operand}{u:aH E.T.El}{r:eo E.T.El}(f:(TP E bl s d u).out r)(z:o.op= .convert s d x)(p:ar E.T (bi X bl ρ w) w ρ bl u (a.eval x)):gV E o a W M0 X bl ρ w r:=by
 unfold TP at f;split at f
 ·rename_i e l A C
  split at f
  ·rename_i af m
   have af:=bd af
   subst af
   have D:E.P.underlying E.lG=some (.int .u8):=by
    unfold alc at m;split at m
    ·assumption
    ·cases m
   obtain⟨q,c,J⟩:=f
   have J:(⟨some (.s E.lG (E.L9 q)),bl,[]⟩:eo E.T.El)=r:=J
   subst J
   simp only[ar]at p
   unfold bytesOf at c
   split at c
   ·rename_i F
    simp only[aF]at c
    subst c
    have t:=run_bytes_of_string (P:=E.P) w s d E.lG ⟨⟨l⟩⟩ A C D
    have G:(⟨⟨l⟩⟩:ByteArray).size=l.length:=rfl
    have hc:=grownCap_ge w l.length 0 E.lG
    have v:=grownCap_le_maxLen w l.length 0 E.lG (by simp only[maxLen];omega)
    obtain⟨B,bO⟩:∃B,B=bytesRow ⟨⟨l⟩⟩ (grownCap w l.length 0 E.lG):=⟨_,rfl⟩
    obtain⟨eB,y⟩:∃eB,eB=grownCap w l.length 0 E.lG:=⟨_,rfl⟩
    rw[G,<-bO,<-y]at t
    rw[<-y]at hc v
    have hy:bg E.P o a w (.slice (some ⟨w.heap.size,0,none⟩) l.length eB) (w.drew.alloc (.cells B E.lG (B.size,B.size+1))):=by
     simp only[bg,execOp,z,p,Sem.run_bind,t,Result.andThen_ok];rfl
    have n:bp [] w (w.drew.alloc (.cells B E.lG (B.size,B.size+1))):=(bp.drew [] w).trans (bp.alloc [] _ _) (by simp)
    refine⟨_,ρ,i.eV n,Mem.su n,λ k g _=>n.block k g (by simp),_,hy,?_⟩
    simp only[ar]
    refine⟨_,eB,by rw[a6.ac7],by rw[a6.ac7];exact hc,v,(λ h=>by cases h),λ _=>⟨rfl,⟨?_,?_,by show w.heap.size<_;simp⟩,_,a6.asL _ _ _ _ (aj5 l),λ j u aA=>?_⟩⟩
    ·intro g
     have c:w.heap.size<W.heap.size:=(i.hL _ g).1
     have J:=i.bW.size
     omega
    ·intro g
     have c:w.heap.size<w.heap.size:=(i.lt _ g).1
     omega
    ·rw[jb,cu]at aA
     obtain⟨b,af,rfl⟩:=aA
     obtain⟨H,I⟩:=aO.1 af
     have:=bytesRow_at ⟨⟨l⟩⟩ (grownCap w l.length 0 E.lG) j (by simpa using H)
     rw[<-bO]at this
     show World.cell? _ ⟨w.heap.size,0+j,none⟩=_
     simp only[World.cell?,World.alloc]
     rw[show(w.drew.heap.push _)[w.heap.size]? =some _ from Array.getElem?_push_size (xs:=w.heap)]
     simp only[jx,this]
     simp[I]
   ·cases c
  ·exact f.elim
 ·exact f.elim
end
end bc
namespace bc
open Go Go.RowKit aw I
def Tw(E:Env)(bl:List (aD E.T.El))(t tn:Nat)(u v:aH E.T.El):D (eo E.T.El):=match td E.P t,kG (E.P.underlying tn),u,v with
 |some (e,sz,bZ),some (.i .i64),.p (.slice none 0 0),.p (.int .i64 k)=>match bS sz 1&&bS (E.T.ty e).size 1,xE E e e with
  |true,some z0=>.op (HQ z0 bZ k) λ l=>.ok ⟨some (.r bl.length 0),bl++[.r e 0 0 l],[]⟩
  |_,_=>.no
 |_,_,_,_=>.no
section
variable{E:Env}{W w w':World}{M0:List Nat}{X:Nat->Prop}{n:cB}{f:cy E.T.El}{bl:List (aD E.T.El)}{ρ:List Value}{a:Act}{cur:List (Nat×Bool)}
theorem avy(a6:c8 E)(g:Mem E.T W M0 X bl ρ w){o:Oper}{t tn:Nat}{x y:Operand}{u v:aH E.T.El}{r:eo E.T.El}(h:(Tw E bl t tn u v).out r)(L:o.op= .call { callee:=.builtin .append,args:=#[x,y],argTypes:=#[t,tn] })
 (D:ar E.T (bi X bl ρ w) w ρ bl u (a.eval x))(G:ar E.T (bi X bl ρ w) w ρ bl v (a.eval y)):gV E o a W M0 X bl ρ w r:=by
 unfold Tw at h
 split at h
 ·rename_i e sz bZ k M i
  obtain⟨N,O,b,hi,H,Q,J,ap,hl,R⟩:=yn M
  have p:=wj i
  split at h
  ·rename_i z0 af d
   simp only[bH]at af
   have aj:=bd af.1
   have S:=bd af.2
   subst aj
   obtain⟨l,U,s⟩:=h
   have s:(⟨some (.r bl.length 0),bl++[.r e 0 0 l],[]⟩:eo E.T.El)=r:=s
   subst s
   obtain⟨V,bk,rfl⟩:=asH U
   obtain⟨m,rfl⟩:=lh (Int.le_of_lt V)
   simp only[c6]at *
   have Y:m<=bZ*m:=Nat.le_mul_of_pos_left m R
   simp only[ar]at D G
   have Z:(E.T.ty e).rd (bi X bl ρ w) w b.cells.toList z0:=by
    unfold xE at d;split at d
    ·rename_i LD kD
     split at d
     ·have ai:LD=b:=by
       simp only[Hp,hi]at kD;rw[H]at kD;exact(ei kD).symm
      subst ai;exact a6.tb.hn _ _ _ d _ _ ρ bl _ (sl _)
     ·cases d
    ·cases d
   obtain⟨eB,z⟩:∃eB,b.cells= #[eB]:=by
    revert ap;generalize b.cells=cs;obtain⟨l⟩:=cs;intro ap;cases l with
    |nil=>simp at ap
    |cons c r=>cases r with
     |nil=>exact⟨c,rfl⟩
     |cons _ _=>simp at ap
   have gm:=Lib.run_append_nil_zeros (P:=E.P) w t tn o.type e O b .i64 .i64 N p hi H m (by omega) (by omega) (by omega) (by rw[J,Nat.mul_comm];omega)
   let cap:=grownCap w m 0 e
   have Fh:m<=cap:=grownCap_ge w m 0 e
   have IF:cap<=maxLen:=grownCap_le_maxLen w m 0 e (by simp only[maxLen];omega)
   have Wm:∀q,(Builtin.zeroCells b.cells q).toList=fN q eB:=by
    intro q;rw[z];apply List.ext_getElem
    ·simp[Builtin.zeroCells]
    ·intro j Q J
     simp[Builtin.zeroCells,Nat.mod_one]
   let cur:=Builtin.zeroCells b.cells m++Builtin.zeroCells b.cells (cap-m)
   have hcs:cur.size=cap:=by simp only[cur,Array.size_append,size_zeroCells,z];simp;omega
   have o_:bg E.P o a w (.slice (some ⟨w.heap.size,0,none⟩) m cap) (w.drew.alloc (.cells cur e)):=by
    simp only[bg,execOp,L,resolve,invoke,builtin,Sem.run_bind,Sem.run_pure,Result.andThen_ok,gX,eu,hS,D,G,gm,cap,cur]
   have A:bp [] w (w.drew.alloc (.cells cur e)):=(bp.drew [] w).trans (bp.alloc [] w.drew (.cells cur e)) (by simp)
   have Cj:w.drew.heap.size=w.heap.size:=rfl
   have n3:rowIs (w.drew.alloc (.cells cur e)) e 1 (.slice (some ⟨w.heap.size,0,none⟩) m cap) m (fN m eB):=by
    refine .inl ⟨by simp,.inr ⟨w.heap.size,cap,cur,rfl,gK _,?_,Fh,IF,by simp[hcs],?_⟩⟩
    ·rw[<-Cj];exact heap_alloc_new w.drew _
    ·simp only[cur,Array.toList_append,Wm,jB]
     rw[List.take_append_of_le_length (by simp),hQ (by simp)]
   have tw:cap=(cap-1)+1:=by omega
   have ad:∀q∈bB (aD.r (El:=E.T.El) e 0 0 (fN m z0)) (.slice (some ⟨w.heap.size,0,none⟩) m cap),w.heap.size<=q/\q<(w.drew.alloc (.cells cur e)).heap.size:=λ q I=>by
    rw[tw]at I;have:q=w.heap.size:=by simpa[bB,bc.af]using I
    subst this;simp
   have K:=g.z1 (B:=aD.r e 0 0 (fN m z0)) (h:=.slice (some ⟨w.heap.size,0,none⟩) m cap) A ad
   have C:∀(q:Nat)(F:Nat->Prop)(w':World),(E.T.ty e).rd F w' [eB] z0->dE (E.T.ty e) F w' (fN q eB) (fN q z0):=λ q F w' h=>by
    induction q with
    |zero=>rfl
    |succ q bb=>exact⟨[eB],fN q eB,rfl,h,bb⟩
   refine⟨_,ρ++[.slice (some ⟨w.heap.size,0,none⟩) m cap],g.push A ad ⟨some ⟨w.heap.size,0,none⟩,cap,fN m eB,by rw[ks],by rw[S,ks];exact n3,C m _ _ ?_⟩,K,λ k i _=>A.block k i (by simp),_,o_,?_⟩
   ·have:=(E.T.ty e).law K.F Z
    rwa [z]at this
   ·simp only[ar]
    exact⟨trivial,.slice (some ⟨w.heap.size,0,none⟩) m cap,by rw[<-g.len];simp,gK _,λ _=>rfl⟩
  ·exact h.elim
 ·exact h.elim
end
end bc
namespace I
def gD{α:Type}(l:List α)(p:Nat)(ds:List α):List α:=l.take p++ds++l.drop (p+ds.length)
theorem Pa{α:Type}{l:List α}{p:Nat}{ds:List α}(h:p+ds.length<=l.length):(gD l p ds).length=l.length:=by
 simp[gD];omega
end I
namespace bc
open Go Go.RowKit aw I
theorem afk(b:Nat):∀(vs:List Value)(o:Nat)(w:World),bp [b] w (w.setCells b o vs)
 |[],_,w=>bp.refl _ w
 |v::r,o,w=>(bp.set w ⟨b,o,none⟩ v).trans (afk b r (o+1) _) (λ x a=>.inl a)
theorem akA(b:Nat)(e:TypeId)(a:Nat×Nat):∀(vs:List Value)(o:Nat)(w:World)(cur:List Value),w.heap[b]? =some (.cells cur.toArray e a)->o+vs.length<=cur.length ->
 (w.setCells b o vs).heap[b]? =some (.cells (gD cur o vs).toArray e a)
 |[],o,w,cur,h,_=>by simpa[World.setCells,gD]using h
 |v::r,o,w,cur,h,d=>by
  simp only[de]at d;have af:b<w.heap.size:=by
   rcases gg b w.heap.size with h' |h'
   ·exact h'
   ·rw[hJ h']at h;cases h
  have f:(w.setCell ⟨b,o,none⟩ v).heap[b]? =some (.cells (cur.set o v).toArray e a):=by
   simp only[World.setCell,jO,if_pos,h,fm];simp
  have:=akA b e a r (o+1) _ (cur.set o v) f (by simp;omega);show((w.setCell ⟨b,o,none⟩ v).setCells b (o+1) r).heap[b]? =_
  rw[this];have g:cur.set o v=cur.take o++v::cur.drop (o+1):=by rw[List.set_eq_take_append_cons_drop,if_pos (by omega)]
  have c:(cur.take o).length=o:=by rw[gw];omega
  have i:(cur.set o v).take (o+1)=cur.take o++[v]:=by
   rw[g,k6,c,hQ (by rw[c];omega)];simp
  have ak:(cur.set o v).drop (o+1+r.length)=cur.drop (o+(v::r).length):=by
   rw[List.drop_set_of_lt (by omega)];congr 1;simp;omega
  simp only[gD];rw[i,ak];simp
theorem aDy{α:Type}{l ds:List α}{p n:Nat}(h:p+ds.length<=n)(a:n<=l.length):(gD l p ds).take n=gD (l.take n) p ds:=Z2 h a
structure Si (El:Nat->Type) where
 i:Nat
 t:Nat
 g:Nat
 k:Nat
 l:List (El t)
 lo:Int
 hi:Int
def Ph{El:Nat->Type}(bl:List (aD El)):aH El->Option (Si El)
 | .v i g lo hi=>match nth bl i with
   |some (.r t a k l)=>match bS g a with
    |true=>some ⟨i,t,a,k,l,lo,hi⟩
    |false=>none
   |_=>none
 | .r i g=>match nth bl i with
   |some (.r t a k l)=>match bS g a with
    |true=>some ⟨i,t,a,k,l,0,(l.length:Int)⟩
    |false=>none
   |_=>none
 |_=>none
def TA(E:Env)(bl:List (aD E.T.El))(t:Nat)(u v:aH E.T.El):D (eo E.T.El):=match td E.P t,Ph bl u with
 |some (_,n,_),some p=>match bS n 1&&bS (E.T.ty p.t).size 1,KL E bl p.t v with
  |true,some m=>.op (C9 (decide (0<p.l.length))) λ _=>.ok ⟨some (.p (.int .i64 ((m.take (p.hi-p.lo).toNat).length:Int))),bl.set p.i (.r p.t p.g (p.k+1) (gD p.l p.lo.toNat (m.take (p.hi-p.lo).toNat))),[p.i]⟩
  |_,_=>.no
 |_,_=>.no
def Tz(E:Env)(bl:List (aD E.T.El))(t:Nat)(u:aH E.T.El):D (eo E.T.El):=match td E.P t,Ph bl u with
 |some (e,sz,_),some p=>match bS sz 1&&bS (E.T.ty p.t).size 1&& !(E.T.e p.t).agg,xE E p.t e with
  |true,some z0=>.op (C9 (decide (p.lo<p.hi))) λ _=>.ok ⟨some (.u []),bl.set p.i (.r p.t p.g (p.k+1) (gD p.l p.lo.toNat (fN (p.hi-p.lo).toNat z0))),[p.i]⟩
  |_,_=>.no
 |_,_=>.no
section
variable{E:Env}{W w w':World}{M0:List Nat}{X:Nat->Prop}{n:cB}{f:cy E.T.El}{bl:List (aD E.T.El)}{ρ:List Value}{a:Act}{cur:List (Nat×Bool)}
theorem ajq(r:Mem E.T W M0 X bl ρ w){u:aH E.T.El}{v:Value}{p:Si E.T.El}(h:Ph bl u=some p)(x:(E.T.ty p.t).size=1)(q:ar E.T (bi X bl ρ w) w ρ bl u v) :
 bl[p.i]? =some (.r p.t p.g p.k p.l)/\0<=p.lo/\p.lo<=p.hi/\p.hi<=p.l.length/\ ∃A c B j,ρ[p.i]? =some (.slice A p.l.length c)/\v= .slice B (p.hi.toNat-p.lo.toNat) j/\(p.lo<p.hi->B=A.map (·.add p.lo.toNat)):=by
 unfold Ph at h
 split at h
 ·rename_i i g lo hi
  split at h
  ·rename_i t y k l b
   rw[c7]at b
   split at h
   ·rename_i af
    simp only[aF]at h
    subst h
    simp only[ar]at q
    obtain⟨_,aL,m,z,o⟩:=q
    rw[b]at o
    obtain⟨A,n,c,B,s,ak,aS,bN,dq,eH,C⟩:=o (bd af)
    obtain⟨cj,j,xs,d,D,F⟩:=r.ok _ _ _ b m
    rw[s]at d
    simp only[Value.slice.injEq]at d
    obtain⟨rfl,rfl,rfl⟩:=d
    refine⟨b,ak,aS,bN,A,c,B,_,s▸m,dq,λ G=>?_⟩
    have:=C G
    simp only[jj,x,jB]at this
    exact this
   ·cases h
  ·cases h
 ·rename_i i g
  split at h
  ·rename_i t y k l b
   rw[c7]at b
   split at h
   ·rename_i af
    simp only[aF]at h
    subst h
    simp only[ar]at q
    obtain⟨_,aL,m,z,o⟩:=q
    rw[b]at o
    have e:=o (bd af)
    subst e
    obtain⟨cj,j,xs,d,D,F⟩:=r.ok _ _ _ b m
    refine⟨b,k2 _,by simp,k2 _,cj,j,cj,j,d▸m,by simpa using d,λ _=>?_⟩
    cases cj with
    |none=>rfl
    |some ec=>
     simp[Addr.add]
   ·cases h
  ·cases h
 ·cases h
theorem akj(m:Mem E.T W M0 X bl ρ w){o:Oper}{p:Si E.T.El}{A:Option Addr}{c:Nat}(hi:bl[p.i]? =some (.r p.t p.g p.k p.l))(d:ρ[p.i]? =some (.slice A p.l.length c))(g:(E.T.ty p.t).size=1){q:Nat}{ds:List (E.T.El p.t)}{vs:List Value}(x:dE (E.T.ty p.t) (bi X bl ρ w) w vs ds)(z:0<p.l.length)(i:q+ds.length<=p.l.length) :
 ∃gb,A=some ⟨gb,0,none⟩/\vs.length=ds.length/\(∀j,j<p.l.length->(w.cell? ⟨gb,j,none⟩).isSome=true)/\(∀j,w.frozen? ⟨gb,j,none⟩=false)/\
  ∀ {r:Value}{y:aH E.T.El},(∀(F:Nat->Prop)(w:World)(ρ:List Value)(bl:List (aD E.T.El)),ar E.T F w ρ bl y r)->bg E.P o a w r (w.setCells gb q vs)->gV E o a W M0 X bl ρ w ⟨some y,bl.set p.i (.r p.t p.g (p.k+1) (gD p.l q ds)),[p.i]⟩:=by
 obtain⟨cj,Y,xs,B,C,D⟩:=m.ok _ _ _ hi d
 simp only[Value.slice.injEq,true_and]at B
 obtain⟨rfl,rfl⟩:=B
 obtain⟨gb,rfl,Z,hc,M⟩:=uw z C
 have s:=w5 _ x
 rw[g,jB]at s
 have G:=w5 _ D
 rw[g,jB]at G
 have H:=C.own z
 rw[g]at H
 rcases H.2 with⟨_,aG⟩|⟨g',cap,cur,I,ak,aS,bN,dq,eH,J⟩
 ·omega
 simp only[Value.slice.injEq,aF,Addr.mk.injEq,and_true,true_and]at I
 obtain⟨rfl,rfl⟩:=I
 rw[jB]at eH J
 have N:(⟨cur.toList⟩:Array Value)=cur:=by simp
 refine⟨gb,rfl,s,λ j aA=>?_,λ j=>by simp[World.frozen?,aS],λ{r y} hy O=>?_⟩
 ·have:j<cur.size:=by omega
  simp[World.cell?,aS,this]
 have P:bB (aD.r p.t p.g p.k p.l) (.slice (some ⟨gb,0,none⟩) p.l.length c)=[gb]:=M _
 have t:bp (bB (aD.r p.t p.g p.k p.l) (.slice (some ⟨gb,0,none⟩) p.l.length c)) w (w.setCells gb q vs):=by rw[P];exact afk gb vs q w
 have u:=akA gb p.t (0,0) vs q w cur.toList (by rw[<-N]at aS;exact aS) (by simp;omega)
 have Q:rowIs (w.setCells gb q vs) p.t 1 (.slice (some ⟨gb,0,none⟩) p.l.length c) p.l.length (gD xs q vs):=by
  refine .inl ⟨by rw[Pa (by omega),G,jB],.inr ⟨gb,c,_,rfl,ak,u,bN,dq,?_,?_⟩⟩
  ·have:=Pa (l:=cur.toList) (p:=q) (ds:=vs) (by simp;omega)
   simpa[eH]using this
  ·simp only[jB]
   rw[aDy (by omega) (by simp;omega),J]
 have ad:∀k∈bB (aD.r p.t p.g (p.k+1) (gD p.l q ds)) (.slice (some ⟨gb,0,none⟩) p.l.length c),k∈bB (aD.r p.t p.g p.k p.l) (.slice (some ⟨gb,0,none⟩) p.l.length c)\/(w.heap.size<=k/\k<(w.setCells gb q vs).heap.size):=λ k v=>.inl v
 have R:∀ {h:Value},(¬kE h->h=h)/\b1 (some (aD.r p.t p.g p.k p.l))<=b1 (some (aD.r p.t p.g (p.k+1) (gD p.l q ds)))/\(b1 (some (aD.r p.t p.g (p.k+1) (gD p.l q ds)))=b1 (some (aD.r p.t p.g p.k p.l))->h=h/\jj E.T (some (aD.r p.t p.g (p.k+1) (gD p.l q ds)))=jj E.T (some (aD.r p.t p.g p.k p.l))/\gQ (some (aD.r p.t p.g p.k p.l))<=gQ (some (aD.r p.t p.g (p.k+1) (gD p.l q ds)))/\(gQ (some (aD.r p.t p.g (p.k+1) (gD p.l q ds)))=gQ (some (aD.r p.t p.g p.k p.l))->ji (some (aD.r p.t p.g (p.k+1) (gD p.l q ds)))=ji (some (aD.r p.t p.g p.k p.l)))):=λ{h}=>
  ⟨λ _=>rfl,cC _,λ _=>⟨rfl,rfl,Nat.le_succ _,λ e=>by simp[gQ]at e⟩⟩
 have b:=m.Dq (B':=aD.r p.t p.g (p.k+1) (gD p.l q ds)) (h':=.slice (some ⟨gb,0,none⟩) p.l.length c) hi d t ad R
 have aj:=Gy d
 have S:dE (E.T.ty p.t) (bi X (bl.set p.i (.r p.t p.g (p.k+1) (gD p.l q ds))) ρ (w.setCells gb q vs)) (w.setCells gb q vs) (gD xs q vs) (gD p.l q ds):=by
  rw[aj]at b;have K:=ov _ b.F D;have U:=ov _ b.F x;have c1:=uu 0 q K;have c2:=uu (q+ds.length) p.l.length K;rw[g]at c1 c2;simp only[jB,Nat.zero_mul,gS]at c1 c2;rw[hQ (by omega),hQ (by omega)]at c2;have:=Kg _ c2 (Kg _ U c1);unfold gD;rw[s];exact this
 have L:=m.gP (B':=aD.r p.t p.g (p.k+1) (gD p.l q ds)) (h':=.slice (some ⟨gb,0,none⟩) p.l.length c) hi d t ad b (by
  rw[aj];exact⟨some ⟨gb,0,none⟩,c,gD xs q vs,by rw[Pa i],by rw[g,Pa i];exact Q,S⟩)
 rw[aj]at L b
 exact⟨_,ρ,L,b,λ k v V=>t.block k v (V p.i (by simp) _ _ hi d),r,O,hy _ _ _ _⟩
theorem avD(a6:c8 E)(i:Mem E.T W M0 X bl ρ w){o:Oper}{t:Nat}{x y:Operand}{u v:aH E.T.El}{r:eo E.T.El}(h:(TA E bl t u v).out r)(z:o.op= .call { callee:=.builtin .copy,args:=#[x,y],argTypes:=#[t,t] })
 (K:ar E.T (bi X bl ρ w) w ρ bl u (a.eval x))(hy:ar E.T (bi X bl ρ w) w ρ bl v (a.eval y)):gV E o a W M0 X bl ρ w r:=by
 unfold TA at h
 split at h
 ·rename_i e n bZ p L M
  obtain⟨C,i0,eN,N,n4,O,jL,Q,hl,R⟩:=yn L
  split at h
  ·rename_i m af S
   simp only[bH]at af
   have U:=bd af.1
   have d:=bd af.2
   subst U
   obtain⟨_,k,h⟩:=h
   have k:0<p.l.length:=of_decide_eq_true (XL k)
   have h:(⟨some (.p (.int .i64 ((m.take (p.hi-p.lo).toNat).length:Int))),bl.set p.i (.r p.t p.g (p.k+1) (gD p.l p.lo.toNat (m.take (p.hi-p.lo).toNat))),[p.i]⟩:eo E.T.El)=r:=h
   subst h
   obtain⟨hi,l1,cI,jN,A,c,B,D,V,G,ak⟩:=ajq i M d K
   obtain⟨Y,c2,news,H,Z,I⟩:=akR a6 i S hy
   have I9:=w5 _ I
   rw[d,jB]at I9
   have b:(m.take (p.hi-p.lo).toNat).length=Nat.min m.length (p.hi.toNat-p.lo.toNat):=by
    rw[gw,Nat.min_comm];congr 1;omega
   have l:=uu 0 (p.hi-p.lo).toNat I
   rw[d]at l
   simp only[jB,Nat.zero_mul,gS]at l
   have J:(E.P.info? e).map (·.size)=some 1:=by rw[N];simp[O]
   obtain⟨gb,rfl,g,iY,Vw,fin⟩:=akj (o:=o) (a:=a) (q:=p.lo.toNat) i hi V d l k (by rw[b];have:=Nat.min_le_right m.length (p.hi.toNat-p.lo.toNat);have e:Nat.min m.length (p.hi.toNat-p.lo.toNat)=min m.length (p.hi.toNat-p.lo.toNat):=rfl;omega)
   refine fin (r:=.int .i64 ((m.take (p.hi-p.lo).toNat).length:Int)) (λ F w ρ bl=>by simp only[ar]) ?_
   rcases lj (m.take (p.hi-p.lo).toNat).length with aG |aG
   ·have s:=run_copy_none (P:=E.P) w t t o.type e B Y (p.hi.toNat-p.lo.toNat) D m.length c2 C J (by rw[<-b];exact aG)
    have b7:news.take (p.hi-p.lo).toNat=[]:=hf (g.trans aG)
    rw[b7,aG]
    simp only[bg,execOp,z,resolve,invoke,builtin,Sem.run_bind,Sem.run_pure,Result.andThen_ok,gX,eu,hS,G,H,s]
    rfl
   ·have bC:p.lo<p.hi:=by
     rw[b]at aG;have e:Nat.min m.length (p.hi.toNat-p.lo.toNat)=min m.length (p.hi.toNat-p.lo.toNat):=rfl;omega
    rcases Z with⟨br,_⟩|⟨ec,rfl,bA,bU,gd⟩
    ·rw[b,br]at aG
     have e:Nat.min 0 (p.hi.toNat-p.lo.toNat)=min 0 (p.hi.toNat-p.lo.toNat):=rfl
     omega
    ·have bO:=ak bC
     have bO:B=some ⟨gb,p.lo.toNat,none⟩:=by rw[bO];simp[Addr.add];try omega
     subst bO
     have s:=run_copy_cells (P:=E.P) w t t o.type e gb p.lo.toNat (p.hi.toNat-p.lo.toNat) D ec m.length c2 (news.take (p.hi-p.lo).toNat) C J (by rw[g,b]) (λ j u aA=>by
      rw[gT]at aA;split at aA
      ·exact bU j u aA
      ·cases aA) (λ j aA=>iY _ (by rw[g,b]at aA;have e:Nat.min m.length (p.hi.toNat-p.lo.toNat)=min m.length (p.hi.toNat-p.lo.toNat):=rfl;omega)) (λ j _=>Vw _) (λ v ag=>gd v (List.mem_of_mem_take ag))
     rw[<-g]
     simp only[bg,execOp,z,resolve,invoke,builtin,Sem.run_bind,Sem.run_pure,Result.andThen_ok,gX,eu,hS,G,H,s]
     rfl
  ·exact h.elim
 ·exact h.elim
theorem avC(a6:c8 E)(z:Mem E.T W M0 X bl ρ w){o:Oper}{t:Nat}{x:Operand}{u:aH E.T.El}{r:eo E.T.El}(h:(Tz E bl t u).out r)(I:o.op= .call { callee:=.builtin .clear,args:=#[x],argTypes:=#[t] })
 (J:ar E.T (bi X bl ρ w) w ρ bl u (a.eval x)):gV E o a W M0 X bl ρ w r:=by
 unfold Tz at h
 split at h
 ·rename_i e n bZ p K L
  obtain⟨M,i0,d,C,D,fO,jL,k,hl,N⟩:=yn K
  split at h
  ·rename_i z0 af b
   simp only[bH]at af
   have O:(E.T.e p.t).agg=false:=by simpa using af.2
   have Q:=bd af.1.1
   have G:=bd af.1.2
   subst Q
   obtain⟨_,R,h⟩:=h
   have S:p.lo<p.hi:=of_decide_eq_true (XL R)
   have h:(⟨some (.u []),bl.set p.i (.r p.t p.g (p.k+1) (gD p.l p.lo.toNat (fN (p.hi-p.lo).toNat z0))),[p.i]⟩:eo E.T.El)=r:=h
   subst h
   obtain⟨hi,l1,cI,jN,A,c,B,U,V,m,ak⟩:=ajq z L G J
   obtain⟨eB,s⟩:∃eB,d.cells= #[eB]:=by
    revert k;generalize d.cells=cs;obtain⟨l⟩:=cs;intro ap;cases l with
    |nil=>simp at ap
    |cons c r=>cases r with
     |nil=>exact⟨c,rfl⟩
     |cons _ _=>simp at ap
   have i:(E.T.ty p.t).rd (bi X bl ρ w) w [eB] z0/\d=eB:=by
    unfold xE at b;split at b
    ·rename_i Y kD
     split at b
     ·rename_i v
      have m:Y=d:=by
       simp only[Hp,C]at kD;rw[D]at kD;exact(ei kD).symm
      subst m
      have:=a6.tb.hn _ _ _ b (bi X bl ρ w) w ρ bl _ (sl _)
      rw[s]at this
      have g:=aol v
      rw[O,s]at g
      exact⟨this,g⟩
     ·cases b
    ·cases b
   obtain⟨i,y⟩:=i
   have Z:eB.oneCell'=true:=(E.T.ty p.t).one i eB (by simp)
   have jJ:dE (E.T.ty p.t) (bi X bl ρ w) w (fN (p.hi-p.lo).toNat eB) (fN (p.hi-p.lo).toNat z0):=by
    generalize(p.hi-p.lo).toNat=q;induction q with
    |zero=>rfl
    |succ q bb=>exact⟨[eB],fN q eB,rfl,i,bb⟩
   obtain⟨gb,rfl,v_,iY,Vw,fin⟩:=akj (o:=o) (a:=a) (q:=p.lo.toNat) z hi V G jJ (by omega) (by rw[ks];omega)
   refine fin (λ F w ρ bl=>by simp only[ar];exact⟨[],rfl,by simp[a7]⟩) ?_
   have bO:=ak S
   have bO:B=some ⟨gb,p.lo.toNat,none⟩:=by rw[bO];simp[Addr.add];try omega
   subst bO
   have H:=Lib.run_clear_slice (P:=E.P) w t e o.type d M (λ w=>by simp only[zeroValue,typeInfo,Sem.run_bind];simp[go_sem,C,D]) (by rw[s,y]) (by rw[y];exact Z) gb p.lo.toNat (p.hi.toNat-p.lo.toNat) U (by omega) (λ j aA=>iY _ (by omega)) (λ j _=>Vw _)
   have e:p.hi.toNat-p.lo.toNat=(p.hi-p.lo).toNat:=by omega
   rw[e,y]at H
   simp only[bg,execOp,I,resolve,invoke,builtin,Sem.run_bind,Sem.run_pure,Result.andThen_ok,gX,eu,hS,m,e,H]
  ·exact h.elim
 ·exact h.elim
end
end bc
namespace bc
open Go Go.RowKit aw I
def MI(E:Env)(bl:List (aD E.T.El))(f:cy E.T.El)(cur:List (Nat×Bool)):Op->D (eo E.T.El)
 | .alloc t=>match Ed E.P t with
   |some z=>.ok ⟨some (.b bl.length 0),bl++[.c t (z.map .p)],[]⟩
   |none=>.no
 | .box t x=>match od E bl f cur x with
   |some y=>.ok ⟨some (.b bl.length 0),bl++[.c t (cellsOf y)],[]⟩
   |none=>.no
 | .makeMap t none=>match mapOf E.P t with
   |some (k,e)=>match(E.T.e k).key with
    |some _=>.ok ⟨some (.m bl.length),bl++[.m k e []],[]⟩
    |none=>.no
   |none=>.no
 | .store t p x=>match od E bl f cur p,od E bl f cur x with
   |some u,some v=>TN E bl t u v
   |_,_=>.no
 | .mapUpdate t m k x=>match od E bl f cur m,od E bl f cur k,od E bl f cur x with
   |some u,some v,some z=>MJ E bl t u v z
   |_,_,_=>.no
 | .insert t m k x=>match od E bl f cur m,od E bl f cur k,od E bl f cur x with
   |some u,some v,some z=>MJ E bl t u v z
   |_,_,_=>.no
 | .buildSlice t n ⟨ps⟩=>match F4 E bl f cur ps with
   |some ys=>TE E bl t n ys
   |none=>.no
 | .makeSlice t x y=>match od E bl f cur x with
   |some u=>TJ E bl t x y u
   |none=>.no
 | .convert s d x=>match od E bl f cur x with
   |some u=>TP E bl s d u
   |none=>.no
 | .call ⟨.builtin .append,⟨[x,y]⟩,⟨[t,t']⟩⟩=>match bS t t',od E bl f cur x,od E bl f cur y with
   |true,some u,some v=>Tv E bl t u v
   |false,some u,some v=>Tw E bl t t' u v
   |_,_,_=>.no
 | .call ⟨.builtin .copy,⟨[x,y]⟩,⟨[t,t']⟩⟩=>match bS t t',od E bl f cur x,od E bl f cur y with
   |true,some u,some v=>TA E bl t u v
   |_,_,_=>.no
 | .call ⟨.builtin .clear,⟨[x]⟩,⟨[t]⟩⟩=>match od E bl f cur x with
   |some u=>Tz E bl t u
   |none=>.no
 |_=>.no
section
variable{E:Env}{W w w':World}{M0:List Nat}{X:Nat->Prop}{n:cB}{f:cy E.T.El}{bl:List (aD E.T.El)}{ρ:List Value}{a:Act}{cur:List (Nat×Bool)}
theorem avG(a6:c8 E)(h:R E W M0 X n f bl ρ a w)(hc:jF a cur){o:Oper}{op:Op}(d:o.op=op){r:eo E.T.El}(b:(MI E bl f cur op).out r):gV E o a W M0 X bl ρ w r:=by
 unfold MI at b;split at b
 ·rename_i t
  split at b
  ·rename_i z c
   have b:(⟨some (.b bl.length 0),bl++[.c t (z.map .p)],[]⟩:eo E.T.El)=r:=b
   subst b
   obtain⟨j,g,i⟩:=LC c
   exact aiC h.mem (sl z) (AM g i d)
  ·exact b.elim
 ·rename_i t x
  split at b
  ·rename_i y c
   have b:(⟨some (.b bl.length 0),bl++[.c t (cellsOf y)],[]⟩:eo E.T.El)=r:=b
   subst b
   exact aiC h.mem (oZ (dt h hc c)) (Rz (v:=a.eval x) (by simp) d rfl)
  ·exact b.elim
 ·rename_i t
  split at b
  ·rename_i k e c
   split at b
   ·rename_i K J
    have b:(⟨some (.m bl.length),bl++[.m k e []],[]⟩:eo E.T.El)=r:=b
    subst b
    exact aCO h.mem J (aLH d)
   ·exact b.elim
  ·exact b.elim
 ·split at b
  ·rename_i u v c J
   exact avS a6 h.mem b d (dt h hc c) (dt h hc J)
  ·exact b.elim
 ·split at b
  ·rename_i u v z c J ap
   exact afi a6 h.mem b (.inl d) (dt h hc c) (dt h hc J) (dt h hc ap)
  ·exact b.elim
 ·split at b
  ·rename_i u v z c J ap
   exact afi a6 h.mem b (.inr d) (dt h hc c) (dt h hc J) (dt h hc ap)
  ·exact b.elim
 ·split at b
  ·rename_i ys c
   exact avJ a6 h.mem b d (XT h hc c)
  ·exact b.elim
 ·split at b
  ·rename_i u c
   exact avO a6 h.mem b d (dt h hc c)
  ·exact b.elim
 ·split at b
  ·rename_i u c
   exact avT a6 h.mem b d (dt h hc c)
  ·exact b.elim
 ·rename_i x y t t'
  split at b
  ·rename_i u v c J ap
   have:=bd c
   subst this
   exact avz a6 h.mem b d (dt h hc J) (dt h hc ap)
  ·rename_i u v c J ap
   exact avy a6 h.mem b d (dt h hc J) (dt h hc ap)
  ·exact b.elim
 ·rename_i x y t t'
  split at b
  ·rename_i u v c J ap
   have:=bd c
   subst this
   exact avD a6 h.mem b d (dt h hc J) (dt h hc ap)
  ·exact b.elim
 ·split at b
  ·rename_i u c
   exact avC a6 h.mem b d (dt h hc c)
  ·exact b.elim
 ·exact b.elim
end
inductive LV
 |q
 |e
 |c
 |no
def Oc(P:Program):Op->LV
 | .call c=>match c.callee with
   | .value _=>.c
   | .builtin .len=>.q
   | .builtin .cap=>.q
   | .builtin .append=>.e
   | .builtin .copy=>.e
   | .builtin .clear=>.e
   |_=>.no
 | .alloc _ | .box _ _ | .makeMap _ _ | .store _ _ _ | .mapUpdate _ _ _ _ | .insert _ _ _ _ | .buildSlice _ _ _ | .makeSlice _ _ _=>.e
 | .convert s _ _=>match P.underlying s with
   |some .string=>.e
   |_=>.q
 | .move _ | .assign _ | .pick _ _ _ | .binOp _ _ _ _ _ | .unOp _ _ _ | .load _ _ | .fieldAddr _ _ _ | .nilCheck _ | .extract _ _ | .makeFunc _ _ _ | .makeInterface _ _ | .indexAddr _ _ _ | .index _ _ _
   | .slice _ _ _ _ _ | .lookup _ _ _ _ | .field _ _ _ | .build _ _=>.q
 |_=>.no
inductive acC
 |run
 |skip
 |maybe (bz:Nat) (want b:Bool)
 |cond (bz:Nat) (want:Bool)
 |no
def EI:Bool->Bool->Bool
 |true,true=>true
 |false,false=>true
 |_,_=>false
theorem yb{a b:Bool}:EI a b=true↔a=b:=by cases a<;>cases b<;>simp[EI]
def M9(E:Env)(ops:Array Oper)(f:cy E.T.El)(n:Nat):Option (Nat×Bool)->acC
 |none=>.run
 |some (j,want)=>match Io ops j with
  |none=>.no
  |some bz=>match ez bz n with
   |false=>.no
   |true=>match cD f.eg bz with
    |some b=>match EI b want with
     |true=>.run
     |false=>.skip
    |none=>match cD f.fr bz with
     |some (.p (.tuple ⟨[]⟩))=>.skip
     |some (.p (.bool b))=>match E.cl with
      |true=>match EI b want with
       |true=>.run
       |false=>.skip
      |false=>.maybe bz want b
     |some _=>.no
     |none=>.cond bz want
section
variable{E:Env}{W w w':World}{M0:List Nat}{X:Nat->Prop}{n:cB}{f:cy E.T.El}{bl:List (aD E.T.El)}{ρ:List Value}{a:Act}{cur:List (Nat×Bool)}{ops:Array Oper}{o:Oper}
theorem aIf{j bz:Nat}{want:Bool}(aj:a.tmps.size=n.n)(c:o.guard=some (j,want))(aA:(ops[j]?).bind (·.dst)=some bz)(d:ez bz n.n=true) :
 Region.wanted o (yielded ops a.tmps)=true↔a.tmps.getD bz undef= .bool want:=by
 have e:bz<n.n:=cv d
 have J:a.tmps[bz]? =some (a.tmps.getD bz undef):=by
  rw[jh (by omega)];simp[ek,aj,e]
 simp only[Region.wanted,c,yielded,aA,ae,J,beq_iff_eq]
 constructor
 ·intro h
  split at h
  ·rename_i b af
   simp only[aF]at h af
   rw[af,h]
  ·cases h
 ·intro h
  rw[h]
def ass(E:Env)(ops:Array Oper)(o:Oper)(a:Act)(f:cy E.T.El)(n:Nat):acC->Prop
 | .run=>Region.wanted o (yielded ops a.tmps)=true
 | .skip=>Region.wanted o (yielded ops a.tmps)=false
 | .maybe bz want b=>ez bz n=true/\a.tmps.getD bz undef= .bool b/\(Region.wanted o (yielded ops a.tmps)=true↔a.tmps.getD bz undef= .bool want)
 | .cond bz want=>ez bz n=true/\(Region.wanted o (yielded ops a.tmps)=true↔a.tmps.getD bz undef= .bool want)
 | .no=>True
theorem afK(h:R E W M0 X n f bl ρ a w):ass E ops o a f n.n (M9 E ops f n.n o.guard):=by
 have aj:=h.dT.ef.size;cases i:o.guard with
 |none=>exact Qk i
 |some p=>
  obtain⟨j,want⟩:=p
  simp only[M9]
  split
  ·trivial
  ·rename_i bz k
   have l:=afY k
   split
   ·trivial
   ·rename_i g
    have c:=aIf (ops:=ops) (o:=o) aj i l g
    split
    ·rename_i b m
     have e:=h.dT.eg _ (ob m)
     split
     ·rename_i af
      rw[yb]at af
      subst af
      exact c.2 e
     ·rename_i af
      refine(hz).2 λ d=>?_
      have:=c.1 d
      rw[e]at this
      injection this with this
      rw[yb.2 this]at af
      cases af
    ·split
     ·rename_i ad
      have e:=h.dT.ef.get _ _ ad
      simp only[ar]at e
      refine(hz).2 λ d=>?_
      have:=c.1 d
      rw[e]at this
      cases this
     ·rename_i b ad
      have e:=h.dT.ef.get _ _ ad
      simp only[ar]at e
      split
      ·split
       ·rename_i af
        rw[yb]at af
        subst af
        exact c.2 e
       ·rename_i af
        refine(hz).2 λ d=>?_
        have:=c.1 d
        rw[e]at this
        injection this with this
        rw[yb.2 this]at af
        cases af
      ·exact⟨g,e,c⟩
     ·trivial
     ·exact⟨g,c⟩
end
end bc
namespace bc
open Go Go.RowKit aw I
section
variable{α:Type}{β:Type 1}
noncomputable def tj(l:List α)(k:List α->β):β:=List.rec (motive:=λ _=>(List α->β)->β) (λ k=>k []) (λ p _ a k=>a λ r=>k (p::r)) l k
theorem T3(l:List α):∀k:List α->β,tj l k=k l:=by
 induction l with
 |nil=>exact λ k=>rfl
 |cons p r a=>exact λ k=>a λ r=>k (p::r)
noncomputable def p9(n:Nat)(k:Nat->β):β:=Nat.casesOn (motive:=λ _=>β) n (k 0) λ m=>k (Nat.succ m)
theorem MX(n:Nat)(k:Nat->β):p9 n k=k n:=by cases n<;>rfl
noncomputable def MW(n:Int)(k:Int->β):β:=Int.casesOn (motive:=λ _=>β) n (λ m=>p9 m λ m=>k (Int.ofNat m)) (λ m=>p9 m λ m=>k (Int.negSucc m))
theorem afC(n:Int)(k:Int->β):MW n k=k n:=by
 cases n
 ·rename_i m;exact MX m λ m=>k (Int.ofNat m)
 ·rename_i m;exact MX m λ m=>k (Int.negSucc m)
noncomputable def afB(b:Bool)(k:Bool->β):β:=Bool.casesOn (motive:=λ _=>β) b (k false) (k true)
theorem awe(b:Bool)(k:Bool->β):afB b k=k b:=by cases b<;>rfl
noncomputable def T4(v:Value)(k:Value->β):β:=match v with
 | .int i n=>MW n λ n=>k (.int i n)
 | .bool b=>afB b λ b=>k (.bool b)
 |v=>k v
theorem awi(v:Value)(k:Value->β):T4 v k=k v:=by
 unfold T4;split
 ·exact afC _ _
 ·exact awe _ _
 ·rfl
variable{El:Nat->Type}
noncomputable def T5(y:aH El)(k:aH El->β):β:=match y with
 | .p v=>T4 v λ v=>k (.p v)
 | .b i o=>p9 i λ i=>p9 o λ o=>k (.b i o)
 | .r i g=>p9 i λ i=>p9 g λ g=>k (.r i g)
 | .v i g lo hi=>p9 i λ i=>p9 g λ g=>MW lo λ lo=>MW hi λ hi=>k (.v i g lo hi)
 | .s t l=>tj l λ l=>k (.s t l)
 | .a l=>tj l λ l=>k (.a l)
 |y=>k y
theorem awj(y:aH El)(k:aH El->β):T5 y k=k y:=by
 unfold T5;split<;>simp only[awi,MX,afC,T3]
noncomputable def MV(B:aD El)(k:aD El->β):β:=match B with
 | .c ty cs=>tj cs λ cs=>k (.c ty cs)
 | .r t g n l=>p9 g λ g=>p9 n λ n=>tj l λ l=>k (.r t g n l)
 | .k t sz g cs=>p9 g λ g=>tj cs λ cs=>k (.k t sz g cs)
 | .m kt vt d=>tj d λ d=>k (.m kt vt d)
 |B=>k B
theorem awg(B:aD El)(k:aD El->β):MV B k=k B:=by
 unfold MV;split<;>simp only[MX,T3]
noncomputable def MU(ws:List Nat)(b:Nat)(l:List (aD El)):Nat->(List (aD El)->β)->β:=List.rec (motive:=λ _=>Nat->(List (aD El)->β)->β) (λ _ k=>k []) (λ B _ a n k=>cond (e2 ws n||jc b n) (MV B λ B=>a (n+1) λ r=>k (B::r)) (a (n+1) λ r=>k (B::r))) l
theorem awf(ws:List Nat)(a:Nat)(l:List (aD El)):∀(n:Nat)(k:List (aD El)->β),MU ws a l n k=k l:=by
 induction l with
 |nil=>exact λ n k=>rfl
 |cons B r b=>
  intro n k
  show cond (e2 ws n||jc a n) (MV B λ B=>MU ws a r (n+1) λ r=>k (B::r)) (MU ws a r (n+1) λ r=>k (B::r))=_
  rw[awg,b]
  cases e2 ws n||jc a n<;>rfl
noncomputable def T2(f:cy El)(k:cy El->β):β:=match f with
 |⟨(d,y)::r,gs,eg⟩=>T5 y λ y=>tj r λ r=>tj gs λ gs=>tj eg λ eg=>k ⟨(d,y)::r,gs,eg⟩
 |f=>k f
theorem awh(f:cy El)(k:cy El->β):T2 f k=k f:=by
 unfold T2;split<;>simp only[awj,T3]
end
noncomputable def Da(E:Env){β:Type 1}(f:cy E.T.El)(k:cy E.T.El->β):β:=match E.cl with
 |true=>T2 f k
 |false=>k f
theorem Db{E:Env}{β:Type 1}(f:cy E.T.El)(k:cy E.T.El->β):Da E f k=k f:=by
 unfold Da;split
 ·exact awh f k
 ·rfl
noncomputable def JV(E:Env){β:Type 1}(ws:List Nat)(a:Nat)(l:List (aD E.T.El))(k:List (aD E.T.El)->β):β:=match E.cl with
 |true=>MU ws a l 0 k
 |false=>k l
theorem O4{E:Env}{β:Type 1}(ws:List Nat)(a:Nat)(l:List (aD E.T.El))(k:List (aD E.T.El)->β):JV E ws a l k=k l:=by
 unfold JV;split
 ·exact awf ws a l 0 k
 ·rfl
end bc
