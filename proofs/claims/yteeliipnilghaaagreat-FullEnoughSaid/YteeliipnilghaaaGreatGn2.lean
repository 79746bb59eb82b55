/- Part 2 of the proof that is ended in the last text: small logic, what the functions compute, walks, plain laws. -/
import Derived.Test.YteeliipnilghaaaGreatGn1
import Derived.Lib.AppendStr
import Derived.Lib.UnsafeStr
import Derived.Lib.Builder
import Derived.Laws.Externs
import Derived.LaidEql
import Derived.WalkSmall
import Derived.Laws.IdiomCopy
import Derived.Lib.SliceRun
open Array renaming getD_eq_getD_getElem?->eF,getElem?_eq_getElem->jz,getElem?_eq_none->h6,getElem?_eq_some_iff->gz,getElem?_modify->j2,getElem?_setIfInBounds->gm,getElem?_toList->hR
open Bool renaming and_eq_true->cd,eq_false_iff->gQ,false_eq_true->hM,or_eq_false_iff->ik,or_eq_true->h3
open Int renaming eq_ofNat_of_zero_le->lH,le_refl->k7,toNat_natCast->bV
open List renaming all_eq_true->kp,append_assoc->fA,cons.injEq->hU,cons_append->ih,drop_zero->hf,eq_nil_of_length_eq_zero->hD,ext_getElem?->kX,foldl_cons->jn,getElem?_append->mR,getElem?_append_left->er,getElem?_append_right->eS,getElem?_cons_zero->ee,getElem?_drop->iF,getElem?_eq_getElem->aN,getElem?_eq_none->gH,getElem?_eq_some_iff->aR,getElem?_map->jv,getElem?_set_ne->jx,getElem?_set_self->gu,getElem?_take->hx,length_append->dM,length_cons->di,length_drop->j6,length_map->hd,length_pos_iff->lY,length_replicate->j3,length_set->hg,length_take->gl,map_append->jM,map_cons->ez,map_nil->ig,map_toArray->hz,mem_append->cf,mem_cons->cH,mem_cons_of_mem->d_,mem_flatMap->hN,mem_map->hQ,mem_of_getElem?->bH,mem_singleton->dV,replicate->gk,set_getElem_self->mv,take_append->k3,take_append_drop->ju,take_append_of_le_length->j5,take_length->jy,take_of_length_le->hS,take_succ_cons->j9
open Nat renaming add_assoc->kb,add_mul->jP,add_zero->j_,beq->cj,ble->jw,blt->fg,decEq->lL,eq_of_beq_eq_true->bd,eq_zero_or_pos->lI,le_mul_of_pos_right->mm,le_of_ble_eq_true->cJ,le_refl->cP,le_trans->hl,lt_of_lt_of_le->eN,lt_or_ge->gI,lt_succ_self->lM,min_eq_left->l2,mul_le_mul_right->j8,mul_one->jR,sub_self->l4,zero_add->jO,zero_le->gY
open Option renaming bind_some->ae,getD_none->jN,getD_some->iX,isSome_none->l7,map_eq_some_iff->cA,map_none->je,map_some->fY,some.inj->eD,some.injEq->aF
open Prod renaming mk.injEq->cB
noncomputable section
namespace ba
open Go Go.RowKit ay I
def ag:Value->List Nat
 | .pointer (some a)=>[a.block]
 | .map (some r)=>[r]
 | .slice (some a) _ (_+1)=>[a.block]
 |_=>[]
def bF{El:Nat->Type}:aH El->Value->List Nat
 | .z _ _ _ _,_=>[]
 | .no _,_=>[]
 |_,h=>ag h
def q1{El:Nat->Type}(bl:List (aH El))(ρ:List Value)(k:Nat):Prop:=∃(i:Nat)(B:aH El)(h:Value),bl[i]? =some B/\ρ[i]? =some h/\k∈bF B h
def bj{El:Nat->Type}(X:Nat->Prop)(bl:List (aH El))(ρ:List Value)(w:World):Nat->Prop:=λ k=>¬X k/\¬q1 bl ρ k/\k<w.heap.size
def rowIs(w:World)(t sz:Nat)(h:Value)(n:Nat)(xs:List Value):Prop:=w.ownsRow 0 t sz h n xs\/(n=0/\xs=[]/\∃A,h= .slice A 0 0)
section
variable(T:bU)(F:Nat->Prop)(w:World)
variable(ρ:List Value)(bl:List (aH T.El))
def jF:aH T.El->Value->Prop
 | .c ty cs,h=>∃g vs,h= .pointer (some ⟨g,0,none⟩)/\w.heap[g]? =some (.cells ⟨vs⟩ ty (0,0))/\a_ T F w ρ bl cs vs
 | .r t _ _ l,h=>∃A c xs,h= .slice A l.length c/\rowIs w t (T.ty t).size h l.length xs/\dN (T.ty t) F w xs l
 | .k t sz _ cs,h=>∃A n c xs,h= .slice A n c/\rowIs w t sz h n xs/\a_ T F w ρ bl cs xs
 | .z t _ _ l,h=>(b7 (T.ty t)).rd F w [h] l
 | .m kt vt d,h=>∃r,h= .map (some r)/\zk T F w kt vt r d
 | .o Y_,h=>∃g,h= .pointer (some ⟨g,0,none⟩)/\w.heap[g]? =some Y_
 | .no _,_=>True
end
section
variable{T:bU}{F F':Nat->Prop}{w w':World}{ρ ρ':List Value}{bl bl':List (aH T.El)}
theorem rowIs.len{t sz n:Nat}{h:Value}{xs:List Value}(e:rowIs w t sz h n xs):xs.length=n*sz:=by rcases e with e |⟨rfl,rfl,_⟩;exact e.1;simp
theorem rowIs.own{t sz n:Nat}{h:Value}{xs:List Value}(e:rowIs w t sz h n xs)(a:0<n):w.ownsRow 0 t sz h n xs:=by rcases e with e |⟨rfl,_⟩;exact e;omega
theorem rowIs.cap{t sz n c:Nat}{A:Option Addr}{xs:List Value}(e:rowIs w t sz (.slice A n c) n xs):n<=c/\c<=maxLen/\(A=none->c=0)/\(0<c->∃g,A=some ⟨g,0,none⟩):=by rcases e with e |⟨rfl,_,cu,e⟩;rcases e.2 with⟨a,d⟩|⟨g,cap,cur,a,_,_,J,b,_⟩;simp only[Value.slice.injEq]at a;obtain⟨rfl,rfl,rfl⟩:=a;exact⟨cP _,gY _,λ _=>rfl,λ h=>by omega⟩;simp only[Value.slice.injEq]at a;obtain⟨rfl,_,rfl⟩:=a;exact⟨J,b,(λ h=>by cases h),λ _=>⟨g,rfl⟩⟩;simp only[Value.slice.injEq]at e;obtain⟨rfl,_,rfl⟩:=e;exact⟨cP _,gY _,λ _=>rfl,λ h=>by omega⟩
theorem rowIs.later{t sz n c:Nat}{A:Option Addr}{xs:List Value}(e:rowIs w t sz (.slice A n c) n xs)(aj:∀k∈ag (.slice A n c),w'.heap[k]? =w.heap[k]?):rowIs w' t sz (.slice A n c) n xs:=by
 cases c with
 |zero=>
  have f:=e.cap.1;have J:=e.len;have d:n=0:=by omega
  subst d;exact .inr ⟨rfl,hD (by rw[J];simp),A,rfl⟩
 |succ c=>rcases e with e |⟨rfl,_,cu,e⟩;left;have:=(bc.row t sz (.slice A n (c+1)) (gk n ()) xs).law w w' (λ k b=>aj k (by cases A with|none=>simp[bc.row,Value.ownBlock]at b |some a=>simpa[ag,bc.row,Value.ownBlock]using b));simpa[bc.row]using this (by simpa[bc.row]using e);simp at e
theorem jF.later(b:∀k,F k->F' k/\w'.heap[k]? =w.heap[k]?)(f:nu T ρ ρ' bl bl'){B:aH T.El}{h:Value}(aj:∀k∈bF B h,w'.heap[k]? =w.heap[k]?)(a:jF T F w ρ bl B h):jF T F' w' ρ' bl' B h:=by
 cases B with
 |c ty cs=>obtain⟨g,vs,rfl,J,e⟩:=a;exact⟨g,vs,rfl,(aj g (by simp[bF,ag])).trans J,a_.later b f cs e⟩
 |r t g k l=>obtain⟨A,c,xs,rfl,J,e⟩:=a;exact⟨A,c,xs,rfl,J.later aj,po _ b e⟩
 |k t sz g cs=>obtain⟨A,n,c,xs,rfl,J,e⟩:=a;exact⟨A,n,c,xs,rfl,J.later aj,a_.later b f cs e⟩
 |z t g k l=>exact(b7 (T.ty t)).law b a
 |m kt vt d=>obtain⟨r,rfl,J⟩:=a;exact⟨r,rfl,J.law b (aj r (by simp[bF,ag]))⟩
 |o Y_=>obtain⟨g,rfl,J⟩:=a;exact⟨g,rfl,(aj g (by simp[bF,ag])).trans J⟩
 |no g=>trivial
end
structure Mem (T:bU) (W:World) (M0:List Nat) (X:Nat->Prop) (bl:List (aH T.El)) (ρ:List Value) (w:World):Prop where
 bZ:br M0 W w
 len:ρ.length=bl.length
 ij:∀k,X k->k<W.heap.size/\k∉M0
 lt:∀k,q1 bl ρ k->k<w.heap.size/\(k∈M0\/W.heap.size<=k)
 bC:∀(i j:Nat)(B C:aH T.El)(h g:Value),bl[i]? =some B->ρ[i]? =some h->bl[j]? =some C->ρ[j]? =some g->i≠j->∀k∈bF B h,k∉bF C g
 ok:∀(i:Nat)(B:aH T.El)(h:Value),bl[i]? =some B->ρ[i]? =some h->jF T (bj X bl ρ w) w ρ bl B h
section
variable{T:bU}{W w w':World}{M0:List Nat}{X:Nat->Prop}{bl bl':List (aH T.El)}{ρ ρ':List Value}
abbrev Mem.F(_:Mem T W M0 X bl ρ w):Nat->Prop:=bj X bl ρ w
structure To (X:Nat->Prop) (bl bl':List (aH T.El)) (ρ ρ':List Value) (w w':World):Prop where
 F:∀k,bj X bl ρ w k->bj X bl' ρ' w' k/\w'.heap[k]? =w.heap[k]?
 L:nu T ρ ρ' bl bl'
 sz:w.heap.size<=w'.heap.size
 oY:∀(i:Nat)(B':aH T.El)(h':Value),bl'[i]? =some B'->ρ'[i]? =some h'->∀k∈bF B' h',k<w.heap.size->∃B h,bl[i]? =some B/\ρ[i]? =some h/\k∈bF B h
theorem To.v(h:To X bl bl' ρ ρ' w w'){y:aL T.El}{v:Value}(a:ax T (bj X bl ρ w) w ρ bl y v):ax T (bj X bl' ρ' w') w' ρ' bl' y v:=a.later h.F h.L
theorem To.vs(h:To X bl bl' ρ ρ' w w'){y:List (aL T.El)}{v:List Value}(a:a_ T (bj X bl ρ w) w ρ bl y v):a_ T (bj X bl' ρ' w') w' ρ' bl' y v:=a_.later h.F h.L y a
theorem To.trans{wS:List (aH T.El)}{b:List Value}{w'':World}(h:To X bl bl' ρ ρ' w w')(k:To X bl' wS ρ' b w' w''):To X bl wS ρ b w w'':=⟨λ q a=>⟨(k.F q (h.F q a).1).1,((k.F q (h.F q a).1).2).trans (h.F q a).2⟩,h.L.trans k.L,hl h.sz k.sz,λ i B' h' hi d q a c=>by obtain⟨Cs,e,f,ao,aW⟩:=k.oY i B' h' hi d q a (eN c h.sz);exact h.oY i Cs e f ao q aW c⟩
theorem To.refl:To X bl bl ρ ρ w w:=⟨λ _ h=>⟨h,rfl⟩,.refl,cP _,λ _ B h hi a _ b _=>⟨B,h,hi,a,b⟩⟩
theorem Mem.tm(a:Mem T W M0 X bl ρ w){i:Nat}{B:aH T.El}(hi:bl[i]? =some B):∃h,ρ[i]? =some h:=by have:=(aR.1 hi).1;exact⟨ρ[i]'(by rw[a.len];exact this),aN _⟩
theorem Mem.tZ(b:br [] w w'):To X bl bl ρ ρ w w':=⟨λ k a=>⟨⟨a.1,a.2.1,eN a.2.2 b.size⟩,b.block k a.2.2 (by simp)⟩,.refl,b.size,λ _ B h hi c _ a _=>⟨B,h,hi,c,a⟩⟩
theorem Mem.fi(a:Mem T W M0 X bl ρ w)(b:br [] w w'):Mem T W M0 X bl ρ w':=⟨a.bZ.trans b (by simp),a.len,a.ij,λ k c=>⟨eN (a.lt k c).1 b.size,(a.lt k c).2⟩,a.bC,λ i B h hi d=>(a.ok i B h hi d).later (Mem.tZ b).F .refl λ k c=>b.block k (a.lt k ⟨i,B,h,hi,d,c⟩).1 (by simp)⟩
theorem Mem.E5(o:Mem T W M0 X bl ρ w){i:Nat}{B B':aH T.El}{h h':Value}(hi:bl[i]? =some B)(c:ρ[i]? =some h)(d:br (bF B h) w w')
 (ad:∀k∈bF B' h',k∈bF B h\/(w.heap.size<=k/\k<w'.heap.size))
 (m:(¬lv h->h'=h)/\b5 (some B)<=b5 (some B')/\(b5 (some B')=b5 (some B)->h'=h/\jU T (some B')=jU T (some B)/\hs (some B)<=hs (some B')/\(hs (some B')=hs (some B)->jT (some B')=jT (some B)))) :
 To X bl (bl.set i B') ρ (ρ.set i h') w w':=by
 have l1:=(aR.1 hi).1
 have f:=(aR.1 c).1
 refine⟨λ k a=>⟨⟨a.1,?_,eN a.2.2 d.size⟩,d.block k a.2.2 λ n=>a.2.1 ⟨i,B,h,hi,c,n⟩⟩,⟨λ j u aA=>?_⟩,d.size,λ j C g aA b k a p=>?_⟩
 ·rintro⟨j,C,g,aA,b,l⟩;by_cases e:j=i;subst e;rw[gu l1]at aA;rw[gu f]at b;cases aA;cases b;rcases ad k l with e |e;exact a.2.1 ⟨j,B,h,hi,c,e⟩;have:=a.2.2;omega;rw[jx (Ne.symm e)]at aA b;exact a.2.1 ⟨j,C,g,aA,b,l⟩
 ·by_cases e:j=i;subst e;rw[c]at aA;cases aA;refine⟨h',gu f,?_⟩;rw[gu l1,hi];exact m;refine⟨u,by rw[jx (Ne.symm e)];exact aA,λ _=>rfl,?_⟩;rw[jx (Ne.symm e)];exact⟨cP _,λ _=>⟨rfl,rfl,cP _,λ _=>rfl⟩⟩
 ·by_cases e:j=i;subst e;rw[gu l1]at aA;rw[gu f]at b;cases aA;cases b;rcases ad k a with e |e;exact⟨B,h,hi,c,e⟩;omega;rw[jx (Ne.symm e)]at aA b;exact⟨C,g,aA,b,a⟩
theorem Mem.dD(c:Mem T W M0 X bl ρ w){i:Nat}{B B':aH T.El}{h h':Value}(hi:bl[i]? =some B)(m:ρ[i]? =some h)(n:br (bF B h) w w')
 (ad:∀k∈bF B' h',k∈bF B h\/(w.heap.size<=k/\k<w'.heap.size))(s:To X bl (bl.set i B') ρ (ρ.set i h') w w')
 (y:jF T (bj X (bl.set i B') (ρ.set i h') w') w' (ρ.set i h') (bl.set i B') B' h'):Mem T W M0 X (bl.set i B') (ρ.set i h') w':=by
 have l1:=(aR.1 hi).1
 have z:=(aR.1 m).1
 have key:∀ {j:Nat}{C:aH T.El}{g:Value},(bl.set i B')[j]? =some C->(ρ.set i h')[j]? =some g->(j=i/\C=B'/\g=h')\/(j≠i/\bl[j]? =some C/\ρ[j]? =some g):=λ{j C g} aA f=>by by_cases e:j=i;subst e;rw[gu l1]at aA;rw[gu z]at f;cases aA;cases f;exact .inl ⟨rfl,rfl,rfl⟩;rw[jx (Ne.symm e)]at aA f;exact .inr ⟨e,aA,f⟩
 refine⟨c.bZ.trans n λ k d=>(c.lt k ⟨i,B,h,hi,m,d⟩).2,by simp[c.len],c.ij,?_,?_,?_⟩
 ·rintro k ⟨j,C,g,aA,f,d⟩;rcases key aA f with⟨rfl,rfl,rfl⟩|⟨_,l,J⟩;rcases ad k d with e |e;have:=c.lt k ⟨j,B,h,hi,m,e⟩;exact⟨eN this.1 n.size,this.2⟩;exact⟨e.2,.inr (hl c.bZ.size e.1)⟩;have:=c.lt k ⟨j,C,g,l,J,d⟩;exact⟨eN this.1 n.size,this.2⟩
 ·intro a b C D g u ap f t v o k d p;rcases key ap f with⟨rfl,rfl,rfl⟩|⟨x,l,J⟩;rcases key t v with⟨rfl,_⟩|⟨ao,q,r⟩;exact o rfl;rcases ad k d with e |e;exact c.bC _ _ _ _ _ _ hi m q r o k e p;have:=(c.lt k ⟨b,D,u,q,r,p⟩).1;omega;rcases key t v with⟨rfl,rfl,rfl⟩|⟨ao,q,r⟩;rcases ad k p with e |e;exact c.bC _ _ _ _ _ _ l J hi m o k d e;have:=(c.lt k ⟨a,C,g,l,J,d⟩).1;omega;exact c.bC _ _ _ _ _ _ l J q r o k d p
 ·intro j C g aA f;rcases key aA f with⟨rfl,rfl,rfl⟩|⟨x,l,J⟩;exact y;exact(c.ok j C g l J).later s.F s.L λ k d=>n.block k (c.lt k ⟨j,C,g,l,J,d⟩).1 λ A=>c.bC _ _ _ _ _ _ l J hi m x k d A
theorem Mem.BJ(c:Mem T W M0 X bl ρ w){B:aH T.El}{h:Value}(d:br [] w w')(ad:∀k∈bF B h,w.heap.size<=k/\k<w'.heap.size):To X bl (bl++[B]) ρ (ρ++[h]) w w':=by
 refine⟨λ k b=>⟨⟨b.1,?_,eN b.2.2 d.size⟩,d.block k b.2.2 (by simp)⟩,⟨λ j u aA=>?_⟩,d.size,λ j C g aA a k b i=>?_⟩
 ·rintro⟨j,C,g,aA,a,f⟩;rcases gI j bl.length with e |e;rw[er e]at aA;rw[er (by rw[c.len];exact e)]at a;exact b.2.1 ⟨j,C,g,aA,a,f⟩
  ·rw[eS e]at aA;rw[eS (by rw[c.len];exact e),c.len]at a;cases aJ:j-bl.length with
   |zero=>rw[aJ]at aA a;simp only[ee,aF]at aA a;subst aA;subst a;have:=(ad k f).1;have:=b.2.2;omega
   |succ q=>rw[aJ]at aA;simp at aA
 ·have e:=(aR.1 aA).1;have e':j<bl.length:=by rw[<-c.len];exact e
  refine⟨u,by rw[er e];exact aA,λ _=>rfl,?_⟩;rw[er e'];exact⟨cP _,λ _=>⟨rfl,rfl,cP _,λ _=>rfl⟩⟩
 ·rcases gI j bl.length with e |e;rw[er e]at aA;rw[er (by rw[c.len];exact e)]at a;exact⟨C,g,aA,a,b⟩
  ·rw[eS e]at aA;rw[eS (by rw[c.len];exact e),c.len]at a;cases aJ:j-bl.length with
   |zero=>rw[aJ]at aA a;simp only[ee,aF]at aA a;subst aA;subst a;have:=(ad k b).1;omega
   |succ q=>rw[aJ]at aA;simp at aA
theorem Mem.push(c:Mem T W M0 X bl ρ w){B:aH T.El}{h:Value}(l:br [] w w')(ad:∀k∈bF B h,w.heap.size<=k/\k<w'.heap.size)
 (v:jF T (bj X (bl++[B]) (ρ++[h]) w') w' (ρ++[h]) (bl++[B]) B h):Mem T W M0 X (bl++[B]) (ρ++[h]) w':=by
 have p:=c.BJ l ad (B:=B) (h:=h)
 have key:∀ {j:Nat}{C:aH T.El}{g:Value},(bl++[B])[j]? =some C->(ρ++[h])[j]? =some g->(j=bl.length/\C=B/\g=h)\/(j<bl.length/\bl[j]? =some C/\ρ[j]? =some g):=λ{j C g} aA d=>by
  rcases gI j bl.length with e |e;rw[er e]at aA;rw[er (by rw[c.len];exact e)]at d;exact .inr ⟨e,aA,d⟩
  ·rw[eS e]at aA;rw[eS (by rw[c.len];exact e),c.len]at d;cases aJ:j-bl.length with
   |zero=>rw[aJ]at aA d;simp only[ee,aF]at aA d;exact .inl ⟨by omega,aA.symm,d.symm⟩
   |succ q=>rw[aJ]at aA;simp at aA
 refine⟨c.bZ.trans l (by simp),by simp[c.len],c.ij,?_,?_,?_⟩
 ·rintro k ⟨j,C,g,aA,d,f⟩;rcases key aA d with⟨rfl,rfl,rfl⟩|⟨_,i,J⟩;exact⟨(ad k f).2,.inr (hl c.bZ.size (ad k f).1)⟩;have:=c.lt k ⟨j,C,g,i,J,f⟩;exact⟨eN this.1 l.size,this.2⟩
 ·intro a b C D g u ap d r s t k f m;rcases key ap d with⟨rfl,rfl,rfl⟩|⟨x,i,J⟩;rcases key r s with⟨rfl,_⟩|⟨ao,n,o⟩;exact t rfl;have:=(c.lt k ⟨b,D,u,n,o,m⟩).1;have:=(ad k f).1;omega;rcases key r s with⟨rfl,rfl,rfl⟩|⟨ao,n,o⟩;have:=(c.lt k ⟨a,C,g,i,J,f⟩).1;have:=(ad k m).1;omega;exact c.bC _ _ _ _ _ _ i J n o t k f m
 ·intro j C g aA d;rcases key aA d with⟨rfl,rfl,rfl⟩|⟨x,i,J⟩;exact v;exact(c.ok j C g i J).later p.F p.L λ k f=>l.block k (c.lt k ⟨j,C,g,i,J,f⟩).1 (by simp)
end
def cI{α:Type}:List (Nat×α)->Nat->Option α
 |[],_=>none
 |p::r,t=>match cj p.1 t with
  |true=>some p.2
  |false=>cI r t
structure sw (T:bU) (F:Nat->Prop) (w:World) (ρ:List Value) (bl:List (aH T.El)) (n:cG) (fr:List (Nat×aL T.El)) (a:Act):Prop where
 size:a.tmps.size=n.n
 defers:a.defers=n.ds
 get:∀t y,cI fr t=some y->ax T F w ρ bl y (a.tmps.getD t undef)
section
variable{T:bU}{F F':Nat->Prop}{w w':World}{ρ ρ':List Value}{bl bl':List (aH T.El)}{n:cG}{fr:List (Nat×aL T.El)}{a:Act}
theorem sw.later(b:∀k,F k->F' k/\w'.heap[k]? =w.heap[k]?)(c:nu T ρ ρ' bl bl')(h:sw T F w ρ bl n fr a):sw T F' w' ρ' bl' n fr a:=⟨h.size,h.defers,λ t y hy=>(h.get t y hy).later b c⟩
theorem Ab{a:Act}{d t:Nat}{v:Value}(aJ:d<a.tmps.size):(a.put (some d) v).tmps.getD t undef=if d=t then v else a.tmps.getD t undef:=by simp only[Act.put,eF,gm];by_cases e:d=t;subst e;simp[aJ];simp[e]
theorem sw.put{d:Nat}{y:aL T.El}{v:Value}(h:sw T F w ρ bl n fr a)(aJ:fg d n.n=true)(c:ax T F w ρ bl y v):sw T F w ρ bl n ((d,y)::fr) (a.put (some d) v):=by
 have f:d<n.n:=cJ aJ;refine⟨by simpa[Act.put]using h.size,h.defers,λ t z b=>?_⟩;rw[Ab (by rw[h.size];exact f)];simp only[cI]at b;cases ag:cj d t with
 |true=>rw[ag]at b;simp only[aF]at b;rw[nf (bd ag),<-b];exact c
 |false=>rw[ag]at b;rw[nc (λ e=>by subst e;simp at ag)];exact h.get t z b
def pr{α:Type}:List (Nat×α)->Nat->List (Nat×α)
 |[],_=>[]
 |p::r,t=>match cj p.1 t with
  |true=>pr r t
  |false=>p::pr r t
theorem PT{α:Type}{d t:Nat}{y:α}:∀ {fr:List (Nat×α)},cI (pr fr d) t=some y->t≠d/\cI fr t=some y
 |[],h=>by simp[pr,cI]at h
 |p::r,h=>by
  simp only[pr]at h;cases ag:cj p.1 d with
  |true=>
   rw[ag]at h;obtain⟨b,J⟩:=PT h;refine⟨b,?_⟩;simp only[cI];cases hc:cj p.1 t with
   |true=>exact absurd ((bd hc).symm.trans (bd ag)) b
   |false=>exact J
  |false=>
   rw[ag]at h;simp only[cI]at h⊢;cases hc:cj p.1 t with
   |true=>rw[hc]at h;refine⟨λ e=>?_,h⟩;rw[bd hc,e]at ag;simp at ag
   |false=>rw[hc]at h;exact PT h
theorem sw.Q'{d:Nat}{v:Value}(h:sw T F w ρ bl n fr a)(aJ:fg d n.n=true):sw T F w ρ bl n (pr fr d) (a.put (some d) v):=by have b:d<n.n:=cJ aJ;refine⟨by simpa[Act.put]using h.size,h.defers,λ t z c=>?_⟩;obtain⟨e,J⟩:=PT c;rw[Ab (by rw[h.size];exact b),nc (Ne.symm e)];exact h.get t z J
end
end ba
namespace I
def cZ{α β ct:Type}(o:Option (α⊕β))(k:α->Option ct)(l:β->Option ct):Option ct:=match o with
 |none=>none
 |some (.inl a)=>k a
 |some (.inr b)=>l b
end I
namespace ba
open Go Go.RowKit ay I
inductive D (α:Type):Type 1
 |ok (a:α)
 |no
 |op {β:Type} (o:Option β) (k:β->D α)
 |q' (c:Bool) (x y:D α)
 |vT {β ct:Type} (o:Option (β⊕ct)) (k:β->D α) (l:ct->D α)
def D.bind{α β:Type}:D α->(α->D β)->D β
 | .ok a,f=>f a
 | .no,_=>.no
 | .op o k,f=>.op o λ b=>(k b).bind f
 | .q' c x y,f=>.q' c (x.bind f) (y.bind f)
 | .vT o k l,f=>.vT o (λ b=>(k b).bind f) (λ c=>(l c).bind f)
def D.run{α ρ:Type}:D α->(α->Option ρ)->Option ρ
 | .ok a,K=>K a
 | .no,_=>none
 | .op o k,K=>o.bind λ b=>(k b).run K
 | .q' c x y,K=>cond c (x.run K) (y.run K)
 | .vT o k l,K=>cZ o (λ b=>(k b).run K) (λ c=>(l c).run K)
def D.out{α:Type}:D α->α->Prop
 | .ok b,a=>b=a
 | .no,_=>False
 | .op o k,a=>∃b,o=some b/\(k b).out a
 | .q' c x y,a=>(c=true/\x.out a)\/(c=false/\y.out a)
 | .vT o k l,a=>(∃b,o=some (.inl b)/\(k b).out a)\/(∃c,o=some (.inr c)/\(l c).out a)
theorem D.tT{α ρ:Type}{r:ρ}:∀ {d:D α}{K:α->Option ρ},d.run K=some r->∃a,d.out a/\K a=some r
 | .ok a,K,h=>⟨a,rfl,h⟩
 | .no,K,h=>by cases h
 | .op o k,K,h=>by obtain⟨b,g,J⟩:=gr h;obtain⟨a,e,f⟩:=D.tT J;exact⟨a,⟨b,g,e⟩,f⟩
 | .q' c x y,K,h=>by
   cases c with
   |true=>obtain⟨a,e,f⟩:=D.tT (d:=x) h;exact⟨a,.inl ⟨rfl,e⟩,f⟩
   |false=>obtain⟨a,e,f⟩:=D.tT (d:=y) h;exact⟨a,.inr ⟨rfl,e⟩,f⟩
 | .vT o k l,K,h=>by
   cases o with
   |none=>cases h
   |some s=>
    cases s with
    |inl b=>obtain⟨a,e,f⟩:=D.tT (d:=k b) h;exact⟨a,.inl ⟨b,rfl,e⟩,f⟩
    |inr c=>obtain⟨a,e,f⟩:=D.tT (d:=l c) h;exact⟨a,.inr ⟨c,rfl,e⟩,f⟩
theorem D.ks{α β:Type}:∀ {d:D α}{f:α->D β}{b:β},(d.bind f).out b->∃a,d.out a/\(f a).out b
 | .ok a,f,b,h=>⟨a,rfl,h⟩
 | .no,f,b,h=>h.elim
 | .op o k,f,b,h=>by obtain⟨x,e,J⟩:=h;obtain⟨a,g,i⟩:=D.ks J;exact⟨a,⟨x,e,g⟩,i⟩
 | .q' c x y,f,b,h=>by rcases h with⟨e,J⟩|⟨e,J⟩;obtain⟨a,g,i⟩:=D.ks J;exact⟨a,.inl ⟨e,g⟩,i⟩;obtain⟨a,g,i⟩:=D.ks J;exact⟨a,.inr ⟨e,g⟩,i⟩
 | .vT o k l,f,b,h=>by rcases h with⟨x,e,J⟩|⟨x,e,J⟩;obtain⟨a,g,i⟩:=D.ks J;exact⟨a,.inl ⟨x,e,g⟩,i⟩;obtain⟨a,g,i⟩:=D.ks J;exact⟨a,.inr ⟨x,e,g⟩,i⟩
def D.of{α:Type}:Option α->D α
 |some a=>.ok a
 |none=>.no
theorem D.qo{α:Type}{o:Option α}{a:α}(h:(D.of o).out a):o=some a:=by
 cases o with
 |none=>exact h.elim
 |some b=>exact congrArg some h
structure Env where
 P:Program
 T:bU
 cY:List (Nat×aL T.El)
 cl:Bool
 cm:List Nat
 mD:Nat
 Nx:List UInt8->List (T.El mD)
def lay(P:Program)(t:TypeId):Option (Bool×Nat):=match P.underlying t,P.info? t with
 |some (.struct _),some i=>some (true,i.size)
 |some (.array _ _),some i=>some (true,i.size)
 |some _,some i=>some (false,i.size)
 |_,_=>none
theorem run_sizeOf{P:Program}{t:TypeId}{i:TypeInfo}(h:P.info? t=some i)(w:World):(Go.sizeOf t).run P w= .ok i.size w:=by simp[Go.sizeOf,typeInfo,go_sem,h]
theorem K6{P:Program}{t:TypeId}{b:Bool}{n:Nat}(h:lay P t=some (b,n)):(∀w,(isAgg t).run P w= .ok b w)/\∀w,(Go.sizeOf t).run P w= .ok n w:=by
 unfold lay at h;split at h;rename_i a J;simp only[aF,cB]at h;obtain⟨rfl,rfl⟩:=h;exact⟨λ w=>by simp[isAgg,run_underlying a],run_sizeOf J⟩;rename_i a J;simp only[aF,cB]at h;obtain⟨rfl,rfl⟩:=h;exact⟨λ w=>by simp[isAgg,run_underlying a],run_sizeOf J⟩;rename_i d i c e a J;simp only[aF,cB]at h;obtain⟨rfl,rfl⟩:=h;refine⟨λ w=>?_,run_sizeOf J⟩;simp only[isAgg,Sem.run_bind,run_underlying a,Result.andThen_ok];cases d<;>first |rfl |(exact absurd a (by simpa using c _))|(exact absurd a (by simpa using e _ _))
 ·cases h
def ly:Option TypeDesc->Option oG
 |some (.int k)=>some (.i k)
 |some .bool=>some .b
 |some .string=>some .s
 |some (.slice _)=>some .cx
 |_=>none
theorem xL{P:Program}{t:TypeId}{k:oG}(h:ly (P.underlying t)=some k):k.ok P t:=by unfold ly at h;split at h<;>simp only[aF,reduceCtorEq]at h<;>subst h;rename_i h;exact h;rename_i h;exact h;rename_i h;exact h;rename_i e h;exact⟨e,h⟩
def Oh(P:Program)(s j:Nat):Option (Nat×Nat×Nat):=match P.underlying s with
 |some (.struct cm)=>match nth cm.toList j with
  |some f=>match P.info? f.type with
   |some i=>match cj i.size 0 with
    |true=>none
    |false=>some (f.offset,f.type,i.size)
   |none=>none
  |none=>none
 |_=>none
theorem agV{P:Program}{s j off t n:Nat}(h:Oh P s j=some (off,t,n)):∃cm f,P.underlying s=some (.struct cm)/\cm[j]? =some f/\f.offset=off/\f.type=t/\(∀w,(Go.sizeOf f.type).run P w= .ok n w)/\cj n 0=false:=by unfold Oh at h;split at h;rename_i cm a;split at h;rename_i f J;split at h;rename_i i b;split at h;cases h;rename_i c;simp only[aF,cB]at h;obtain⟨rfl,rfl,rfl⟩:=h;rw[dj,hR]at J;exact⟨cm,f,a,J,rfl,rfl,run_sizeOf b,c⟩;cases h;cases h;cases h
section
variable{El:Nat->Type}
def nA(cs:List (aL El))(o:Nat):Bool×Nat->Option (aL El)
 |(false,_)=>nth cs o
 |(true,n)=>match jw (o+n) cs.length with
  |true=>some (.a ((cs.drop o).take n))
  |false=>none
end
section
variable{T:bU}{F:Nat->Prop}{w:World}{ρ:List Value}{bl:List (aH T.El)}{P:Program}
theorem Gn{cs:List (aL T.El)}{o a q t:Nat}{c:Bool×Nat}{y:aL T.El}{vs:List Value}(l:lay P t=some c)(h:nA cs o c=some y)(d:a_ T F w ρ bl cs vs)(hc:fy w ⟨a,q,none⟩ vs) :
 ∃v us,ax T F w ρ bl y v/\fy w ⟨a,q+o,none⟩ us/\∀(op:Oper)(ac:Act)(x:Operand)(w':World),op.op= .load t x->ac.eval x= .pointer (some ⟨a,q+o,none⟩)->fy w' ⟨a,q+o,none⟩ us->bh P op ac w' v w':=by
 obtain⟨b,n⟩:=c
 have e:=K6 l
 cases b with
 |false=>
  simp only[nA]at h;rw[dj]at h;obtain⟨v,m,J⟩:=d.at_ h;refine⟨v,[v],J,λ j u aA=>?_,λ op ac x w' f g i=>y3 e.1 f g (by simpa using i 0 v rfl)⟩;cases j with
  |zero=>simp only[ee,aF]at aA;subst aA;simpa using hc o v m
  |succ j=>simp at aA
 |true=>simp only[nA]at h;split at h;rename_i ag;simp only[aF]at h;subst h;have p:=cJ ag;have k:=d.len;refine⟨.agg ⟨(vs.drop o).take n⟩,(vs.drop o).take n,?_,λ j u aA=>?_,λ op ac x w' f g i=>aqh e.1 e.2 (by simp;omega) f g i⟩;simp only[ax];exact⟨_,rfl,a_.take n (a_.drop o d)⟩;rw[hx]at aA;split at aA;rw[iF]at aA;have:=hc (o+j) u aA;simpa[kb]using this;cases aA;cases h
end
structure zE (T:bU):Prop where
 cs:∀t d F w xs,(T.ty t).rd F w xs d->a_ T F w [] [] ((T.e t).cs d) xs
 hX:∀t a6 d,(T.e t).hX a6=some d->∀F w ρ bl xs,a_ T F w ρ bl a6 xs->(T.ty t).rd F w xs d
 key:∀t K,(T.e t).key=some K->∀F w xs k,(T.ty t).rd F w xs k->Bh (T.e t).agg xs= @mA.enc _ K.dec K.tl k
 one:∀t,(T.e t).agg=false->∀d,((T.e t).cs d).length=1
def bU.val(T:bU)(t:Nat)(d:T.El t):aL T.El:=match(T.e t).agg with
 |true=>.a ((T.e t).cs d)
 |false=>((T.e t).cs d).headD (.p undef)
structure dl (E:Env):Prop where
 tb:zE E.T
 call:∀f∈E.cm,∀args w,(callFunc f args).run E.P w= .ok (.enter f args) w
 aE3:E.P.follows .mixedOrders=true
 aep:∀l,(E.Nx l).length=l.length
 au7:∀F w l xs,dN RF F w xs l->dN (E.T.ty E.mD) F w xs (E.Nx l)
 eq:∀t f,(E.T.e t).eq=some f->∀F w xs ys d e,(E.T.ty t).rd F w xs d->(E.T.ty t).rd F w ys e->∀(o:Oper)(a:Act)(x y:Operand)(t':TypeId)(b:Bool),o.op= .binOp (cond b .eql .neq) t x y t'->a.eval x= .agg ⟨xs⟩->a.eval y= .agg ⟨ys⟩->∀w',bh E.P o a w' (.bool (cond b (f d e) (!f d e))) w'
section
variable{T:bU}{F:Nat->Prop}{w:World}{ρ:List Value}{bl:List (aH T.El)}
theorem aEm{w:World}{F:Nat->Prop}{l:List (aL T.El)}{vs:List Value}(h:a_ T F w [] [] l vs):a_ T F w ρ bl l vs:=a_.later (λ _ h=>⟨h,rfl⟩) ⟨λ i h hi=>by simp at hi⟩ l h
theorem zE.cells(a:zE T){t:Nat}{d:T.El t}{xs:List Value}(h:(T.ty t).rd F w xs d):a_ T F w ρ bl ((T.e t).cs d) xs:=aEm (a.cs t d F w xs h)
theorem zE.val(a:zE T){t:Nat}{d:T.El t}{xs:List Value}(h:(T.ty t).rd F w xs d):ax T F w ρ bl (T.val t d) (Bh (T.e t).agg xs):=by
 have hc:=a.cells (ρ:=ρ) (bl:=bl) h;unfold bU.val;cases ap:(T.e t).agg with
 |true=>simp only[ax,Bh];exact⟨xs,rfl,hc⟩
 |false=>
  have b:=a.one t ap d;cases hcs:(T.e t).cs d with
  |nil=>rw[hcs]at b;simp at b
  |cons y r=>rw[hcs]at hc;simp only[a_]at hc;obtain⟨u,us,rfl,c,_⟩:=hc;exact c
def Zu{El:Nat->Type}:aL El->Nat->Option (aL El)
 | .b i o,n=>some (.b i (o+n))
 | .x t d o,n=>some (.x t d (o+n))
 | .e i g k t j d o,n=>some (.e i g k t j d (o+n))
 | .w i g o,n=>some (.w i g (o+n))
 |_,_=>none
def QJ{El:Nat->Type}(gs:Nat->Nat):aL El->Bool
 | .b _ _=>true
 | .x _ _ _=>true
 | .e i g _ _ _ _ _=>cj g (gs i)
 | .w i g _=>cj g (gs i)
 |_=>false
def u1{El:Nat->Type}(bl:List (aH El))(i:Nat):Nat:=b5 (nth bl i)
theorem DE{El:Nat->Type}(bl:List (aH El))(i:Nat):u1 bl i=b5 bl[i]? :=by rw[u1,dj]
theorem aGA{y e3:aL T.El}{n:Nat}{v:Value}(hi:QJ (u1 bl) y=true)(h:Zu y n=some e3)(b:ax T F w ρ bl y v):∃g o,v= .pointer (some ⟨g,o,none⟩)/\ax T F w ρ bl e3 (.pointer (some ⟨g,o+n,none⟩)):=by cases y<;>simp only[Zu,aF,reduceCtorEq]at h<;>subst h;simp only[ax]at b;obtain⟨g,d,J⟩:=b;refine⟨g,_,J,?_⟩;simp only[ax];exact⟨g,d,rfl⟩;simp only[ax]at b;obtain⟨a,q,cs,d,J,e,l⟩:=b;refine⟨a,_,d,?_⟩;simp only[ax];exact⟨a,q,cs,by rw[kb],J,e,l⟩;simp only[ax]at b;obtain⟨_,u,d,J,e⟩:=b;simp only[QJ]at hi;have hi:=bd hi;rw[DE]at hi;obtain⟨⟨A,f,c,i,j,m,k⟩,qc,p⟩:=e hi;refine⟨_,_,k,?_⟩;simp only[ax];exact⟨trivial,u,d,J,λ _=>⟨⟨A,f,c,i,j,m,by rw[kb]⟩,qc,p⟩⟩;simp only[ax]at b;obtain⟨_,u,d,J,e⟩:=b;simp only[QJ]at hi;have hi:=bd hi;rw[DE]at hi;obtain⟨A,f,c,i,j,k⟩:=e hi;refine⟨_,_,k,?_⟩;simp only[ax];exact⟨trivial,u,d,J,λ _=>⟨A,f,c,i,j,rfl⟩⟩
def nm{El:Nat->Type}(bl:List (aH El)):aL El->aL El
 | .r i g=>match nth bl i with
   |some (.z t g' _ l)=>match cj g g' with
    |true=>.s t l
    |false=>.r i g
   |_=>.r i g
 |y=>y
end
section
variable{T:bU}{W w:World}{M0:List Nat}{X:Nat->Prop}{bl:List (aH T.El)}{ρ:List Value}
theorem Qp(c:Mem T W M0 X bl ρ w){y:aL T.El}{v:Value}(a:ax T (bj X bl ρ w) w ρ bl y v):ax T (bj X bl ρ w) w ρ bl (nm bl y) v:=by
 cases y with
 |r i g=>simp only[nm];split;rename_i t g' k l hi;rw[dj]at hi;split;rename_i ag;have ag:=bd ag;simp only[ax]at a⊢;obtain⟨_,h,d,J,b⟩:=a;rw[hi]at b;have:=b ag;subst this;exact c.ok i _ _ hi d;exact a;exact a
 |_=>exact a
def GB(E:Env)(bl:List (aH E.T.El))(t:Nat):aL E.T.El->D (aL E.T.El)
 | .b i o=>match nth bl i,lay E.P t with
   |some (.c _ cs),some a=>.of (nA cs o a)
   |_,_=>.no
 | .x t' d o=>match lay E.P t with
   |some a=>.of (nA ((E.T.e t').cs d) o a)
   |none=>.no
 | .e i g k t' j d o=>match nth bl i,lay E.P t with
   |some (.r c b e l),some a=>match cj g b,cj k e with
    |true,true=>.of (nA ((E.T.e t').cs d) o a)
    |true,false=>.op (idx l j) λ d'=>.of (nA ((E.T.e c).cs d') o a)
    |_,_=>.no
   |_,_=>.no
 | .w i g o=>match nth bl i,lay E.P t with
   |some (.k _ _ b cs),some a=>match cj g b with
    |true=>.of (nA cs o a)
    |false=>.no
   |_,_=>.no
 | .Bp i g sz q=>match nth bl i,lay E.P t with
   |some (.r c b e l),some a=>match cj g b&&cj sz (E.T.ty c).size with
    |true=>.op (idx l q) λ d=>.of (nA [.e i g e c q d 0] 0 a)
    |false=>.no
   |_,_=>.no
 |_=>.no
def Ys{El:Nat->Type}:aL El->Option Nat
 | .b i _=>some i
 | .e i _ _ _ _ _ _=>some i
 | .w i _ _=>some i
 |_=>none
def Ng(X:Nat->Prop)(bl:List (aH T.El))(ρ:List Value)(w:World)(k:Nat):Option Nat->Prop
 |none=>bj X bl ρ w k
 |some i=>∃B h,bl[i]? =some B/\ρ[i]? =some h/\k∈bF B h
def I5(P:Program)(t:Nat)(eo:Addr)(us:List Value)(v:Value):Prop:=∀(op:Oper)(ac:Act)(x:Operand)(w':World),op.op= .load t x->ac.eval x= .pointer (some eo)->fy w' eo us->bh P op ac w' v w'
theorem vP{w:World}{t sz n c:Nat}{A:Option Addr}{xs:List Value}(d:0<n)(h:rowIs w t sz (.slice A n c) n xs):∃g,A=some ⟨g,0,none⟩/\dC A=g/\fy w ⟨g,0,none⟩ xs/\∀m:Nat,ag (.slice A m c)=[g]:=by
 have hc:=h.cap;have h:=h.own d;rcases h.2 with⟨a,e⟩|⟨g,cap,cur,a,_⟩;omega
 ·simp only[Value.slice.injEq]at a;obtain⟨rfl,_,rfl⟩:=a;refine⟨g,rfl,rfl,λ j u aA=>?_,λ m=>?_⟩;have b:=h.cells (g:=g) rfl j u aA;rw[lR]at b;exact b
  ·cases c with
   |zero=>omega
   |succ c=>rfl
theorem amc{α:Type}{T:dm α}{F:Nat->Prop}{w:World}{g:Nat}{l:List α}{xs:List Value}{j:Int}{d:α}(hc:fy w ⟨g,0,none⟩ xs)(a:dN T F w xs l)(hi:idx l j=some d):∃cs,T.rd F w cs d/\fy w ⟨g,j.toNat*T.size,none⟩ cs:=by obtain⟨_,_,J⟩:=l9 hi;obtain⟨cs,b,c⟩:=LP T a J;refine⟨cs,b,λ q u e=>?_⟩;have:=hc (j.toNat*T.size+q) u (c q u e);simpa using this
theorem ax5{E:Env}(S:zE E.T){W w:World}{M0:List Nat}{X:Nat->Prop}{bl:List (aH E.T.El)}{ρ:List Value}(U:Mem E.T W M0 X bl ρ w){t:Nat}{p y:aL E.T.El}{M:Value}(m:ax E.T (bj X bl ρ w) w ρ bl p M)(h:(GB E bl t p).out y) :
 ∃eo us v,M= .pointer (some eo)/\ax E.T (bj X bl ρ w) w ρ bl y v/\fy w eo us/\I5 E.P t eo us v/\Ng X bl ρ w eo.block (Ys p):=by
 unfold GB at h
 split at h
 ·rename_i i o;split at h
  ·rename_i ty cs R b J;rw[dj]at b;have h:=D.qo h;simp only[ax]at m;obtain⟨g,r,rfl⟩:=m;obtain⟨g',vs,I,ao,aW⟩:=U.ok i _ _ b r;simp only[Value.pointer.injEq,aF,Addr.mk.injEq,and_true]at I;subst I;have hc:fy w ⟨g,0,none⟩ vs:=λ j u aA=>by have ag:(bc.cp g ty vs).ok w:=ao;simpa using zK ag aA
   obtain⟨v,us,e,K,f⟩:=Gn J h aW hc;refine⟨⟨g,o,none⟩,us,v,rfl,e,by simpa using K,λ op ac x w' au aa ll=>f op ac x w' au (by simpa using aa) (by simpa using ll),_,_,b,r,by simp[bF,ag]⟩
  ·exact h.elim
 ·rename_i t' d o;split at h;rename_i R J;have h:=D.qo h;simp only[ax]at m;obtain⟨a,q,cs,rfl,ar,a7,cQ⟩:=m;obtain⟨v,us,e,K,f⟩:=Gn J h (S.cells a7) cQ;exact⟨_,us,v,rfl,e,K,f,ar⟩;exact h.elim
 ·rename_i i g k t' j d o;split at h;rename_i V g2 K l R b J;rw[dj]at b;simp only[ax]at m;obtain⟨_,u,C,z,B⟩:=m;rw[b]at B;obtain⟨A,c,xs,I,ao,aW⟩:=U.ok i _ _ b C;subst I;split at h;rename_i r hk;have h:=D.qo h;obtain⟨⟨cu,gE,bJ,s,N,Y,F⟩,aGR,Zw⟩:=B (bd r);obtain⟨l',L,G⟩:=Zw (bd hk);simp only[jT,aF,Sigma.mk.injEq]at L;obtain⟨fq,L⟩:=L;subst fq;have L:=eq_of_heq L;subst L;simp only[Value.slice.injEq]at s;obtain⟨rfl,rfl,rfl⟩:=s;obtain⟨gb,rfl,O,hc,P⟩:=vP (by have:=(l9 G).2.1;omega) ao;obtain⟨cs,Z,m2⟩:=amc hc aW G;obtain⟨v,us,e,H,f⟩:=Gn J h (S.cells Z) m2;refine⟨_,us,v,F,e,?_,?_,_,_,b,C,by simp[bF,P,O,dC]⟩;simpa[jU,dC]using H;simpa[jU,dC,I5]using f;rename_i r hk;obtain⟨d',G,h⟩:=h;have h:=D.qo h;obtain⟨⟨cu,gE,bJ,s,N,Y,F⟩,_,_⟩:=B (bd r);simp only[Value.slice.injEq]at s;obtain⟨rfl,rfl,rfl⟩:=s;obtain⟨gb,rfl,O,hc,P⟩:=vP (by have:=(l9 G).2.1;omega) ao;obtain⟨cs,Z,m2⟩:=amc hc aW G;obtain⟨v,us,e,H,f⟩:=Gn J h (S.cells Z) m2;refine⟨_,us,v,F,e,?_,?_,_,_,b,C,by simp[bF,P,O,dC]⟩;simpa[jU,dC]using H;simpa[jU,dC,I5]using f;exact h.elim;exact h.elim
 ·rename_i i g o;split at h;rename_i V sz g2 cs R b J;rw[dj]at b;split at h;rename_i r;have h:=D.qo h;simp only[ax]at m;obtain⟨_,u,C,z,B⟩:=m;rw[b]at B;obtain⟨A,n,c,xs,I,ao,aW⟩:=U.ok i _ _ b C;subst I;obtain⟨cu,gE,bJ,s,N,F⟩:=B (bd r);simp only[Value.slice.injEq]at s;obtain⟨rfl,rfl,rfl⟩:=s;obtain⟨gb,rfl,O,hc,P⟩:=vP N ao;obtain⟨v,us,e,H,f⟩:=Gn J h aW hc;refine⟨_,us,v,F,e,?_,?_,_,_,b,C,by simp[bF,P,O,dC]⟩;simpa[dC]using H;simpa[dC,I5]using f;exact h.elim;exact h.elim
 ·rename_i i g sz q;split at h
  ·rename_i V g2 K l R b J;rw[dj]at b;split at h
   ·rename_i ag;simp only[cd]at ag;have r:=bd ag.1;have ah:=bd ag.2;obtain⟨d,G,h⟩:=h;have h:=D.qo h;simp only[ax]at m;obtain⟨a,o,Q,rfl,aC,⟨hJ,u,C,z,B⟩,hc⟩:=m;have G3:=z;rw[b]at B G3;obtain⟨A,n,c,s,N,Y,F⟩:=B r;have av:a_ E.T (bj X bl ρ w) w ρ bl [.e i g K V q d 0] [Q]:=by simp only[a_,ax];refine⟨Q,[],rfl,⟨hJ,u,C,z,λ _=>⟨⟨A,n,c,s,N,Y,?_⟩,by rw[b];exact cP _,λ _=>⟨l,by rw[b];rfl,G⟩⟩⟩,rfl⟩;rw[b,F,ah];rfl
    obtain⟨v,us,e,H,f⟩:=Gn J h av hc;exact⟨_,us,v,rfl,e,by simpa using H,by simpa[I5]using f,aC⟩
   ·exact h.elim
  ·exact h.elim
 ·exact h.elim
end
def cellsOf{El:Nat->Type}:aL El->List (aL El)
 | .a l=>l
 | .p (.agg ⟨vs⟩)=>vs.map .p
 |y=>[y]
def ga{α:Type}:List α->Nat->List α->List α
 |l,0,cs=>cs++l.drop cs.length
 |[],_+1,_=>[]
 |u::l,n+1,cs=>u::ga l n cs
theorem x2{α:Type}:∀(l:List α)(n:Nat)(cs:List α),n+cs.length<=l.length->ga l n cs=l.take n++cs++l.drop (n+cs.length)
 |l,0,cs,_=>by simp[ga]
 |[],n+1,cs,h=>by simp at h
 |u::l,n+1,cs,h=>by
  have:=x2 l n cs (by simp at h;omega);simp only[ga,this,j9,ih];have e:n+1+cs.length=(n+cs.length)+1:=by omega
  rw[e,List.drop_succ_cons]
theorem Yq{α:Type}{l:List α}{n:Nat}{cs:List α}(h:n+cs.length<=l.length):(ga l n cs).length=l.length:=by rw[x2 l n cs h];simp;omega
theorem agX(off:Nat):∀(cs:List Value)(k:Nat)(l:Array Value),off+k+cs.length<=l.size->((cs.zipIdx k).foldl (λ(a:Array Value)(x:Value×Nat)=>a.setIfInBounds (off+x.2) x.1) l).toList=ga l.toList (off+k) cs
 |[],k,l,h=>by rw[x2 _ _ _ (by simpa using h)];simp
 |c::r,k,l,h=>by
  simp only[List.zipIdx_cons,jn];have h':off+(k+1)+r.length<=(l.setIfInBounds (off+k) c).size:=by simp at h⊢;omega
  rw[agX off r (k+1) _ h',x2 _ _ _ (by simpa using h'),x2 _ _ _ (by simpa using h)];have b:off+k<l.toList.length:=by simp at h⊢;omega
  simp only[Array.toList_setIfInBounds,di];apply kX;intro i;simp only[mR,gl,hg,hx,List.getElem?_set,iF,dM,di];have d:min (off+(k+1)) l.toList.length=off+k+1:=by simp at h b⊢;omega
  have ao:min (off+k) l.toList.length=off+k:=by omega
  rw[d,ao];by_cases c1:i<off+k;simp[c1,show i<off+k+1 by omega,show i<off+k+1+r.length by omega,show i<off+k+(r.length+1) by omega,show i<off+(k+1) by omega,show¬off+k=i by omega]
  ·by_cases c2:i=off+k;subst c2;simp only[show off+k<off+k+1 by omega,show off+k<off+k+1+r.length by omega,show off+k<off+k+(r.length+1) by omega,show off+k<off+(k+1) by omega,if_true,b,Nat.lt_irrefl,if_false,l4,ee]
   ·by_cases c3:i<off+k+1+r.length
    ·simp only[show¬i<off+k+1 by omega,c3,show i<off+k+(r.length+1) by omega,c1,if_false,if_true];have:i- (off+k)=(i- (off+k+1))+1:=by omega
     rw[this,List.getElem?_cons_succ]
    ·simp only[show¬i<off+k+1 by omega,c3,show¬i<off+k+(r.length+1) by omega,if_false,show¬(off+k=off+(k+1)+r.length+(i- (off+k+1+r.length))) by omega];congr 1;omega
def w3{El:Nat->Type}(pl:Nat->Option (Nat×Nat)):List (aL El)->List (Nat×aL El)->Option (List (aL El))
 |cs,[]=>some cs
 |cs,(i,y)::r=>match pl i with
  |some (off,size)=>match cj (cellsOf y).length size&&jw (off+(cellsOf y).length) cs.length with
   |true=>w3 pl (ga cs off (cellsOf y)) r
   |false=>none
  |none=>none
section
variable{T:bU}{F:Nat->Prop}{w:World}{ρ:List Value}{bl:List (aH T.El)}
theorem tR:∀(vs:List Value),a_ T F w ρ bl (vs.map .p) vs
 |[]=>by simp[a_]
 |v::r=>by simp only[ez,a_];exact⟨v,r,rfl,rfl,tR r⟩
theorem mi{z:aL T.El}{u:Value}(a:ax T F w ρ bl z u):a_ T F w ρ bl [z] [u]:=by simp only[a_];exact⟨u,[],rfl,a,rfl⟩
theorem NM{v:Value}(h:lv v):v.cells.toList=[v]:=by cases v<;>simp[lv]at h;rfl
theorem NK{v:Value}(h:xJ v):v.cells.toList=[v]:=by cases v<;>simp[xJ]at h;rfl
theorem pV{y:aL T.El}{v:Value}(h:ax T F w ρ bl y v):a_ T F w ρ bl (cellsOf y) v.cells.toList:=by
 cases y with
 |a l=>simp only[ax]at h;obtain⟨vs,rfl,h⟩:=h;exact h
 |p u=>
  simp only[ax]at h;subst h;cases v with
  |agg cs=>obtain⟨vs⟩:=cs;exact tR vs
  |_=>exact mi (by simp[ax])
 |b i o=>have h':=h;simp only[ax]at h';obtain⟨g,_,rfl⟩:=h';exact mi h
 |x t d o=>have h':=h;simp only[ax]at h';obtain⟨a,q,cs,rfl,_⟩:=h';exact mi h
 |s t l=>have h':=h;simp only[ax]at h';obtain⟨A,c,e⟩:=nb _ h';subst e;exact mi h
 |q t l=>have h':=h;simp only[ax]at h';obtain⟨_,A,rfl⟩:=h';exact mi h
 |r i g=>have h':=h;simp only[ax]at h';rw[NM h'.1];exact mi h
 |v i g lo hi=>have h':=h;simp only[ax]at h';rw[NM h'.1];exact mi h
 |e i g k t j d o=>have h':=h;simp only[ax]at h';rw[NK h'.1];exact mi h
 |w i g o=>have h':=h;simp only[ax]at h';rw[NK h'.1];exact mi h
 |m i=>have h':=h;simp only[ax]at h';obtain⟨g,_,rfl⟩:=h';exact mi h
 |n _ _ _=>have h':=h;simp only[ax]at h';obtain⟨g,rfl,_⟩:=h';exact mi h
 |f fn cs=>have h':=h;simp only[ax]at h';obtain⟨g,rfl,_⟩:=h';exact mi h
 |h fn us=>have h':=h;simp only[ax]at h';obtain⟨g,rfl,_⟩:=h';exact mi h
 |u l=>have h':=h;simp only[ax]at h';obtain⟨g,rfl,_⟩:=h';exact mi h
 |i t z=>have h':=h;simp only[ax]at h';obtain⟨g,rfl,_⟩:=h';exact mi h
 |pp i g sz eg=>have h':=h;simp only[ax]at h';obtain⟨_,_,rfl,_⟩:=h';exact mi h
 |Bp i g sz q=>have h':=h;simp only[ax]at h';obtain⟨_,_,_,rfl,_⟩:=h';exact mi h
theorem a_.lay{l cs:List (aL T.El)}{vs us:List Value}{n:Nat}(h:a_ T F w ρ bl l vs)(h':a_ T F w ρ bl cs us)(a:n+cs.length<=l.length):a_ T F w ρ bl (ga l n cs) (ga vs n us):=by have b:=h.len;have ao:=h'.len;rw[x2 _ _ _ a,x2 _ _ _ (by omega),ao];exact a_.bI (a_.bI (a_.take n h) h') (a_.drop _ h)
def sC(T:bU)(F:Nat->Prop)(w:World)(ρ:List Value)(bl:List (aH T.El)):List (Nat×aL T.El)->List (Nat×Value)->Prop
 |[],vs=>vs=[]
 |(i,y)::r,vs=>∃v ws,vs=(i,v)::ws/\ax T F w ρ bl y v/\sC T F w ρ bl r ws
theorem U_{pl:Nat->Option (Nat×Nat)}:∀ {ps:List (Nat×aL T.El)}{vs:List (Nat×Value)}{cs out:List (aL T.El)}{us:List Value},a_ T F w ρ bl cs us->sC T F w ρ bl ps vs->w3 pl cs ps=some out->∃os,Instr.fill pl ⟨us⟩ vs=some ⟨os⟩/\a_ T F w ρ bl out os
 |[],vs,cs,out,us,h,b,a=>by simp only[sC]at b;subst b;simp only[w3,aF]at a;subst a;exact⟨us,rfl,h⟩
 |(i,y)::r,vs,cs,out,us,h,b,a=>by
  simp only[sC]at b;obtain⟨v,ws,rfl,hy,c⟩:=b;simp only[w3]at a;split at a
  ·rename_i off size d;split at a
   ·rename_i ag;simp only[cd]at ag;have g:=bd ag.1;have ao:=cJ ag.2;have hc:=pV hy;have l1:=hc.len;have j:=h.len;have k:v.cells.size=(cellsOf y).length:=by rw[<-l1];simp
    obtain⟨os,e,J⟩:=U_ (h.lay hc ao) c a;refine⟨os,?_,J⟩;simp only[Instr.fill,d];rw[nc (by simp only[h3,decide_eq_true_eq,bne_iff_ne,not_or];simp only[List.size_toArray];omega)];have f:v.cells.zipIdx.toList=v.cells.toList.zipIdx:=by simp
    rw[<-Array.foldl_toList,f];have:=agX off v.cells.toList 0 ⟨us⟩ (by simp;omega);simp only[j_]at this;rw[<-e];congr 1;rw[<-Array.toList_inj];exact this
   ·cases a
  ·cases a
end
def LC(P:Program):List Go.Field->Option (List (Nat×Nat))
 |[]=>some []
 |f::r=>match P.info? f.type,LC P r with
  |some i,some l=>some ((f.offset,i.size)::l)
  |_,_=>none
theorem ak8{P:Program}{w:World}:∀ {cm:List Go.Field}{l:List (Nat×Nat)},LC P cm=some l->(cm.mapM λ(f:Go.Field)=>(do pure (f.offset,<-Go.sizeOf f.type):Sem (Nat×Nat))).run P w= .ok l w
 |[],l,h=>by simp only[LC,aF]at h;subst h;rfl
 |f::r,l,h=>by simp only[LC]at h;split at h;rename_i i l' a J;simp only[aF]at h;subst h;rw[List.mapM_cons];simp only[Sem.run_bind,run_sizeOf a,ak8 J,Result.andThen_ok,Sem.run_pure];cases h
def FV(P:Program)(t:TypeId):Option (List Value):=match P.info? t with
 |some i=>match i.zero with
  |some z=>some z.cells.toList
  |none=>none
 |none=>none
theorem M1{P:Program}{t:TypeId}{l:List Value}(h:FV P t=some l):∃z,(∀w,(zeroValue t).run P w= .ok z w)/\z.cells=⟨l⟩:=by unfold FV at h;split at h;rename_i i a;split at h;rename_i z J;simp only[aF]at h;subst h;refine⟨z,λ w=>?_,by simp⟩;simp only[zeroValue,typeInfo,Sem.run_bind];simp[go_sem,a,J];cases h;cases h
def UO(E:Env)(t:Nat)(ps:List (Nat×aL E.T.El)):D (aL E.T.El):=match E.P.underlying t,FV E.P t with
 |some (.struct cm),some z=>match LC E.P cm.toList with
  |some pl=>match w3 (λ i=>nth pl i) (z.map .p) ps with
   |some cs=>.ok (.a cs)
   |none=>.no
  |none=>.no
 |_,_=>.no
section
variable{E:Env}{F:Nat->Prop}{w:World}{ρ:List Value}{bl:List (aH E.T.El)}
theorem axU{t:Nat}{ps:List (Nat×aL E.T.El)}{vs:List (Nat×Value)}{y:aL E.T.El}(d:sC E.T F w ρ bl ps vs)(h:(UO E t ps).out y) :
 ∃v,ax E.T F w ρ bl y v/\∀(o:Oper)(a:Act)(xs:List (Nat×Operand))(w':World),o.op= .build t xs.toArray->xs.map (λ p=>(p.1,a.eval p.2))=vs->bh E.P o a w' v w':=by
 unfold UO at h
 split at h
 ·rename_i cm z g J;split at h
  ·rename_i pl j;split at h
   ·rename_i cs k;have h:aL.a cs=y:=h;subst h;obtain⟨e4,l,m⟩:=M1 J;obtain⟨os,c,n⟩:=U_ (tR z) d k;refine⟨.agg ⟨os⟩,by simp only[ax];exact⟨os,rfl,n⟩,λ o a xs w' q r=>?_⟩;have b:(λ i=>nth pl i)=(λ i=>(⟨pl⟩:Array (Nat×Nat))[i]?):=by funext i;rw[dj];simp
    have s:(cm.mapM λ(f:Go.Field)=>(do pure (f.offset,<-Go.sizeOf f.type):Sem (Nat×Nat))).run E.P w'= .ok ⟨pl⟩ w':=by
     have u:=ak8 (w:=w') j;have e:cm.mapM (λ(f:Go.Field)=>(do pure (f.offset,<-Go.sizeOf f.type):Sem (Nat×Nat)))=List.toArray <$> cm.toList.mapM (λ(f:Go.Field)=>(do pure (f.offset,<-Go.sizeOf f.type):Sem (Nat×Nat))):=by rw[<-List.mapM_toArray]
     rw[e,map_eq_pure_bind,Sem.run_bind,u];rfl
    rw[b]at c;simp only[bh,execOp,q,Instr.build,Sem.run_bind,l,Result.andThen_ok,run_underlying g,s,hz,r,m,c];rfl
   ·exact h.elim
  ·exact h.elim
 ·exact h.elim
end
end ba
namespace ay
open Go Go.RowKit I
section
variable{P:Program}{ops:Array Oper}{Q:Exit->Act->World->Prop}{a:Act}{w:World}{rest:List Oper}{o:Oper}{n:cG}{d:Nat}{l:List (Nat×Value)}
 {W:World}{M0 X:List Nat}{E:List bc}{D:List bG}
def bc.nil:bc:=⟨[],λ _=>True,λ _ _ _ _=>trivial⟩
theorem bz.N_{x:bc}{w':World}(b:bz W M0 X w E D)(i:Nat)(hi:E[i]? =some x)(c:br [] w w'):x.ok w':=x.law w w' (λ k e=>c.block k (b.lt k (hN.2 ⟨x,bH hi,e⟩)).1 (by simp)) (b.e i hi)
theorem aOl{t:TypeId}{x:Operand}{lo hi:Option Operand}{p r:List UInt8}{i j:Int}(k:P.underlying t=some .string)(q:o.op= .slice t x lo hi none)(s:a.eval x=cy p)
 (u:(lo=none/\i=0)\/∃z,lo=some z/\a.eval z= .int .i64 i)(v:(hi=none/\j=p.length)\/∃z,hi=some z/\a.eval z= .int .i64 j)(y:cut p i j=some r):bh P o a w (cy r) w:=by
 obtain⟨⟨H,J,I⟩,rfl⟩:=Un y
 have b:(⟨p.toArray⟩:ByteArray).size=p.length:=by simp[ByteArray.size]
 have bO:∀code,(Instr.sliceBound (.int .i64 j) (⟨p.toArray⟩:ByteArray).size code).run P w= .ok j.toNat w:=λ code=>Bv rfl (by rw[b];omega)
 rw[b]at bO
 have A:∀code,(Instr.sliceBound (.int .i64 i) j.toNat code).run P w= .ok i.toNat w:=λ code=>Bv rfl (by omega)
 have e5:∀code,(Instr.sliceBound (.int .i64 i) (⟨p.toArray⟩:ByteArray).size code).run P w= .ok i.toNat w:=λ code=>Bv rfl (by rw[b];omega)
 rw[b]at e5
 have B:(⟨p.toArray⟩:ByteArray).extract i.toNat j.toNat=⟨((p.take j.toNat).drop i.toNat).toArray⟩:=by apply ByteArray.ext;simp[ByteArray.data_extract,List.drop_take]
 have key:∀c e:Option Value,((c=none/\i=0)\/c=some (.int .i64 i))->((e=none/\j=p.length)\/e=some (.int .i64 j)) ->
  (Instr.slice t (.string ⟨p.toArray⟩) c e none).run P w= .ok (cy ((p.take j.toNat).drop i.toNat)) w:=by
  intro c e C F
  have ag:∃m,(Instr.sliceBounds false (⟨p.toArray⟩:ByteArray).size (⟨p.toArray⟩:ByteArray).size c e none).run P w= .ok (i.toNat,j.toNat,m) w:=by rcases C with⟨rfl,rfl⟩|rfl<;>rcases F with⟨rfl,aA⟩|rfl;exact⟨_,by simp[Instr.sliceBounds,aA,b];rfl⟩;exact⟨_,by simp[Instr.sliceBounds,b,bO];rfl⟩;exact⟨_,by simp[Instr.sliceBounds,e5,aA,b];rfl⟩;exact⟨_,by simp[Instr.sliceBounds,b,bO,A];rfl⟩
  obtain⟨m,ag⟩:=ag
  simp only[Instr.slice,Sem.run_bind,run_underlying k,Result.andThen_ok,l7,hM,if_false,ag,Sem.run_pure,B,cy]
 have G:=key (lo.map a.eval) (hi.map a.eval) (u.imp (λ h=>⟨by rw[h.1];rfl,h.2⟩) (λ⟨z,f,g⟩=>by rw[f,fY,g])) (v.imp (λ h=>⟨by rw[h.1];rfl,h.2⟩) (λ⟨z,f,g⟩=>by rw[f,fY,g]))
 simp only[bh,execOp,q,s,cy,Instr.sliceAt,Sem.run_bind,run_underlying k,Result.andThen_ok,je,G]
 rfl
theorem aOq{t:TypeId}{x:Operand}{v:Value}(hc:P.concrete t=true)(b:o.op= .makeInterface t x)(c:a.eval x=v):bh P o a w (.iface t v) w:=by simp only[bh,execOp,b,c];simp[go_sem,run_makeInterface _ _ _ hc]
end
end ay
namespace ba
open Go Go.RowKit ay I
abbrev lN(P:Program)(o:Oper)(a:Act)(v:Value):Prop:=∀w,bh P o a w v w
section
variable{E:Env}{W w:World}{M0:List Nat}{X:Nat->Prop}{bl:List (aH E.T.El)}{ρ:List Value}
def Zp(E:Env)(x y:Operand)(b:Bool):aL E.T.El->aL E.T.El->D (aL E.T.El)
 | .p u,.p v=>match QF x y b u v with
   |some r=>.ok (.p r)
   |none=>.q' b (.ok (.p u)) (.ok (.p v))
 |u,v=>.q' b (.ok u) (.ok v)
theorem aGn{F:Nat->Prop}{a:Act}{x y:Operand}{b:Bool}{u v z:aL E.T.El}(h:(Zp E x y b u v).out z)(c:b=true->ax E.T F w ρ bl u (a.eval x))(hy:b=false->ax E.T F w ρ bl v (a.eval y)) :
 ∃r,(if b then a.eval x else a.eval y)=r/\ax E.T F w ρ bl z r:=by
 have key:(D.q' b (.ok u) (.ok v)).out z->∃r,(if b then a.eval x else a.eval y)=r/\ax E.T F w ρ bl z r:=λ h=>by rcases h with⟨ag,h⟩|⟨ag,h⟩;have h:u=z:=h;subst h;subst ag;exact⟨_,rfl,by simpa using c rfl⟩;have h:v=z:=h;subst h;subst ag;exact⟨_,rfl,by simpa using hy rfl⟩
 unfold Zp at h
 split at h
 ·rename_i u v;split at h;rename_i r d;have h:aL.p r=z:=h;subst h;refine⟨r,ak3 (a:=a) d (λ ag=>?_) (λ ag=>?_),by simp[ax]⟩;simpa[ax]using c ag;simpa[ax]using hy ag;exact key h
 ·exact key h
theorem aOD{P:Program}{o:Oper}{a:Act}{c x y:Operand}{b:Bool}{r:Value}(d:o.op= .pick c x y)(hc:a.eval c= .bool b)(h:(if b then a.eval x else a.eval y)=r):bh P o a w r w:=by
 cases b with
 |true=>exact SY d hc (by simpa using h)
 |false=>exact SX d hc (by simpa using h)
def aCr(P:Program)(t:TypeId):Bool:=match P.underlying t with
 |some (.struct _)=>true
 |_=>false
def l_{El:Nat->Type}:aL El->Bool
 | .a _=>true
 | .p (.agg _)=>true
 |_=>false
def N1(E:Env)(t:Nat)(b:Bool)(u v:aL E.T.El):D (aL E.T.El):=match l_ u&&l_ v with
 |true=>match(E.T.e t).eq,(E.T.e t).hX (cellsOf u),(E.T.e t).hX (cellsOf v)with
  |some f,some d,some e=>.ok (.p (.bool (cond b (f d e) (!f d e))))
  |_,_,_=>.no
 |false=>.no
def aiV:Value->Bool
 | .pointer none=>true
 |_=>false
def Pw{El:Nat->Type}:aL El->Bool
 | .b _ _=>true
 | .x _ _ _=>true
 | .e _ _ _ _ _ _ _=>true
 | .w _ _ _=>true
 |_=>false
def Zt(P:Program)(t:TypeId):Bool:=match P.underlying t with
 |some (.pointer _)=>true
 |_=>false
def EP(op:BinOp)(b:Bool):Option Bool:=match op with
 | .eql=>some b
 | .neq=>some (!b)
 |_=>none
def afo(op:BinOp)(m n:Int):Option Value:=match op with
 | .quo=>some (.int .i64 (aw (m.tdiv n)))
 | .rem=>some (.int .i64 (m.tmod n))
 |_=>none
def UN(E:Env)(t:Nat)(op:BinOp)(gF:Bool)(u v:aL E.T.El):D (aL E.T.El):=match aCr E.P t,op with
 |true,.eql=>N1 E t true u v
 |true,.neq=>N1 E t false u v
 |_,_=>match u,v with
  | .p x,.p y=>match bin (ly (E.P.underlying t)) gF op x y with
    |some r=>.ok (.p r)
    |none=>match x,y with
     | .int .i64 m,.int .i64 n=>match afo op m n with
       |some r=>.op (yk (!decide (n=0))) λ _=>.ok (.p r)
       |none=>.no
     | .int .u64 m,.int _ (.ofNat n)=>match op,jw n 64 with
       | .shr,true=>.ok (.p (.int .u64 (yw m n)))
       |_,_=>.no
     |_,_=>.no
  |u,.p y=>match Zt E.P t&&Pw u&&aiV y,EP op false with
   |true,some b=>.ok (.p (.bool b))
   |_,_=>.no
  |_,_=>.no
theorem aOE{P:Program}{o:Oper}{a:Act}{t t':TypeId}{x y:Operand}{p:Addr}{op:BinOp}{b:Bool}(c:Zt P t=true)(ag:EP op false=some b)(g:o.op= .binOp op t x y t')(i:a.eval x= .pointer (some p))(hy:a.eval y= .pointer none):bh P o a w (.bool b) w:=by
 have f:∃e,P.underlying t=some (.pointer e):=by unfold Zt at c;split at c;rename_i e h;exact⟨e,h⟩;cases c
 obtain⟨e,f⟩:=f;have h:∀d:Nat,(Op.equalIn (d+1) t (.pointer (some p)) (.pointer none)).run P w= .ok false w:=λ d=>by simp[Op.equalIn,run_underlying f]
 cases op<;>simp only[EP,aF,reduceCtorEq]at ag<;>subst ag
 ·have J:(binOp .eql t (.pointer (some p)) (.pointer none)).run P w= .ok (.bool false) w:=by
   simp only[binOp];simp[Op.equal,Op.maxDepth,h 9999]
  simp only[bh,execOp,g,i,hy];simp[go_sem,J]
 ·have J:(binOp .neq t (.pointer (some p)) (.pointer none)).run P w= .ok (.bool true) w:=by
   simp only[binOp];simp[Op.equal,Op.maxDepth,h 9999]
  simp only[bh,execOp,g,i,hy];simp[go_sem,J]
theorem aiW{F:Nat->Prop}{y:aL E.T.El}{v:Value}(h:Pw y=true)(a:ax E.T F w ρ bl y v):∃p,v= .pointer (some p):=by cases y<;>simp only[Pw,reduceCtorEq]at h;simp only[ax]at a;obtain⟨g,_,rfl⟩:=a;exact⟨_,rfl⟩;simp only[ax]at a;obtain⟨_,_,_,rfl,_⟩:=a;exact⟨_,rfl⟩;simp only[ax]at a;cases v<;>simp[xJ]at a;rename_i p;cases p<;>simp at a;exact⟨_,rfl⟩;simp only[ax]at a;cases v<;>simp[xJ]at a;rename_i p;cases p<;>simp at a;exact⟨_,rfl⟩
theorem KX{F:Nat->Prop}{y:aL E.T.El}{v:Value}(h:l_ y=true)(a:ax E.T F w ρ bl y v):v= .agg ⟨v.cells.toList⟩:=by cases y<;>simp only[l_,reduceCtorEq]at h;rename_i u;simp only[ax]at a;subst a;cases v<;>simp only[l_,reduceCtorEq]at h;simp[Value.cells];simp only[ax]at a;obtain⟨vs,rfl,_⟩:=a;simp[Value.cells]
theorem axT(a8:dl E){F:Nat->Prop}{o:Oper}{a:Act}{t:Nat}{op:BinOp}{gF:Bool}{x y:Operand}{t':TypeId}{u v z:aL E.T.El}(h:(UN E t op gF u v).out z)(j:o.op= .binOp op t x y t')(C:gF=true->∀k n,a.eval y= .int k n->n≠0)
 (i:ax E.T F w ρ bl u (a.eval x))(hy:ax E.T F w ρ bl v (a.eval y)):∃r,lN E.P o a r/\ax E.T F w ρ bl z r:=by
 have A:∀ {b:Bool},op=cond b .eql .neq->(N1 E t b u v).out z->∃r,lN E.P o a r/\ax E.T F w ρ bl z r:=λ{b} ag h=>by unfold N1 at h;split at h;rename_i l;simp only[cd]at l;split at h;rename_i f d e c J D;have h:aL.p (.bool (cond b (f d e) (!f d e)))=z:=h;subst h;have G:=a8.tb.hX _ _ _ J _ _ _ _ _ (pV i);have s:=a8.tb.hX _ _ _ D _ _ _ _ _ (pV hy);exact⟨.bool (cond b (f d e) (!f d e)),λ w'=>a8.eq t f c _ _ _ _ d e G s o a x y t' b (by rw[j,ag]) (KX l.1 i) (KX l.2 hy) w',by simp only[ax]⟩;exact h.elim;exact h.elim
 unfold UN at h
 split at h
 ·exact A (b:=true) rfl h
 ·exact A (b:=false) rfl h
 ·split at h;rename_i p q;simp only[ax]at i hy;split at h;rename_i r g;have h:aL.p r=z:=h;subst h;exact⟨r,λ w'=>aev (λ k H=>xL H) C g j i hy,by simp only[ax]⟩;split at h;rename_i m n;split at h;rename_i r g;obtain⟨b,c,J⟩:=h;have J:aL.p r=z:=J;subst J;have B:=Y4 c;refine⟨r,λ w'=>?_,by simp only[ax]⟩;unfold afo at g;split at g;simp only[aF]at g;subst g;exact aqk j i hy B;simp only[aF]at g;subst g;exact aql j i hy B;cases g;exact h.elim;rename_i m k n _;split at h;rename_i ag _;have h:aL.p (.int .u64 (yw m n))=z:=h;subst h;exact⟨_,λ w'=>aOG (by assumption) j i hy,by simp only[ax]⟩;exact h.elim;exact h.elim
  ·rename_i q _;split at h
   ·rename_i b c J;have h:aL.p (.bool b)=z:=h;subst h;simp only[cd]at c;simp only[ax]at hy;obtain⟨p,I⟩:=aiW c.1.2 i;have K:q= .pointer none:=by cases q<;>simp only[aiV,reduceCtorEq,and_false]at c;rename_i L;cases L<;>simp at c⊢
    exact⟨_,λ w'=>aOE c.1.1 J j I (by rw[hy,K]),by simp only[ax]⟩
   ·exact h.elim
  ·exact h.elim
end
def pu(P:Program)(t:TypeId):Option (Nat×Nat):=match P.underlying t with
 |some (.slice e)=>match P.info? e with
  |some i=>some (e,i.size)
  |none=>none
 |_=>none
theorem tV{P:Program}{t e n:Nat}(h:pu P t=some (e,n)):P.underlying t=some (.slice e)/\∀w,(Go.sizeOf e).run P w= .ok n w:=by unfold pu at h;split at h;rename_i e' a;split at h;rename_i i J;simp only[aF,cB]at h;obtain⟨rfl,rfl⟩:=h;exact⟨a,run_sizeOf J⟩;cases h;cases h
def UT(E:Env)(bl:List (aH E.T.El))(t:Nat):aL E.T.El->aL E.T.El->D (aL E.T.El)
 | .s t' l,.p (.int .i64 j)=>match pu E.P t with
   |some (_,n)=>match cj n (E.T.ty t').size with
    |true=>.op (idx l j) λ d=>.ok (.x t' d 0)
    |false=>.no
   |none=>.no
 | .q t' l,.p (.int .i64 j)=>match pu E.P t with
   |some (_,n)=>match cj n (E.T.ty t').size with
    |true=>.op (idx l j) λ d=>.ok (.x t' d 0)
    |false=>.no
   |none=>.no
 | .r i g,.p (.int .i64 j)=>match pu E.P t,nth bl i with
   |some (_,n),some (.r t' a k l)=>match cj g a&&cj n (E.T.ty t').size with
    |true=>.op (idx l j) λ d=>.ok (.e i g k t' j d 0)
    |false=>.no
   |some (_,n),some (.k _ sz a cs)=>match cj g a&&cj n sz&&decide (0<=j)&&jw ((j.toNat+1)*sz) cs.length&&fg 0 sz with
    |true=>.ok (.w i g (j.toNat*sz))
    |false=>.no
   |_,_=>.no
 | .v i g lo hi,.p (.int .i64 j)=>match pu E.P t,nth bl i with
   |some (_,n),some (.r t' a k l)=>match cj g a&&cj n (E.T.ty t').size with
    |true=>.op (idx ((l.take hi.toNat).drop lo.toNat) j) λ d=>.ok (.e i g k t' (lo+j) d 0)
    |false=>.no
   |_,_=>.no
 | .pp i g sz eg,.p (.int .i64 j)=>match pu E.P t with
   |some (_,n)=>match cj n 1 with
    |true=>.op (idx eg j) λ q=>.ok (.Bp i g sz q)
    |false=>.no
   |none=>.no
 |_,_=>.no
theorem aB9{α:Type}{l:List α}{lo hi j:Int}{d:α}(e:0<=lo)(f:hi<=l.length)(h:idx ((l.take hi.toNat).drop lo.toNat) j=some d):idx l (lo+j)=some d/\0<=j/\lo+j<hi:=by obtain⟨a,b,c⟩:=l9 h;simp only[j6,gl]at b;rw[iF,hx]at c;split at c;refine⟨?_,a,by omega⟩;unfold idx;rw[nf (by omega),show(lo+j).toNat=lo.toNat+j.toNat by omega];exact c;cases c
section
variable{E:Env}{W w:World}{M0:List Nat}{X:Nat->Prop}{bl:List (aH E.T.El)}{ρ:List Value}
theorem H5{t sz n c:Nat}{A:Option Addr}{xs:List Value}(h:rowIs w t sz (.slice A n c) n xs)(a:0<n):∃g,A=some ⟨g,0,none⟩:=h.cap.2.2.2 (by have:=h.cap.1;omega)
theorem Ra{t sz n c:Nat}{A:Option Addr}{xs:List Value}(h:rowIs w t sz (.slice A n c) n xs):n<=c:=h.cap.1
theorem agz{F:Nat->Prop}{t':Nat}{l:List (E.T.El t')}{o:Oper}{a:Act}{t e n:Nat}{x y:Operand}{j:Int}{d:E.T.El t'}{A:Option Addr}{c:Nat}(aj:pu E.P t=some (e,n))(h:n=(E.T.ty t').size)(b:idx l j=some d)(i:o.op= .indexAddr t x y)
 (k:a.eval x= .slice A l.length c)(f:(b7 (E.T.ty t')).rd F w [.slice A l.length c] l)(hy:a.eval y= .int .i64 j):∃r,lN E.P o a r/\ax E.T F w ρ bl (.x t' d 0) r:=by
 have m:=b
 obtain⟨p,q⟩:=tV aj
 obtain⟨s,aA,cs,u,v⟩:=E3 _ f b
 refine⟨_,λ w'=>qV p q i k hy s aA,?_⟩
 simp only[ax]
 obtain⟨cu,C,g,ao,aW,bR,dx⟩:=(f:(b7 _).rd _ w _ l)
 have z:l≠[]:=by intro e;subst e;have:=(l9 m).2.1;simp at this
 have B:=(dx z).2.1
 simp only[hU,Value.slice.injEq,and_true,true_and]at g
 obtain⟨rfl,rfl⟩:=g
 exact⟨dC A,gd A+j.toNat*(E.T.ty t').size,cs,by rw[h];simp,B,u,v⟩
theorem ax0{o:Oper}{a:Act}{t:Nat}{x y:Operand}{u v z:aL E.T.El}(D:Mem E.T W M0 X bl ρ w)(h:(UT E bl t u v).out z)(L:o.op= .indexAddr t x y)
 (b:ax E.T (bj X bl ρ w) w ρ bl u (a.eval x))(hy:ax E.T (bj X bl ρ w) w ρ bl v (a.eval y)):∃r,lN E.P o a r/\ax E.T (bj X bl ρ w) w ρ bl z r:=by
 unfold UT at h
 split at h
 ·rename_i t' l j;split at h;rename_i e n aj;split at h;rename_i ag;obtain⟨d,f,J⟩:=h;have J:aL.x t' d 0=z:=J;subst J;simp only[ax]at b hy;obtain⟨A,c,F⟩:=nb _ b;rw[F]at b;exact agz aj (bd ag) f L F b hy;exact h.elim;exact h.elim
 ·rename_i t' l j;split at h;rename_i e n aj;split at h;rename_i ag;obtain⟨d,f,J⟩:=h;have J:aL.x t' d 0=z:=J;subst J;simp only[ax]at b hy;obtain⟨A,c,F⟩:=nb _ b.1;have b:=b.1;rw[F]at b;exact agz aj (bd ag) f L F b hy;exact h.elim;exact h.elim
 ·rename_i i g j;split at h;rename_i e n t' R k l aj hi;rw[dj]at hi;split at h;rename_i ag;simp only[cd]at ag;obtain⟨d,f,J⟩:=h;have J:aL.e i g k t' j d 0=z:=J;subst J;simp only[ax]at b hy;obtain⟨_,aJ,p,s,C⟩:=b;rw[hi]at s C;have G:=C (bd ag.1);obtain⟨A,c,xs,M,ao,aW⟩:=D.ok i _ _ hi p;subst M;obtain⟨N,S,U⟩:=l9 f;obtain⟨gb,rfl⟩:=H5 ao (by omega);obtain⟨H,I⟩:=tV aj;have K:=bd ag.2;refine⟨_,λ w'=>qV H I L G hy rfl ⟨N,by omega⟩,?_⟩;simp only[ax];refine⟨trivial,_,p,by rw[hi];exact s,λ _=>⟨⟨_,_,_,rfl,N,by omega,by simp[dC,gd,hi,jU,K]⟩,by rw[hi];exact cP _,λ _=>⟨l,by rw[hi];rfl,f⟩⟩⟩;exact h.elim
  ·rename_i e n t' sz R cs aj hi;rw[dj]at hi;split at h
   ·rename_i ag;simp only[cd,decide_eq_true_eq]at ag;obtain⟨⟨⟨⟨bO,Z⟩,e5⟩,O⟩,V⟩:=ag;have h:aL.w i g (j.toNat*sz)=z:=h;subst h;simp only[ax]at b hy;obtain⟨_,aJ,p,s,C⟩:=b;rw[hi]at s C;have G:=C (bd bO);obtain⟨A,m,c,xs,M,ao,aW⟩:=D.ok i _ _ hi p;subst M;have O:=cJ O;have V:=cJ V;have Y:=aW.len;have aPv:=ao.len;have aPs:j.toNat<m:=by rcases gI j.toNat m with q |q;exact q;have:=j8 sz q;rw[jP]at O;omega
    obtain⟨gb,rfl⟩:=H5 ao (by omega);obtain⟨H,I⟩:=tV aj;have K:=bd Z;refine⟨_,λ w'=>qV H I L G hy rfl ⟨e5,by omega⟩,?_⟩;simp only[ax];exact⟨trivial,_,p,by rw[hi];exact s,λ _=>⟨_,_,_,rfl,by omega,by simp[dC,gd,K]⟩⟩
   ·exact h.elim
  ·exact h.elim
 ·rename_i i g lo c7 j;split at h
  ·rename_i e n t' R k l aj hi;rw[dj]at hi;split at h
   ·rename_i ag;simp only[cd]at ag;obtain⟨d,f,J⟩:=h;have J:aL.e i g k t' (lo+j) d 0=z:=J;subst J;simp only[ax]at b hy;obtain⟨_,aJ,p,s,C⟩:=b;rw[hi]at s C;obtain⟨cu,fj,bJ,B,P,l0,l1,cz,G,_,bN⟩:=C (bd ag.1);obtain⟨A,c,xs,M,ao,aW⟩:=D.ok i _ _ hi p;rw[M]at P ao;simp only[Value.slice.injEq]at P;obtain⟨rfl,rfl,rfl⟩:=P;obtain⟨lX,Q,lx⟩:=aB9 l0 cz f;obtain⟨gb,rfl⟩:=H5 ao (by omega);have u5:=Ra ao;obtain⟨H,I⟩:=tV aj;have K:=bd ag.2;rw[bN (by omega)]at G;simp only[fY,lR]at G;refine⟨_,λ w'=>qV H I L G hy rfl ⟨Q,by omega⟩,?_⟩;simp only[ax];refine⟨trivial,_,p,by rw[hi];exact s,λ _=>⟨⟨_,_,_,M,by omega,by omega,?_⟩,by rw[hi];exact cP _,λ _=>⟨l,by rw[hi];rfl,lX⟩⟩⟩;rw[hi];have:(lo+j).toNat=lo.toNat+j.toNat:=by omega
    simp[dC,gd,jU,K,this,jP]
   ·exact h.elim
  ·exact h.elim
 ·rename_i i g sz eg j;split at h
  ·rename_i e n aj;split at h
   ·rename_i ag;obtain⟨q,f,J⟩:=h;have J:aL.Bp i g sz q=z:=J;subst J;simp only[ax]at b hy;obtain⟨A,c,F,_,_,a7⟩:=b;obtain⟨N,S,U⟩:=l9 f;have b3:eg≠[]:=by intro e;subst e;simp at S
    obtain⟨cT,aC,xs,bn,bi⟩:=a7 b3;obtain⟨u,jZ,nd⟩:=bn.at_ U;obtain⟨H,I⟩:=tV aj;have K:=bd ag;refine⟨_,λ w'=>qV H I L F hy cT ⟨N,by omega⟩,?_⟩;simp only[ax];refine⟨dC A,gd A+j.toNat,u,by rw[K];simp,aC,nd,λ m y D=>?_⟩;cases m with
    |zero=>simp only[ee,aF]at D;subst D;simpa using bi _ _ jZ
    |succ m=>simp at D
   ·exact h.elim
  ·exact h.elim
 ·exact h.elim
def UX(E:Env)(bl:List (aH E.T.El))(t:Nat):aL E.T.El->D (aL E.T.El)
 | .p (.string ⟨⟨p⟩⟩)=>match ly (E.P.underlying t)with
   |some .s=>.ok (.p (.int .i64 (p.length:Int)))
   |_=>.no
 | .p (.slice _ n _)=>match ly (E.P.underlying t)with
   |some .cx=>.ok (.p (.int .i64 (n:Int)))
   |_=>.no
 | .s _ l=>match ly (E.P.underlying t)with
   |some .cx=>.ok (.p (.int .i64 (l.length:Int)))
   |_=>.no
 | .q _ l=>match ly (E.P.underlying t)with
   |some .cx=>.ok (.p (.int .i64 (l.length:Int)))
   |_=>.no
 | .pp _ _ _ l=>match ly (E.P.underlying t)with
   |some .cx=>.ok (.p (.int .i64 (l.length:Int)))
   |_=>.no
 | .r i g=>match ly (E.P.underlying t),nth bl i with
   |some .cx,some (.r _ a _ l)=>match cj g a with
    |true=>.ok (.p (.int .i64 (l.length:Int)))
    |false=>.no
   |some .cx,some (.k _ sz a cs)=>match cj g a&&fg 0 sz with
    |true=>.ok (.p (.int .i64 ((cs.length / sz:Nat):Int)))
    |false=>.no
   |_,_=>.no
 | .v i g lo hi=>match ly (E.P.underlying t)with
   |some .cx=>match cj g (u1 bl i)with
    |true=>.ok (.p (.int .i64 (hi-lo)))
    |false=>.no
   |_=>.no
 |_=>.no
theorem ax4{o:Oper}{a:Act}{t:Nat}{x:Operand}{u z:aL E.T.El}(C:Mem E.T W M0 X bl ρ w)(h:(UX E bl t u).out z)(F:o.op= .call { callee:=.builtin .len,args:=#[x],argTypes:=#[t] })
 (d:ax E.T (bj X bl ρ w) w ρ bl u (a.eval x)):∃r,lN E.P o a r/\ax E.T (bj X bl ρ w) w ρ bl z r:=by
 have fin:∀ {A:Option Addr}{n c:Nat},ly (E.P.underlying t)=some .cx->a.eval x= .slice A n c->(D.ok (aL.p (.int .i64 (n:Int)))).out z->∃r,lN E.P o a r/\ax E.T (bj X bl ρ w) w ρ bl z r:=λ{A n c} b f h=>by
  have h:aL.p (.int .i64 (n:Int))=z:=h;subst h;obtain⟨e,H⟩:=(xL b:oG.ok E.P t .cx)
  exact⟨_,λ w'=>aqf H F f,by simp only[ax]⟩
 unfold UX at h
 split at h
 ·rename_i p;split at h;rename_i b;have h:aL.p (.int .i64 (p.length:Int))=z:=h;subst h;simp only[ax]at d;exact⟨_,λ w'=>aqg (xL b) F d,by simp only[ax]⟩;exact h.elim
 ·split at h;rename_i b;simp only[ax]at d;exact fin b d h;exact h.elim
 ·split at h;rename_i b;simp only[ax]at d;obtain⟨A,c,f⟩:=nb _ d;exact fin b f h;exact h.elim
 ·split at h;rename_i b;simp only[ax]at d;obtain⟨A,f⟩:=d.2;exact fin b f h;exact h.elim
 ·split at h;rename_i b;simp only[ax]at d;obtain⟨A,c,f,_⟩:=d;exact fin b f h;exact h.elim
 ·rename_i i g;split at h;rename_i t' I k l b hi;rw[dj]at hi;split at h;rename_i ag;simp only[ax]at d;obtain⟨_,aJ,s,G,j⟩:=d;rw[hi]at j;obtain⟨A,c,xs,v,_⟩:=C.ok i _ _ hi s;exact fin b ((j (bd ag)).trans v) h;exact h.elim
  ·rename_i t' sz I cs b hi;rw[dj]at hi;split at h
   ·rename_i ag;simp only[cd]at ag;simp only[ax]at d;obtain⟨_,aJ,s,G,j⟩:=d;rw[hi]at j;obtain⟨A,m,c,xs,v,ao,aW⟩:=C.ok i _ _ hi s;have q:=aW.len;have J:=ao.len;have K:=cJ ag.2;have L:cs.length / sz=m:=by rw[<-q,J];exact Nat.mul_div_cancel _ K
    rw[L]at h;exact fin b ((j (bd ag.1)).trans v) h
   ·exact h.elim
  ·exact h.elim
 ·rename_i i g lo y;split at h;rename_i b;split at h;rename_i ag;have ag:=bd ag;rw[DE]at ag;simp only[ax]at d;obtain⟨_,aJ,s,G,j⟩:=d;obtain⟨A,m,c,B,M,l0,l1,N,f,_⟩:=j ag;refine fin b f ?_;have h:aL.p (.int .i64 (y-lo))=z:=h;rw[<-h,show((y.toNat-lo.toNat:Nat):Int)=y-lo by omega];exact rfl;exact h.elim;exact h.elim
 ·exact h.elim
end
theorem awa{α:Type}{T:dm α}{F:Nat->Prop}{w:World}{A:Option Addr}{c:Nat}{li r:List α}{i j:Int}(h:(b7 T).rd F w [.slice A li.length c] li)(g:cut li i j=some r) :
 (b7 T).rd F w [.slice (if c=i.toNat then A else A.map (·.add (i.toNat*T.size))) (j.toNat-i.toNat) (c-i.toNat)] r/\j.toNat-i.toNat=r.length/\li.length<=c:=by
 obtain⟨⟨x,y,J⟩,rfl⟩:=Un g
 obtain⟨z,c1,f,ao,aW,bR,dx⟩:=h
 simp only[hU,Value.slice.injEq,and_true,true_and]at f
 obtain⟨rfl,rfl⟩:=f
 have a:((li.take j.toNat).drop i.toNat).length=j.toNat-i.toNat:=by rw[j6,gl];omega
 refine⟨?_,a.symm,ao⟩
 refine⟨_,c-i.toNat,by rw[a],by rw[a];omega,by omega,λ d=>?_,λ k=>?_⟩
 ·split at d;have:=bR d;omega
  ·cases A with
   |none=>have:=bR rfl;omega
   |some eo=>cases d
 ·have l:0<((li.take j.toNat).drop i.toNat).length:=lY.2 k;have m:li≠[]:=by intro e;subst e;simp at l
  obtain⟨n,o,xs,p,s⟩:=dx m;have t:c≠i.toNat:=by omega
  rw[nc t,n];refine⟨?_,?_⟩;simp only[fY,lR];rfl;simp only[fY,lR];refine⟨o,_,vN i.toNat j.toNat p,λ q u v=>?_⟩;have b:(xs.take (j.toNat*T.size))[i.toNat*T.size+q]? =some u:=by rwa [iF]at v
  rw[hx]at b;split at b;have:=s (i.toNat*T.size+q) u b;simpa[dC,gd,kb]using this;cases b
def sH{El:Nat->Type}(z:Int):Option (aL El)->Option Int
 |none=>some z
 |some (.p (.int .i64 n))=>some n
 |_=>none
def py(n:Nat)(lo hi:Int):Option Unit:=if 0<=lo/\lo<=hi/\hi<=(n:Int)then some ()else none
theorem anu{n:Nat}{lo hi:Int}{u:Unit}(h:py n lo hi=some u):0<=lo/\lo<=hi/\hi<=(n:Int):=by unfold py at h;split at h;assumption;cases h
def IV{El:Nat->Type}:Option (aL El)->Bool
 |none=>true
 |some (.p (.int .i64 (.ofNat 0)))=>true
 |_=>false
def UR(E:Env)(bl:List (aH E.T.El))(t:Nat)(u:aL E.T.El)(lo hi:Option (aL E.T.El)):D (aL E.T.El):=match u with
 | .s t' l=>match pu E.P t,sH 0 lo,sH (l.length:Int) hi with
   |some (_,n),some i,some j=>match cj n (E.T.ty t').size with
    |true=>.op (cut l i j) λ r=>.ok (.s t' r)
    |false=>.no
   |_,_,_=>.no
 | .p (.string ⟨⟨p⟩⟩)=>match ly (E.P.underlying t),sH 0 lo,sH (p.length:Int) hi with
   |some .s,some i,some j=>.op (cut p i j) λ r=>.ok (.p (cy r))
   |_,_,_=>.no
 | .r i g=>match pu E.P t,nth bl i with
   |some (_,n),some (.r t' c _ l)=>match sH 0 lo,sH (l.length:Int) hi,cj g c&&cj n (E.T.ty t').size with
    |some a,some b,true=>.op (py l.length a b) λ _=>.ok (.v i g a b)
    |_,_,_=>.no
   |_,_=>.no
 | .v i g p q=>match pu E.P t,nth bl i with
   |some (_,n),some (.r t' c _ l)=>match sH 0 lo,sH (q-p) hi,cj g c&&cj n (E.T.ty t').size with
    |some a,some b,true=>.op (py (q-p).toNat a b) λ _=>.ok (.v i g (p+a) (p+b))
    |_,_,_=>.no
   |_,_=>.no
 | .p (.slice none 0 0)=>match pu E.P t,IV lo&&IV hi with
   |some _,true=>.ok (.p (.slice none 0 0))
   |_,_=>.no
 |_=>.no
section
variable{E:Env}{W w:World}{M0:List Nat}{X:Nat->Prop}{bl:List (aH E.T.El)}{ρ:List Value}{a:Act}
def Df(E:Env)(F:Nat->Prop)(w:World)(ρ:List Value)(bl:List (aH E.T.El))(a:Act):Option Operand->Option (aL E.T.El)->Prop
 |none,none=>True
 |some x,some y=>ax E.T F w ρ bl y (a.eval x)
 |_,_=>False
theorem wT{F:Nat->Prop}{lo:Option Operand}{u:Option (aL E.T.El)}{z i:Int}(h:Df E F w ρ bl a lo u)(ag:sH z u=some i):(lo=none/\i=z)\/∃x,lo=some x/\a.eval x= .int .i64 i:=by
 cases lo with
 |none=>
  cases u with
  |none=>simp only[sH,aF]at ag;exact .inl ⟨rfl,ag.symm⟩
  |some y=>exact h.elim
 |some x=>
  cases u with
  |none=>exact h.elim
  |some y=>right;refine⟨x,rfl,?_⟩;have h:ax E.T F w ρ bl y (a.eval x):=h;unfold sH at ag;split at ag;rename_i e;cases e;rename_i n e;simp only[aF]at e ag;subst e;subst ag;simpa only[ax]using h;cases ag
theorem S3{F:Nat->Prop}{lo:Option Operand}{u:Option (aL E.T.El)}(h:Df E F w ρ bl a lo u)(ag:IV u=true):(lo=none/\(0 :Int)=0)\/∃x,lo=some x/\a.eval x= .int .i64 0:=by refine wT (z:=0) (i:=0) h ?_;unfold IV at ag;split at ag;rfl;rfl;cases ag
theorem axX{o:Oper}{t:Nat}{x:Operand}{lo hi:Option Operand}{u z:aL E.T.El}{D F:Option (aL E.T.El)}(S:Mem E.T W M0 X bl ρ w)(h:(UR E bl t u D F).out z)(G:o.op= .slice t x lo hi none)
 (d:ax E.T (bj X bl ρ w) w ρ bl u (a.eval x))(H:Df E (bj X bl ρ w) w ρ bl a lo D)(I:Df E (bj X bl ρ w) w ρ bl a hi F):∃r,lN E.P o a r/\ax E.T (bj X bl ρ w) w ρ bl z r:=by
 unfold UR at h
 split at h
 ·rename_i t' l;split at h;rename_i e n i j aj v J;split at h;rename_i ag;obtain⟨r,m,b⟩:=h;have b:aL.s t' r=z:=b;subst b;obtain⟨y,C⟩:=tV aj;simp only[ax]at d;obtain⟨A,c,U⟩:=nb _ d;rw[U]at d;obtain⟨Z,bi,ch⟩:=awa d m;have K:=bd ag;subst K;exact⟨_,λ w'=>SR y C G U (wT H v) (wT I J) (Un m).1 ch,by simp only[ax];exact Z⟩;exact h.elim;exact h.elim
 ·rename_i p;split at h;rename_i i j hk v J;obtain⟨r,m,b⟩:=h;have b:aL.p (cy r)=z:=b;subst b;simp only[ax]at d;exact⟨_,λ w'=>aOl (xL hk) G d (wT H v) (wT I J) m,by simp only[ax]⟩;exact h.elim
 ·rename_i i g;split at h
  ·rename_i e n t' g2 k l aj f;rw[dj]at f;split at h
   ·rename_i p q v J ag;simp only[cd]at ag;obtain⟨r,m,b⟩:=h;have b:aL.v i g p q=z:=b;subst b;obtain⟨y,C⟩:=tV aj;simp only[ax]at d;obtain⟨_,aJ,L,M,N⟩:=d;rw[f]at M N;have P:=N (bd ag.1);obtain⟨A,c,xs,O,ao,aW⟩:=S.ok i _ _ f L;rw[O]at P ao;obtain⟨v0,v1,Q⟩:=anu m;have K:=bd ag.2;subst K;refine⟨_,λ w'=>SR y C G P (wT H v) (wT I J) ⟨v0,v1,Q⟩ (Ra ao),?_⟩;simp only[ax];have cT:A=A.map (·.add (0*(E.T.ty t').size)):=by cases A<;>simp[Addr.add]
    refine⟨trivial,aJ,L,by rw[f];exact M,λ _=>⟨A,_,c,_,O,v0,v1,Q,rfl,λ e=>?_,λ e=>?_⟩⟩;subst e;split;rfl;exact cT.symm;rw[nc (by have:=Ra ao;omega),f];rfl
   ·exact h.elim
  ·exact h.elim
 ·rename_i i g p q;split at h
  ·rename_i e n t' g2 k l aj f;rw[dj]at f;split at h
   ·rename_i s r v J ag;simp only[cd]at ag;obtain⟨_,m,b⟩:=h;have b:aL.v i g (p+s) (p+r)=z:=b;subst b;obtain⟨y,C⟩:=tV aj;simp only[ax]at d;obtain⟨_,aJ,L,M,N⟩:=d;rw[f]at M N;obtain⟨cu,fj,bJ,B,R,l0,l1,cz,P,OI,bN⟩:=N (bd ag.1);obtain⟨A,c,xs,O,ao,aW⟩:=S.ok i _ _ f L;rw[O]at R ao;simp only[Value.slice.injEq]at R;obtain⟨rfl,rfl,rfl⟩:=R;have u5:=Ra ao;obtain⟨v0,v1,Q⟩:=anu m;have K:=bd ag.2;subst K;have V:=wT I J;rw[show q-p=((q.toNat-p.toNat:Nat):Int) by omega]at V;refine⟨_,λ w'=>SR y C G P (wT H v) V ⟨v0,v1,by omega⟩ (by omega),?_⟩;simp only[ax];have Y:(p+s).toNat=p.toNat+s.toNat:=by omega
    have lu:(p+r).toNat=p.toNat+r.toNat:=by omega
    refine⟨trivial,aJ,L,by rw[f];exact M,λ _=>⟨A,_,c,(if c-p.toNat=s.toNat then B else B.map (·.add (s.toNat*(E.T.ty t').size))),O,by omega,by omega,by omega,?_,λ e=>?_,λ e=>?_⟩⟩;rw[Y,lu,show p.toNat+r.toNat- (p.toNat+s.toNat)=r.toNat-s.toNat by omega,show c-p.toNat-s.toNat=c- (p.toNat+s.toNat) by omega]
    ·have Au:p=0:=by omega
     have D1:s=0:=by omega
     subst Au;subst D1;rw[OI rfl];split;rfl;cases A<;>simp[Addr.add]
    ·obtain⟨gb,rfl⟩:=H5 ao (by omega);rw[nc (by omega),bN (by omega),f];simp[lR,jU,Y,jP]
   ·exact h.elim
  ·exact h.elim
 ·split at h;rename_i e aj ag;have h:aL.p (.slice none 0 0)=z:=h;subst h;simp only[cd]at ag;obtain⟨y,C⟩:=tV aj;simp only[ax]at d;exact⟨_,λ w'=>aOk y C G d (S3 H ag.1) ((S3 I ag.2).imp (λ h=>⟨h.1,rfl⟩) id),by simp only[ax]⟩;exact h.elim
 ·exact h.elim
end
def vw{cS β:Type}(K:iA cS)(d:List (cS×β))(k:cS):Option β:=@cE cS β K.dec d k
def kr{cS β:Type}(K:iA cS)(d:List (cS×β))(k:cS):Option Nat:=@qk cS β K.dec d k
def vx{cS β:Type}(K:iA cS)(d:List (cS×β))(k:cS)(v:β):List (cS×β):=@gy cS β K.dec d k v
abbrev iA.enc{cS:Type}(K:iA cS):cS->Value:=@mA.enc cS K.dec K.tl
abbrev iA.desc{cS:Type}(K:iA cS):TypeDesc:=@mA.desc cS K.dec K.tl
section
variable{T:bU}{F:Nat->Prop}{w:World}{kt vt:Nat}{K:iA (T.El kt)}
theorem Vb(k:T.El kt):∀ {es:List MapEntry}{d:List (T.El kt×T.El vt)}(i:Nat),ka T F w K es d ->
 (vw K d k=none/\kr K d k=none/\Instr.findNow K.desc (K.enc k) es i=some none)\/(∃p x v,vw K d k=some x/\kr K d k=some p/\Dg T F w vt x v/\Instr.findNow K.desc (K.enc k) es i=some (some (i+p,v)))
 |[],[],i,_=>.inl ⟨rfl,rfl,rfl⟩
 |[],_::_,_,h=>h.elim
 |_::_,[],_,h=>h.elim
 |e::es,p::d,i,h=>by
  obtain⟨j,J,l⟩:=h;have aj:Instr.sameNow K.desc (K.enc k) e.key=some (@decide (p.1=k) (K.dec p.1 k)):=by rw[j];exact @mA.same _ K.dec K.tl k p.1
  by_cases a:p.1=k;right;refine⟨0,p.2,e.val,?_,?_,J,?_⟩;simp only[vw,cE,nf a];simp only[kr,qk,nf a];simp only[Instr.findNow,aj,a,decide_true,j_]
  ·have g:Instr.findNow K.desc (K.enc k) (e::es) i=Instr.findNow K.desc (K.enc k) es (i+1):=by simp only[Instr.findNow,aj,a,decide_false]
   rcases Vb k (i+1) l with⟨c,b,f⟩|⟨q,x,v,c,b,f,m⟩;left;refine⟨?_,?_,by rw[g];exact f⟩;simp only[vw,cE,nc a];exact c;simp only[kr,qk,nc a];simp only[kr]at b;rw[b];rfl;right;refine⟨q+1,x,v,?_,?_,f,?_⟩;simp only[vw,cE,nc a];exact c;simp only[kr,qk,nc a];simp only[kr]at b;rw[b];rfl;rw[g,m,show i+1+q=i+(q+1) by omega]
theorem ka.len:∀ {es:List MapEntry}{d:List (T.El kt×T.El vt)},ka T F w K es d->es.length=d.length
 |[],[],_=>rfl
 |[],_::_,h=>h.elim
 |_::_,[],h=>h.elim
 |_::_,_::_,h=>by simp[ka.len h.2.2]
theorem aa3{P:Program}{es:Array MapEntry}{d:List (T.El kt×T.El vt)}{t:Nat}(k:T.El kt)(c:P.underlying t=some K.desc)(e:ka T F w K es.toList d)(w':World) :
 (vw K d k=none/\kr K d k=none/\(Instr.findKey t (K.enc k) es.toList).run P w'= .ok none w')\/(∃p x v,vw K d k=some x/\kr K d k=some p/\Dg T F w vt x v/\(Instr.findKey t (K.enc k) es.toList).run P w'= .ok (some (p,v)) w'):=by
 rcases Vb k 0 e with⟨a,J,b⟩|⟨p,x,v,a,J,b,f⟩
 ·left;refine⟨a,J,?_⟩;simp only[Instr.findKey,Sem.run_bind,run_underlying c,Result.andThen_ok,b];rfl
 ·right;refine⟨p,x,v,a,J,b,?_⟩;simp only[Instr.findKey,Sem.run_bind,run_underlying c,Result.andThen_ok,f,jO];rfl
end
def NT:Option TypeDesc->TypeDesc->Bool
 |some (.int k),.int k'=>nQ k k'
 |some .string,.string=>true
 |_,_=>false
theorem afk{o:Option TypeDesc}{d:TypeDesc}(h:NT o d=true):o=some d:=by unfold NT at h;split at h;rw[qd h];rfl;cases h
def ady:Value->Bool->Bool
 | .agg _,b=>b
 |_,b=>!b
def IW(P:Program)(t:TypeId):Option Value:=match P.info? t with
 |some i=>i.zero
 |none=>none
theorem aOK{P:Program}{t:TypeId}{z:Value}(h:IW P t=some z):∀w,(zeroValue t).run P w= .ok z w:=by unfold IW at h;split at h;rename_i i a;intro w;simp only[zeroValue,typeInfo,Sem.run_bind];simp[go_sem,a,h];cases h
theorem aqy{z:Value}{b:Bool}(h:ady z b=true):z=Bh b z.cells.toList:=by
 unfold ady at h;split at h;rename_i cs;subst h;obtain⟨vs⟩:=cs;rfl
 ·rename_i a;have ag:b=false:=by simpa using h
  subst ag;cases z<;>first |rfl |exact(a _ rfl).elim
def y6(E:Env)(vt a:Nat):Option (E.T.El vt):=match IW E.P a with
 |some z=>match ady z (E.T.e vt).agg with
  |true=>(E.T.e vt).hX (z.cells.toList.map .p)
  |false=>none
 |none=>none
def mapOf(P:Program)(t:TypeId):Option (Nat×Nat):=match P.underlying t with
 |some (.map k e)=>some (k,e)
 |_=>none
theorem YD{P:Program}{t k e:Nat}(h:mapOf P t=some (k,e)):P.underlying t=some (.map k e):=by unfold mapOf at h;split at h;rename_i a;simp only[aF,cB]at h;obtain⟨rfl,rfl⟩:=h;exact a;cases h
def PX{El:Nat->Type}(bl:List (aH El)):aL El->Option (Σ a:Nat×Nat,List (El a.1×El a.2))
 | .m i=>match nth bl i with
   |some (.m kt vt d)=>some ⟨(kt,vt),d⟩
   |_=>none
 | .n kt vt d=>some ⟨(kt,vt),d⟩
 |_=>none
def Hv(E:Env)(ok:Bool){kt vt:Nat}(K:iA (E.T.El kt))(d:List (E.T.El kt×E.T.El vt))(k:E.T.El kt)(z:E.T.El vt):aL E.T.El:=match ok with
 |true=>.u [E.T.val vt ((vw K d k).getD z),.p (.bool (vw K d k).isSome)]
 |false=>E.T.val vt ((vw K d k).getD z)
def UZ(E:Env)(bl:List (aH E.T.El))(t:Nat)(ok:Bool)(u v:aL E.T.El):D (aL E.T.El):=match mapOf E.P t,PX bl u with
 |some (k,e),some ⟨(kt,vt),d⟩=>match(E.T.e kt).key with
  |some K=>match NT (E.P.underlying k) K.desc,(E.T.e kt).hX (cellsOf v),y6 E vt e,(match l_ v with|true=>(E.T.e kt).agg |false=>!(E.T.e kt).agg)with
   |true,some key,some z,true=>.ok (Hv E ok K d key z)
   |_,_,_,_=>.no
  |none=>.no
 |_,_=>.no
section
variable{E:Env}{W w:World}{M0:List Nat}{X:Nat->Prop}{bl:List (aH E.T.El)}{ρ:List Value}{a:Act}
def EG{El:Nat->Type}:aL El->Option Nat
 | .m i=>some i
 |_=>none
theorem aj0(j:Mem E.T W M0 X bl ρ w){u:aL E.T.El}{v:Value}{kt vt:Nat}{d:List (E.T.El kt×E.T.El vt)}(h:PX bl u=some ⟨(kt,vt),d⟩)(b:ax E.T (bj X bl ρ w) w ρ bl u v) :
 ∃r,v= .map (some r)/\zk E.T (bj X bl ρ w) w kt vt r d/\Ng X bl ρ w r (EG u):=by
 cases u<;>simp only[PX,reduceCtorEq]at h
 ·rename_i i;split at h;rename_i e f d' hi;simp only[aF,Sigma.mk.injEq,cB]at h;obtain⟨⟨rfl,rfl⟩,h⟩:=h;have h:=eq_of_heq h;subst h;rw[dj]at hi;simp only[ax]at b;obtain⟨r,c,rfl⟩:=b;obtain⟨k,g,ao⟩:=j.ok i _ _ hi c;simp only[Value.map.injEq,aF]at g;subst g;exact⟨r,rfl,ao,_,_,hi,c,by simp[bF,ag]⟩;cases h
 ·rename_i e f d';simp only[aF,Sigma.mk.injEq,cB]at h;obtain⟨⟨rfl,rfl⟩,h⟩:=h;have h:=eq_of_heq h;subst h;simp only[ax]at b;obtain⟨r,rfl,c,J⟩:=b;exact⟨r,rfl,J,c⟩
theorem T0{F:Nat->Prop}{u:aL E.T.El}{v:Value}{b:Bool}(y:ax E.T F w ρ bl u v)(h:(match l_ u with|true=>b |false=>!b)=true):v=Bh b v.cells.toList:=by
 cases ap:l_ u with
 |true=>rw[ap]at h;have h:b=true:=h;subst h;exact KX ap y
 |false=>
  rw[ap]at h;have h:b=false:=by simpa using h
  subst h;have hc:=pV y;have:v.cells.toList=[v]:=by
   cases u with
   |p u=>simp only[ax]at y;subst y;cases v<;>first |rfl |(simp[l_]at ap)
   |a l=>simp[l_]at ap
   |b i o=>simp only[ax]at y;obtain⟨g,_,rfl⟩:=y;rfl
   |x t d o=>simp only[ax]at y;obtain⟨_,_,_,rfl,_⟩:=y;rfl
   |s t l=>simp only[ax]at y;obtain⟨A,c,e⟩:=nb _ y;subst e;rfl
   |q t l=>simp only[ax]at y;obtain⟨_,A,rfl⟩:=y;rfl
   |r i g=>simp only[ax]at y;exact NM y.1
   |v i g lo hi=>simp only[ax]at y;exact NM y.1
   |e i g k t j d o=>simp only[ax]at y;exact NK y.1
   |w i g o=>simp only[ax]at y;exact NK y.1
   |m i=>simp only[ax]at y;obtain⟨g,_,rfl⟩:=y;rfl
   |n _ _ _=>simp only[ax]at y;obtain⟨g,rfl,_⟩:=y;rfl
   |f fn cs=>simp only[ax]at y;obtain⟨g,rfl,_⟩:=y;rfl
   |h fn us=>simp only[ax]at y;obtain⟨g,rfl,_⟩:=y;rfl
   |u l=>simp only[ax]at y;obtain⟨g,rfl,_⟩:=y;rfl
   |i t z=>simp only[ax]at y;obtain⟨g,rfl,_⟩:=y;rfl
   |pp i g sz eg=>simp only[ax]at y;obtain⟨_,_,rfl,_⟩:=y;rfl
   |Bp i g sz q=>simp only[ax]at y;obtain⟨_,_,_,rfl,_⟩:=y;rfl
  rw[this];rfl
theorem ant(a8:dl E){F:Nat->Prop}{vt:Nat}{x:E.T.El vt}{v:Value}(h:Dg E.T F w vt x v):ax E.T F w ρ bl (E.T.val vt x) v:=by obtain⟨xs,b,rfl⟩:=h;exact a8.tb.val b
theorem val_zero(a8:dl E){F:Nat->Prop}{vt b:Nat}{z:E.T.El vt}(h:y6 E vt b=some z):∃e4,(∀w,(zeroValue b).run E.P w= .ok e4 w)/\ax E.T F w ρ bl (E.T.val vt z) e4:=by unfold y6 at h;split at h;rename_i e4 c;split at h;rename_i J;refine⟨e4,aOK c,?_⟩;have:=a8.tb.hX _ _ _ h F w ρ bl _ (tR e4.cells.toList);rw[aqy J];have d:=a8.tb.val (ρ:=ρ) (bl:=bl) this;exact d;cases h;cases h
theorem ax6(a8:dl E)(L:Mem E.T W M0 X bl ρ w){o:Oper}{t:Nat}{ok:Bool}{x y:Operand}{u v z:aL E.T.El}(h:(UZ E bl t ok u v).out z)(A:o.op= .lookup t x y ok)
 (M:ax E.T (bj X bl ρ w) w ρ bl u (a.eval x))(hy:ax E.T (bj X bl ρ w) w ρ bl v (a.eval y)) :
 ∃r q,ax E.T (bj X bl ρ w) w ρ bl z r/\Ng X bl ρ w q (EG u)/\∀w',w'.heap[q]? =w.heap[q]? ->bh E.P o a w' r w':=by
 unfold UZ at h
 split at h
 ·rename_i k e kt vt d N J;split at h
  ·rename_i K B;split at h
   ·rename_i key z0 aJ O P Q;have h:Hv E ok K d key z0=z:=h;subst h;obtain⟨q,C,⟨R,D,es,cl,S,m,m3⟩,G⟩:=aj0 L J M;rw[B]at D;cases D;have Ky:a.eval y=K.enc key:=by have U:=a8.tb.hX _ _ _ O _ _ _ _ _ (pV hy);have ao:=a8.tb.key _ _ B _ _ _ _ U;exact(T0 hy Q).trans ao
    have V:=YD N;have f:=afk aJ;obtain⟨e4,Y,g⟩:=val_zero a8 (w:=w) (F:=bj X bl ρ w) (ρ:=ρ) (bl:=bl) P
    have i:∀w',w'.heap[q]? =w.heap[q]? ->(Instr.lookup t (.map (some q)) (K.enc key) ok).run E.P w'=(do
     let(v,n) <-match<-Instr.findKey k (K.enc key) es.toList with
      |some (_,v)=>pure (v,true)
      |none=>pure (<-zeroValue e,false)
     pure (if ok then Value.tuple #[v,.bool n]else v):Sem Value).run E.P w':=λ w' j=>by
     simp only[Instr.lookup,Sem.run_bind,Sem.run_pure,run_underlying V,Result.andThen_ok,MapKept.run_getObj_map (j.trans S),@mA.check _ K.dec K.tl E.P w' es.isEmpty k key f]
     rfl
    rcases aa3 (vt:=vt) key f m w with⟨b,Z,_⟩|⟨p,s,l,b,Z,H,f6⟩
    ·refine⟨if ok then .tuple #[e4,.bool false]else e4,q,?_,G,λ w' j=>?_⟩
     ·cases ok with
      |true=>simp only[Hv,b,jN,l7,ax,if_true];exact⟨[e4,.bool false],rfl,by simp only[a_];exact⟨_,_,rfl,g,_,_,rfl,by simp only[ax],rfl⟩⟩
      |false=>simp only[Hv,b,jN];exact g
     ·simp only[bh,execOp,A,C,Ky,Sem.run_bind,i w' j];rcases aa3 (vt:=vt) key f m w' with⟨_,_,f4⟩|⟨p,s,l,c,_⟩;simp only[f4,Result.andThen_ok,Sem.run_bind,Y,Sem.run_pure];rw[b]at c;cases c
    ·refine⟨if ok then .tuple #[l,.bool true]else l,q,?_,G,λ w' j=>?_⟩
     ·cases ok with
      |true=>simp only[Hv,b,iX,Option.isSome_some,ax,if_true];exact⟨[l,.bool true],rfl,by simp only[a_];exact⟨_,_,rfl,ant a8 H,_,_,rfl,by simp only[ax],rfl⟩⟩
      |false=>simp only[Hv,b,iX];exact ant a8 H
     ·simp only[bh,execOp,A,C,Ky,Sem.run_bind,i w' j]
      have f5:∀w',(Instr.findKey k (K.enc key) es.toList).run E.P w'= .ok (some (p,l)) w':=by
       intro w';rcases Vb (vt:=vt) key 0 m with⟨c,_⟩|⟨vI,e2,fw,c,g2,g3,I⟩;rw[b]at c;cases c
       ·have:(Instr.findKey k (K.enc key) es.toList).run E.P w= .ok (some (vI,fw)) w:=by
         simp only[Instr.findKey,Sem.run_bind,run_underlying f,Result.andThen_ok,I,jO];rfl
        rw[f6]at this;simp only[Result.ok.injEq,aF,cB,and_true]at this;obtain⟨rfl,rfl⟩:=this;simp only[Instr.findKey,Sem.run_bind,run_underlying f,Result.andThen_ok,I,jO];rfl
      simp only[f5,Result.andThen_ok,Sem.run_bind,Sem.run_pure]
   ·exact h.elim
  ·exact h.elim
 ·exact h.elim
def UY(E:Env)(bl:List (aH E.T.El))(t:Nat)(u:aL E.T.El):D (aL E.T.El):=match mapOf E.P t,PX bl u with
 |some _,some ⟨_,d⟩=>.ok (.p (.int .i64 (d.length:Int)))
 |_,_=>.no
theorem ax3(b:Mem E.T W M0 X bl ρ w){o:Oper}{t:Nat}{x:Operand}{u z:aL E.T.El}(h:(UY E bl t u).out z)(c:o.op= .call { callee:=.builtin .len,args:=#[x],argTypes:=#[t] })
 (e:ax E.T (bj X bl ρ w) w ρ bl u (a.eval x)):∃r q,ax E.T (bj X bl ρ w) w ρ bl z r/\Ng X bl ρ w q (EG u)/\∀w',w'.heap[q]? =w.heap[q]? ->bh E.P o a w' r w':=by
 unfold UY at h
 split at h
 ·rename_i p s d f J;have h:aL.p (.int .i64 (d.length:Int))=z:=h;subst h;obtain⟨q,g,⟨K,v,es,cl,i,j,y⟩,k⟩:=aj0 b J e;have l:=YD f;have m:es.size=d.length:=by have:=j.len;simpa using this
  refine⟨.int .i64 (d.length:Int),q,by simp only[ax],k,λ w' n=>?_⟩;simp only[bh,execOp,c,resolve,invoke,hz,ez,ig,g];simp[go_sem,Builtin.len_,run_underlying l,goInt,MapKept.run_getObj_map (n.trans i),m]
 ·exact h.elim
def U2(E:Env)(t j:Nat)(u:aL E.T.El):D (aL E.T.El):=match l_ u,Oh E.P t j with
 |true,some (off,oY,_)=>match lay E.P oY with
  |some b=>.of (nA (cellsOf u) off b)
  |none=>.no
 |_,_=>.no
theorem ax9{F:Nat->Prop}{o:Oper}{t j:Nat}{x:Operand}{u z:aL E.T.El}(h:(U2 E t j u).out z)(d:o.op= .field t x j)(e:ax E.T F w ρ bl u (a.eval x)):∃r,lN E.P o a r/\ax E.T F w ρ bl z r:=by
 unfold U2 at h;split at h
 ·rename_i off oY sz m ad;split at h
  ·rename_i p q;have h:=D.qo h;obtain⟨cm,f,g,i,s,y,qc,G⟩:=agV ad;have k:=KX m e;have hc:=pV e;obtain⟨b,n⟩:=p;have c:=K6 q;subst y;subst s;cases b with
   |false=>
    simp only[nA]at h;rw[dj]at h;obtain⟨v,A,J⟩:=hc.at_ h;have B:(a.eval x).cells[f.offset]? =some v:=by rw[<-hR];exact A
    refine⟨v,λ w'=>?_,J⟩;simp only[bh,execOp,d,Instr.field,Sem.run_bind,run_underlying g,Result.andThen_ok,i];rw[k];simp[asAgg,part,c.1,B]
   |true=>simp only[nA]at h;split at h;rename_i ag;simp only[aF]at h;subst h;have C:=cJ ag;have l:=hc.len;refine⟨.agg ⟨((a.eval x).cells.toList.drop f.offset).take n⟩,λ w'=>?_,?_⟩;simp only[bh,execOp,d,Instr.field,Sem.run_bind,run_underlying g,Result.andThen_ok,i];rw[k];simp only[asAgg,part,Sem.run_bind,Sem.run_pure,c.1,c.2,Result.andThen_ok,if_true];congr 2;apply congrArg Value.agg;rw[<-Array.toList_inj];simp[List.extract_eq_take_drop,Nat.add_sub_cancel_left,Value.cells];simp only[ax];exact⟨_,rfl,a_.take n (a_.drop _ hc)⟩;cases h
  ·exact h.elim
 ·exact h.elim
end
structure cD (El:Nat->Type) where
 fr:List (Nat×aL El)
 gs:List (Nat×Nat×Bool×aL El)
 ew:List (Nat×Bool)
def Ht{El:Nat->Type}:List (Nat×Nat×Bool×aL El)->List (Nat×Bool)->Nat->Option (aL El)
 |[],_,_=>none
 |p::r,cur,t=>match cj p.1 t&&DJ cur p.2.1 p.2.2.1 with
  |true=>some p.2.2.2
  |false=>Ht r cur t
def Bt{El:Nat->Type}:List (Nat×Nat×Bool×aL El)->Nat->List (Nat×Nat×Bool×aL El)
 |[],_=>[]
 |p::r,d=>match cj p.1 d||cj p.2.1 d with
  |true=>Bt r d
  |false=>p::Bt r d
structure pK (T:bU) (F:Nat->Prop) (w:World) (ρ:List Value) (bl:List (aH T.El)) (n:cG) (f:cD T.El) (a:Act):Prop where
 eu:sw T F w ρ bl n f.fr a
 gs:∀p∈f.gs,a.tmps.getD p.2.1 undef= .bool p.2.2.1 ->ax T F w ρ bl p.2.2.2 (a.tmps.getD p.1 undef)
 ew:∀p∈f.ew,a.tmps.getD p.1 undef= .bool p.2
section
variable{T:bU}{F F':Nat->Prop}{w w':World}{ρ ρ':List Value}{bl bl':List (aH T.El)}{n:cG}{f:cD T.El}{a:Act}
theorem pK.later(b:∀k,F k->F' k/\w'.heap[k]? =w.heap[k]?)(c:nu T ρ ρ' bl bl')(h:pK T F w ρ bl n f a):pK T F' w' ρ' bl' n f a:=⟨h.eu.later b c,λ p d ag=>(h.gs p d ag).later b c,h.ew⟩
theorem Yy(h:pK T F w ρ bl n f a){cur:List (Nat×Bool)}(hc:kf a cur):∀ {gs:List (Nat×Nat×Bool×aL T.El)}{t:Nat}{y:aL T.El},(∀p∈gs,p∈f.gs)->Ht gs cur t=some y->ax T F w ρ bl y (a.tmps.getD t undef)
 |[],_,_,_,J=>by simp[Ht]at J
 |p::r,t,y,b,J=>by simp only[Ht]at J;split at J;rename_i ag;simp only[cd,aF]at ag J;subst J;have:=h.gs p (b p (by simp)) (ahM hc ag.2);rwa [bd ag.1]at this;exact Yy h hc (λ q c=>b q (by simp[c])) J
theorem aaY{d:Nat}{p:Nat×Nat×Bool×aL T.El}:∀ {gs:List (Nat×Nat×Bool×aL T.El)},p∈Bt gs d->p∈gs/\p.1≠d/\p.2.1≠d
 |[],h=>by simp[Bt]at h
 |q::r,h=>by simp only[Bt]at h;split at h;obtain⟨b,J⟩:=aaY h;exact⟨by simp[b],J⟩;rename_i ag;simp only[ik]at ag;rcases cH.1 h with rfl |h;exact⟨by simp,λ e=>by rw[e]at ag;simp at ag,λ e=>by rw[e]at ag;simp at ag⟩;obtain⟨b,J⟩:=aaY h;exact⟨by simp[b],J⟩
theorem aaX{α:Type}{d:Nat}{p:Nat×α}:∀ {l:List (Nat×α)},p∈pr l d->p∈l/\p.1≠d
 |[],h=>by simp[pr]at h
 |q::r,h=>by simp only[pr]at h;split at h;obtain⟨b,J⟩:=aaX h;exact⟨by simp[b],J⟩;rename_i ag;rcases cH.1 h with rfl |h;exact⟨by simp,λ e=>by rw[e]at ag;simp at ag⟩;obtain⟨b,J⟩:=aaX h;exact⟨by simp[b],J⟩
def cD.put(f:cD T.El)(d:Nat)(y:aL T.El):cD T.El:=⟨(d,y)::pr f.fr d,Bt f.gs d,pr f.ew d⟩
def cD.rV(f:cD T.El)(d j:Nat)(b:Bool)(y:aL T.El):cD T.El:=⟨pr f.fr d,(d,j,b,y)::Bt f.gs d,pr f.ew d⟩
theorem pK.aln{d:Nat}{v:Value}(h:pK T F w ρ bl n f a)(aJ:fg d n.n=true):(∀p∈Bt f.gs d,(a.put (some d) v).tmps.getD p.2.1 undef= .bool p.2.2.1 ->ax T F w ρ bl p.2.2.2 ((a.put (some d) v).tmps.getD p.1 undef))/\∀p∈pr f.ew d,(a.put (some d) v).tmps.getD p.1 undef= .bool p.2:=by
 have b:d<a.tmps.size:=by rw[h.eu.size];exact cJ aJ
 refine⟨λ p c ag=>?_,λ p c=>?_⟩;obtain⟨e,J,g⟩:=aaY c;rw[Ab b,nc (Ne.symm g)]at ag;rw[Ab b,nc (Ne.symm J)];exact h.gs p e ag;obtain⟨e,J⟩:=aaX c;rw[Ab b,nc (Ne.symm J)];exact h.ew p e
theorem pK.put{d:Nat}{y:aL T.El}{v:Value}(h:pK T F w ρ bl n f a)(aJ:fg d n.n=true)(c:ax T F w ρ bl y v):pK T F w ρ bl n (f.put d y) (a.put (some d) v):=by obtain⟨e,J⟩:=h.aln (v:=v) aJ;refine⟨⟨(h.eu.put aJ c).size,(h.eu.put aJ c).defers,λ t z b=>(h.eu.put aJ c).get t z ?_⟩,e,J⟩;simp only[cD.put,cI]at b⊢;split at b;exact b;exact(PT b).2
theorem pK.rV{d j:Nat}{b:Bool}{y:aL T.El}{v:Value}(h:pK T F w ρ bl n f a)(aJ:fg d n.n=true)(i:cj j d=false)(k:a.tmps.getD j undef= .bool b->ax T F w ρ bl y v):pK T F w ρ bl n (f.rV d j b y) (a.put (some d) v):=by
 obtain⟨l,J⟩:=h.aln (v:=v) aJ;have g:d<a.tmps.size:=by rw[h.eu.size];exact cJ aJ
 have c:d≠j:=λ e=>by subst e;simp at i
 refine⟨h.eu.Q' aJ,λ p aD ag=>?_,J⟩;rcases cH.1 aD with rfl |aD;simp only at ag⊢;rw[Ab g,nc c]at ag;rw[Ab g,nf rfl];exact k ag;exact l p aD ag
end
def od(E:Env)(bl:List (aH E.T.El))(f:cD E.T.El)(cur:List (Nat×Bool)):Operand->Option (aL E.T.El)
 | .const v=>some (.p v)
 | .global g=>cI E.cY g
 | .func g=>some (.f (.func g) [])
 | .tmp t=>match cI f.fr t with
   |some y=>some (nm bl y)
   |none=>match Ht f.gs cur t with
    |some y=>some (nm bl y)
    |none=>match Ht f.gs f.ew t with
     |some y=>some (nm bl y)
     |none=>none
def qm(E:Env)(bl:List (aH E.T.El))(f:cD E.T.El)(cur:List (Nat×Bool)):List Operand->Option (List (aL E.T.El))
 |[]=>some []
 |x::r=>match od E bl f cur x,qm E bl f cur r with
  |some y,some ys=>some (y::ys)
  |_,_=>none
def Lt(E:Env)(bl:List (aH E.T.El))(f:cD E.T.El)(cur:List (Nat×Bool)):Option Operand->Option (Option (aL E.T.El))
 |none=>some none
 |some x=>match od E bl f cur x with
  |some y=>some (some y)
  |none=>none
def HF(E:Env)(bl:List (aH E.T.El))(f:cD E.T.El)(cur:List (Nat×Bool)):List (Nat×Operand)->Option (List (Nat×aL E.T.El))
 |[]=>some []
 |(i,x)::r=>match od E bl f cur x,HF E bl f cur r with
  |some y,some ys=>some ((i,y)::ys)
  |_,_=>none
structure R (E:Env) (W:World) (M0:List Nat) (X:Nat->Prop) (n:cG) (f:cD E.T.El) (bl:List (aH E.T.El)) (ρ:List Value) (a:Act) (w:World):Prop where
 mem:Mem E.T W M0 X bl ρ w
 ea:pK E.T (bj X bl ρ w) w ρ bl n f a
 cY:∀g y,cI E.cY g=some y->ax E.T (bj X bl ρ w) w ρ bl y (.pointer (some ⟨g,0,none⟩))
section
variable{E:Env}{W w w':World}{M0:List Nat}{X:Nat->Prop}{n:cG}{f:cD E.T.El}{bl bl':List (aH E.T.El)}{ρ ρ':List Value}{a:Act}{cur:List (Nat×Bool)}
theorem R.to(h:R E W M0 X n f bl ρ a w)(b:To X bl bl' ρ ρ' w w')(c:Mem E.T W M0 X bl' ρ' w'):R E W M0 X n f bl' ρ' a w':=⟨c,h.ea.later b.F b.L,λ g y d=>b.v (h.cY g y d)⟩
theorem R.put{d:Nat}{y:aL E.T.El}{v:Value}(h:R E W M0 X n f bl ρ a w)(aJ:fg d n.n=true)(b:ax E.T (bj X bl ρ w) w ρ bl y v):R E W M0 X n (f.put d y) bl ρ (a.put (some d) v) w:=⟨h.mem,h.ea.put aJ b,h.cY⟩
theorem aff{a:Act}:∀ {l:List (Nat×Bool)},(∀p∈l,a.tmps.getD p.1 undef= .bool p.2)->kf a l
 |[],_=>trivial
 |p::r,h=>⟨h p (by simp),aff λ q b=>h q (by simp[b])⟩
theorem dA(h:R E W M0 X n f bl ρ a w)(hc:kf a cur){x:Operand}{y:aL E.T.El}(b:od E bl f cur x=some y):ax E.T (bj X bl ρ w) w ρ bl y (a.eval x):=by
 cases x with
 |const v=>simp only[od,aF]at b;subst b;simp only[ax];rfl
 |global g=>exact h.cY g y b
 |func g=>simp only[od,aF]at b;subst b;simp only[ax];exact⟨[],rfl,by simp[a_]⟩
 |tmp t=>simp only[od]at b;split at b;rename_i z c;simp only[aF]at b;subst b;exact Qp h.mem (h.ea.eu.get t z c);split at b;rename_i z c;simp only[aF]at b;subst b;exact Qp h.mem (Yy h.ea hc (λ p d=>d) c);split at b;rename_i z c;simp only[aF]at b;subst b;exact Qp h.mem (Yy h.ea (aff h.ea.ew) (λ p d=>d) c);cases b
theorem Bg(h:R E W M0 X n f bl ρ a w)(hc:kf a cur):∀ {xs:List Operand}{ys:List (aL E.T.El)},qm E bl f cur xs=some ys->a_ E.T (bj X bl ρ w) w ρ bl ys (xs.map a.eval)
 |[],ys,b=>by simp only[qm,aF]at b;subst b;simp[a_]
 |x::r,ys,b=>by simp only[qm]at b;split at b;rename_i y d c J;simp only[aF]at b;subst b;simp only[ez,a_];exact⟨_,_,rfl,dA h hc c,Bg h hc J⟩;cases b
theorem akC(h:R E W M0 X n f bl ρ a w)(hc:kf a cur){x:Option Operand}{y:Option (aL E.T.El)}(b:Lt E bl f cur x=some y):Df E (bj X bl ρ w) w ρ bl a x y:=by
 cases x with
 |none=>simp only[Lt,aF]at b;subst b;trivial
 |some x=>simp only[Lt]at b;split at b;rename_i z c;simp only[aF]at b;subst b;exact dA h hc c;cases b
theorem Za(h:R E W M0 X n f bl ρ a w)(hc:kf a cur):∀ {xs:List (Nat×Operand)}{ys:List (Nat×aL E.T.El)},HF E bl f cur xs=some ys->sC E.T (bj X bl ρ w) w ρ bl ys (xs.map λ p=>(p.1,a.eval p.2))
 |[],ys,b=>by simp only[HF,aF]at b;subst b;simp[sC]
 |(i,x)::r,ys,b=>by simp only[HF]at b;split at b;rename_i y d c J;simp only[aF]at b;subst b;simp only[ez,sC];exact⟨_,_,rfl,dA h hc c,Za h hc J⟩;cases b
end
def U3(E:Env)(bl:List (aH E.T.El))(f:cD E.T.El)(cur:List (Nat×Bool))(c x y:Operand):D (aL E.T.El):=
 match od E bl f cur c with
 |some (.p (.bool b))=>match E.cl,c with
  |true,_=>match b with
   |true=>.of (od E bl f cur x)
   |false=>.of (od E bl f cur y)
  |false,.tmp a=>match cI f.ew a with
   |some true=>.of (od E bl f cur x)
   |some false=>.of (od E bl f cur y)
   |none=>match od E bl f ((a,true)::cur) x,od E bl f ((a,false)::cur) y with
    |some u,some v=>Zp E x y b u v
    |_,_=>.no
  |false,_=>.no
 |_=>.no
def abS:IntKind->Int->Option Int
 | .i64,m=>some (aw m)
 | .u64,m=>some (Io m)
 | .u8,m=>some ((kN m).toNat:Int)
 |_,_=>none
def US(P:Program)(s d:Nat):Value->Option Value
 | .int k m=>match ly (P.underlying s),ly (P.underlying d)with
   |some (.i j),some (.i k')=>match nQ j k,abS k' m with
    |true,some r=>some (.int k' r)
    |_,_=>none
   |_,_=>none
 |_=>none
def Vn(E:Env)(bl:List (aH E.T.El))(t:Nat)(u:aL E.T.El)(hi a:Option (aL E.T.El)):D (aL E.T.El):=match pu E.P t,IV hi&&IV a with
 |some (e,n),true=>match cj n (E.T.ty e).size with
  |true=>match u with
   | .s _ _=>.ok (.q e [])
   | .q _ _=>.ok (.q e [])
   | .r i g=>match cj g (u1 bl i)with
     |true=>.ok (.q e [])
     |false=>.no
   | .p (.slice none 0 0)=>.ok (.p (.slice none 0 0))
   | .p (.slice (some _) 0 _)=>.ok (.q e [])
   |_=>.no
  |false=>.no
 |_,_=>.no
def Y6{El:Nat->Type}(bl:List (aH El)):aL El->Bool
 | .s _ (_::_)=>true
 | .q _ (_::_)=>true
 | .p (.slice (some _) _ _)=>true
 | .r i g=>match nth bl i with
   |some (.r _ a _ (_::_))=>cj g a
   |_=>false
 |_=>false
def Qo{El:Nat->Type}:aL El->Bool
 | .p (.slice none _ _)=>true
 |_=>false
def U1(P:Program){El:Nat->Type}(bl:List (aH El))(t:Nat)(op:BinOp)(u v:aL El):Option Bool:=match ly (P.underlying t),Qo v,EP op true with
 |some .cx,true,some b=>match Qo u with
  |true=>some b
  |false=>match Y6 bl u with
   |true=>some (!b)
   |false=>none
 |_,_,_=>none
def GC(E:Env)(bl:List (aH E.T.El))(f:cD E.T.El)(cur:List (Nat×Bool)):Op->D (aL E.T.El)
 | .move x=>.of (od E bl f cur x)
 | .assign x=>.of (od E bl f cur x)
 | .pick c x y=>U3 E bl f cur c x y
 | .binOp op t x y _=>match od E bl f cur x,od E bl f cur y with
   |some u,some v=>match U1 E.P bl t op u v with
    |some b=>.ok (.p (.bool b))
    |none=>UN E t op (KY y) u v
   |_,_=>.no
 | .unOp .not _ x=>match od E bl f cur x with
   |some (.p (.bool p))=>.ok (.p (.bool (!p)))
   |_=>.no
 | .unOp .neg _ x=>match od E bl f cur x with
   |some (.p (.int .i64 m))=>.ok (.p (.int .i64 (aw (0-m))))
   |_=>.no
 | .convert s d x=>match od E bl f cur x with
   |some (.p u)=>match US E.P s d u with
    |some r=>.ok (.p r)
    |none=>.no
   |_=>.no
 | .load t x=>match od E bl f cur x with
   |some p=>GB E bl t p
   |none=>.no
 | .fieldAddr s x j=>match od E bl f cur x,Oh E.P s j with
   |some p,some (off,_,_)=>match QJ (u1 bl) p with
    |true=>.of (Zu p off)
    |false=>.no
   |_,_=>.no
 | .nilCheck x=>match od E bl f cur x with
   |some p=>match Pw p with
    |true=>.ok p
    |false=>.no
   |none=>.no
 | .extract x i=>match od E bl f cur x with
   |some (.u l)=>.of (nth l i)
   |_=>.no
 | .makeFunc fn ⟨[]⟩ ⟨ys⟩=>match qm E bl f cur ys with
   |some us=>.ok (.f fn us)
   |none=>.no
 | .makeFunc fn ⟨xs⟩ ⟨[]⟩=>match qm E bl f cur xs with
   |some us=>.ok (.h fn us)
   |none=>.no
 | .makeInterface t x=>match od E bl f cur x,E.P.concrete t with
   |some y,true=>.ok (.i t y)
   |_,_=>.no
 | .indexAddr t x y=>match od E bl f cur x,od E bl f cur y with
   |some u,some v=>UT E bl t u v
   |_,_=>.no
 | .index t x y=>match od E bl f cur x,od E bl f cur y,ly (E.P.underlying t)with
   |some (.p (.string ⟨⟨p⟩⟩)),some (.p (.int .i64 j)),some .s=>.op (idx p j) λ b=>.ok (.p (.int .u8 (b.toNat:Int)))
   |_,_,_=>.no
 | .slice t x lo hi none=>match od E bl f cur x,Lt E bl f cur lo,Lt E bl f cur hi with
   |some u,some a,some b=>UR E bl t u a b
   |_,_,_=>.no
 | .slice t x none (some hi) (some e)=>match od E bl f cur x,od E bl f cur hi,od E bl f cur e with
   |some u,some a,some b=>Vn E bl t u (some a) (some b)
   |_,_,_=>.no
 | .lookup t x y ok=>match od E bl f cur x,od E bl f cur y with
   |some u,some v=>UZ E bl t ok u v
   |_,_=>.no
 | .field t x j=>match od E bl f cur x with
   |some u=>U2 E t j u
   |none=>.no
 | .build t ⟨ps⟩=>match HF E bl f cur ps with
   |some ys=>UO E t ys
   |none=>.no
 | .call ⟨.builtin .len,⟨[x]⟩,⟨[t]⟩⟩=>match od E bl f cur x with
   |some u=>match mapOf E.P t with
    |some _=>UY E bl t u
    |none=>UX E bl t u
   |none=>.no
 | .call ⟨.builtin .cap,⟨[x]⟩,⟨[t]⟩⟩=>match pu E.P t,od E bl f cur x with
   |some _,some (.p (.slice _ _ c))=>.ok (.p (.int .i64 (c:Int)))
   |_,_=>.no
 |_=>.no
def rK(E:Env)(bl:List (aH E.T.El))(f:cD E.T.El)(cur:List (Nat×Bool)):Op->Option (Option Nat)
 | .load _ x=>match od E bl f cur x with
   |some p=>some (Ys p)
   |none=>none
 | .lookup _ x _ _=>match od E bl f cur x with
   |some u=>some (EG u)
   |none=>none
 | .call ⟨.builtin .len,⟨[x]⟩,⟨[t]⟩⟩=>match mapOf E.P t,od E bl f cur x with
   |some _,some u=>some (EG u)
   |_,_=>none
 |_=>none
def zG(P:Program)(o:Oper)(a:Act)(X:Nat->Prop){El:Nat->Type}(bl:List (aH El))(ρ:List Value)(w:World)(r:Value):Option (Option Nat)->Prop
 |none=>lN P o a r
 |some i=>∃(q:Nat)(S:World->Prop),(match i with
  |none=>bj X bl ρ w q
  |some i=>∃B h,bl[i]? =some B/\ρ[i]? =some h/\q∈bF B h)/\S w/\(∀w',w'.heap[q]? =w.heap[q]? ->S w')/\∀w',S w'->bh P o a w' r w'
theorem zG.now{P:Program}{o:Oper}{a:Act}{X:Nat->Prop}{El:Nat->Type}{bl:List (aH El)}{ρ:List Value}{w:World}{r:Value}:∀ {i:Option (Option Nat)},zG P o a X bl ρ w r i->bh P o a w r w
 |none,h=>h w
 |some _,⟨_,_,_,b,_,J⟩=>J w b
theorem pc{α:Type}{t:Nat}{y:α}:∀ {l:List (Nat×α)},cI l t=some y->(t,y)∈l
 |[],h=>by simp[cI]at h
 |p::r,h=>by simp only[cI]at h;split at h;rename_i ag;simp only[aF]at h;subst h;rw[<-bd ag];simp;exact d_ _ (pc h)
section
variable{E:Env}{W w w':World}{M0:List Nat}{X:Nat->Prop}{n:cG}{f:cD E.T.El}{bl:List (aH E.T.El)}{ρ:List Value}{a:Act}{cur:List (Nat×Bool)}
theorem aqd{P:Program}{o:Oper}{A:Option Addr}{m c sz t e:Nat}{x hi b:Operand}(d:P.underlying t=some (.slice e))(aj:∀w,(Go.sizeOf e).run P w= .ok sz w)(g:o.op= .slice t x none (some hi) (some b))(h:a.eval x= .slice A m c)(i:a.eval hi= .int .i64 0)(J:a.eval b= .int .i64 0)(w:World):bh P o a w (.slice A 0 0) w:=by have k:=aJA (P:=P) (w:=w) (A:=A) (m:=m) (c:=c) (j:=0) d aj ⟨k7 _,by omega⟩;simp only[bh,execOp,g,h,Instr.sliceAt,Sem.run_bind,run_underlying d,Result.andThen_ok,je,fY,i,J,k];rfl
theorem aGY{F:Nat->Prop}{t:Nat}(A:Option Addr):ax E.T F w ρ bl (.q t []) (.slice A 0 0):=by simp only[ax];exact⟨⟨A,0,rfl,cP _,gY _,λ _=>rfl,λ h=>absurd rfl h⟩,A,rfl⟩
theorem abg{v:Value}(h:lv v):∃A m c,v= .slice A m c:=by cases v<;>simp[lv]at h;exact⟨_,_,_,rfl⟩
theorem ayP(B:Mem E.T W M0 X bl ρ w){o:Oper}{t:Nat}{x hi g:Operand}{u z i j:aL E.T.El}(h:(Vn E bl t u (some i) (some j)).out z)(l:o.op= .slice t x none (some hi) (some g))
 (b:ax E.T (bj X bl ρ w) w ρ bl u (a.eval x))(y:ax E.T (bj X bl ρ w) w ρ bl i (a.eval hi))(J:ax E.T (bj X bl ρ w) w ρ bl j (a.eval g)):∃r,lN E.P o a r/\ax E.T (bj X bl ρ w) w ρ bl z r:=by
 unfold Vn at h
 split at h
 ·rename_i e C aj ag;simp only[cd]at ag;have p:a.eval hi= .int .i64 0:=by rcases S3 (lo:=some hi) (u:=some i) (show Df E _ w ρ bl a (some hi) (some i) from y) ag.1 with⟨e,_⟩|⟨_,e,k⟩;cases e;cases e;exact k
  have q:a.eval g= .int .i64 0:=by rcases S3 (lo:=some g) (u:=some j) (show Df E _ w ρ bl a (some g) (some j) from J) ag.2 with⟨e,_⟩|⟨_,e,k⟩;cases e;cases e;exact k
  obtain⟨s,v⟩:=tV aj;have fin:∀ {A:Option Addr}{m c:Nat},a.eval x= .slice A m c->(D.ok (aL.q e ([]:List (E.T.El e)))).out z->∃r,lN E.P o a r/\ax E.T (bj X bl ρ w) w ρ bl z r:=λ{A m c} d h=>by have h:aL.q e []=z:=h;subst h;exact⟨_,λ w'=>aqd s v l d p q w',aGY A⟩
  split at h;split at h;simp only[ax]at b;obtain⟨A,c,d⟩:=nb _ b;exact fin d h;simp only[ax]at b;obtain⟨A,d⟩:=b.2;exact fin d h;split at h;simp only[ax]at b;obtain⟨A,m,c,d⟩:=abg b.1;exact fin d h;exact h.elim;have h:aL.p (.slice none 0 0)=z:=h;subst h;simp only[ax]at b;exact⟨_,λ w'=>aqd s v l b p q w',by simp only[ax]⟩;simp only[ax]at b;exact fin b h;exact h.elim;exact h.elim
 ·exact h.elim
theorem aLk{k:IntKind}{m r:Int}(h:abS k m=some r):k.wrap m=r:=by unfold abS at h;split at h<;>simp only[aF,reduceCtorEq]at h<;>subst h;exact yH m;rw[IntKind.wrap_u64];rfl;exact ane m
theorem axY{P:Program}{o:Oper}{s d:Nat}{x:Operand}{u r:Value}(h:US P s d u=some r)(b:o.op= .convert s d x)(c:a.eval x=u):lN P o a r:=by unfold US at h;split at h;rename_i k m;split at h;rename_i j k' e J;split at h;rename_i l g i;simp only[aF]at h;subst h;have:=qd g;subst this;rw[<-aLk i];exact λ w=>adp (xL e) (xL J) b c;cases h;cases h;cases h
theorem aCo{y:Operand}(b:KY y=true)(k:IntKind)(n:Int)(c:a.eval y= .int k n):n≠0:=by unfold KY at b;split at b;rename_i k' d;have:a.eval (.const (.int k' d))= .int k' d:=rfl;rw[this]at c;injection c with _ e;subst e;simpa using b;cases b
theorem ax_(h:R E W M0 X n f bl ρ a w)(hc:kf a cur){o:Oper}{c x y:Operand}{z:aL E.T.El}(d:(U3 E bl f cur c x y).out z)(k:o.op= .pick c x y):∃r,lN E.P o a r/\ax E.T (bj X bl ρ w) w ρ bl z r:=by
 unfold U3 at d;split at d
 ·rename_i b m;have g:=dA h hc m;simp only[ax]at g;have tk:b=true->(D.of (od E bl f cur x)).out z->∃r,lN E.P o a r/\ax E.T (bj X bl ρ w) w ρ bl z r:=λ ag d=>by have:=dA h hc (D.qo d);exact⟨_,λ w'=>SY k (by rw[g,ag]) rfl,this⟩
  have i:b=false->(D.of (od E bl f cur y)).out z->∃r,lN E.P o a r/\ax E.T (bj X bl ρ w) w ρ bl z r:=λ ag d=>by have:=dA h hc (D.qo d);exact⟨_,λ w'=>SX k (by rw[g,ag]) rfl,this⟩
  split at d
  ·cases b with
   |true=>exact tk rfl d
   |false=>exact i rfl d
  ·rename_i j _;split at d;rename_i l;have:=h.ea.ew _ (pc l);have e:a.eval (.tmp j)= .bool true:=this;rw[g]at e;exact tk (by injection e) d;rename_i l;have:=h.ea.ew _ (pc l);have e:a.eval (.tmp j)= .bool false:=this;rw[g]at e;exact i (by injection e) d;split at d;rename_i u v p q;obtain⟨r,s,J⟩:=aGn (a:=a) (x:=x) (y:=y) d (λ ag=>dA h (show kf a ((j,true)::cur) from⟨by subst ag;exact g,hc⟩) p) (λ ag=>dA h (show kf a ((j,false)::cur) from⟨by subst ag;exact g,hc⟩) q);exact⟨r,λ w'=>aOD k g s,J⟩;exact d.elim
  ·exact d.elim
 ·exact d.elim
theorem aqm{P:Program}{o:Oper}{t t':TypeId}{x y:Operand}{A:Option Addr}{m c g i:Nat}{op:BinOp}{b:Bool}(l:ly (P.underlying t)=some .cx)(ag:EP op A.isNone=some b)(j:o.op= .binOp op t x y t')(k:a.eval x= .slice A m c)(hy:a.eval y= .slice none g i)(w:World):bh P o a w (.bool b) w:=by
 obtain⟨e,p⟩:=xL l;have h:∀d:Nat,(Op.equalIn (d+1) t (.slice A m c) (.slice none g i)).run P w= .ok A.isNone w:=λ d=>by cases A<;>simp[Op.equalIn,run_underlying p]
 cases op<;>simp only[EP,aF,reduceCtorEq]at ag<;>subst ag
 ·have J:(binOp .eql t (.slice A m c) (.slice none g i)).run P w= .ok (.bool A.isNone) w:=by
   simp only[binOp];simp[Op.equal,Op.maxDepth,h 9999]
  simp only[bh,execOp,j,k,hy];simp[go_sem,J]
 ·have J:(binOp .neq t (.slice A m c) (.slice none g i)).run P w= .ok (.bool (!A.isNone)) w:=by
   simp only[binOp];simp[Op.equal,Op.maxDepth,h 9999]
  simp only[bh,execOp,j,k,hy];simp[go_sem,J]
theorem amK{α:Type}{T:dm α}{F:Nat->Prop}{v:Value}{d:α}{l:List α}(h:(b7 T).rd F w [v] (d::l)):∃g m c,v= .slice (some g) m c:=by obtain⟨A,c,e,_,_,_,J⟩:=h;simp only[hU,and_true]at e;subst e;rw[(J (by simp)).1];exact⟨_,_,_,rfl⟩
theorem aFU(j:Mem E.T W M0 X bl ρ w){u:aL E.T.El}{v:Value}(h:Y6 bl u=true)(b:ax E.T (bj X bl ρ w) w ρ bl u v):∃g m c,v= .slice (some g) m c:=by unfold Y6 at h;split at h;simp only[ax]at b;exact amK b;simp only[ax]at b;exact amK b.1;simp only[ax]at b;exact⟨_,_,_,b⟩;split at h;rename_i t' p k d l hi;rw[dj]at hi;simp only[ax]at b;obtain⟨_,aJ,o,q,e⟩:=b;rw[hi]at e;obtain⟨A,c,xs,i,ao,aW⟩:=j.ok _ _ _ hi o;rw[e (bd h),i];rw[i]at ao;obtain⟨g,rfl⟩:=H5 ao (by simp);exact⟨_,_,_,rfl⟩;cases h;cases h
theorem akn{F:Nat->Prop}{u:aL E.T.El}{v:Value}(h:Qo u=true)(b:ax E.T F w ρ bl u v):∃m c,v= .slice none m c:=by unfold Qo at h;split at h;simp only[ax]at b;exact⟨_,_,b⟩;cases h
theorem ax8(p:Mem E.T W M0 X bl ρ w){t:Nat}{op:BinOp}{u v:aL E.T.El}{o:Oper}{x y:Operand}{t':TypeId}{b:Bool}(h:U1 E.P bl t op u v=some b)(i:o.op= .binOp op t x y t')(j:ax E.T (bj X bl ρ w) w ρ bl u (a.eval x))(hy:ax E.T (bj X bl ρ w) w ρ bl v (a.eval y)):lN E.P o a (.bool b):=by unfold U1 at h;split at h;rename_i b0 k J d;obtain⟨q,r,l⟩:=akn J hy;split at h;rename_i e;simp only[aF]at h;subst h;obtain⟨m,c,ex⟩:=akn e j;exact λ w'=>aqm (A:=none) k d i ex l w';split at h;rename_i e;simp only[aF]at h;subst h;obtain⟨g,m,c,ex⟩:=aFU p e j;refine λ w'=>aqm (A:=some g) k ?_ i ex l w';cases op<;>simp only[EP,aF,reduceCtorEq]at d⊢ <;>subst d<;>rfl;cases h;cases h
theorem agG(a8:dl E)(h:R E W M0 X n f bl ρ a w)(hc:kf a cur){o:Oper}{op:Op}(k:o.op=op){z:aL E.T.El}(d:(GC E bl f cur op).out z):∃r,ax E.T (bj X bl ρ w) w ρ bl z r/\zG E.P o a X bl ρ w r (rK E bl f cur op):=by
 have s:(∃r,lN E.P o a r/\ax E.T (bj X bl ρ w) w ρ bl z r)->∃r,ax E.T (bj X bl ρ w) w ρ bl z r/\zG E.P o a X bl ρ w r none:=λ⟨r,i,J⟩=>⟨r,J,i⟩
 unfold GC at d;split at d;exact s ⟨_,λ w'=>wu k rfl,dA h hc (D.qo d)⟩;exact s ⟨_,λ w'=>y2 k rfl,dA h hc (D.qo d)⟩;exact s (ax_ h hc d k);split at d;rename_i u v i J;split at d;rename_i b ag;have d:aL.p (.bool b)=z:=d;subst d;exact s ⟨_,ax8 h.mem ag k (dA h hc i) (dA h hc J),by simp only[ax]⟩;exact s (axT a8 d k (λ G=>aCo G) (dA h hc i) (dA h hc J));exact d.elim;split at d;rename_i p i;have d:aL.p (.bool (!p))=z:=d;subst d;have:=dA h hc i;simp only[ax]at this;exact s ⟨_,λ w'=>aqj k this,by simp only[ax]⟩;exact d.elim;split at d;rename_i m i;have d:aL.p (.int .i64 (aw (0-m)))=z:=d;subst d;have:=dA h hc i;simp only[ax]at this;exact s ⟨_,λ w'=>aOB k this,by simp only[ax]⟩;exact d.elim;split at d;rename_i u i;split at d;rename_i r J;have d:aL.p r=z:=d;subst d;have:=dA h hc i;simp only[ax]at this;exact s ⟨_,axY J k this,by simp only[ax]⟩;exact d.elim;exact d.elim;rename_i t x;split at d;rename_i p i;obtain⟨eo,us,v,H,C,K,M,qc⟩:=ax5 a8.tb h.mem (dA h hc i) d;refine⟨v,C,?_⟩;simp only[rK,i,zG];refine⟨eo.block,λ w'=>fy w' eo us,?_,K,λ w' F=>K.law F,λ w' F=>M o a x w' k H F⟩;revert qc;cases Ys p<;>exact λ h=>h;exact d.elim;split at d;rename_i p off oY sz i J;split at d;rename_i L;obtain⟨g,q,B,ao⟩:=aGA L (D.qo d) (dA h hc i);obtain⟨cm,P,H,C,K,M,qc,O⟩:=agV J;subst K;exact s ⟨_,λ w'=>SU H C qc O k B,ao⟩;exact d.elim;exact d.elim;split at d;rename_i p i;split at d;rename_i L;have d:p=z:=d;subst d;have:=dA h hc i;obtain⟨q,e⟩:=aiW L this;exact s ⟨_,λ w'=>MX k e,by rw[<-e];exact this⟩;exact d.elim;exact d.elim;split at d;rename_i l i;have:=dA h hc i;simp only[ax]at this;obtain⟨vs,B,ao⟩:=this;have hi:=D.qo d;rw[dj]at hi;obtain⟨v,aW,bR⟩:=ao.at_ hi;exact s ⟨v,λ w'=>MW (vs:=vs) k B aW,bR⟩;exact d.elim;split at d;rename_i us i;have d:aL.f _ us=z:=d;subst d;have:=Bg h hc i;refine s ⟨_,λ w'=>?_,by simp only[ax];exact⟨_,rfl,this⟩⟩;simp only[bh,execOp,k,Instr.makeFunc];simp only[hz,ig];rfl;exact d.elim;split at d;rename_i us i;have d:aL.h _ us=z:=d;subst d;have:=Bg h hc i;refine s ⟨_,λ w'=>?_,by simp only[ax];exact⟨_,rfl,this⟩⟩;simp only[bh,execOp,k,Instr.makeFunc];simp only[hz,ig];rfl;exact d.elim;split at d;rename_i y i J;have d:aL.i _ y=z:=d;subst d;exact s ⟨_,λ w'=>aOq J k rfl,by simp only[ax];exact⟨_,rfl,dA h hc i⟩⟩;exact d.elim;split at d;rename_i u v i J;exact s (ax0 h.mem d k (dA h hc i) (dA h hc J));exact d.elim;split at d;rename_i p j i J I;obtain⟨b,H,C⟩:=d;have C:aL.p (.int .u8 (b.toNat:Int))=z:=C;subst C;have B:=dA h hc i;have ao:=dA h hc J;simp only[ax]at B ao;exact s ⟨_,λ w'=>aOs (xL I) k B ao H,by simp only[ax]⟩;exact d.elim;split at d;rename_i u lo hi i J I;exact s (axX h.mem d k (dA h hc i) (akC h hc J) (akC h hc I));exact d.elim;split at d;rename_i u lo hi i J I;exact s (ayP h.mem d k (dA h hc i) (dA h hc J) (dA h hc I));exact d.elim;split at d;rename_i u v i J;obtain⟨r,q,B,ao,aW⟩:=ax6 a8 h.mem d k (dA h hc i) (dA h hc J);refine⟨r,B,?_⟩;simp only[rK,i,zG];refine⟨q,λ w'=>w'.heap[q]? =w.heap[q]?,?_,rfl,λ w' F=>F,aW⟩;revert ao;cases EG u<;>exact λ h=>h;exact d.elim;split at d;rename_i u i;exact s (ax9 d k (dA h hc i));exact d.elim;split at d;rename_i ys i;obtain⟨v,B,ao⟩:=axU (Za h hc i) d;exact s ⟨v,λ w'=>ao o a _ w' k rfl,B⟩;exact d.elim;split at d;rename_i x t _ u i;split at d;rename_i Q G;obtain⟨r,q,B,ao,aW⟩:=ax3 h.mem d k (dA h hc i);refine⟨r,B,?_⟩;simp only[rK,G,i,zG];refine⟨q,λ w'=>w'.heap[q]? =w.heap[q]?,?_,rfl,λ w' F=>F,aW⟩;revert ao;cases EG u<;>exact λ h=>h;rename_i G;have:=s (ax4 h.mem d k (dA h hc i));simpa only[rK,G]using this;exact d.elim;split at d;rename_i e A m c aj i;have d:aL.p (.int .i64 (c:Int))=z:=d;subst d;have N:=dA h hc i;simp only[ax]at N;exact s ⟨_,λ w'=>aOj (tV (e:=e.1) (n:=e.2) aj).1 k N,by simp only[ax]⟩;exact d.elim;exact d.elim
end
structure eG (El:Nat->Type) where
 y:Option (aL El)
 bl:List (aH El)
 ws:List Nat
section
variable{T:bU}{W w w':World}{M0:List Nat}{X:Nat->Prop}{bl:List (aH T.El)}{ρ:List Value}
theorem Mem.akz(a:Mem T W M0 X bl ρ w){k:Nat}(h:q1 bl ρ k): ¬X k:=λ b=>by have c:=a.ij k b;rcases(a.lt k h).2 with e |e;exact c.2 e;omega
theorem H9{α:Type}{l:List α}{i:Nat}{x:α}(h:l[i]? =some x):l.set i x=l:=by obtain⟨a,J⟩:=aR.1 h;rw[<-J,mv]
theorem Mem.freeze(a:Mem T W M0 X bl ρ w){i t g k:Nat}{l:List (T.El t)}(hi:bl[i]? =some (.r t g k l)):Mem T W M0 X (bl.set i (.z t g k l)) ρ w/\To X bl (bl.set i (.z t g k l)) ρ ρ w w:=by
 obtain⟨h,b⟩:=a.tm hi;have d:=a.E5 (B':=aH.z t g k l) (h':=h) (w':=w) hi b (br.refl _ _) (λ q f=>by simp[bF]at f) ⟨λ _=>rfl,cP _,λ _=>⟨rfl,rfl,cP _,λ _=>rfl⟩⟩;have m:=a.dD (B':=aH.z t g k l) (h':=h) (w':=w) hi b (br.refl _ _) (λ q f=>by simp[bF]at f) d (by
  obtain⟨A,c,xs,rfl,J,s⟩:=a.ok i _ _ hi b;obtain⟨c1,c2,c3,c4⟩:=J.cap;refine⟨A,c,rfl,c1,c2,c3,λ u=>?_⟩;have v:0<l.length:=lY.2 u;obtain⟨gb,rfl,x,hc,n⟩:=vP v J;refine⟨rfl,?_,xs,po _ d.F s,by simpa[dC,gd]using hc⟩;have o:q1 bl ρ gb:=⟨i,_,_,hi,b,by simp only[bF];rw[n];simp⟩
  refine⟨by simpa[dC]using a.akz o,?_,by simpa[dC]using(a.lt gb o).1⟩;rintro⟨j,B,g',aA,p,r⟩;by_cases e:j=i;subst e;rw[gu (aR.1 hi).1]at aA;cases aA;simp[bF]at r
  ·rw[jx (Ne.symm e)]at aA;rw[jx (Ne.symm e)]at p
   exact a.bC i j _ _ _ _ hi b aA p (Ne.symm e) gb (by simp only[bF];rw[n];simp) (by simpa[dC]using r))
 rw[H9 b]at m d;exact⟨m,d⟩
end
def gK{El:Nat->Type}(bl:List (aH El)):aL El->List (aH El)×aL El
 | .r i g=>match nth bl i with
   |some (.r t a k l)=>match cj g a with
    |true=>(bl.set i (.z t a k l),.s t l)
    |false=>(bl,.r i g)
   |some (.z t a _ l)=>match cj g a with
    |true=>(bl,.s t l)
    |false=>(bl,.r i g)
   |_=>(bl,.r i g)
 | .q t l=>(bl,.s t l)
 |y=>(bl,y)
def oW{El:Nat->Type}:List (aH El)->List (aL El)->List (aH El)×List (aL El)
 |bl,[]=>(bl,[])
 |bl,y::r=>match gK bl y with
  |(bl',e3)=>match oW bl' r with
   |(wS,a)=>(wS,e3::a)
section
variable{T:bU}{W w w':World}{M0:List Nat}{X:Nat->Prop}{bl:List (aH T.El)}{ρ:List Value}
theorem ag4(b:Mem T W M0 X bl ρ w){y e3:aL T.El}{bl':List (aH T.El)}{v:Value}(h:gK bl y=(bl',e3))(a:ax T (bj X bl ρ w) w ρ bl y v):Mem T W M0 X bl' ρ w/\To X bl bl' ρ ρ w w/\ax T (bj X bl' ρ w) w ρ bl' e3 v:=by
 have same:∀ {u:aL T.El},(bl,u)=(bl',e3)->ax T (bj X bl ρ w) w ρ bl u v->Mem T W M0 X bl' ρ w/\To X bl bl' ρ ρ w w/\ax T (bj X bl' ρ w) w ρ bl' e3 v:=λ{u} h f=>by simp only[cB]at h;obtain⟨rfl,rfl⟩:=h;exact⟨b,.refl,f⟩
 unfold gK at h;split at h;rename_i i g;split at h;rename_i t j k l hi;rw[dj]at hi;split at h;rename_i ag;have ag:=bd ag;subst ag;simp only[cB]at h;obtain⟨rfl,rfl⟩:=h;obtain⟨c,J⟩:=b.freeze hi;refine⟨c,J,?_⟩;have ev:=J.v a;simp only[ax]at ev⊢;obtain⟨_,aJ,m,n,d⟩:=ev;have e:(bl.set i (aH.z t g k l))[i]? =some (aH.z t g k l):=gu (aR.1 hi).1;rw[e]at d;rw[d rfl];exact c.ok i _ _ e m;exact same h a;rename_i t j k l hi;rw[dj]at hi;split at h;rename_i ag;refine same h ?_;have:=Qp b a;simp only[nm,dj,hi,ag]at this;exact this;exact same h a;exact same h a;refine same h ?_;simp only[ax]at a⊢;exact a.1;exact same h a
theorem Ot:∀ {ys a:List (aL T.El)}{bl bl':List (aH T.El)}{vs:List Value},Mem T W M0 X bl ρ w->oW bl ys=(bl',a)->a_ T (bj X bl ρ w) w ρ bl ys vs->Mem T W M0 X bl' ρ w/\To X bl bl' ρ ρ w w/\a_ T (bj X bl' ρ w) w ρ bl' a vs
 |[],a,bl,bl',vs,c,h,b=>by simp only[oW,cB]at h;obtain⟨rfl,rfl⟩:=h;exact⟨c,.refl,b⟩
 |y::r,a,bl,bl',vs,c,h,b=>by
  simp only[a_]at b;obtain⟨u,us,rfl,g,i⟩:=b;simp only[oW]at h;cases d:gK bl y with
  |mk bO m=>
   rw[d]at h;cases J:oW bO r with
   |mk n o=>rw[J]at h;simp only[cB]at h;obtain⟨rfl,rfl⟩:=h;obtain⟨j,e,v1⟩:=ag4 c d g;obtain⟨k,f,l⟩:=Ot j J (e.vs i);refine⟨k,e.trans f,?_⟩;simp only[a_];exact⟨u,us,rfl,f.v v1,l⟩
end
section
variable{E:Env}{W w w':World}{M0:List Nat}{X:Nat->Prop}{n:cG}{f:cD E.T.El}{bl:List (aH E.T.El)}{ρ:List Value}{a:Act}{cur:List (Nat×Bool)}
def hB(E:Env)(o:Oper)(a:Act)(W:World)(M0:List Nat)(X:Nat->Prop)(bl:List (aH E.T.El))(ρ:List Value)(w:World)(e:eG E.T.El):Prop:=
 ∃w' ρ',Mem E.T W M0 X e.bl ρ' w'/\To X bl e.bl ρ ρ' w w'/\(∀k,k<w.heap.size->(∀i∈e.ws,∀B h,bl[i]? =some B->ρ[i]? =some h->k∉bF B h)->w'.heap[k]? =w.heap[k]?)/\
  match e.y with
  |some y=>∃v,bh E.P o a w v w'/\ax E.T (bj X e.bl ρ' w') w' ρ' e.bl y v
  |none=>sF E.P o a w w'
theorem akj(c:Mem E.T W M0 X bl ρ w){o:Oper}{t:Nat}{cs:List (aL E.T.El)}{vs:List Value}(g:a_ E.T (bj X bl ρ w) w ρ bl cs vs)(hy:bh E.P o a w (.pointer (some ⟨w.heap.size,0,none⟩)) (w.alloc (.cells ⟨vs⟩ t))) :
 hB E o a W M0 X bl ρ w ⟨some (.b bl.length 0),bl++[.c t cs],[]⟩:=by
 have d:br [] w (w.alloc (.cells ⟨vs⟩ t)):=br.alloc _ _ _
 have ad:∀k∈bF (aH.c t cs) (.pointer (some ⟨w.heap.size,0,none⟩)),w.heap.size<=k/\k<(w.alloc (.cells ⟨vs⟩ t)).heap.size:=λ k b=>by simp only[bF,ag,dV]at b;subst b;simp
 have e:=c.BJ (B:=aH.c t cs) (h:=.pointer (some ⟨w.heap.size,0,none⟩)) d ad
 refine⟨_,ρ++[.pointer (some ⟨w.heap.size,0,none⟩)],c.push d ad ⟨_,vs,rfl,heap_alloc_new w _,e.vs g⟩,e,λ k b _=>d.block k b (by simp),_,hy,?_⟩
 simp only[ax]
 exact⟨_,by rw[<-c.len];simp,rfl⟩
theorem aFt(c:Mem E.T W M0 X bl ρ w){o:Oper}{kt vt:Nat}{K:iA (E.T.El kt)}(e:(E.T.e kt).key=some K)(hy:bh E.P o a w (.map (some w.heap.size)) (w.alloc (.map #[] 0))) :
 hB E o a W M0 X bl ρ w ⟨some (.m bl.length),bl++[.m kt vt []],[]⟩:=by
 have d:br [] w (w.alloc (.map #[] 0)):=br.alloc _ _ _
 have ad:∀k∈bF (aH.m kt vt ([]:List (E.T.El kt×E.T.El vt))) (.map (some w.heap.size)),w.heap.size<=k/\k<(w.alloc (.map #[] 0)).heap.size:=λ k b=>by simp only[bF,ag,dV]at b;subst b;simp
 have g:=c.BJ (B:=aH.m kt vt ([]:List (E.T.El kt×E.T.El vt))) (h:=.map (some w.heap.size)) d ad
 refine⟨_,ρ++[.map (some w.heap.size)],c.push d ad ⟨_,rfl,K,e,#[],0,heap_alloc_new w _,trivial,by simp,by simp⟩,g,λ k b _=>d.block k b (by simp),_,hy,?_⟩
 simp only[ax]
 exact⟨_,by rw[<-c.len];simp,rfl⟩
def Qy{El:Nat->Type}:aL El->Bool
 | .a _=>false
 | .u _=>false
 | .p v=>v.oneCell'
 |_=>true
theorem aGa{F:Nat->Prop}{y:aL E.T.El}{v:Value}(h:Qy y=true)(B:ax E.T F w ρ bl y v):v.oneCell'=true:=by
 cases y with
 |p u=>simp only[ax]at B;subst B;exact h
 |a l=>simp[Qy]at h
 |b i o=>simp only[ax]at B;obtain⟨g,_,rfl⟩:=B;rfl
 |x t d o=>simp only[ax]at B;obtain⟨_,_,_,rfl,_⟩:=B;rfl
 |s t l=>simp only[ax]at B;obtain⟨A,c,e⟩:=nb _ B;subst e;rfl
 |q t l=>simp only[ax]at B;obtain⟨_,A,rfl⟩:=B;rfl
 |r i g=>simp only[ax]at B;obtain⟨A,m,c,rfl⟩:=abg B.1;rfl
 |v i g lo hi=>simp only[ax]at B;obtain⟨A,m,c,rfl⟩:=abg B.1;rfl
 |e i g k t j d o=>simp only[ax]at B;have:=B.1;cases v<;>simp[xJ]at this;rfl
 |w i g o=>simp only[ax]at B;have:=B.1;cases v<;>simp[xJ]at this;rfl
 |m i=>simp only[ax]at B;obtain⟨g,_,rfl⟩:=B;rfl
 |n _ _ _=>simp only[ax]at B;obtain⟨g,rfl,_⟩:=B;rfl
 |f fn cs=>simp only[ax]at B;obtain⟨g,rfl,_⟩:=B;rfl
 |h fn us=>simp only[ax]at B;obtain⟨g,rfl,_⟩:=B;rfl
 |u l=>simp[Qy]at h
 |i t z=>simp only[ax]at B;obtain⟨g,rfl,_⟩:=B;rfl
 |pp i g sz eg=>simp only[ax]at B;obtain⟨_,_,rfl,_⟩:=B;rfl
 |Bp i g sz q=>simp only[ax]at B;obtain⟨_,_,_,rfl,_⟩:=B;rfl
def yn{El:Nat->Type}:List (aL El)->Bool
 |[]=>true
 |y::r=>Qy y&&yn r
theorem Lv{F:Nat->Prop}:∀ {ys:List (aL E.T.El)}{vs:List Value},yn ys=true->a_ E.T F w ρ bl ys vs->vs.all (·.oneCell')=true
 |[],vs,_,b=>by simp only[a_]at b;subst b;rfl
 |y::r,vs,h,b=>by simp only[a_]at b;obtain⟨u,us,rfl,c,J⟩:=b;simp only[yn,cd]at h;simp only[List.all_cons,cd];exact⟨aGa h.1 c,Lv h.2 J⟩
theorem PO:∀(l:List Value)(n:Nat)(cs:List Value),ay.lay l n cs=ga l n cs
 |l,0,cs=>by cases l<;>rfl
 |[],n+1,cs=>rfl
 |u::l,n+1,cs=>by simp only[ay.lay,ga,PO l n cs]
def Ru{El:Nat->Type}(bl:List (aH El))(i:Nat):Bool:=match nth bl i with
 |some (.r _ _ _ _)=>true
 |_=>false
def U4(E:Env)(bl:List (aH E.T.El))(t:Nat)(p y:aL E.T.El):D (eG E.T.El):=match lay E.P t,yn (cellsOf y)with
 |some (_,sz),true=>match cj (cellsOf y).length sz with
  |true=>match p with
   | .b i o=>match nth bl i with
     |some (.c ty cs)=>match jw (o+(cellsOf y).length) cs.length with
      |true=>.ok ⟨none,bl.set i (.c ty (ga cs o (cellsOf y))),[i]⟩
      |false=>.no
     |_=>.no
   | .e i g k t' j d o=>match nth bl i with
     |some (.r b c e l)=>match cj g c,cj k e with
      |true,true=>match oW bl (ga ((E.T.e t').cs d) o (cellsOf y)),lL t' b,jw (o+(cellsOf y).length) ((E.T.e t').cs d).length with
       |(bl',cs),.isTrue h,true=>match(E.T.e t').hX cs,Ru bl' i with
        |some d',true=>.ok ⟨none,bl'.set i (.r b c (e+1) (l.set j.toNat (h▸d'))),[i]⟩
        |_,_=>.no
       |_,_,_=>.no
      |true,false=>.op (idx l j) λ d=>match oW bl (ga ((E.T.e b).cs d) o (cellsOf y)),jw (o+(cellsOf y).length) ((E.T.e b).cs d).length with
       |(bl',cs),true=>match(E.T.e b).hX cs,Ru bl' i with
        |some d',true=>.ok ⟨none,bl'.set i (.r b c (e+1) (l.set j.toNat d')),[i]⟩
        |_,_=>.no
       |_,_=>.no
      |_,_=>.no
     |_=>.no
   | .w i g o=>match nth bl i with
     |some (.k b m c cs)=>match cj g c&&jw (o+(cellsOf y).length) cs.length with
      |true=>.ok ⟨none,bl.set i (.k b m c (ga cs o (cellsOf y))),[i]⟩
      |false=>.no
     |_=>.no
   |_=>.no
  |false=>.no
 |_,_=>.no
theorem amd{o:Oper}{t g c m sz n q tb:Nat}{x y:Operand}{v:Value}{xs vs:List Value}(i:v.cells=vs.toArray)(aj:∀w,(Go.sizeOf t).run E.P w= .ok sz w)(j:cj vs.length sz=true)(k:vs.all (·.oneCell')=true)
 (l:0<n)(e:rowIs w tb m (.slice (some ⟨g,0,none⟩) n c) n xs)(b:q+vs.length<=xs.length)(p:o.op= .store t x y)(r:a.eval x= .pointer (some ⟨g,q,none⟩))(hy:a.eval y=v) :
 ∃w',sF E.P o a w w'/\br [g] w w'/\rowIs w' tb m (.slice (some ⟨g,0,none⟩) n c) n (ga xs q vs):=by
 have d:=e.len
 have e:=e.own l
 rcases e.2 with⟨_,C⟩|⟨g',cap,cur,h,ao,aW,bR,dx,eV,kP⟩
 ·omega
 ·simp only[Value.slice.injEq,aF,Addr.mk.injEq,and_true,true_and]at h;obtain⟨rfl,rfl⟩:=h;have s:xs.length<=cur.toList.length:=by rw[<-kP,gl];omega
  obtain⟨w',u,z,A⟩:=adq (tb:=tb) (cs:=cur.toList) i aj j k (by simpa using hl b (by simpa using s)) (show(bc.cp g tb cur.toList).ok w by simpa[bc.cp]using aW) p r hy;refine⟨w',u,z,.inl ⟨by rw[Yq b,d],.inr ⟨g,c,⟨ay.lay cur.toList q vs⟩,rfl,ao,A,bR,dx,?_,?_⟩⟩⟩;rw[PO];simp only[List.size_toArray];rw[Yq (by omega)];simpa using eV
  ·rw[PO];simp only;subst kP;rw[x2 _ _ _ (by omega),x2 _ _ _ b];have B:n*m<=cur.toList.length:=by have:=eV;have D:n*m<=c*m:=j8 m bR;simp;omega
   exact abl (by rw[d]at b;exact b) B
theorem ajV{j n sz o k:Nat}(h:j<n)(J:o+k<=sz):j*sz+o+k<=n*sz:=by have:(j+1)*sz<=n*sz:=j8 sz h;rw[jP]at this;omega
end
section
variable{E:Env}{W w w':World}{M0:List Nat}{X:Nat->Prop}{n:cG}{f:cD E.T.El}{bl:List (aH E.T.El)}{ρ:List Value}{a:Act}{cur:List (Nat×Bool)}
theorem Pq(g:Mem E.T W M0 X bl ρ w){o:Oper}{i:Nat}{B B':aH E.T.El}{h:Value}(hi:bl[i]? =some B)(c:ρ[i]? =some h)(d:br (bF B h) w w')(ad:bF B' h=bF B h)
 (j:b5 (some B')=b5 (some B)/\jU E.T (some B')=jU E.T (some B)/\hs (some B)<=hs (some B')/\(hs (some B')=hs (some B)->jT (some B')=jT (some B)))(hy:sF E.P o a w w')
 (p:To X bl (bl.set i B') ρ ρ w w'->jF E.T (bj X (bl.set i B') ρ w') w' ρ (bl.set i B') B' h):hB E o a W M0 X bl ρ w ⟨none,bl.set i B',[i]⟩:=by
 have l:∀k∈bF B' h,k∈bF B h\/(w.heap.size<=k/\k<w'.heap.size):=λ k e=>.inl (ad▸e)
 have b:=g.E5 (B':=B') (h':=h) hi c d l ⟨λ _=>rfl,by rw[j.1];exact cP _,λ _=>⟨rfl,j.2⟩⟩
 have aj:=H9 c
 have m:=g.dD (B':=B') (h':=h) hi c d l b (by rw[aj]at b⊢;exact p b)
 rw[aj]at m b
 exact⟨w',ρ,m,b,λ k e q=>d.block k e (q i (by simp) B h hi c),hy⟩
theorem hB.first{o:Oper}{bl':List (aH E.T.El)}{e:eG E.T.El}(c:To X bl bl' ρ ρ w w)(d:∀i∈e.ws,∀B' h k,bl'[i]? =some B'->ρ[i]? =some h->k∈bF B' h->∃B,bl[i]? =some B/\k∈bF B h)(h:hB E o a W M0 X bl' ρ w e):hB E o a W M0 X bl ρ w e:=by obtain⟨w',ρ',j,J,l,m⟩:=h;refine⟨w',ρ',j,c.trans J,λ k p q=>l k p λ i hi B' g ag b r=>?_,m⟩;obtain⟨B,s,t⟩:=d i hi B' g k ag b r;exact q i hi B g s b t
theorem ayK{bl bl':List (aH E.T.El)}{y e3:aL E.T.El}(h:gK bl y=(bl',e3))(i:Nat):bl'[i]? =bl[i]? \/∃t g k l,bl[i]? =some (.r t g k l)/\bl'[i]? =some (.z t g k l):=by
 unfold gK at h;split at h
 ·rename_i j g;split at h;rename_i t b k l aA;rw[dj]at aA;split at h;simp only[cB]at h;obtain⟨rfl,_⟩:=h;by_cases e:i=j;subst e;exact .inr ⟨t,b,k,l,aA,gu (aR.1 aA).1⟩;exact .inl (jx (Ne.symm e));simp only[cB]at h;exact .inl (by rw[h.1]);split at h<;>(simp only[cB]at h;exact .inl (by rw[h.1]))
  ·simp only[cB]at h;exact .inl (by rw[h.1])
 ·simp only[cB]at h;exact .inl (by rw[h.1])
 ·simp only[cB]at h;exact .inl (by rw[h.1])
theorem Oq:∀ {ys c:List (aL E.T.El)}{bl bl':List (aH E.T.El)},oW bl ys=(bl',c)->∀i:Nat,bl'[i]? =bl[i]? \/∃t g k l,bl[i]? =some (.r t g k l)/\bl'[i]? =some (.z t g k l)
 |[],c,bl,bl',h,i=>by simp only[oW,cB]at h;exact .inl (by rw[h.1])
 |y::r,c,bl,bl',h,i=>by
  simp only[oW]at h;cases d:gK bl y with
  |mk bO e=>
   rw[d]at h;cases J:oW bO r with
   |mk j m=>rw[J]at h;simp only[cB]at h;obtain⟨rfl,_⟩:=h;rcases ayK d i with b |⟨t,g,k,l,b,ao⟩;rcases Oq J i with aW |⟨t,g,k,l,aW,bR⟩;exact .inl (aW.trans b);exact .inr ⟨t,g,k,l,by rw[<-b];exact aW,bR⟩;rcases Oq J i with aW |⟨t',g',k',l',aW,bR⟩;exact .inr ⟨t,g,k,l,b,by rw[aW,ao]⟩;rw[ao]at aW;cases aW
theorem ajG{α:Type}:∀(l:List α)(q:Nat)(cs b:List α),q+cs.length<=l.length->ga (l++b) q cs=ga l q cs++b
 |l,0,cs,b,h=>by
  have e:∀m:List α,ga m 0 cs=cs++m.drop cs.length:=λ m=>by cases m<;>rfl
  rw[e,e,List.drop_append_of_le_length (by simpa using h),fA]
 |[],q+1,cs,b,h=>by simp at h
 |u::l,q+1,cs,b,h=>by simp only[ih,ga,ajG l q cs b (by simp at h;omega)]
theorem ajH{α:Type}:∀(a l:List α)(q:Nat)(cs:List α),ga (a++l) (a.length+q) cs=a++ga l q cs
 |[],l,q,cs=>by simp
 |u::a,l,q,cs=>by
  have e:(u::a).length+q=(a.length+q)+1:=by simp only[di];omega
  rw[e];simp only[ih,ga,ajH a l q cs]
theorem aEo{α:Type}{xs cs0 vs:List α}{p q:Nat}(h:(xs.drop p).take cs0.length=cs0)(i:p+cs0.length<=xs.length)(b:q+vs.length<=cs0.length):xs.take p++ga cs0 q vs++xs.drop (p+cs0.length)=ga xs (p+q) vs:=by
 have c:xs=xs.take p++(cs0++xs.drop (p+cs0.length)):=by
  have d:xs.drop p=cs0++xs.drop (p+cs0.length):=by rw[<-List.drop_drop];have:=(ju cs0.length (xs.drop p)).symm;rwa [h]at this
  rw[<-d,ju]
 have g:(xs.take p).length=p:=by rw[gl];omega
 have e:=ajH (xs.take p) (cs0++xs.drop (p+cs0.length)) q vs;rw[<-c,g,ajG _ _ _ _ b,<-fA]at e;exact e.symm
theorem afY(a8:dl E)(I:Mem E.T W M0 X bl ρ w){o:Oper}{t sz i b g k q:Nat}{l:List (E.T.El b)}{x y:Operand}{j:Int}{d d':E.T.El b}{u:aL E.T.El}{bl':List (aH E.T.El)}{cs:List (aL E.T.El)}{h:Value}{A:Option Addr}{c m:Nat}
 (aj:∀w,(Go.sizeOf t).run E.P w= .ok sz w)(Y:yn (cellsOf u)=true)(J:cj (cellsOf u).length sz=true)(hi:bl[i]? =some (.r b g k l))(K:ρ[i]? =some h)(aJ:idx l j=some d)(z:q+(cellsOf u).length<=((E.T.e b).cs d).length)
 (B:Ru bl' i=true)(L:oW bl (ga ((E.T.e b).cs d) q (cellsOf u))=(bl',cs))(Z:(E.T.e b).hX cs=some d')(r:h= .slice A m c)(au:o.op= .store t x y)(aa:a.eval x= .pointer (some ⟨dC A,j.toNat*(E.T.ty b).size+q,none⟩))(hu:ax E.T (bj X bl ρ w) w ρ bl u (a.eval y)) :
 hB E o a W M0 X bl ρ w ⟨none,bl'.set i (.r b g (k+1) (l.set j.toNat d')),[i]⟩:=by
 have C:=pV hu
 have M:=C.len
 obtain⟨cu,bJ,xs,D,ao,aW⟩:=I.ok i _ _ hi K
 rw[r]at D
 simp only[Value.slice.injEq]at D
 obtain⟨rfl,rfl,rfl⟩:=D
 obtain⟨aiZ,F,qb⟩:=l9 aJ
 obtain⟨gb,rfl,xk,hc,l3⟩:=vP (by omega) (r▸ao)
 obtain⟨cs0,N,bx⟩:=LP (E.T.ty b) aW qb
 have s:=a8.tb.cells (ρ:=ρ) (bl:=bl) N
 have kT:=s.len
 have O:=(E.T.ty b).len N
 obtain⟨m1,P,v1⟩:=Ot I L (s.lay C z)
 have f':=a8.tb.hX _ _ _ Z _ _ _ _ _ v1
 have Q:=yu _ aW
 have p:j.toNat*(E.T.ty b).size+q+(a.eval y).cells.toList.length<=xs.length:=by rw[Q,M];exact ajV F (by omega)
 obtain⟨w',bn,bi,ch⟩:=amd (E:=E) (a:=a) (v:=a.eval y) (vs:=(a.eval y).cells.toList) (by simp) aj (by rw[M];exact J) (Lv Y C) (show 0<l.length by omega) (r▸ao) p au (by simpa[dC]using aa) rfl
 have R:bl'[i]? =some (.r b g k l):=by rcases Oq L i with e |⟨t',g',k',l',bR,dx⟩;exact e.trans hi;unfold Ru at B;rw[dj,dx]at B;cases B
 have aC:bF (aH.r b g k l) h=[gb]:=by subst r;simpa[bF]using l3 _
 have G:=Pq (B':=aH.r b g (k+1) (l.set j.toNat d')) (w':=w') (o:=o) (a:=a) m1 R K (by rw[aC];exact bi) rfl ⟨rfl,rfl,Nat.le_succ _,λ e=>absurd e (by simp[hs])⟩ bn (λ S=>by
  refine⟨some ⟨gb,0,none⟩,c,ga xs (j.toNat*(E.T.ty b).size+q) (a.eval y).cells.toList,by subst r;simp,by subst r;simpa using ch,?_⟩;have H:dN (E.T.ty b) (bj X (bl'.set i (aH.r b g (k+1) (l.set j.toNat d'))) ρ w') w' xs l:=po _ (P.trans S).F aW;have kV:=(E.T.ty b).law S.F f';have cQ:=aaJ kV H F;have e:xs.take (j.toNat*(E.T.ty b).size)++ga cs0 q (a.eval y).cells.toList++xs.drop (j.toNat*(E.T.ty b).size+(E.T.ty b).size)=ga xs (j.toNat*(E.T.ty b).size+q) (a.eval y).cells.toList:=by have eW:=agJ bx;have U:=aEo (q:=q) (vs:=(a.eval y).cells.toList) eW (by rw[O,Q];have:=ajV (o:=0) (k:=(E.T.ty b).size) (sz:=(E.T.ty b).size) F (by omega);omega) (by omega);rw[O]at U;exact U
  rw[<-e];exact cQ)
 refine hB.first P (λ i' V B' g' EV ag az aQ=>?_) G
 simp only[dV]at V
 subst V
 exact⟨_,hi,by rw[R]at ag;cases ag;exact aQ⟩
end
section
variable{E:Env}{W w w':World}{M0:List Nat}{X:Nat->Prop}{n:cG}{f:cD E.T.El}{bl:List (aH E.T.El)}{ρ:List Value}{a:Act}{cur:List (Nat×Bool)}
theorem ax'(a8:dl E)(z:Mem E.T W M0 X bl ρ w){o:Oper}{t:Nat}{x y:Operand}{p u:aL E.T.El}{e:eG E.T.El}(h:(U4 E bl t p u).out e)(M:o.op= .store t x y)
 (B:ax E.T (bj X bl ρ w) w ρ bl p (a.eval x))(R:ax E.T (bj X bl ρ w) w ρ bl u (a.eval y)):hB E o a W M0 X bl ρ w e:=by
 unfold U4 at h
 split at h
 ·rename_i b sz al N;have aj:=(K6 al).2;split at h
  ·rename_i J;have G:=pV R;have O:=G.len;split at h;rename_i i r;split at h;rename_i ty cs hi;rw[dj]at hi;split at h;rename_i ag;have h:(⟨none,bl.set i (.c ty (ga cs r (cellsOf u))),[i]⟩:eG E.T.El)=e:=h;subst h;have ag:=cJ ag;simp only[ax]at B;obtain⟨g,q,S⟩:=B;obtain⟨g',vs,H,ao,aW⟩:=z.ok i _ _ hi q;simp only[Value.pointer.injEq,aF,Addr.mk.injEq,and_true]at H;subst H;have W4:=aW.len;obtain⟨w',U,I,V⟩:=adq (tb:=ty) (cs:=vs) (v:=a.eval y) (vs:=(a.eval y).cells.toList) (by simp) aj (by rw[O];exact J) (Lv N G) (by rw[O,W4];exact Nat.ble_eq_true_of_le ag) (show(bc.cp g ty vs).ok w from ao) M S rfl;refine Pq (B':=aH.c ty (ga cs r (cellsOf u))) z hi q (by simpa[bF,ba.ag]using I) rfl ⟨rfl,rfl,cP _,λ _=>rfl⟩ U (λ K=>⟨g,ay.lay vs r (a.eval y).cells.toList,rfl,V,?_⟩);rw[PO];exact(K.vs aW).lay (K.vs G) ag;exact h.elim;exact h.elim;rename_i i g k t' j d r;split at h;rename_i C g2 I l hi;rw[dj]at hi;simp only[ax]at B;obtain⟨_,aJ,L,Y,D⟩:=B;rw[hi]at D;split at h;rename_i q P;have q:=bd q;have P:=bd P;subst q;subst P;obtain⟨⟨A,m,c,s,Q,Z,fL⟩,aGR,Zw⟩:=D rfl;obtain⟨l',F,c'⟩:=Zw rfl;split at h;rename_i bl' cs aPD ry aPr Kc;simp only[jT,aF,Sigma.mk.injEq]at F;obtain⟨fq,F⟩:=F;subst fq;have F:=eq_of_heq F;subst F;split at h;rename_i d' eC eX;have h:(⟨none,bl'.set i (.r C g (k+1) (l.set j.toNat d')),[i]⟩:eG E.T.El)=e:=h;subst h;exact afY a8 z aj N J hi L c' (cJ Kc) eX ry eC s M (by simpa[jU]using fL) R;exact h.elim;exact h.elim;rename_i q P;have q:=bd q;subst q;obtain⟨⟨A,m,c,s,Q,Z,fL⟩,_⟩:=D rfl;obtain⟨d1,c',h⟩:=h;dsimp only at h;split at h;rename_i bl' cs ry Kc;split at h;rename_i d' eC eX;have h:(⟨none,bl'.set i (.r C g (I+1) (l.set j.toNat d')),[i]⟩:eG E.T.El)=e:=h;subst h;exact afY a8 z aj N J hi L c' (cJ Kc) eX ry eC s M (by simpa[jU]using fL) R;exact h.elim;exact h.elim;exact h.elim;exact h.elim
   ·rename_i i g r;split at h
    ·rename_i C s2 g2 cs hi;rw[dj]at hi;split at h
     ·rename_i ag;simp only[cd]at ag;have h:(⟨none,bl.set i (.k C s2 g2 (ga cs r (cellsOf u))),[i]⟩:eG E.T.El)=e:=h;subst h;simp only[ax]at B;obtain⟨_,aJ,L,Y,D⟩:=B;rw[hi]at D;have q:=bd ag.1;subst q;obtain⟨A,m,c,s,Q,Z⟩:=D rfl;obtain⟨cu,fj,bJ,xs,H,ao,aW⟩:=z.ok i _ _ hi L;rw[H]at s;simp only[Value.slice.injEq]at s;obtain⟨rfl,rfl,rfl⟩:=s;subst H;have Kb:=cJ ag.2;have aAR:=aW.len;obtain⟨gb,rfl,xk,hc,l3⟩:=vP Q ao;obtain⟨w',U,I,V⟩:=amd (E:=E) (a:=a) (v:=a.eval y) (vs:=(a.eval y).cells.toList) (by simp) aj (by rw[O];exact J) (Lv N G) Q ao (by rw[O,aAR];exact Kb) M (by simpa[dC]using Z) rfl;have aC:bF (aH.k C s2 g cs) (.slice (some ⟨gb,0,none⟩) fj bJ)=[gb]:=by simpa[bF]using l3 _
      exact Pq (B':=aH.k C s2 g (ga cs r (cellsOf u))) z hi L (by rw[aC];exact I) rfl ⟨rfl,rfl,cP _,λ _=>rfl⟩ U (λ K=>⟨_,_,_,_,rfl,V,(K.vs aW).lay (K.vs G) Kb⟩)
     ·exact h.elim
    ·exact h.elim
   ·exact h.elim
  ·exact h.elim
 ·exact h.elim
theorem af3{F:Nat->Prop}{kt vt:Nat}{K:iA (E.T.El kt)}{k:E.T.El kt}{v:E.T.El vt}{u:Value}(g:Dg E.T F w vt v u):∀ {es:List MapEntry}{d:List (E.T.El kt×E.T.El vt)}{p:Nat},ka E.T F w K es d->kr K d k=some p->ka E.T F w K (es.modify p λ e=>{ e with key:=K.enc k,val:=u }) (vx K d k v)
 |[],[],_,_,b=>by simp[kr,qk]at b
 |[],_::_,_,h,_=>h.elim
 |_::_,[],_,h,_=>h.elim
 |e::es,q::d,p,h,b=>by obtain⟨j,J,i⟩:=h;by_cases c:q.1=k;simp only[kr,qk,nf c,aF]at b;subst b;simp only[vx,gy,nf c,List.modify_zero_cons];exact⟨rfl,g,i⟩;simp only[kr,qk,nc c,cA]at b;obtain⟨m,l,rfl⟩:=b;simp only[vx,gy,nc c,List.modify_succ_cons];exact⟨j,J,af3 g i l⟩
theorem af2{F:Nat->Prop}{kt vt:Nat}{K:iA (E.T.El kt)}{k:E.T.El kt}{v:E.T.El vt}{u:Value}{c:Nat}(i:Dg E.T F w vt v u):∀ {es:List MapEntry}{d:List (E.T.El kt×E.T.El vt)},ka E.T F w K es d->kr K d k=none->ka E.T F w K (es++[{ key:=K.enc k,val:=u,born:=c }]) (vx K d k v)
 |[],[],_,_=>⟨rfl,i,trivial⟩
 |[],_::_,h,_=>h.elim
 |_::_,[],h,_=>h.elim
 |e::es,q::d,h,b=>by obtain⟨j,J,l⟩:=h;by_cases g:q.1=k;simp[kr,qk,nf g]at b;simp only[kr,qk,nc g,Option.map_eq_none_iff]at b;simp only[vx,gy,nc g,ih];exact⟨j,J,af2 i l b⟩
theorem af1{F:Nat->Prop}{kt vt:Nat}{K:iA (E.T.El kt)}{k:E.T.El kt}:∀ {es:List MapEntry}{d:List (E.T.El kt×E.T.El vt)}{p:Nat},ka E.T F w K es d->kr K d k=some p->∃e,es[p]? =some e/\e.key=K.enc k
 |[],[],_,_,b=>by simp[kr,qk]at b
 |[],_::_,_,h,_=>h.elim
 |_::_,[],_,h,_=>h.elim
 |e::es,q::d,p,h,b=>by obtain⟨g,J,i⟩:=h;by_cases c:q.1=k;simp only[kr,qk,nf c,aF]at b;subst b;exact⟨e,rfl,by rw[g,c]⟩;simp only[kr,qk,nc c,cA]at b;obtain⟨l,j,rfl⟩:=b;simpa using af1 i j
def Oa(E:Env)(bl:List (aH E.T.El))(t:Nat)(u k v:aL E.T.El):D (eG E.T.El):=match u,mapOf E.P t with
 | .m i,some (b,_)=>match nth bl i with
   |some (.m kt vt d)=>match(E.T.e kt).key with
    |some K=>match oW bl (cellsOf v)with
     |(bl',cs)=>match NT (E.P.underlying b) K.desc,(E.T.e kt).hX (cellsOf k),(E.T.e vt).hX cs,(match l_ k with|true=>(E.T.e kt).agg |false=>!(E.T.e kt).agg)&&(match l_ v with|true=>(E.T.e vt).agg |false=>!(E.T.e vt).agg)with
      |true,some key,some val,true=>.ok ⟨none,bl'.set i (.m kt vt (vx K d key val)),[i]⟩
      |_,_,_,_=>.no
    |none=>.no
   |_=>.no
 |_,_=>.no
theorem agF(a8:dl E)(hm:Mem E.T W M0 X bl ρ w){o:Oper}{t:Nat}{x y z:Operand}{u k v:aL E.T.El}{e:eG E.T.El}(h:(Oa E bl t u k v).out e)(au:o.op= .mapUpdate t x y z\/o.op= .insert t x y z)
 (P:ax E.T (bj X bl ρ w) w ρ bl u (a.eval x))(hy:ax E.T (bj X bl ρ w) w ρ bl k (a.eval y))(Q:ax E.T (bj X bl ρ w) w ρ bl v (a.eval z)):hB E o a W M0 X bl ρ w e:=by
 unfold Oa at h
 split at h
 ·rename_i i R aP_ C;split at h
  ·rename_i kt vt d hi;rw[dj]at hi;split at h
   ·rename_i K D;split at h;rename_i bl' cs S;split at h
    ·rename_i key val aJ W0 mM F;have h:(⟨none,bl'.set i (.m kt vt (vx K d key val)),[i]⟩:eG E.T.El)=e:=h;subst h;simp only[cd]at F;simp only[ax]at P;obtain⟨r,U,V⟩:=P;have Ky:a.eval y=K.enc key:=by have j:=a8.tb.hX _ _ _ W0 _ _ _ _ _ (pV hy);exact(T0 hy F.1).trans (a8.tb.key _ _ D _ _ _ _ j)
     obtain⟨Y,t1,v1⟩:=Ot hm S (pV Q);have f':=a8.tb.hX _ _ _ mM _ _ _ _ _ v1;have G:bl'[i]? =some (.m kt vt d):=by rcases Oq S i with e |⟨t',g',k',l',bR,dx⟩;exact e.trans hi;rw[hi]at bR;cases bR
     have l:Dg E.T (bj X bl' ρ w) w vt val (a.eval z):=⟨_,f',T0 Q F.2⟩
     obtain⟨e0,j,adT,Z,es,clock,m,A,bT,H⟩:=Y.ok i _ _ G U;simp only[Value.map.injEq,aF]at j;subst j;rw[D]at Z;cases Z;have hu:=YD C;have I:=afk aJ;have bD:r<w.heap.size:=(gz.1 m).1;have jL:∀L:Obj,br [r] w { w with heap:=w.heap.setIfInBounds r L }:=λ L=>⟨rfl,rfl,rfl,by simp,λ q _ aB=>by
      show(w.heap.setIfInBounds r L)[q]? =_
      rw[gm,nc (λ e=>aB (by simp[e]))]⟩
     refine hB.first t1 (λ i' Ko B' g' EV ag az aQ=>?_) ?_;simp only[dV]at Ko;subst Ko;rw[G]at ag;cases ag;exact⟨_,hi,aQ⟩
     have fin:∀(Dt:Array MapEntry)(s:Nat),sF E.P o a w { w with heap:=w.heap.setIfInBounds r (.map Dt s) } ->ka E.T (bj X bl' ρ w) w K Dt.toList (vx K d key val)->(Dt.toList.map (·.born)).Pairwise (·< ·)->(∀e∈Dt.toList,e.born<s) ->
      hB E o a W M0 X bl' ρ w ⟨none,bl'.set i (.m kt vt (vx K d key val)),[i]⟩:=λ Dt s XF h1 J ar=>by
      refine Pq (B':=aH.m kt vt (vx K d key val)) (w':={ w with heap:=w.heap.setIfInBounds r (.map Dt s) }) Y G U (by simpa[bF,ba.ag]using jL _) rfl ⟨rfl,rfl,cP _,λ _=>rfl⟩ XF (λ aG=>⟨r,rfl,K,D,Dt,s,by simp[bD],h1.law aG.F,J,ar⟩)
     rcases aa3 (vt:=vt) key I A w with⟨f1,B,f3⟩|⟨p,aqc,Im,f1,B,f3,f4⟩
     ·refine fin (es.push { key:=K.enc key,val:=a.eval z,born:=clock }) (clock+1) ?_ ?_ ?_ ?_
      ·rcases au with au |au<;>
       ·simp only[sF,execOp,au,V,Ky,Instr.mapUpdate,Sem.run_bind,run_underlying hu,Result.andThen_ok,MapKept.run_getObj_map m,@mA.check _ K.dec K.tl E.P w false R key I,f3,MapKept.run_setObj_map _ m];rfl
      ·simpa using af2 l A B
      ·simp only[Array.toList_push,jM,ez,ig,List.pairwise_append];refine⟨bT,by simp,λ b ag c hc=>?_⟩;obtain⟨e,g,rfl⟩:=hQ.1 ag;simp only[dV]at hc;subst hc;exact H e g
      ·intro e g;simp only[Array.toList_push,cf,dV]at g;rcases g with g |rfl;exact Nat.lt_succ_of_lt (H e g);exact lM _
     ·obtain⟨e,g,M⟩:=af1 (k:=key) A B;have N:es[p]? =some e:=by simpa using g
      have GQ:((es.modify p λ e=>{ e with key:=K.enc key,val:=a.eval z }).toList.map (·.born))=es.toList.map (·.born):=by
       rw[Array.toList_modify];apply kX;intro i;simp only[jv,List.getElem?_modify];cases hi:es.toList[i]? with
       |none=>simp
       |some e'=>by_cases O5:p=i<;>simp[O5]
      refine fin (es.modify p λ e=>{ e with key:=K.enc key,val:=a.eval z }) clock ?_ ?_ ?_ ?_
      ·have Kx:(Instr.keyThatStays e.key (K.enc key)).run E.P w= .ok (K.enc key) w:=by
        rw[M];simp only[Instr.keyThatStays,@mA.bits _ K.dec K.tl,if_true];rfl
       rcases au with au |au<;>
       ·simp only[sF,execOp,au,V,Ky,Instr.mapUpdate,Sem.run_bind,run_underlying hu,Result.andThen_ok,MapKept.run_getObj_map m,@mA.check _ K.dec K.tl E.P w false R key I,f4,N,fY,iX,Kx,MapKept.run_setObj_map _ m];rfl
      ·rw[Array.toList_modify];exact af3 l A B
      ·rw[GQ];exact bT
      ·intro j WG;have:j.born∈es.toList.map (·.born):=by rw[<-GQ];exact hQ.2 ⟨j,WG,rfl⟩
       obtain⟨ao,O,heq⟩:=hQ.1 this;rw[<-heq];exact H ao O
    ·exact h.elim
   ·exact h.elim
  ·exact h.elim
 ·exact h.elim
end
section
variable{P:Program}{w w':World}
def Gf(w:World)(sz m:Nat)(A:Option Addr)(news:List Value):Prop:=(m=0/\news=[])\/∃eo,A=some eo/\news.length=m*sz/\(∀j u,news[j]? =some u->w.cell? (eo.add j)=some u)/\∀u∈news,u.oneCell'=true
theorem aJx{t ty e:TypeId}{i:TypeInfo}(d:P.underlying t=some (.slice e))(hi:P.info? e=some i)(A b:Option Addr)(n c c2:Nat)(a:n<=c):(Builtin.append_ #[t,t] ty #[.slice A n c,.slice b 0 c2]).run P w= .ok (.slice A n c) w:=by cases A<;>cases b<;>simp[Builtin.append_,run_underlying d,Go.sizeOf,typeInfo,hi,Builtin.lenOf,Builtin.firstCells,a,storeCells,loadCells,loadCellsFrom]
theorem rowIs.short{t sz n c k:Nat}{A:Option Addr}{xs:List Value}(e:rowIs w t sz (.slice A n c) n xs)(b:k<=n):rowIs w t sz (.slice A k c) k (xs.take (k*sz)):=by
 have l:=e.len;have d:k*sz<=n*sz:=j8 sz b;rcases e with e |⟨rfl,rfl,cu,e⟩
 ·rcases e.2 with⟨a,m⟩|⟨g,cap,cur,a,J,f,o,h,i,j⟩
  ·simp only[Value.slice.injEq]at a;obtain⟨rfl,rfl,rfl⟩:=a;have:k=0:=by omega
   subst this;exact .inl ⟨by simp,.inl ⟨rfl,rfl⟩⟩
  ·simp only[Value.slice.injEq]at a;obtain⟨rfl,_,rfl⟩:=a;refine .inl ⟨by rw[gl];omega,.inr ⟨g,c,cur,rfl,J,f,by omega,h,i,?_⟩⟩;rw[<-j,List.take_take,l2 d]
 ·have:k=0:=by omega
  subst this;simp only[Value.slice.injEq]at e;obtain⟨rfl,_,rfl⟩:=e;exact .inr ⟨rfl,by simp,A,rfl⟩
theorem aef{t ty e:TypeId}{i:TypeInfo}{z:Value}{bytes sz:Nat}(s:P.underlying t=some (.slice e))(hi:P.info? e=some i)(C:i.zero=some z)(D:i.size=sz)(E:i.bytes=bytes)(F:z.cells.size=sz)(G:0<sz)
 {A v:Option Addr}{n c m c2:Nat}{xs news:List Value}(x:rowIs w e sz (.slice A n c) n xs)(aj:Gf w sz m v news)(H:n+m<=maxLen)(ag:(n+m)*bytes<=140737488355328) :
 ∃cu I w',(Builtin.append_ #[t,t] ty #[.slice A n c,.slice v m c2]).run P w= .ok (.slice cu (n+m) I) w'/\rowIs w' e sz (.slice cu (n+m) I) (n+m) (xs++news)/\br (ba.ag (.slice A n c)) w w'/\∀k∈ba.ag (.slice cu (n+m) I),k∈ba.ag (.slice A n c)\/(w.heap.size<=k/\k<w'.heap.size):=by
 have N:=x.cap
 rcases lI m with O |hm
 ·subst O;have K:news=[]:=by rcases aj with⟨_,h⟩|⟨_,_,h,_⟩;exact h;exact hD (by simpa using h)
  subst K;exact⟨A,c,w,aJx s hi A v n c c2 N.1,by simpa using x,br.refl _ _,λ k a=>.inl a⟩
 ·obtain⟨eo,rfl,L,M,Q⟩:∃eo,v=some eo/\news.length=m*sz/\(∀j u,news[j]? =some u->w.cell? (eo.add j)=some u)/\∀u∈news,u.oneCell'=true:=by
   rcases aj with⟨h,_⟩|h
   ·omega
   ·exact h
  have grow:∀ {d:Value}{w':World}{b:Nat},w'.ownsRow b e sz d (n+m) (xs++news)->∃g cap cur,d= .slice (some ⟨g,0,none⟩) (n+m) cap/\b<=g/\w'.heap[g]? =some (.cells cur e (0,0))/\n+m<=cap:=λ{d w' b} h=>by rcases h.2 with⟨_,O⟩|⟨g,cap,cur,S,J,T,U,_⟩;omega;exact⟨g,cap,cur,S,J,T,U⟩
  have o:∀ {d:Value}{w':World}{b:Nat},w'.ownsRow b e sz d (n+m) (xs++news)->w'.ownsRow 0 e sz d (n+m) (xs++news):=λ{d w' b} h=>⟨h.1,h.2.imp id λ⟨g,cap,cur,V,_,l⟩=>⟨g,cap,cur,V,gY _,l⟩⟩
  rcases lI c with hc |hc
  ·subst hc;have K:n=0:=by omega
   subst K;have W:xs=[]:=hD (by rw[x.len];simp);subst W;have X:ba.ag (.slice A 0 0)=[]:=by cases A<;>rfl
   rw[X];cases A with
   |none=>
    obtain⟨d,w',p,f,r,_,qc⟩:=run_append_own_at (P:=P) w w.heap.size t ty e i z sz bytes s hi C D E F G (.slice none 0 0) 0 [] ⟨by simp,.inl ⟨rfl,rfl⟩⟩ eo m c2 news L M Q H ag (cP _);obtain⟨g,cap,cur,rfl,y,l,R⟩:=grow (b:=w.heap.size) f;refine⟨_,_,w',p,.inl (o f),br.grown r,λ k a=>?_⟩;right;have:k=g:=by
     cases cap with
     |zero=>simp[ba.ag]at a
     |succ q=>simpa[ba.ag]using a
    subst this;exact⟨y,(gz.1 l).1⟩
   |some b=>
    obtain⟨d,w',p,f,r⟩:=run_append_arg_grows (P:=P) w t ty e i z sz bytes s hi C D E F G b 0 0 [] (by simp) (λ j u Y=>by simp at Y) eo m c2 news L M (by omega) H ag;obtain⟨g,cap,cur,rfl,y,l,R⟩:=grow (b:=w.heap.size) f;refine⟨_,_,w',p,.inl (o f),br.grown r,λ k a=>?_⟩;right;have:k=g:=by
     cases cap with
     |zero=>simp[ba.ag]at a
     |succ q=>simpa[ba.ag]using a
    subst this;exact⟨y,(gz.1 l).1⟩
  ·obtain⟨B,rfl⟩:=N.2.2.2 hc;have Z:w.ownsRow 0 e sz (.slice (some ⟨B,0,none⟩) n c) n xs:=by rcases x with h |⟨_,_,cu,h⟩;exact h;simp only[Value.slice.injEq]at h;omega
   obtain⟨d,w',p,f,r,_,qc⟩:=run_append_own_at (P:=P) w 0 t ty e i z sz bytes s hi C D E F G (.slice (some ⟨B,0,none⟩) n c) n xs Z eo m c2 news L M Q H ag (gY _);obtain⟨g,cap,cur,rfl,y,l,R⟩:=grow (b:=0) f;have Ka:ba.ag (.slice (some ⟨B,0,none⟩) n c)=[B]:=by
    cases c with
    |zero=>omega
    |succ c=>rfl
   rw[Ka];refine⟨_,_,w',p,.inl f,br.grown r,λ k a=>?_⟩;have:k=g:=by
    cases cap with
    |zero=>simp[ba.ag]at a
    |succ q=>simpa[ba.ag]using a
   subst this;rcases qc with dx |dx;left;simp only[Value.ownBlock,aF]at dx;simp[dx];right;simp only[Value.ownBlock,aF]at dx;rw[dx];refine⟨cP _,?_⟩;rw[<-dx];exact(gz.1 l).1
end
def uR(P:Program)(t:TypeId):Option (Nat×Nat×Nat):=match P.underlying t with
 |some (.slice e)=>match P.info? e with
  |some i=>match i.zero with
   |some z=>match cj z.cells.size i.size&&fg 0 i.size&&fg 0 i.bytes with
    |true=>some (e,i.size,i.bytes)
    |false=>none
   |none=>none
  |none=>none
 |_=>none
theorem zU{P:Program}{t e sz b4:Nat}(h:uR P t=some (e,sz,b4)):P.underlying t=some (.slice e)/\∃i z,P.info? e=some i/\i.zero=some z/\i.size=sz/\i.bytes=b4/\z.cells.size=sz/\0<sz/\0<b4:=by unfold uR at h;split at h;rename_i e' b;split at h;rename_i i J;split at h;rename_i z c;split at h;rename_i a;simp only[aF,cB]at h;obtain⟨rfl,rfl,rfl⟩:=h;simp only[cd]at a;exact⟨b,i,z,J,c,rfl,rfl,bd a.1.1,cJ a.1.2,cJ a.2⟩;cases h;cases h;cases h;cases h
def zN{El:Nat->Type}(t t':Nat)(l:List (El t)):Option (List (El t')):=match lL t t' with
 | .isTrue h=>some (h▸l)
 | .isFalse _=>none
def Hk{El:Nat->Type}{t:Nat}(e:b8 El t):List (List (aL El))->Option (List (El t))
 |[]=>some []
 |c::r=>match e.hX c,Hk e r with
  |some d,some ds=>some (d::ds)
  |_,_=>none
def Gq{α:Type}(sz:Nat):Nat->List α->List (List α)
 |0,_=>[]
 |n+1,l=>l.take sz::Gq sz n (l.drop sz)
def Ml(E:Env)(bl:List (aH E.T.El))(t:Nat):aL E.T.El->Option (List (E.T.El t))
 | .s t' l=>zN t' t l
 | .q t' l=>zN t' t l
 | .p (.slice none 0 0)=>some []
 | .p (.slice (some _) 0 _)=>some []
 | .r j g=>match nth bl j with
   |some (.r t' a _ l)=>match cj g a with
    |true=>zN t' t l
    |false=>none
   |some (.k _ sz a cs)=>match cj g a&&cj sz (E.T.ty t).size&&fg 0 sz with
    |true=>Hk (E.T.e t) (Gq sz (cs.length / sz) cs)
    |false=>none
   |_=>none
 | .v j g lo hi=>match nth bl j with
   |some (.r t' a _ l)=>match cj g a with
    |true=>zN t' t ((l.take hi.toNat).drop lo.toNat)
    |false=>none
   |_=>none
 |_=>none
section
variable{E:Env}{W w w':World}{M0:List Nat}{X:Nat->Prop}{n:cG}{f:cD E.T.El}{bl:List (aH E.T.El)}{ρ:List Value}{a:Act}{cur:List (Nat×Bool)}
theorem Gm{El:Nat->Type}{t t':Nat}{l:List (El t)}{l':List (El t')}(h:zN t t' l=some l'):∃e:t=t',e▸l=l':=by unfold zN at h;split at h;rename_i e _;simp only[aF]at h;exact⟨e,h⟩;cases h
theorem XQ(a8:dl E){F:Nat->Prop}{t sz:Nat}:∀(n:Nat){cs:List (aL E.T.El)}{vs:List Value}{l:List (E.T.El t)},a_ E.T F w ρ bl cs vs->vs.length=n*sz->Hk (E.T.e t) (Gq sz n cs)=some l->dN (E.T.ty t) F w vs l/\l.length=n
 |0,cs,vs,l,h,b,hi=>by simp only[Gq,Hk,aF]at hi;subst hi;exact⟨hD (by simpa using b),rfl⟩
 |n+1,cs,vs,l,h,b,hi=>by simp only[Gq,Hk]at hi;split at hi;rename_i d ds c J;simp only[aF]at hi;subst hi;have e:=a8.tb.hX _ _ _ c _ _ _ _ _ (a_.take sz h);obtain⟨g,i⟩:=XQ a8 n (a_.drop sz h) (by rw[j6,b,jP];omega) J;exact⟨⟨vs.take sz,vs.drop sz,(ju sz vs).symm,e,g⟩,by simp[i]⟩;cases hi
theorem amR{F:Nat->Prop}{t:Nat}{l:List (E.T.El t)}{A:Option Addr}{c:Nat}(h:(b7 (E.T.ty t)).rd F w [.slice A l.length c] l):∃news,Gf w (E.T.ty t).size l.length A news/\dN (E.T.ty t) F w news l:=by
 obtain⟨cu,m,d,ao,aW,bR,dx⟩:=h;simp only[hU,Value.slice.injEq,and_true,true_and]at d;obtain⟨rfl,rfl⟩:=d;by_cases e:l=[]
 ·subst e;exact⟨[],.inl ⟨rfl,rfl⟩,rfl⟩
 ·obtain⟨g,o,xs,b,i⟩:=dx e;exact⟨xs,.inr ⟨_,g,yu _ b,λ j u k=>by rw[lR];exact i j u k,HZ _ b⟩,b⟩
theorem aa2{t sz n c:Nat}{A:Option Addr}{xs:List Value}(h:rowIs w t sz (.slice A n c) n xs)(b:∀u∈xs,u.oneCell'=true):Gf w sz n A xs:=by rcases lI n with aE |aE;subst aE;exact .inl ⟨rfl,hD (by rw[h.len];simp)⟩;obtain⟨g,rfl,_,hc,_⟩:=vP aE h;exact .inr ⟨_,rfl,h.len,λ j u d=>by rw[lR];exact hc j u d,b⟩
theorem amQ(a8:dl E)(x:Mem E.T W M0 X bl ρ w){t:Nat}{y:aL E.T.El}{l:List (E.T.El t)}{v:Value}(h:Ml E bl t y=some l)(b:ax E.T (bj X bl ρ w) w ρ bl y v) :
 ∃A c news,v= .slice A l.length c/\Gf w (E.T.ty t).size l.length A news/\dN (E.T.ty t) (bj X bl ρ w) w news l:=by
 unfold Ml at h
 split at h
 ·obtain⟨rfl,rfl⟩:=Gm h;simp only[ax]at b;obtain⟨A,c,rfl⟩:=nb _ b;obtain⟨news,z,J⟩:=amR b;exact⟨A,c,news,rfl,z,J⟩
 ·obtain⟨rfl,rfl⟩:=Gm h;simp only[ax]at b;obtain⟨A,c,rfl⟩:=nb _ b.1;obtain⟨news,z,J⟩:=amR b.1;exact⟨A,c,news,rfl,z,J⟩
 ·simp only[aF]at h;subst h;simp only[ax]at b;exact⟨none,0,[],b,.inl ⟨rfl,rfl⟩,rfl⟩
 ·simp only[aF]at h;subst h;simp only[ax]at b;exact⟨_,_,[],b,.inl ⟨rfl,rfl⟩,rfl⟩
 ·rename_i j g;split at h;rename_i t' D k l' hi;rw[dj]at hi;split at h;rename_i ag;obtain⟨rfl,rfl⟩:=Gm h;simp only[ax]at b;obtain⟨_,aJ,p,F,e⟩:=b;rw[hi]at e;obtain⟨A,c,xs,i,ao,aW⟩:=x.ok j _ _ hi p;rw[e (bd ag),i];exact⟨A,c,xs,rfl,aa2 (i▸ao) (HZ _ aW),aW⟩;cases h
  ·rename_i t' sz D cs hi;rw[dj]at hi;split at h
   ·rename_i ag;simp only[cd]at ag;simp only[ax]at b;obtain⟨_,aJ,p,F,e⟩:=b;rw[hi]at e;obtain⟨A,m,c,xs,i,ao,aW⟩:=x.ok j _ _ hi p;have I:=cJ ag.2;have d:=aW.len;have J:=ao.len;have K:cs.length / sz=m:=by rw[<-d,J];exact Nat.mul_div_cancel _ I
    rw[K]at h;obtain⟨G,L⟩:=XQ a8 m aW J h;rw[e (bd ag.1.1),i,L];have:=aa2 (i▸ao) (HZ _ G);rw[bd ag.1.2]at this;exact⟨A,c,xs,rfl,this,G⟩
   ·cases h
  ·cases h
 ·rename_i j g lo o;split at h
  ·rename_i t' D k l' hi;rw[dj]at hi;split at h
   ·rename_i ag;obtain⟨rfl,rfl⟩:=Gm h;simp only[ax]at b;obtain⟨_,aJ,p,F,e⟩:=b;rw[hi]at e;obtain⟨cu,Q,R,B,C,l0,l1,S,M,U,N⟩:=e (bd ag);obtain⟨A,c,xs,i,ao,aW⟩:=x.ok j _ _ hi p;rw[i]at C ao;simp only[Value.slice.injEq]at C;obtain⟨rfl,rfl,rfl⟩:=C;have d:((l'.take o.toNat).drop lo.toNat).length=o.toNat-lo.toNat:=by rw[j6,gl];omega
    refine⟨B,c-lo.toNat,(xs.take (o.toNat*(E.T.ty t').size)).drop (lo.toNat*(E.T.ty t').size),by rw[d];exact M,?_,vN _ _ aW⟩;have r:=vN lo.toNat o.toNat aW;rcases Int.lt_or_le lo o with O |O1;right;obtain⟨gb,rfl⟩:=H5 ao (by omega);obtain⟨V,P,_,hc,_⟩:=vP (by omega) ao;cases P;refine⟨⟨gb,lo.toNat*(E.T.ty t').size,none⟩,by rw[N O];simp[lR,jU],yu _ r,λ q u s=>?_,HZ _ r⟩;rw[iF,hx]at s;split at s;rw[lR];have:=hc _ u s;simpa using this;cases s
    ·left;have:o.toNat-lo.toNat=0:=by omega
     have H:((l'.take o.toNat).drop lo.toNat)=[]:=hD (by rw[d];exact this);refine⟨by rw[H];rfl,?_⟩;rw[H]at r;exact r
   ·cases h
  ·cases h
 ·cases h
end
def Ry(E:Env)(bl:List (aH E.T.El))(t:Nat):aL E.T.El->Option (Option (Nat×Nat)×List (E.T.El t))
 | .p (.slice none 0 0)=>some (none,[])
 | .q _ []=>some (none,[])
 | .r i g=>match nth bl i with
   |some (.r t' a _ l)=>match cj g a,zN t' t l with
    |true,some l'=>some (some (i,g),l')
    |_,_=>none
   |_=>none
 | .v i g (.ofNat 0) hi=>match nth bl i with
   |some (.r t' a _ l)=>match cj g a,zN t' t (l.take hi.toNat)with
    |true,some l'=>some (some (i,g),l')
    |_,_=>none
   |_=>none
 |_=>none
def BI(E:Env)(bl:List (aH E.T.El))(e sz:Nat):aL E.T.El->Option (Option (Nat×Nat)×List (aL E.T.El))
 | .p (.slice none 0 0)=>some (none,[])
 | .q _ []=>some (none,[])
 | .r i g=>match nth bl i with
   |some (.k t' a b cs)=>match cj g b&&cj t' e&&cj a sz with
    |true=>some (some (i,g),cs)
    |false=>none
   |_=>none
 |_=>none
def UL(E:Env)(bl:List (aH E.T.El))(t:Nat)(u v:aL E.T.El):D (eG E.T.El):=match uR E.P t with
 |some (e,sz,b4)=>match cj sz (E.T.ty e).size,Ry E bl e u,Ml E bl e v with
  |true,some (none,_),some m=>.op (bI b4 [] m) λ l=>.ok ⟨some (.r bl.length 0),bl++[.r e 0 0 l],[]⟩
  |true,some (some (i,g),b),some m=>.op (bI b4 b m) λ l=>.ok ⟨some (.r i (g+1)),bl.set i (.r e (g+1) 0 l),[i]⟩
  |_,_,_=>match BI E bl e sz u,(match BI E bl e sz v with
   |some (_,m)=>match yn m with
    |true=>some m
    |false=>none
   |none=>none)with
    |some (none,_),some m=>.op (bI b4 [] (gk (m.length / sz) ())) λ _=>.ok ⟨some (.r bl.length 0),bl++[.k e sz 0 m],[]⟩
    |some (some (i,g),b),some m=>.op (bI b4 (gk (b.length / sz) ()) (gk (m.length / sz) ())) λ _=>.ok ⟨some (.r i (g+1)),bl.set i (.k e sz (g+1) (b++m)),[i]⟩
    |_,_=>.no
 |none=>.no
section
variable{E:Env}{W w w':World}{M0:List Nat}{X:Nat->Prop}{n:cG}{f:cD E.T.El}{bl:List (aH E.T.El)}{ρ:List Value}{a:Act}{cur:List (Nat×Bool)}
def TS(w:World)(bl:List (aH E.T.El))(ρ:List Value)(e sz n:Nat)(v:Value)(xs:List Value):Option (Nat×Nat)->Prop
 |none=>∃A,v= .slice A 0 0/\n=0/\xs=[]
 |some (i,g)=>∃A c h B,v= .slice A n c/\rowIs w e sz v n xs/\bl[i]? =some B/\ρ[i]? =some h/\bF B h=ba.ag v/\lv h/\b5 (some B)=g
theorem am1(s:Mem E.T W M0 X bl ρ w){e:Nat}{u:aL E.T.El}{v:Value}{p:Option (Nat×Nat)}{l:List (E.T.El e)}(h:Ry E bl e u=some (p,l))(b:ax E.T (bj X bl ρ w) w ρ bl u v) :
 ∃xs,TS (E:=E) w bl ρ e (E.T.ty e).size l.length v xs p/\dN (E.T.ty e) (bj X bl ρ w) w xs l:=by
 unfold Ry at h
 split at h
 ·simp only[aF,cB]at h;obtain⟨rfl,rfl⟩:=h;simp only[ax]at b;exact⟨[],⟨none,b,rfl,rfl⟩,rfl⟩
 ·simp only[aF,cB]at h;obtain⟨rfl,rfl⟩:=h;simp only[ax]at b;obtain⟨A,x⟩:=b.2;exact⟨[],⟨A,x,rfl,rfl⟩,rfl⟩
 ·rename_i i g;split at h;rename_i t' y k l' hi;rw[dj]at hi;split at h;rename_i t ag hc;simp only[aF,cB]at h;obtain⟨rfl,rfl⟩:=h;obtain⟨rfl,rfl⟩:=Gm hc;have ag:=bd ag;simp only[ax]at b;obtain⟨_,aJ,o,z,q⟩:=b;rw[hi]at q;have C:=q ag;obtain⟨A,c,xs,j,ao,aW⟩:=s.ok i _ _ hi o;rw[C];exact⟨xs,⟨A,c,aJ,_,j,ao,hi,o,rfl,by rw[j];trivial,ag.symm⟩,aW⟩;cases h;cases h
 ·rename_i i g m;split at h
  ·rename_i t' y k l' hi;rw[dj]at hi;split at h
   ·rename_i t ag hc;simp only[aF,cB]at h;obtain⟨rfl,rfl⟩:=h;obtain⟨rfl,rfl⟩:=Gm hc;have ag:=bd ag;simp only[ax]at b;obtain⟨_,aJ,o,z,q⟩:=b;rw[hi]at q;obtain⟨cu,H,I,B,r,l0,l1,t,D,F,_⟩:=q ag;obtain⟨A,c,xs,j,ao,aW⟩:=s.ok i _ _ hi o;rw[j]at r ao;simp only[Value.slice.injEq]at r;obtain⟨rfl,rfl,rfl⟩:=r;have G:=F rfl;subst G;have d:(l'.take m.toNat).length=m.toNat:=by rw[gl];omega
    have bR:=ao.short (k:=m.toNat) (by omega);have dx:v= .slice B m.toNat c:=by rw[D];simp
    rw[dx];refine⟨xs.take (m.toNat*(E.T.ty t').size),⟨B,c,aJ,_,by rw[d],by rw[d];exact bR,hi,o,by rw[j];cases B<;>cases c<;>rfl,by rw[j];trivial,ag.symm⟩,?_⟩;have:=vN 0 m.toNat aW;simpa using this
   ·cases h
  ·cases h
 ·cases h
theorem abu(o:Mem E.T W M0 X bl ρ w){e sz:Nat}{u:aL E.T.El}{v:Value}{p:Option (Nat×Nat)}{cs:List (aL E.T.El)}(q:0<sz)(h:BI E bl e sz u=some (p,cs))(b:ax E.T (bj X bl ρ w) w ρ bl u v) :
 ∃xs,TS (E:=E) w bl ρ e sz (cs.length / sz) v xs p/\a_ E.T (bj X bl ρ w) w ρ bl cs xs:=by
 unfold BI at h
 split at h
 ·simp only[aF,cB]at h;obtain⟨rfl,rfl⟩:=h;simp only[ax]at b;exact⟨[],⟨none,b,by simp,rfl⟩,by simp[a_]⟩
 ·simp only[aF,cB]at h;obtain⟨rfl,rfl⟩:=h;simp only[ax]at b;obtain⟨A,r⟩:=b.2;exact⟨[],⟨A,r,by simp,rfl⟩,by simp[a_]⟩
 ·rename_i i g;split at h
  ·rename_i t' s B t hi;rw[dj]at hi;split at h
   ·rename_i ag;simp only[cd]at ag;simp only[aF,cB]at h;obtain⟨rfl,rfl⟩:=h;have bO:=bd ag.1.1;have x:=bd ag.1.2;have e5:=bd ag.2;subst x;subst e5;simp only[ax]at b;obtain⟨_,aJ,j,C,k⟩:=b;rw[hi]at k;have y:=k bO;obtain⟨A,m,c,xs,l,ao,aW⟩:=o.ok i _ _ hi j;have d:=aW.len;have J:=ao.len;have z:t.length / s=m:=by rw[<-d,J];exact Nat.mul_div_cancel _ q
    rw[y,z];exact⟨xs,⟨A,c,aJ,_,l,ao,hi,j,rfl,by rw[l];trivial,bO.symm⟩,aW⟩
   ·cases h
  ·cases h
 ·cases h
theorem aeg(r:Mem E.T W M0 X bl ρ w){o:Oper}{t e sz b4:Nat}{x y:Operand}{p:Option (Nat×Nat)}{n m:Nat}{xs news:List Value}{C:Option Addr}{c2:Nat}(B':Nat->aH E.T.El)(he:uR E.P t=some (e,sz,b4))(au:o.op= .call { callee:=.builtin .append,args:=#[x,y],argTypes:=#[t,t] })
 (K:TS (E:=E) w bl ρ e sz n (a.eval x) xs p)(hy:a.eval y= .slice C m c2)(aj:Gf w sz m C news)(ag:(n+m)*b4<=140737488355328)
 (D:∀g,b5 (some (B' g))=g)(L:∀g h,bF (B' g) h=ba.ag h)
 (M:∀(bl':List (aH E.T.El))(ρ':List Value)(w':World)(g:Nat)(cu:Option Addr)(b:Nat),To X bl bl' ρ ρ' w w'->rowIs w' e sz (.slice cu (n+m) b) (n+m) (xs++news)->jF E.T (bj X bl' ρ' w') w' ρ' bl' (B' g) (.slice cu (n+m) b)) :
 hB E o a W M0 X bl ρ w (match p with
  |none=>⟨some (.r bl.length 0),bl++[B' 0],[]⟩
  |some (i,g)=>⟨some (.r i (g+1)),bl.set i (B' (g+1)),[i]⟩):=by
 obtain⟨N,i0,z,hi,O,P,J,Q,R,cQ⟩:=zU he
 have S:n+m<=maxLen:=by have eW:=mm (n+m) cQ;simp only[maxLen];omega
 have U:∀ {A:Option Addr}{c:Nat}{F:Value}{w':World},a.eval x= .slice A n c->(Builtin.append_ #[t,t] o.type #[.slice A n c,.slice C m c2]).run E.P w= .ok F w'->bh E.P o a w F w':=λ{A c F w'} l gM=>by simp only[bh,execOp,au,resolve,invoke,builtin,Sem.run_bind,Sem.run_pure,Result.andThen_ok,hz,ez,ig,l,hy,gM]
 cases p with
 |none=>
  obtain⟨A,l,rfl,rfl⟩:=K;obtain⟨cu,b,w',G,H,d,s⟩:=aef (w:=w) (ty:=o.type) N hi O P J Q R (show rowIs w e sz (.slice A 0 0) 0 [] from .inr ⟨rfl,rfl,A,rfl⟩) aj S ag;have rq:ba.ag (.slice A 0 0)=[]:=by cases A<;>rfl
  rw[rq]at d s;have ad:∀k∈bF (B' 0) (.slice cu (0+m) b),w.heap.size<=k/\k<w'.heap.size:=λ k j=>by rw[L]at j;rcases s k j with e |e;simp at e;exact e
  have q:=r.BJ (B:=B' 0) (h:=.slice cu (0+m) b) d ad;refine⟨w',ρ++[.slice cu (0+m) b],r.push d ad (M _ _ _ _ _ _ q H),q,λ k j _=>d.block k j (by simp),_,U l G,?_⟩;simp only[ax];refine⟨trivial,.slice cu (0+m) b,by rw[<-r.len];simp,gY _,λ _=>rfl⟩
 |some I=>obtain⟨i,g⟩:=I;obtain⟨A,c,h,B,l,V,u,v,Y,Xn,Z⟩:=K;rw[l]at V Y;obtain⟨cu,b,w',G,H,d,s⟩:=aef (w:=w) (ty:=o.type) N hi O P J Q R V aj S ag;rw[<-Y]at d s;have ad:∀k∈bF (B' (g+1)) (.slice cu (n+m) b),k∈bF B h\/(w.heap.size<=k/\k<w'.heap.size):=λ k j=>s k (by rw[L]at j;exact j);have q:=r.E5 (B':=B' (g+1)) (h':=.slice cu (n+m) b) u v d ad ⟨λ aB=>absurd Xn aB,by rw[D,Z];omega,λ e=>by rw[D,Z]at e;omega⟩;refine⟨w',ρ.set i (.slice cu (n+m) b),r.dD u v d ad q (M _ _ _ _ _ _ q H),q,λ k j c8=>d.block k j (c8 i (by simp) B h u v),_,U l G,?_⟩;simp only[ax];have l1:=(aR.1 u).1;have cz:=(aR.1 v).1;refine⟨trivial,_,gu cz,?_,λ _=>rfl⟩;rw[gu l1,D];exact cP _
theorem axS(a8:dl E)(z:Mem E.T W M0 X bl ρ w){o:Oper}{t:Nat}{x y:Operand}{u v:aL E.T.El}{r:eG E.T.El}(h:(UL E bl t u v).out r)(V:o.op= .call { callee:=.builtin .append,args:=#[x,y],argTypes:=#[t,t] })
 (H:ax E.T (bj X bl ρ w) w ρ bl u (a.eval x))(hy:ax E.T (bj X bl ρ w) w ρ bl v (a.eval y)):hB E o a W M0 X bl ρ w r:=by
 unfold UL at h
 split at h
 ·rename_i e sz b4 N;obtain⟨_,_,_,_,_,_,_,_,O,_⟩:=zU N
  have C:∀ {p:Option (Nat×Nat)}{b m l:List (E.T.El e)},cj sz (E.T.ty e).size=true->Ry E bl e u=some (p,b)->Ml E bl e v=some m->bI b4 b m=some l->hB E o a W M0 X bl ρ w (match p with
   |none=>⟨some (.r bl.length 0),bl++[.r e 0 0 l],[]⟩
   |some (i,g)=>⟨some (.r i (g+1)),bl.set i (.r e (g+1) 0 l),[i]⟩):=λ{p b m l} j J k s=>by
   have j:=bd j
   subst j
   obtain⟨ag,rfl⟩:=Nv s
   obtain⟨xs,P,Q⟩:=am1 z J H
   obtain⟨I,c2,news,K,L,gg⟩:=amQ a8 z k hy
   have:=aeg (B':=λ g=>aH.r e g 0 (b++m)) z N V P K L ag (λ _=>rfl) (λ _ _=>rfl) (λ bl' ρ' w' g cu R D S=>⟨cu,R,xs++news,by rw[dM],by rw[dM];exact S,LO _ (po _ D.F gg) (po _ D.F Q)⟩)
   cases p<;>exact this
  have F:∀ {p q:Option (Nat×Nat)}{b m:List (aL E.T.El)}{l:List Unit},BI E bl e sz u=some (p,b)->BI E bl e sz v=some (q,m)->yn m=true->bI b4 (gk (b.length / sz) ()) (gk (m.length / sz) ())=some l->hB E o a W M0 X bl ρ w (match p with
   |none=>⟨some (.r bl.length 0),bl++[.k e sz 0 (b++m)],[]⟩
   |some (i,g)=>⟨some (.r i (g+1)),bl.set i (.k e sz (g+1) (b++m)),[i]⟩):=λ{p q b m l} j J Y k=>by
   obtain⟨ag,_⟩:=Nv k
   simp only[j3]at ag
   obtain⟨xs,P,Q⟩:=abu z O j H
   obtain⟨ys,K,L⟩:=abu z O J hy
   have Z:∃I c2,a.eval y= .slice I (m.length / sz) c2/\Gf w sz (m.length / sz) I ys:=by
    cases q with
    |none=>obtain⟨A,M,ao,rfl⟩:=K;rw[ao];exact⟨A,0,M,.inl ⟨rfl,rfl⟩⟩
    |some aiM=>obtain⟨A,c,h,B,M,ao,_⟩:=K;rw[M]at ao;exact⟨A,c,M,aa2 ao (λ u hu=>kp.1 (Lv Y L) u hu)⟩
   obtain⟨I,c2,s1,s2⟩:=Z
   have:=aeg (B':=λ g=>aH.k e sz g (b++m)) z N V P s1 s2 ag (λ _=>rfl) (λ _ _=>rfl) (λ bl' ρ' w' g cu R D S=>⟨cu,_,R,xs++ys,rfl,S,a_.bI (D.vs Q) (D.vs L)⟩)
   cases p<;>exact this
  split at h
  ·rename_i b m j J k;obtain⟨l,s,d⟩:=h;have d:(⟨some (.r bl.length 0),bl++[.r e 0 0 l],[]⟩:eG E.T.El)=r:=d;subst d;have U:b=[]:=by obtain⟨xs,⟨A,_,ao,_⟩,_⟩:=am1 z J H;exact hD ao
   subst U;exact C (p:=none) j J k s
  ·rename_i i g b m j J k;obtain⟨l,s,d⟩:=h;have d:(⟨some (.r i (g+1)),bl.set i (.r e (g+1) 0 l),[i]⟩:eG E.T.El)=r:=d;subst d;exact C j J k s
  ·have G:∀ {m:List (aL E.T.El)},(match BI E bl e sz v with
    |some (_,m)=>match yn m with
     |true=>some m
     |false=>none
    |none=>none)=some m->∃q,BI E bl e sz v=some (q,m)/\yn m=true:=λ{m} h=>by
    split at h
    ·rename_i q fj aQ;split at h;rename_i kl;simp only[aF]at h;subst h;exact⟨q,aQ,kl⟩;cases h
    ·cases h
   split at h
   ·rename_i b m j J;obtain⟨q,J,k⟩:=G J;obtain⟨l,s,d⟩:=h;have d:(⟨some (.r bl.length 0),bl++[.k e sz 0 m],[]⟩:eG E.T.El)=r:=d;subst d;have U:b=[]:=by obtain⟨xs,⟨A,_,ao,aW⟩,bR⟩:=abu z O j H;subst aW;exact hD bR.len.symm
    subst U;exact F (p:=none) (b:=[]) j J k (by simpa using s)
   ·rename_i i g b m j J;obtain⟨q,J,k⟩:=G J;obtain⟨l,s,d⟩:=h;have d:(⟨some (.r i (g+1)),bl.set i (.k e sz (g+1) (b++m)),[i]⟩:eG E.T.El)=r:=d;subst d;exact F j J k s
   ·exact h.elim
 ·exact h.elim
end
def mw{α:Type}(z:List α):Nat->List α
 |0=>[]
 |n+1=>z++mw z n
theorem S5{α:Type}(z:List α):∀n,(mw z n).length=n*z.length
 |0=>by simp[mw]
 |n+1=>by simp only[mw,dM,S5 z n,jP];omega
theorem aqA{α:Type}{z:List α}:∀ {n i:Nat},i<n*z.length->(mw z n)[i]? =z[i%z.length]?
 |0,i,h=>by simp at h
 |n+1,i,h=>by simp only[mw];rcases gI i z.length with c |c;rw[er c,Nat.mod_eq_of_lt c];rw[eS c,aqA (by rw[jP]at h;omega),Nat.mod_eq_sub_mod c]
theorem aqz(a:Array Value)(n:Nat)(h:0<a.size):((Array.range (n*a.size)).map (a[·%a.size]!))=⟨mw a.toList n⟩:=by rw[<-Array.toList_inj];apply kX;intro i;rcases gI i (n*a.size)with c |c;simp only;rw[aqA (by simpa using c)];have b:i%a.size<a.size:=Nat.mod_lt _ h;simp[c,b];rw[gH (by simpa using c),gH (by rw[S5];simpa using c)]
theorem aqB{El:Nat->Type}(z:List Value):∀n,(mw z n).map (aL.p (El:=El))=mw (z.map .p) n
 |0=>rfl
 |n+1=>by simp[mw,aqB z n]
def agC(E:Env)(bl:List (aH E.T.El))(t n:Nat)(ps:List (Nat×aL E.T.El)):Option (eG E.T.El):=match uR E.P t,n,ps with
 |some (e,sz,_),0,[]=>match cj sz (E.T.ty e).size with
  |true=>some ⟨some (.r bl.length 0),bl++[.r e 0 0 []],[]⟩
  |false=>some ⟨some (.r bl.length 0),bl++[.k e sz 0 []],[]⟩
 |_,_,_=>none
def UW(E:Env)(bl:List (aH E.T.El))(t n:Nat)(ps:List (Nat×aL E.T.El)):D (eG E.T.El):=match uR E.P t with
 |some (e,sz,_)=>match FV E.P e,jw n 100000&&fg 0 n&&jw (n*sz) 16777216 with
  |some z,true=>match w3 (λ i=>some (i*sz,sz)) (mw (z.map .p) n) ps with
   |some cs=>match oW bl cs with
    |(bl',a)=>match cj sz (E.T.ty e).size,Hk (E.T.e e) (Gq sz n a)with
     |true,some l=>.ok ⟨some (.r bl'.length 0),bl'++[.r e 0 0 l],[]⟩
     |_,_=>.ok ⟨some (.r bl.length 0),bl++[.k e sz 0 cs],[]⟩
   |none=>.no
  |_,_=>.no
 |none=>.no
def UU(E:Env)(bl:List (aH E.T.El))(t n:Nat)(ps:List (Nat×aL E.T.El)):D (eG E.T.El):=match agC E bl t n ps with
 |some r=>.ok r
 |none=>UW E bl t n ps
def aa6:Operand->Operand->Bool
 | .tmp a,.tmp b=>cj a b
 | .const (.int .i64 m),.const (.int .i64 n)=>decide (m=n)
 |_,_=>false
theorem aJL{a:Act}{x y:Operand}(h:aa6 x y=true):a.eval x=a.eval y:=by unfold aa6 at h;split at h;rw[bd h];rw[of_decide_eq_true h];cases h
def U0(E:Env)(bl:List (aH E.T.El))(t:Nat)(x y:Operand)(u:aL E.T.El):D (eG E.T.El):=match uR E.P t,u with
 |some (e,sz,b4),.p (.int .i64 k)=>match cj sz (E.T.ty e).size,y6 E e e,aa6 x y with
  |true,some z0,true=>.op (x' z0 b4 k) λ l=>.ok ⟨some (.r bl.length 0),bl++[.r e 0 0 l],[]⟩
  |_,_,_=>.no
 |_,_=>.no
section
variable{E:Env}{W w w':World}{M0:List Nat}{X:Nat->Prop}{n:cG}{f:cD E.T.El}{bl:List (aH E.T.El)}{ρ:List Value}{a:Act}{cur:List (Nat×Bool)}
theorem Lp(c:Mem E.T W M0 X bl ρ w){o:Oper}{e sz n:Nat}{vs:List Value}{B:aH E.T.El}(r:b5 (some B)=0)(j:∀h,bF B h=ba.ag h)(d:vs.length=n*sz)(l:n<=maxLen)
 (m:∀(bl':List (aH E.T.El))(ρ':List Value)(w':World),To X bl bl' ρ ρ' w w'->rowIs w' e sz (.slice (some ⟨w.heap.size,0,none⟩) n n) n vs->jF E.T (bj X bl' ρ' w') w' ρ' bl' B (.slice (some ⟨w.heap.size,0,none⟩) n n))
 (hy:bh E.P o a w (.slice (some ⟨w.heap.size,0,none⟩) n n) (w.alloc (.cells ⟨vs⟩ e))):hB E o a W M0 X bl ρ w ⟨some (.r bl.length 0),bl++[B],[]⟩:=by
 have g:br [] w (w.alloc (.cells ⟨vs⟩ e)):=br.alloc _ _ _
 have p:rowIs (w.alloc (.cells ⟨vs⟩ e)) e sz (.slice (some ⟨w.heap.size,0,none⟩) n n) n vs:= .inl ⟨d,.inr ⟨w.heap.size,n,⟨vs⟩,rfl,gY _,heap_alloc_new w _,cP _,l,by simpa using d,by rw[<-d,jy]⟩⟩
 have ad:∀k∈bF B (.slice (some ⟨w.heap.size,0,none⟩) n n),w.heap.size<=k/\k<(w.alloc (.cells ⟨vs⟩ e)).heap.size:=λ k b=>by
  rw[j]at b;have:k=w.heap.size:=by
   cases n with
   |zero=>simp[ba.ag]at b
   |succ q=>simpa[ba.ag]using b
  subst this;simp
 have i:=c.BJ (B:=B) (h:=.slice (some ⟨w.heap.size,0,none⟩) n n) g ad
 refine⟨_,ρ++[.slice (some ⟨w.heap.size,0,none⟩) n n],c.push g ad (m _ _ _ i p),i,λ k b _=>g.block k b (by simp),_,hy,?_⟩
 simp only[ax]
 exact⟨trivial,.slice (some ⟨w.heap.size,0,none⟩) n n,by rw[<-c.len];simp,gY _,λ _=>rfl⟩
theorem ax1(a8:dl E)(D:Mem E.T W M0 X bl ρ w){o:Oper}{t n:Nat}{xs:List (Nat×Operand)}{ps:List (Nat×aL E.T.El)}{r:eG E.T.El}(h:(UW E bl t n ps).out r)(M:o.op= .buildSlice t n xs.toArray)
 (N:sC E.T (bj X bl ρ w) w ρ bl ps (xs.map λ p=>(p.1,a.eval p.2))):hB E o a W M0 X bl ρ w r:=by
 unfold UW at h
 split at h
 ·rename_i e sz b4 O;obtain⟨P,i0,e4,hi,Q,R,J,m,S,cQ⟩:=zU O;split at h
  ·rename_i z U ag;simp only[cd]at ag;have Ka:=cJ ag.1.1;have GN:=cJ ag.1.2;have OT:=cJ ag.2;obtain⟨g,F,s⟩:=M1 U;have V:g=e4:=by have j:=F w;simp only[zeroValue,typeInfo,Sem.run_bind]at j;simp[go_sem,hi,Q]at j;exact j.symm
   subst V;have u:z.length=sz:=by rw[<-m,s];simp
   split at h
   ·rename_i cs ad;obtain⟨os,Y,v⟩:=U_ (tR (mw z n)) N (by rw[aqB];exact ad)
    have x:os.length=n*sz:=by
     have j:=v.len;have key:∀ {ps:List (Nat×aL E.T.El)}{c d:List (aL E.T.El)},w3 (λ i=>some (i*sz,sz)) c ps=some d->d.length=c.length:=by
      intro ps;induction ps with
      |nil=>intro c d b;simp only[w3,aF]at b;rw[b]
      |cons p r Z=>intro c d b;obtain⟨i,y⟩:=p;simp only[w3]at b;split at b;rename_i G;simp only[cd]at G;rw[Z b,Yq (cJ G.2)];cases b
     rw[j,key ad,S5,hd,u]
    have k:=aqz g.cells n (by rw[m];exact S);rw[m,s]at k;have H:bh E.P o a w (.slice (some ⟨w.heap.size,0,none⟩) n n) (w.alloc (.cells ⟨os⟩ e)):=by
     have bq: ¬(n*sz>2^24):=by omega
     have bx:n*sz≠0:=by intro b;rcases Nat.mul_eq_zero.1 b with q |q<;>omega
     simp only[bh,execOp,M,Instr.buildSlice,Sem.run_bind,Sem.run_pure,run_sizeOf hi,R,F,Result.andThen_ok,run_underlying P,hz,nc bq,nc bx];have I:g.cells.size=sz:=m;rw[s]at I;simp only[s];rw[I,k,Y];rfl
    have K:n<=maxLen:=by simp only[maxLen];omega
    split at h;rename_i bl' kO ry;obtain⟨m1,t1,v1⟩:=Ot D ry v;split at h;rename_i l A al;have h:(⟨some (.r bl'.length 0),bl'++[.r e 0 0 l],[]⟩:eG E.T.El)=r:=h;subst h;have A:=bd A;obtain⟨b',L⟩:=XQ a8 n v1 x al;refine hB.first t1 (λ i hi=>by simp at hi) (Lp (e:=e) (sz:=sz) (n:=n) (vs:=os) m1 rfl (λ _=>rfl) x K (λ zJ mx c0 B C=>?_) H);subst A;exact⟨_,_,os,by rw[L],by rw[L];exact C,po _ B.F b'⟩;have h:(⟨some (.r bl.length 0),bl++[.k e sz 0 cs],[]⟩:eG E.T.El)=r:=h;subst h;exact Lp (e:=e) (sz:=sz) (n:=n) (vs:=os) D rfl (λ _=>rfl) x K (λ zJ mx c0 B C=>⟨_,_,_,os,rfl,C,B.vs v⟩) H
   ·exact h.elim
  ·exact h.elim
 ·exact h.elim
theorem ax2(a8:dl E)(c:Mem E.T W M0 X bl ρ w){o:Oper}{t n:Nat}{xs:List (Nat×Operand)}{ps:List (Nat×aL E.T.El)}{r:eG E.T.El}(h:(UU E bl t n ps).out r)(g:o.op= .buildSlice t n xs.toArray)
 (i:sC E.T (bj X bl ρ w) w ρ bl ps (xs.map λ p=>(p.1,a.eval p.2))):hB E o a W M0 X bl ρ w r:=by
 unfold UU at h
 split at h
 ·rename_i j b;have h:j=r:=h;subst h;unfold agC at b;split at b
  ·rename_i e sz b4 k;obtain⟨l,m,e4,hi,z,A,J,B,C,D⟩:=zU k
   have s:xs=[]:=by
    cases xs with
    |nil=>rfl
    |cons p q=>simp[sC]at i
   subst s;have hy:bh E.P o a w _ _:=aOg (sz:=m.size) l (λ w=>run_sizeOf hi w) g;split at b;rename_i ag;simp only[aF]at b;subst b;exact Lp (e:=e) (sz:=sz) (n:=0) (vs:=[]) c rfl (λ _=>rfl) (by simp) (gY _) (λ u v x y d=>⟨_,_,[],rfl,by rw[<-bd ag];exact d,rfl⟩) hy;simp only[aF]at b;subst b;exact Lp (e:=e) (sz:=sz) (n:=0) (vs:=[]) c rfl (λ _=>rfl) (by simp) (gY _) (λ u v x y d=>⟨_,_,_,[],rfl,d,rfl⟩) hy
  ·cases b
 ·exact ax1 a8 c h g i
theorem alY{α:Type}{T:dm α}{F:Nat->Prop}{w:World}{z:List Value}{z0:α}(h:T.rd F w z z0):∀n,dN T F w (mw z n) (gk n z0)
 |0=>rfl
 |n+1=>⟨z,mw z n,rfl,h,alY h n⟩
theorem ax7(a8:dl E)(A:Mem E.T W M0 X bl ρ w){o:Oper}{t:Nat}{x y:Operand}{u:aL E.T.El}{r:eG E.T.El}(h:(U0 E bl t x y u).out r)(B:o.op= .makeSlice t x y)(d:ax E.T (bj X bl ρ w) w ρ bl u (a.eval x)):hB E o a W M0 X bl ρ w r:=by
 unfold U0 at h;split at h
 ·rename_i e sz b4 k C;obtain⟨D,s,e4,hi,v,F,J,c,G,H⟩:=zU C;split at h
  ·rename_i z0 g b aj;obtain⟨l,I,i⟩:=h;have i:(⟨some (.r bl.length 0),bl++[.r e 0 0 l],[]⟩:eG E.T.El)=r:=i;subst i;have g:=bd g;obtain⟨K,Y,rfl⟩:=aE6 I;obtain⟨m,rfl⟩:=lH K;simp only[bV]at *
   have L:m<=b4*m:=Nat.le_mul_of_pos_left m H;have z:m<=maxLen:=by simp only[maxLen];omega
   simp only[ax]at d;have hy:a.eval y= .int .i64 (m:Int):=by rw[<-aJL aj,d]
   have M:(E.T.ty e).rd (bj X bl ρ w) w e4.cells.toList z0:=by
    unfold y6 at b;split at b
    ·rename_i N j;split at b
     ·have O:N=e4:=by
       simp only[IW,hi]at j;rw[v]at j;exact(eD j).symm
      subst O;exact a8.tb.hX _ _ _ b _ _ ρ bl _ (tR _)
     ·cases b
    ·cases b
   have Q:(s.bytes:Int)*(m:Int)<=281474976710656:=by
    rw[J];have R:((b4*m:Nat):Int)<=281474976710656:=by omega
    rwa [Int.natCast_mul]at R
   have p:=run_make (P:=E.P) w t e s e4 D hi v .i64 .i64 (m:Int) (m:Int) (by omega) (k7 _) Q (by simp only[maxLen]at z;omega);simp only[bV]at p;have q:madeCells e4.cells (m*sz)=⟨mw e4.cells.toList m⟩:=by have:=aqz e4.cells m (by rw[c];exact G);rw[c]at this;simp only[madeCells,c];exact this
   rw[F,q]at p;have S:bh E.P o a w (.slice (some ⟨w.heap.size,0,none⟩) m m) (w.alloc (.cells ⟨mw e4.cells.toList m⟩ e)):=by simp only[bh,execOp,B,d,hy,Sem.run_bind,p,Result.andThen_ok,Sem.run_pure]
   refine Lp (e:=e) (sz:=sz) (n:=m) (vs:=mw e4.cells.toList m) A rfl (λ _=>rfl) (by rw[S5];simp[c]) z (λ Z mx c0 U V=>?_) S;subst g;exact⟨_,_,_,by rw[j3],by rw[j3];exact V,alY ((E.T.ty e).law U.F M) m⟩
  ·exact h.elim
 ·exact h.elim
end
def anc(P:Program)(t:Nat):Bool:=match P.underlying t with
 |some (.int .u8)=>true
 |_=>false
def U5(E:Env)(bl:List (aH E.T.El))(s d:Nat)(u:aL E.T.El):D (eG E.T.El):=match E.P.underlying s,E.P.underlying d,u with
 |some .string,some (.slice e),.p (.string ⟨⟨l⟩⟩)=>match cj e E.mD,anc E.P E.mD with
  |true,true=>.op (bytesOf l) λ r=>.ok ⟨some (.s E.mD (E.Nx r)),bl,[]⟩
  |_,_=>.no
 |_,_,_=>.no
section
variable{E:Env}{W w w':World}{M0:List Nat}{X:Nat->Prop}{bl:List (aH E.T.El)}{ρ:List Value}{a:Act}
theorem aya(a8:dl E)(i:Mem E.T W M0 X bl ρ w){o:Oper}{s d:Nat}{x:Operand}{u:aL E.T.El}{r:eG E.T.El}(f:(U5 E bl s d u).out r)(A:o.op= .convert s d x)(p:ax E.T (bj X bl ρ w) w ρ bl u (a.eval x)):hB E o a W M0 X bl ρ w r:=by
 unfold U5 at f;split at f
 ·rename_i e l C D;split at f
  ·rename_i ag m;have ag:=bd ag;subst ag;have F:E.P.underlying E.mD=some (.int .u8):=by unfold anc at m;split at m;assumption;cases m
   obtain⟨q,c,J⟩:=f;have J:(⟨some (.s E.mD (E.Nx q)),bl,[]⟩:eG E.T.El)=r:=J;subst J;simp only[ax]at p;unfold bytesOf at c;split at c
   ·rename_i G;simp only[aF]at c;subst c;have t:=run_bytes_of_string (P:=E.P) w s d E.mD ⟨⟨l⟩⟩ C D F;have H:(⟨⟨l⟩⟩:ByteArray).size=l.length:=rfl;have hc:=grownCap_ge w l.length 0 E.mD;have v:=grownCap_le_maxLen w l.length 0 E.mD (by simp only[maxLen];omega);obtain⟨B,y⟩:∃B,B=bytesRow ⟨⟨l⟩⟩ (grownCap w l.length 0 E.mD):=⟨_,rfl⟩
    obtain⟨eP,z⟩:∃eP,eP=grownCap w l.length 0 E.mD:=⟨_,rfl⟩
    rw[H,<-y,<-z]at t;rw[<-z]at hc v;have hy:bh E.P o a w (.slice (some ⟨w.heap.size,0,none⟩) l.length eP) (w.drew.alloc (.cells B E.mD (B.size,B.size+1))):=by simp only[bh,execOp,A,p,Sem.run_bind,t,Result.andThen_ok];rfl
    have n:br [] w (w.drew.alloc (.cells B E.mD (B.size,B.size+1))):=(br.drew [] w).trans (br.alloc [] _ _) (by simp);refine⟨_,ρ,i.fi n,Mem.tZ n,λ k g _=>n.block k g (by simp),_,hy,?_⟩;simp only[ax];refine⟨_,eP,by rw[a8.aep],by rw[a8.aep];exact hc,v,(λ h=>by cases h),λ _=>⟨rfl,⟨?_,?_,by show w.heap.size<_;simp⟩,_,a8.au7 _ _ _ _ (alX l),λ j u aA=>?_⟩⟩;intro g;have c:w.heap.size<W.heap.size:=(i.ij _ g).1;have J:=i.bZ.size;omega;intro g;have c:w.heap.size<w.heap.size:=(i.lt _ g).1;omega
    ·rw[jv,cA]at aA;obtain⟨b,ag,rfl⟩:=aA;obtain⟨I,K⟩:=aR.1 ag;have:=bytesRow_at ⟨⟨l⟩⟩ (grownCap w l.length 0 E.mD) j (by simpa using I);rw[<-y]at this;show World.cell? _ ⟨w.heap.size,0+j,none⟩=_
     simp only[World.cell?,World.alloc];rw[show(w.drew.heap.push _)[w.heap.size]? =some _ from Array.getElem?_push_size (xs:=w.heap)];simp only[jO,this];simp[K]
   ·cases c
  ·exact f.elim
 ·exact f.elim
end
def UM(E:Env)(bl:List (aH E.T.El))(t tn:Nat)(u v:aL E.T.El):D (eG E.T.El):=match uR E.P t,ly (E.P.underlying tn),u,v with
 |some (e,sz,b4),some (.i .i64),.p (.slice none 0 0),.p (.int .i64 k)=>match cj sz 1&&cj (E.T.ty e).size 1,y6 E e e with
  |true,some z0=>.op (Jo z0 b4 k) λ l=>.ok ⟨some (.r bl.length 0),bl++[.r e 0 0 l],[]⟩
  |_,_=>.no
 |_,_,_,_=>.no
section
variable{E:Env}{W w w':World}{M0:List Nat}{X:Nat->Prop}{n:cG}{f:cD E.T.El}{bl:List (aH E.T.El)}{ρ:List Value}{a:Act}{cur:List (Nat×Bool)}
theorem axR(a8:dl E)(g:Mem E.T W M0 X bl ρ w){o:Oper}{t tn:Nat}{x y:Operand}{u v:aL E.T.El}{r:eG E.T.El}(h:(UM E bl t tn u v).out r)(M:o.op= .call { callee:=.builtin .append,args:=#[x,y],argTypes:=#[t,tn] })
 (G:ax E.T (bj X bl ρ w) w ρ bl u (a.eval x))(H:ax E.T (bj X bl ρ w) w ρ bl v (a.eval y)):hB E o a W M0 X bl ρ w r:=by
 unfold UM at h
 split at h
 ·rename_i e sz b4 k N i;obtain⟨O,Q,e4,hi,I,R,J,d,ho,S⟩:=zU N;have p:=xL i;split at h
  ·rename_i z0 ag b;simp only[cd]at ag;have aj:=bd ag.1;have U:=bd ag.2;subst aj;obtain⟨l,V,s⟩:=h;have s:(⟨some (.r bl.length 0),bl++[.r e 0 0 l],[]⟩:eG E.T.El)=r:=s;subst s;obtain⟨Y,bn,rfl⟩:=au3 V;obtain⟨m,rfl⟩:=lH (Int.le_of_lt Y);simp only[bV]at *
   have Z:m<=b4*m:=Nat.le_mul_of_pos_left m S;simp only[ax]at G H;have f':(E.T.ty e).rd (bj X bl ρ w) w e4.cells.toList z0:=by
    unfold y6 at b;split at b
    ·rename_i M2 z;split at b
     ·have ai:M2=e4:=by
       simp only[IW,hi]at z;rw[I]at z;exact(eD z).symm
      subst ai;exact a8.tb.hX _ _ _ b _ _ ρ bl _ (tR _)
     ·cases b
    ·cases b
   obtain⟨eP,A⟩:∃eP,e4.cells= #[eP]:=by
    revert d;generalize e4.cells=cs;obtain⟨l⟩:=cs;intro d;cases l with
    |nil=>simp at d
    |cons c r=>cases r with
     |nil=>exact⟨c,rfl⟩
     |cons _ _=>simp at d
   have gM:=Lib.run_append_nil_zeros (P:=E.P) w t tn o.type e Q e4 .i64 .i64 O p hi I m (by omega) (by omega) (by omega) (by rw[J,Nat.mul_comm];omega);let cap:=grownCap w m 0 e;have GR:m<=cap:=grownCap_ge w m 0 e;have Kf:cap<=maxLen:=grownCap_le_maxLen w m 0 e (by simp only[maxLen];omega);have XH:∀q,(Builtin.zeroCells e4.cells q).toList=gk q eP:=by intro q;rw[A];apply List.ext_getElem;simp[Builtin.zeroCells];intro j R J;simp[Builtin.zeroCells,Nat.mod_one]
   let cur:=Builtin.zeroCells e4.cells m++Builtin.zeroCells e4.cells (cap-m);have hcs:cur.size=cap:=by simp only[cur,Array.size_append,size_zeroCells,A];simp;omega
   have p':bh E.P o a w (.slice (some ⟨w.heap.size,0,none⟩) m cap) (w.drew.alloc (.cells cur e)):=by simp only[bh,execOp,M,resolve,invoke,builtin,Sem.run_bind,Sem.run_pure,Result.andThen_ok,hz,ez,ig,G,H,gM,cap,cur]
   have C:br [] w (w.drew.alloc (.cells cur e)):=(br.drew [] w).trans (br.alloc [] w.drew (.cells cur e)) (by simp);have DS:w.drew.heap.size=w.heap.size:=rfl;have o7:rowIs (w.drew.alloc (.cells cur e)) e 1 (.slice (some ⟨w.heap.size,0,none⟩) m cap) m (gk m eP):=by refine .inl ⟨by simp,.inr ⟨w.heap.size,cap,cur,rfl,gY _,?_,GR,Kf,by simp[hcs],?_⟩⟩;rw[<-DS];exact heap_alloc_new w.drew _;simp only[cur,Array.toList_append,XH,jR];rw[j5 (by simp),hS (by simp)]
   have u5:cap=(cap-1)+1:=by omega
   have ad:∀q∈bF (aH.r (El:=E.T.El) e 0 0 (gk m z0)) (.slice (some ⟨w.heap.size,0,none⟩) m cap),w.heap.size<=q/\q<(w.drew.alloc (.cells cur e)).heap.size:=λ q K=>by
    rw[u5]at K;have:q=w.heap.size:=by simpa[bF,ba.ag]using K
    subst this;simp
   have L:=g.BJ (B:=aH.r e 0 0 (gk m z0)) (h:=.slice (some ⟨w.heap.size,0,none⟩) m cap) C ad;have D:∀(q:Nat)(F:Nat->Prop)(w':World),(E.T.ty e).rd F w' [eP] z0->dN (E.T.ty e) F w' (gk q eP) (gk q z0):=λ q F w' h=>by
    induction q with
    |zero=>rfl
    |succ q a'=>exact⟨[eP],gk q eP,rfl,h,a'⟩
   refine⟨_,ρ++[.slice (some ⟨w.heap.size,0,none⟩) m cap],g.push C ad ⟨some ⟨w.heap.size,0,none⟩,cap,gk m eP,by rw[j3],by rw[U,j3];exact o7,D m _ _ ?_⟩,L,λ k i _=>C.block k i (by simp),_,p',?_⟩;have:=(E.T.ty e).law L.F f';rwa [A]at this;simp only[ax];exact⟨trivial,.slice (some ⟨w.heap.size,0,none⟩) m cap,by rw[<-g.len];simp,gY _,λ _=>rfl⟩
  ·exact h.elim
 ·exact h.elim
end
end ba
namespace I
def gf{α:Type}(l:List α)(p:Nat)(ds:List α):List α:=l.take p++ds++l.drop (p+ds.length)
theorem HJ{α:Type}{l:List α}{p:Nat}{ds:List α}(h:p+ds.length<=l.length):(gf l p ds).length=l.length:=by simp[gf];omega
end I
namespace ba
open Go Go.RowKit ay I
theorem agH(b:Nat):∀(vs:List Value)(o:Nat)(w:World),br [b] w (w.setCells b o vs)
 |[],_,w=>br.refl _ w
 |v::r,o,w=>(br.set w ⟨b,o,none⟩ v).trans (agH b r (o+1) _) (λ x a=>.inl a)
theorem amC(b:Nat)(e:TypeId)(a:Nat×Nat):∀(vs:List Value)(o:Nat)(w:World)(cur:List Value),w.heap[b]? =some (.cells cur.toArray e a)->o+vs.length<=cur.length ->
 (w.setCells b o vs).heap[b]? =some (.cells (gf cur o vs).toArray e a)
 |[],o,w,cur,h,_=>by simpa[World.setCells,gf]using h
 |v::r,o,w,cur,h,d=>by
  simp only[di]at d;have ag:b<w.heap.size:=by rcases gI b w.heap.size with h' |h';exact h';rw[h6 h']at h;cases h
  have f:(w.setCell ⟨b,o,none⟩ v).heap[b]? =some (.cells (cur.set o v).toArray e a):=by simp only[World.setCell,j2,nf,h,fY];simp
  have:=amC b e a r (o+1) _ (cur.set o v) f (by simp;omega);show((w.setCell ⟨b,o,none⟩ v).setCells b (o+1) r).heap[b]? =_
  rw[this];have g:cur.set o v=cur.take o++v::cur.drop (o+1):=by rw[List.set_eq_take_append_cons_drop,nf (by omega)]
  have c:(cur.take o).length=o:=by rw[gl];omega
  have i:(cur.set o v).take (o+1)=cur.take o++[v]:=by rw[g,k3,c,hS (by rw[c];omega)];simp
  have ao:(cur.set o v).drop (o+1+r.length)=cur.drop (o+(v::r).length):=by rw[List.drop_set_of_lt (by omega)];congr 1;simp;omega
  simp only[gf];rw[i,ao];simp
theorem aGe{α:Type}{l ds:List α}{p n:Nat}(h:p+ds.length<=n)(a:n<=l.length):(gf l p ds).take n=gf (l.take n) p ds:=abl h a
structure TB (El:Nat->Type) where
 i:Nat
 t:Nat
 g:Nat
 k:Nat
 l:List (El t)
 lo:Int
 hi:Int
def QI{El:Nat->Type}(bl:List (aH El)):aL El->Option (TB El)
 | .v i g lo hi=>match nth bl i with
   |some (.r t a k l)=>match cj g a with
    |true=>some ⟨i,t,a,k,l,lo,hi⟩
    |false=>none
   |_=>none
 | .r i g=>match nth bl i with
   |some (.r t a k l)=>match cj g a with
    |true=>some ⟨i,t,a,k,l,0,(l.length:Int)⟩
    |false=>none
   |_=>none
 |_=>none
def UQ(E:Env)(bl:List (aH E.T.El))(t:Nat)(u v:aL E.T.El):D (eG E.T.El):=match uR E.P t,QI bl u with
 |some (_,n,_),some p=>match cj n 1&&cj (E.T.ty p.t).size 1,Ml E bl p.t v with
  |true,some m=>.op (yk (decide (0<p.l.length))) λ _=>.ok ⟨some (.p (.int .i64 ((m.take (p.hi-p.lo).toNat).length:Int))),bl.set p.i (.r p.t p.g (p.k+1) (gf p.l p.lo.toNat (m.take (p.hi-p.lo).toNat))),[p.i]⟩
  |_,_=>.no
 |_,_=>.no
def UP(E:Env)(bl:List (aH E.T.El))(t:Nat)(u:aL E.T.El):D (eG E.T.El):=match uR E.P t,QI bl u with
 |some (e,sz,_),some p=>match cj sz 1&&cj (E.T.ty p.t).size 1&& !(E.T.e p.t).agg,y6 E p.t e with
  |true,some z0=>.op (yk (decide (p.lo<p.hi))) λ _=>.ok ⟨some (.u []),bl.set p.i (.r p.t p.g (p.k+1) (gf p.l p.lo.toNat (gk (p.hi-p.lo).toNat z0))),[p.i]⟩
  |_,_=>.no
 |_,_=>.no
section
variable{E:Env}{W w w':World}{M0:List Nat}{X:Nat->Prop}{n:cG}{f:cD E.T.El}{bl:List (aH E.T.El)}{ρ:List Value}{a:Act}{cur:List (Nat×Bool)}
theorem alg(r:Mem E.T W M0 X bl ρ w){u:aL E.T.El}{v:Value}{p:TB E.T.El}(h:QI bl u=some p)(x:(E.T.ty p.t).size=1)(q:ax E.T (bj X bl ρ w) w ρ bl u v) :
 bl[p.i]? =some (.r p.t p.g p.k p.l)/\0<=p.lo/\p.lo<=p.hi/\p.hi<=p.l.length/\∃A c B j,ρ[p.i]? =some (.slice A p.l.length c)/\v= .slice B (p.hi.toNat-p.lo.toNat) j/\(p.lo<p.hi->B=A.map (·.add p.lo.toNat)):=by
 unfold QI at h
 split at h
 ·rename_i i g lo hi;split at h;rename_i t y k l b;rw[dj]at b;split at h;rename_i ag;simp only[aF]at h;subst h;simp only[ax]at q;obtain⟨_,aJ,m,z,o⟩:=q;rw[b]at o;obtain⟨A,n,c,B,s,ao,aW,bR,dx,eV,kP⟩:=o (bd ag);obtain⟨cu,j,xs,d,C,D⟩:=r.ok _ _ _ b m;rw[s]at d;simp only[Value.slice.injEq]at d;obtain⟨rfl,rfl,rfl⟩:=d;refine⟨b,ao,aW,bR,A,c,B,_,s▸m,dx,λ F=>?_⟩;have:=kP F;simp only[jU,x,jR]at this;exact this;cases h;cases h
 ·rename_i i g;split at h
  ·rename_i t y k l b;rw[dj]at b;split at h
   ·rename_i ag;simp only[aF]at h;subst h;simp only[ax]at q;obtain⟨_,aJ,m,z,o⟩:=q;rw[b]at o;have e:=o (bd ag);subst e;obtain⟨cu,j,xs,d,C,D⟩:=r.ok _ _ _ b m;refine⟨b,k7 _,by simp,k7 _,cu,j,cu,j,d▸m,by simpa using d,λ _=>?_⟩;cases cu with
    |none=>rfl
    |some eo=>simp[Addr.add]
   ·cases h
  ·cases h
 ·cases h
theorem ame(m:Mem E.T W M0 X bl ρ w){o:Oper}{p:TB E.T.El}{A:Option Addr}{c:Nat}(hi:bl[p.i]? =some (.r p.t p.g p.k p.l))(d:ρ[p.i]? =some (.slice A p.l.length c))(g:(E.T.ty p.t).size=1){q:Nat}{ds:List (E.T.El p.t)}{vs:List Value}(x:dN (E.T.ty p.t) (bj X bl ρ w) w vs ds)(z:0<p.l.length)(i:q+ds.length<=p.l.length) :
 ∃gb,A=some ⟨gb,0,none⟩/\vs.length=ds.length/\(∀j,j<p.l.length->(w.cell? ⟨gb,j,none⟩).isSome=true)/\(∀j,w.frozen? ⟨gb,j,none⟩=false)/\
  ∀ {r:Value}{y:aL E.T.El},(∀(F:Nat->Prop)(w:World)(ρ:List Value)(bl:List (aH E.T.El)),ax E.T F w ρ bl y r)->bh E.P o a w r (w.setCells gb q vs)->hB E o a W M0 X bl ρ w ⟨some y,bl.set p.i (.r p.t p.g (p.k+1) (gf p.l q ds)),[p.i]⟩:=by
 obtain⟨cu,V,xs,B,C,D⟩:=m.ok _ _ _ hi d
 simp only[Value.slice.injEq,true_and]at B
 obtain⟨rfl,rfl⟩:=B
 obtain⟨gb,rfl,Y,hc,L⟩:=vP z C
 have s:=yu _ x
 rw[g,jR]at s
 have G:=yu _ D
 rw[g,jR]at G
 have H:=C.own z
 rw[g]at H
 rcases H.2 with⟨_,Z⟩|⟨g',cap,cur,I,ao,aW,bR,dx,eV,kP⟩
 ·omega
 simp only[Value.slice.injEq,aF,Addr.mk.injEq,and_true,true_and]at I
 obtain⟨rfl,rfl⟩:=I
 rw[jR]at eV kP
 have M:(⟨cur.toList⟩:Array Value)=cur:=by simp
 refine⟨gb,rfl,s,λ j aA=>?_,λ j=>by simp[World.frozen?,aW],λ{r y} hy N=>?_⟩
 ·have:j<cur.size:=by omega
  simp[World.cell?,aW,this]
 have O:bF (aH.r p.t p.g p.k p.l) (.slice (some ⟨gb,0,none⟩) p.l.length c)=[gb]:=L _
 have t:br (bF (aH.r p.t p.g p.k p.l) (.slice (some ⟨gb,0,none⟩) p.l.length c)) w (w.setCells gb q vs):=by rw[O];exact agH gb vs q w
 have u:=amC gb p.t (0,0) vs q w cur.toList (by rw[<-M]at aW;exact aW) (by simp;omega)
 have P:rowIs (w.setCells gb q vs) p.t 1 (.slice (some ⟨gb,0,none⟩) p.l.length c) p.l.length (gf xs q vs):=by refine .inl ⟨by rw[HJ (by omega),G,jR],.inr ⟨gb,c,_,rfl,ao,u,bR,dx,?_,?_⟩⟩;have:=HJ (l:=cur.toList) (p:=q) (ds:=vs) (by simp;omega);simpa[eV]using this;simp only[jR];rw[aGe (by omega) (by simp;omega),kP]
 have ad:∀k∈bF (aH.r p.t p.g (p.k+1) (gf p.l q ds)) (.slice (some ⟨gb,0,none⟩) p.l.length c),k∈bF (aH.r p.t p.g p.k p.l) (.slice (some ⟨gb,0,none⟩) p.l.length c)\/(w.heap.size<=k/\k<(w.setCells gb q vs).heap.size):=λ k v=>.inl v
 have Q:∀ {h:Value},(¬lv h->h=h)/\b5 (some (aH.r p.t p.g p.k p.l))<=b5 (some (aH.r p.t p.g (p.k+1) (gf p.l q ds)))/\(b5 (some (aH.r p.t p.g (p.k+1) (gf p.l q ds)))=b5 (some (aH.r p.t p.g p.k p.l))->h=h/\jU E.T (some (aH.r p.t p.g (p.k+1) (gf p.l q ds)))=jU E.T (some (aH.r p.t p.g p.k p.l))/\hs (some (aH.r p.t p.g p.k p.l))<=hs (some (aH.r p.t p.g (p.k+1) (gf p.l q ds)))/\(hs (some (aH.r p.t p.g (p.k+1) (gf p.l q ds)))=hs (some (aH.r p.t p.g p.k p.l))->jT (some (aH.r p.t p.g (p.k+1) (gf p.l q ds)))=jT (some (aH.r p.t p.g p.k p.l)))):=λ{h}=>⟨λ _=>rfl,cP _,λ _=>⟨rfl,rfl,Nat.le_succ _,λ e=>by simp[hs]at e⟩⟩
 have b:=m.E5 (B':=aH.r p.t p.g (p.k+1) (gf p.l q ds)) (h':=.slice (some ⟨gb,0,none⟩) p.l.length c) hi d t ad Q
 have aj:=H9 d
 have R:dN (E.T.ty p.t) (bj X (bl.set p.i (.r p.t p.g (p.k+1) (gf p.l q ds))) ρ (w.setCells gb q vs)) (w.setCells gb q vs) (gf xs q vs) (gf p.l q ds):=by rw[aj]at b;have J:=po _ b.F D;have S:=po _ b.F x;have c1:=vN 0 q J;have c2:=vN (q+ds.length) p.l.length J;rw[g]at c1 c2;simp only[jR,Nat.zero_mul,hf]at c1 c2;rw[hS (by omega),hS (by omega)]at c2;have:=LO _ c2 (LO _ S c1);unfold gf;rw[s];exact this
 have K:=m.dD (B':=aH.r p.t p.g (p.k+1) (gf p.l q ds)) (h':=.slice (some ⟨gb,0,none⟩) p.l.length c) hi d t ad b (by rw[aj];exact⟨some ⟨gb,0,none⟩,c,gf xs q vs,by rw[HJ i],by rw[g,HJ i];exact P,R⟩)
 rw[aj]at K b
 exact⟨_,ρ,K,b,λ k v U=>t.block k v (U p.i (by simp) _ _ hi d),r,N,hy _ _ _ _⟩
theorem axW(a8:dl E)(i:Mem E.T W M0 X bl ρ w){o:Oper}{t:Nat}{x y:Operand}{u v:aL E.T.El}{r:eG E.T.El}(h:(UQ E bl t u v).out r)(z:o.op= .call { callee:=.builtin .copy,args:=#[x,y],argTypes:=#[t,t] })
 (J:ax E.T (bj X bl ρ w) w ρ bl u (a.eval x))(hy:ax E.T (bj X bl ρ w) w ρ bl v (a.eval y)):hB E o a W M0 X bl ρ w r:=by
 unfold UQ at h
 split at h
 ·rename_i e n b4 p K L;obtain⟨C,i0,e4,M,o8,N,km,O,ho,Q⟩:=zU K;split at h
  ·rename_i m ag R;simp only[cd]at ag;have S:=bd ag.1;have d:=bd ag.2;subst S;obtain⟨_,kT,h⟩:=h;have kT:0<p.l.length:=of_decide_eq_true (Y4 kT);have h:(⟨some (.p (.int .i64 ((m.take (p.hi-p.lo).toNat).length:Int))),bl.set p.i (.r p.t p.g (p.k+1) (gf p.l p.lo.toNat (m.take (p.hi-p.lo).toNat))),[p.i]⟩:eG E.T.El)=r:=h;subst h;obtain⟨hi,l1,cz,ko,A,c,B,D,U,G,ao⟩:=alg i L d J;obtain⟨V,c2,news,H,Y,I⟩:=amQ a8 i R hy;have Z:=yu _ I;rw[d,jR]at Z;have b:(m.take (p.hi-p.lo).toNat).length=Nat.min m.length (p.hi.toNat-p.lo.toNat):=by rw[gl,Nat.min_comm];congr 1;omega
   have k:=vN 0 (p.hi-p.lo).toNat I;rw[d]at k;simp only[jR,Nat.zero_mul,hf]at k;have Pb:(E.P.info? e).map (·.size)=some 1:=by rw[M];simp[N]
   obtain⟨gb,rfl,g,jK,Ki,fin⟩:=ame (o:=o) (a:=a) (q:=p.lo.toNat) i hi U d k kT (by rw[b];have:=Nat.min_le_right m.length (p.hi.toNat-p.lo.toNat);have e:Nat.min m.length (p.hi.toNat-p.lo.toNat)=min m.length (p.hi.toNat-p.lo.toNat):=rfl;omega);refine fin (r:=.int .i64 ((m.take (p.hi-p.lo).toNat).length:Int)) (λ F w ρ bl=>by simp only[ax]) ?_;rcases lI (m.take (p.hi-p.lo).toNat).length with aE |aE;have l:=run_copy_none (P:=E.P) w t t o.type e B V (p.hi.toNat-p.lo.toNat) D m.length c2 C Pb (by rw[<-b];exact aE);have cc:news.take (p.hi-p.lo).toNat=[]:=hD (g.trans aE);rw[cc,aE];simp only[bh,execOp,z,resolve,invoke,builtin,Sem.run_bind,Sem.run_pure,Result.andThen_ok,hz,ez,ig,G,H,l];rfl
   ·have bD:p.lo<p.hi:=by
     rw[b]at aE;have e:Nat.min m.length (p.hi.toNat-p.lo.toNat)=min m.length (p.hi.toNat-p.lo.toNat):=rfl;omega
    rcases Y with⟨bq,_⟩|⟨eo,rfl,bx,bT,fL⟩
    ·rw[b,bq]at aE;have e:Nat.min 0 (p.hi.toNat-p.lo.toNat)=min 0 (p.hi.toNat-p.lo.toNat):=rfl;omega
    ·have s:=ao bD;have s:B=some ⟨gb,p.lo.toNat,none⟩:=by rw[s];simp[Addr.add];try omega
     subst s;have l:=run_copy_cells (P:=E.P) w t t o.type e gb p.lo.toNat (p.hi.toNat-p.lo.toNat) D eo m.length c2 (news.take (p.hi-p.lo).toNat) C Pb (by rw[g,b]) (λ j u aA=>by
      rw[hx]at aA;split at aA;exact bT j u aA
      ·cases aA) (λ j aA=>jK _ (by rw[g,b]at aA;have e:Nat.min m.length (p.hi.toNat-p.lo.toNat)=min m.length (p.hi.toNat-p.lo.toNat):=rfl;omega)) (λ j _=>Ki _) (λ v af=>fL v (List.mem_of_mem_take af))
     rw[<-g];simp only[bh,execOp,z,resolve,invoke,builtin,Sem.run_bind,Sem.run_pure,Result.andThen_ok,hz,ez,ig,G,H,l];rfl
  ·exact h.elim
 ·exact h.elim
theorem axV(a8:dl E)(C:Mem E.T W M0 X bl ρ w){o:Oper}{t:Nat}{x:Operand}{u:aL E.T.El}{r:eG E.T.El}(h:(UP E bl t u).out r)(K:o.op= .call { callee:=.builtin .clear,args:=#[x],argTypes:=#[t] })
 (L:ax E.T (bj X bl ρ w) w ρ bl u (a.eval x)):hB E o a W M0 X bl ρ w r:=by
 unfold UP at h
 split at h
 ·rename_i e n b4 p M N;obtain⟨O,i0,e4,D,G,gw,km,i,ho,Q⟩:=zU M;split at h
  ·rename_i z0 ag b;simp only[cd]at ag;have R:(E.T.e p.t).agg=false:=by simpa using ag.2
   have S:=bd ag.1.1;have H:=bd ag.1.2;subst S;obtain⟨_,kT,h⟩:=h;have U:p.lo<p.hi:=of_decide_eq_true (Y4 kT);have h:(⟨some (.u []),bl.set p.i (.r p.t p.g (p.k+1) (gf p.l p.lo.toNat (gk (p.hi-p.lo).toNat z0))),[p.i]⟩:eG E.T.El)=r:=h;subst h;obtain⟨hi,l1,cz,ko,A,c,B,V,Y,k,ao⟩:=alg C N H L;obtain⟨eP,m⟩:∃eP,e4.cells= #[eP]:=by
    revert i;generalize e4.cells=cs;obtain⟨l⟩:=cs;intro I;cases l with
    |nil=>simp at I
    |cons c r=>cases r with
     |nil=>exact⟨c,rfl⟩
     |cons _ _=>simp at I
   have g:(E.T.ty p.t).rd (bj X bl ρ w) w [eP] z0/\e4=eP:=by
    unfold y6 at b;split at b
    ·rename_i Z s;split at b
     ·rename_i v;have k:Z=e4:=by simp only[IW,D]at s;rw[G]at s;exact(eD s).symm
      subst k;have:=a8.tb.hX _ _ _ b (bj X bl ρ w) w ρ bl _ (tR _);rw[m]at this;have d:=aqy v;rw[R,m]at d;exact⟨this,d⟩
     ·cases b
    ·cases b
   obtain⟨g,y⟩:=g;have DY:eP.oneCell'=true:=(E.T.ty p.t).one g eP (by simp);have kj:dN (E.T.ty p.t) (bj X bl ρ w) w (gk (p.hi-p.lo).toNat eP) (gk (p.hi-p.lo).toNat z0):=by
    generalize(p.hi-p.lo).toNat=q;induction q with
    |zero=>rfl
    |succ q a'=>exact⟨[eP],gk q eP,rfl,g,a'⟩
   obtain⟨gb,rfl,xB,jK,Ki,fin⟩:=ame (o:=o) (a:=a) (q:=p.lo.toNat) C hi Y H kj (by omega) (by rw[j3];omega);refine fin (λ F w ρ bl=>by simp only[ax];exact⟨[],rfl,by simp[a_]⟩) ?_;have z:=ao U;have z:B=some ⟨gb,p.lo.toNat,none⟩:=by rw[z];simp[Addr.add];try omega
   subst z;have J:=Lib.run_clear_slice (P:=E.P) w t e o.type e4 O (λ w=>by simp only[zeroValue,typeInfo,Sem.run_bind];simp[go_sem,D,G]) (by rw[m,y]) (by rw[y];exact DY) gb p.lo.toNat (p.hi.toNat-p.lo.toNat) V (by omega) (λ j aA=>jK _ (by omega)) (λ j _=>Ki _);have e:p.hi.toNat-p.lo.toNat=(p.hi-p.lo).toNat:=by omega
   rw[e,y]at J;simp only[bh,execOp,K,resolve,invoke,builtin,Sem.run_bind,Sem.run_pure,Result.andThen_ok,hz,ez,ig,k,e,J]
  ·exact h.elim
 ·exact h.elim
end
def N_(E:Env)(bl:List (aH E.T.El))(f:cD E.T.El)(cur:List (Nat×Bool)):Op->D (eG E.T.El)
 | .alloc t=>match FV E.P t with
   |some z=>.ok ⟨some (.b bl.length 0),bl++[.c t (z.map .p)],[]⟩
   |none=>.no
 | .box t x=>match od E bl f cur x with
   |some y=>.ok ⟨some (.b bl.length 0),bl++[.c t (cellsOf y)],[]⟩
   |none=>.no
 | .makeMap t none=>match mapOf E.P t with
   |some (k,e)=>match(E.T.e k).key with
    |some _=>.ok ⟨some (.m bl.length),bl++[.m k e []],[]⟩
    |none=>.no
   |none=>.no
 | .store t p x=>match od E bl f cur p,od E bl f cur x with
   |some u,some v=>U4 E bl t u v
   |_,_=>.no
 | .mapUpdate t m k x=>match od E bl f cur m,od E bl f cur k,od E bl f cur x with
   |some u,some v,some z=>Oa E bl t u v z
   |_,_,_=>.no
 | .insert t m k x=>match od E bl f cur m,od E bl f cur k,od E bl f cur x with
   |some u,some v,some z=>Oa E bl t u v z
   |_,_,_=>.no
 | .buildSlice t n ⟨ps⟩=>match HF E bl f cur ps with
   |some ys=>UU E bl t n ys
   |none=>.no
 | .makeSlice t x y=>match od E bl f cur x with
   |some u=>U0 E bl t x y u
   |none=>.no
 | .convert s d x=>match od E bl f cur x with
   |some u=>U5 E bl s d u
   |none=>.no
 | .call ⟨.builtin .append,⟨[x,y]⟩,⟨[t,t']⟩⟩=>match cj t t',od E bl f cur x,od E bl f cur y with
   |true,some u,some v=>UL E bl t u v
   |false,some u,some v=>UM E bl t t' u v
   |_,_,_=>.no
 | .call ⟨.builtin .copy,⟨[x,y]⟩,⟨[t,t']⟩⟩=>match cj t t',od E bl f cur x,od E bl f cur y with
   |true,some u,some v=>UQ E bl t u v
   |_,_,_=>.no
 | .call ⟨.builtin .clear,⟨[x]⟩,⟨[t]⟩⟩=>match od E bl f cur x with
   |some u=>UP E bl t u
   |none=>.no
 |_=>.no
section
variable{E:Env}{W w w':World}{M0:List Nat}{X:Nat->Prop}{n:cG}{f:cD E.T.El}{bl:List (aH E.T.El)}{ρ:List Value}{a:Act}{cur:List (Nat×Bool)}
theorem axZ(a8:dl E)(h:R E W M0 X n f bl ρ a w)(hc:kf a cur){o:Oper}{op:Op}(d:o.op=op){r:eG E.T.El}(b:(N_ E bl f cur op).out r):hB E o a W M0 X bl ρ w r:=by unfold N_ at b;split at b;rename_i t;split at b;rename_i z c;have b:(⟨some (.b bl.length 0),bl++[.c t (z.map .p)],[]⟩:eG E.T.El)=r:=b;subst b;obtain⟨e4,i,j⟩:=M1 c;exact akj h.mem (tR z) (Cm i j d);exact b.elim;rename_i t x;split at b;rename_i y c;have b:(⟨some (.b bl.length 0),bl++[.c t (cellsOf y)],[]⟩:eG E.T.El)=r:=b;subst b;exact akj h.mem (pV (dA h hc c)) (SQ (v:=a.eval x) (by simp) d rfl);exact b.elim;rename_i t;split at b;rename_i k e c;split at b;rename_i K J;have b:(⟨some (.m bl.length),bl++[.m k e []],[]⟩:eG E.T.El)=r:=b;subst b;exact aFt h.mem J (aOv d);exact b.elim;exact b.elim;split at b;rename_i u v c J;exact ax' a8 h.mem b d (dA h hc c) (dA h hc J);exact b.elim;split at b;rename_i u v z c J g;exact agF a8 h.mem b (.inl d) (dA h hc c) (dA h hc J) (dA h hc g);exact b.elim;split at b;rename_i u v z c J g;exact agF a8 h.mem b (.inr d) (dA h hc c) (dA h hc J) (dA h hc g);exact b.elim;split at b;rename_i ys c;exact ax2 a8 h.mem b d (Za h hc c);exact b.elim;split at b;rename_i u c;exact ax7 a8 h.mem b d (dA h hc c);exact b.elim;split at b;rename_i u c;exact aya a8 h.mem b d (dA h hc c);exact b.elim;rename_i x y t t';split at b;rename_i u v c J g;have:=bd c;subst this;exact axS a8 h.mem b d (dA h hc J) (dA h hc g);rename_i u v c J g;exact axR a8 h.mem b d (dA h hc J) (dA h hc g);exact b.elim;rename_i x y t t';split at b;rename_i u v c J g;have:=bd c;subst this;exact axW a8 h.mem b d (dA h hc J) (dA h hc g);exact b.elim;split at b;rename_i u c;exact axV a8 h.mem b d (dA h hc c);exact b.elim;exact b.elim
end
inductive Nh
 |q
 |e
 |c
 |no
def PG(P:Program):Op->Nh
 | .call c=>match c.callee with
   | .value _=>.c
   | .builtin .len=>.q
   | .builtin .cap=>.q
   | .builtin .append=>.e
   | .builtin .copy=>.e
   | .builtin .clear=>.e
   |_=>.no
 | .alloc _ | .box _ _ | .makeMap _ _ | .store _ _ _ | .mapUpdate _ _ _ _ | .insert _ _ _ _ | .buildSlice _ _ _ | .makeSlice _ _ _=>.e
 | .convert s _ _=>match P.underlying s with
   |some .string=>.e
   |_=>.q
 | .move _ | .assign _ | .pick _ _ _ | .binOp _ _ _ _ _ | .unOp _ _ _ | .load _ _ | .fieldAddr _ _ _ | .nilCheck _ | .extract _ _ | .makeFunc _ _ _ | .makeInterface _ _ | .indexAddr _ _ _ | .index _ _ _
   | .slice _ _ _ _ _ | .lookup _ _ _ _ | .field _ _ _ | .build _ _=>.q
 |_=>.no
inductive adR
 |run
 |skip
 |maybe (bC:Nat) (want b:Bool)
 |cond (bC:Nat) (want:Bool)
 |no
def Gi:Bool->Bool->Bool
 |true,true=>true
 |false,false=>true
 |_,_=>false
theorem zI{a b:Bool}:Gi a b=true↔a=b:=by cases a<;>cases b<;>simp[Gi]
def OB(E:Env)(ops:Array Oper)(f:cD E.T.El)(n:Nat):Option (Nat×Bool)->adR
 |none=>.run
 |some (j,want)=>match J0 ops j with
  |none=>.no
  |some bC=>match fg bC n with
   |false=>.no
   |true=>match cI f.ew bC with
    |some b=>match Gi b want with
     |true=>.run
     |false=>.skip
    |none=>match cI f.fr bC with
     |some (.p (.tuple ⟨[]⟩))=>.skip
     |some (.p (.bool b))=>match E.cl with
      |true=>match Gi b want with
       |true=>.run
       |false=>.skip
      |false=>.maybe bC want b
     |some _=>.no
     |none=>.cond bC want
section
variable{E:Env}{W w w':World}{M0:List Nat}{X:Nat->Prop}{n:cG}{f:cD E.T.El}{bl:List (aH E.T.El)}{ρ:List Value}{a:Act}{cur:List (Nat×Bool)}{ops:Array Oper}{o:Oper}
theorem aLa{j bC:Nat}{want:Bool}(aj:a.tmps.size=n.n)(c:o.guard=some (j,want))(aA:(ops[j]?).bind (·.dst)=some bC)(d:fg bC n.n=true) :
 Region.wanted o (yielded ops a.tmps)=true↔a.tmps.getD bC undef= .bool want:=by
 have e:bC<n.n:=cJ d
 have J:a.tmps[bC]? =some (a.tmps.getD bC undef):=by rw[jz (by omega)];simp[eF,aj,e]
 simp only[Region.wanted,c,yielded,aA,ae,J,beq_iff_eq]
 constructor
 ·intro h;split at h;rename_i b ag;simp only[aF]at h ag;rw[ag,h];cases h
 ·intro h;rw[h]
def auO(E:Env)(ops:Array Oper)(o:Oper)(a:Act)(f:cD E.T.El)(n:Nat):adR->Prop
 | .run=>Region.wanted o (yielded ops a.tmps)=true
 | .skip=>Region.wanted o (yielded ops a.tmps)=false
 | .maybe bC want b=>fg bC n=true/\a.tmps.getD bC undef= .bool b/\(Region.wanted o (yielded ops a.tmps)=true↔a.tmps.getD bC undef= .bool want)
 | .cond bC want=>fg bC n=true/\(Region.wanted o (yielded ops a.tmps)=true↔a.tmps.getD bC undef= .bool want)
 | .no=>True
theorem aha(h:R E W M0 X n f bl ρ a w):auO E ops o a f n.n (OB E ops f n.n o.guard):=by
 have aj:=h.ea.eu.size;cases i:o.guard with
 |none=>exact RP i
 |some p=>obtain⟨j,want⟩:=p;simp only[OB];split;trivial;rename_i bC k;have l:=aho k;split;trivial;rename_i g;have c:=aLa (ops:=ops) (o:=o) aj i l g;split;rename_i b m;have e:=h.ea.ew _ (pc m);split;rename_i ag;rw[zI]at ag;subst ag;exact c.2 e;rename_i ag;refine(gQ).2 λ d=>?_;have:=c.1 d;rw[e]at this;injection this with this;rw[zI.2 this]at ag;cases ag;split;rename_i ad;have e:=h.ea.eu.get _ _ ad;simp only[ax]at e;refine(gQ).2 λ d=>?_;have:=c.1 d;rw[e]at this;cases this;rename_i b ad;have e:=h.ea.eu.get _ _ ad;simp only[ax]at e;split;split;rename_i ag;rw[zI]at ag;subst ag;exact c.2 e;rename_i ag;refine(gQ).2 λ d=>?_;have:=c.1 d;rw[e]at this;injection this with this;rw[zI.2 this]at ag;cases ag;exact⟨g,e,c⟩;trivial;exact⟨g,c⟩
end
section
variable{α:Type}{β:Type 1}
def uW(l:List α)(k:List α->β):β:=List.rec (motive:=λ _=>(List α->β)->β) (λ k=>k []) (λ p _ a k=>a λ r=>k (p::r)) l k
theorem Vi(l:List α):∀k:List α->β,uW l k=k l:=by
 induction l with
 |nil=>exact λ k=>rfl
 |cons p r a=>exact λ k=>a λ r=>k (p::r)
def rm(n:Nat)(k:Nat->β):β:=Nat.casesOn (motive:=λ _=>β) n (k 0) λ m=>k (Nat.succ m)
theorem Oo(n:Nat)(k:Nat->β):rm n k=k n:=by cases n<;>rfl
def On(n:Int)(k:Int->β):β:=Int.casesOn (motive:=λ _=>β) n (λ m=>rm m λ m=>k (Int.ofNat m)) (λ m=>rm m λ m=>k (Int.negSucc m))
theorem ag1(n:Int)(k:Int->β):On n k=k n:=by cases n;rename_i m;exact Oo m λ m=>k (Int.ofNat m);rename_i m;exact Oo m λ m=>k (Int.negSucc m)
def ag0(b:Bool)(k:Bool->β):β:=Bool.casesOn (motive:=λ _=>β) b (k false) (k true)
theorem ayy(b:Bool)(k:Bool->β):ag0 b k=k b:=by cases b<;>rfl
def Vj(v:Value)(k:Value->β):β:=match v with
 | .int i n=>On n λ n=>k (.int i n)
 | .bool b=>ag0 b λ b=>k (.bool b)
 |v=>k v
theorem ayC(v:Value)(k:Value->β):Vj v k=k v:=by unfold Vj;split;exact ag1 _ _;exact ayy _ _;rfl
variable{El:Nat->Type}
def Vk(y:aL El)(k:aL El->β):β:=match y with
 | .p v=>Vj v λ v=>k (.p v)
 | .b i o=>rm i λ i=>rm o λ o=>k (.b i o)
 | .r i g=>rm i λ i=>rm g λ g=>k (.r i g)
 | .v i g lo hi=>rm i λ i=>rm g λ g=>On lo λ lo=>On hi λ hi=>k (.v i g lo hi)
 | .s t l=>uW l λ l=>k (.s t l)
 | .a l=>uW l λ l=>k (.a l)
 |y=>k y
theorem ayD(y:aL El)(k:aL El->β):Vk y k=k y:=by unfold Vk;split<;>simp only[ayC,Oo,ag1,Vi]
def Om(B:aH El)(k:aH El->β):β:=match B with
 | .c ty cs=>uW cs λ cs=>k (.c ty cs)
 | .r t g n l=>rm g λ g=>rm n λ n=>uW l λ l=>k (.r t g n l)
 | .k t sz g cs=>rm g λ g=>uW cs λ cs=>k (.k t sz g cs)
 | .m kt vt d=>uW d λ d=>k (.m kt vt d)
 |B=>k B
theorem ayA(B:aH El)(k:aH El->β):Om B k=k B:=by unfold Om;split<;>simp only[Oo,Vi]
def Ol(ws:List Nat)(b:Nat)(l:List (aH El)):Nat->(List (aH El)->β)->β:=List.rec (motive:=λ _=>Nat->(List (aH El)->β)->β) (λ _ k=>k []) (λ B _ a n k=>cond (fp ws n||jw b n) (Om B λ B=>a (n+1) λ r=>k (B::r)) (a (n+1) λ r=>k (B::r))) l
theorem ayz(ws:List Nat)(a:Nat)(l:List (aH El)):∀(n:Nat)(k:List (aH El)->β),Ol ws a l n k=k l:=by
 induction l with
 |nil=>exact λ n k=>rfl
 |cons B r b=>
  intro n k;show cond (fp ws n||jw a n) (Om B λ B=>Ol ws a r (n+1) λ r=>k (B::r)) (Ol ws a r (n+1) λ r=>k (B::r))=_
  rw[ayA,b];cases fp ws n||jw a n<;>rfl
def Vh(f:cD El)(k:cD El->β):β:=match f with
 |⟨(d,y)::r,gs,ew⟩=>Vk y λ y=>uW r λ r=>uW gs λ gs=>uW ew λ ew=>k ⟨(d,y)::r,gs,ew⟩
 |f=>k f
theorem ayB(f:cD El)(k:cD El->β):Vh f k=k f:=by unfold Vh;split<;>simp only[ayD,Vi]
end
def EQ(E:Env){β:Type 1}(f:cD E.T.El)(k:cD E.T.El->β):β:=match E.cl with
 |true=>Vh f k
 |false=>k f
theorem ER{E:Env}{β:Type 1}(f:cD E.T.El)(k:cD E.T.El->β):EQ E f k=k f:=by unfold EQ;split;exact ayB f k;rfl
def Ls(E:Env){β:Type 1}(ws:List Nat)(a:Nat)(l:List (aH E.T.El))(k:List (aH E.T.El)->β):β:=match E.cl with
 |true=>Ol ws a l 0 k
 |false=>k l
theorem Qt{E:Env}{β:Type 1}(ws:List Nat)(a:Nat)(l:List (aH E.T.El))(k:List (aH E.T.El)->β):Ls E ws a l k=k l:=by unfold Ls;split;exact ayz ws a l 0 k;rfl
end ba
