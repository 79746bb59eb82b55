/- Part 2 of the proof that is ended in the last text: small logic, what the functions compute, walks, plain laws. -/
import Derived.Test.YteeliipnilghaaaGreatGb1
import Derived.Lib.AppendStr
import Derived.Lib.UnsafeStr
import Derived.Lib.Builder
import Derived.Laws.Externs
import Derived.LaidEql
import Derived.WalkSmall
import Derived.Laws.IdiomCopy
import Derived.Lib.SliceRun
open Array renaming getD_eq_getD_getElem?->e0,getElem?_eq_getElem->jJ,getElem?_eq_none->ib,getElem?_eq_some_iff->gw,getElem?_modify->ke,getElem?_setIfInBounds->f_,getElem?_toList->hT
open Bool renaming and_eq_true->cb,eq_false_iff->gQ,false_eq_true->hX,or_eq_false_iff->iF,or_eq_true->ia
open Int renaming eq_ofNat_of_zero_le->lR,le_refl->lI,toNat_natCast->bV
open List renaming all_eq_true->k_,append_assoc->g_,cons.injEq->h3,cons_append->iE,drop_zero->hB,eq_nil_of_length_eq_zero->hL,ext_getElem?->lu,foldl_cons->jr,getElem?_append->np,getElem?_append_left->eA,getElem?_append_right->fq,getElem?_cons_zero->dU,getElem?_drop->i_,getElem?_eq_getElem->aK,getElem?_eq_none->gE,getElem?_eq_some_iff->aP,getElem?_map->jw,getElem?_set_ne->jG,getElem?_set_self->gv,getElem?_take->hG,length_append->dR,length_cons->dL,length_drop->ks,length_map->gC,length_pos_iff->l8,length_replicate->kf,length_set->kc,length_take->fZ,map_append->jH,map_cons->eB,map_nil->iD,map_toArray->hK,mem_append->cj,mem_cons->cI,mem_cons_of_mem->dZ,mem_flatMap->hM,mem_map->hY,mem_of_getElem?->bG,mem_singleton->dT,replicate->fV,set_getElem_self->mI,take_append->lE,take_append_drop->jv,take_append_of_le_length->kh,take_length->jI,take_of_length_le->h0,take_succ_cons->kO
open Nat renaming add_assoc->kU,add_mul->jP,add_zero->lf,beq->cy,ble->jF,blt->fs,decEq->l2,eq_of_beq_eq_true->bd,eq_zero_or_pos->lS,le_mul_of_pos_right->mC,le_of_ble_eq_true->cS,le_refl->cT,le_trans->hv,lt_of_lt_of_le->fe,lt_or_ge->gL,lt_succ_self->l4,min_eq_left->mj,mul_le_mul_right->kA,mul_one->j3,sub_self->mm,zero_add->jM,zero_le->gT
open Option renaming bind_some->ae,getD_none->jL,getD_some->jd,isSome_none->mo,map_eq_some_iff->cz,map_none->jq,map_some->fU,some.inj->eJ,some.injEq->aH
open Prod renaming mk.injEq->cF
namespace bc
open Go Go.RowKit ay I
def ag:Value->List Nat
 | .pointer (some a)=>[a.block]
 | .map (some r)=>[r]
 | .slice (some a) _ (_+1)=>[a.block]
 |_=>[]
def bE{El:Nat->Type}:aF El->Value->List Nat
 | .z _ _ _ _,_=>[]
 | .no _,_=>[]
 |_,h=>ag h
def qo{El:Nat->Type}(bl:List (aF El))(ρ:List Value)(k:Nat):Prop:=∃(i:Nat)(B:aF El)(h:Value),bl[i]? =some B/\ρ[i]? =some h/\k∈bE B h
def bk{El:Nat->Type}(X:Nat->Prop)(bl:List (aF El))(ρ:List Value)(w:World):Nat->Prop:=λ k=>¬X k/\ ¬qo bl ρ k/\k<w.heap.size
def rowIs(w:World)(t sz:Nat)(h:Value)(n:Nat)(xs:List Value):Prop:=w.ownsRow 0 t sz h n xs\/(n=0/\xs=[]/\ ∃A,h= .slice A 0 0)
section
variable(T:bT)(F:Nat->Prop)(w:World)
variable(ρ:List Value)(bl:List (aF T.El))
def jj:aF T.El->Value->Prop
 | .c ty cs,h=>∃g vs,h= .pointer (some ⟨g,0,none⟩)/\w.heap[g]? =some (.cells ⟨vs⟩ ty (0,0))/\a8 T F w ρ bl cs vs
 | .r t _ _ l,h=>∃A c xs,h= .slice A l.length c/\rowIs w t (T.ty t).size h l.length xs/\dM (T.ty t) F w xs l
 | .k t sz _ cs,h=>∃A n c xs,h= .slice A n c/\rowIs w t sz h n xs/\a8 T F w ρ bl cs xs
 | .z t _ _ l,h=>(b5 (T.ty t)).rd F w [h] l
 | .m kt vt d,h=>∃r,h= .map (some r)/\yA T F w kt vt r d
 | .o YP,h=>∃g,h= .pointer (some ⟨g,0,none⟩)/\w.heap[g]? =some YP
 | .no _,_=>True
end
section
variable{T:bT}{F F':Nat->Prop}{w w':World}{ρ ρ':List Value}{bl bl':List (aF T.El)}
theorem rowIs.len{t sz n:Nat}{h:Value}{xs:List Value}(e:rowIs w t sz h n xs):xs.length=n*sz:=by
 rcases e with e |⟨rfl,rfl,_⟩
 ·exact e.1
 ·simp
theorem rowIs.own{t sz n:Nat}{h:Value}{xs:List Value}(e:rowIs w t sz h n xs)(a:0<n):w.ownsRow 0 t sz h n xs:=by
 rcases e with e |⟨rfl,_⟩
 ·exact e
 ·omega
theorem rowIs.cap{t sz n c:Nat}{A:Option Addr}{xs:List Value}(e:rowIs w t sz (.slice A n c) n xs):n<=c/\c<=maxLen/\(A=none->c=0)/\(0<c-> ∃g,A=some ⟨g,0,none⟩):=by
 rcases e with e |⟨rfl,_,cn,e⟩
 ·rcases e.2 with⟨a,d⟩|⟨g,cap,cur,a,_,_,J,b,_⟩
  ·simp only[Value.slice.injEq]at a
   obtain⟨rfl,rfl,rfl⟩:=a
   exact⟨cT _,gT _,λ _=>rfl,λ h=>by omega⟩
  ·simp only[Value.slice.injEq]at a
   obtain⟨rfl,_,rfl⟩:=a
   exact⟨J,b,(λ h=>by cases h),λ _=>⟨g,rfl⟩⟩
 ·simp only[Value.slice.injEq]at e
  obtain⟨rfl,_,rfl⟩:=e
  exact⟨cT _,gT _,λ _=>rfl,λ h=>by omega⟩
theorem rowIs.later{t sz n c:Nat}{A:Option Addr}{xs:List Value}(e:rowIs w t sz (.slice A n c) n xs)(aj:∀k∈ag (.slice A n c),w'.heap[k]? =w.heap[k]?):rowIs w' t sz (.slice A n c) n xs:=by
 cases c with
 |zero=>
  have f:=e.cap.1
  have J:=e.len
  have d:n=0:=by omega
  subst d
  exact .inr ⟨rfl,hL (by rw[J];simp),A,rfl⟩
 |succ c=>
  rcases e with e |⟨rfl,_,cn,e⟩
  ·left
   have:=(bb.row t sz (.slice A n (c+1)) (fV n ()) xs).law w w' (λ k b=>aj k (by cases A with|none=>simp[bb.row,Value.ownBlock]at b |some a=>simpa[ag,bb.row,Value.ownBlock]using b))
   simpa[bb.row]using this (by simpa[bb.row]using e)
  ·simp at e
theorem jj.later(b:∀k,F k->F' k/\w'.heap[k]? =w.heap[k]?)(f:mM T ρ ρ' bl bl'){B:aF T.El}{h:Value}(aj:∀k∈bE B h,w'.heap[k]? =w.heap[k]?)(a:jj T F w ρ bl B h):jj T F' w' ρ' bl' B h:=by
 cases B with
 |c ty cs=>
  obtain⟨g,vs,rfl,J,e⟩:=a
  exact⟨g,vs,rfl,(aj g (by simp[bE,ag])).trans J,a8.later b f cs e⟩
 |r t g k l=>
  obtain⟨A,c,xs,rfl,J,e⟩:=a
  exact⟨A,c,xs,rfl,J.later aj,oO _ b e⟩
 |k t sz g cs=>
  obtain⟨A,n,c,xs,rfl,J,e⟩:=a
  exact⟨A,n,c,xs,rfl,J.later aj,a8.later b f cs e⟩
 |z t g k l=>exact(b5 (T.ty t)).law b a
 |m kt vt d=>
  obtain⟨r,rfl,J⟩:=a
  exact⟨r,rfl,J.law b (aj r (by simp[bE,ag]))⟩
 |o YP=>
  obtain⟨g,rfl,J⟩:=a
  exact⟨g,rfl,(aj g (by simp[bE,ag])).trans J⟩
 |no g=>trivial
end
structure Mem (T:bT) (W:World) (M0:List Nat) (X:Nat->Prop) (bl:List (aF T.El)) (ρ:List Value) (w:World):Prop where
 bY:br M0 W w
 len:ρ.length=bl.length
 hW:∀k,X k->k<W.heap.size/\k∉M0
 lt:∀k,qo bl ρ k->k<w.heap.size/\(k∈M0\/W.heap.size<=k)
 bC:∀(i j:Nat)(B C:aF T.El)(h g:Value),bl[i]? =some B->ρ[i]? =some h->bl[j]? =some C->ρ[j]? =some g->i≠j-> ∀k∈bE B h,k∉bE C g
 ok:∀(i:Nat)(B:aF T.El)(h:Value),bl[i]? =some B->ρ[i]? =some h->jj T (bk X bl ρ w) w ρ bl B h
section
variable{T:bT}{W w w':World}{M0:List Nat}{X:Nat->Prop}{bl bl':List (aF T.El)}{ρ ρ':List Value}
abbrev Mem.F(_:Mem T W M0 X bl ρ w):Nat->Prop:=bk X bl ρ w
structure To (X:Nat->Prop) (bl bl':List (aF T.El)) (ρ ρ':List Value) (w w':World):Prop where
 F:∀k,bk X bl ρ w k->bk X bl' ρ' w' k/\w'.heap[k]? =w.heap[k]?
 L:mM T ρ ρ' bl bl'
 sz:w.heap.size<=w'.heap.size
 om:∀(i:Nat)(B':aF T.El)(h':Value),bl'[i]? =some B'->ρ'[i]? =some h'-> ∀k∈bE B' h',k<w.heap.size-> ∃B h,bl[i]? =some B/\ρ[i]? =some h/\k∈bE B h
theorem To.v(h:To X bl bl' ρ ρ' w w'){y:aI T.El}{v:Value}(a:aw T (bk X bl ρ w) w ρ bl y v):aw T (bk X bl' ρ' w') w' ρ' bl' y v:=a.later h.F h.L
theorem To.vs(h:To X bl bl' ρ ρ' w w'){y:List (aI T.El)}{v:List Value}(a:a8 T (bk X bl ρ w) w ρ bl y v):a8 T (bk X bl' ρ' w') w' ρ' bl' y v:=a8.later h.F h.L y a
theorem To.trans{b:List (aF T.El)}{c:List Value}{w'':World}(h:To X bl bl' ρ ρ' w w')(k:To X bl' b ρ' c w' w''):To X bl b ρ c w w'':=
 ⟨λ q a=>⟨(k.F q (h.F q a).1).1,((k.F q (h.F q a).1).2).trans (h.F q a).2⟩,h.L.trans k.L,hv h.sz k.sz,λ i B' h' hi e q a d=>by
  obtain⟨BA,f,g,ao,aT⟩:=k.om i B' h' hi e q a (fe d h.sz);exact h.om i BA f g ao q aT d⟩
theorem To.refl:To X bl bl ρ ρ w w:=⟨λ _ h=>⟨h,rfl⟩,.refl,cT _,λ _ B h hi a _ b _=>⟨B,h,hi,a,b⟩⟩
theorem Mem.sA(a:Mem T W M0 X bl ρ w){i:Nat}{B:aF T.El}(hi:bl[i]? =some B):∃h,ρ[i]? =some h:=by
 have:=(aP.1 hi).1;exact⟨ρ[i]'(by rw[a.len];exact this),aK _⟩
theorem Mem.ta(b:br [] w w'):To X bl bl ρ ρ w w':=⟨λ k a=>⟨⟨a.1,a.2.1,fe a.2.2 b.size⟩,b.block k a.2.2 (by simp)⟩,.refl,b.size,λ _ B h hi c _ a _=>⟨B,h,hi,c,a⟩⟩
theorem Mem.e8(a:Mem T W M0 X bl ρ w)(b:br [] w w'):Mem T W M0 X bl ρ w':=
 ⟨a.bY.trans b (by simp),a.len,a.hW,λ k c=>⟨fe (a.lt k c).1 b.size,(a.lt k c).2⟩,a.bC,λ i B h hi d=>(a.ok i B h hi d).later (Mem.ta b).F .refl λ k c=>b.block k (a.lt k ⟨i,B,h,hi,d,c⟩).1 (by simp)⟩
theorem Mem.D9(o:Mem T W M0 X bl ρ w){i:Nat}{B B':aF T.El}{h h':Value}(hi:bl[i]? =some B)(c:ρ[i]? =some h)(d:br (bE B h) w w')
 (ad:∀k∈bE B' h',k∈bE B h\/(w.heap.size<=k/\k<w'.heap.size))
 (m:(¬kZ h->h'=h)/\b4 (some B)<=b4 (some B')/\(b4 (some B')=b4 (some B)->h'=h/\jy T (some B')=jy T (some B)/\gY (some B)<=gY (some B')/\(gY (some B')=gY (some B)->jx (some B')=jx (some B)))) :
 To X bl (bl.set i B') ρ (ρ.set i h') w w':=by
 have l1:=(aP.1 hi).1
 have f:=(aP.1 c).1
 refine⟨λ k a=>⟨⟨a.1,?_,fe a.2.2 d.size⟩,d.block k a.2.2 λ n=>a.2.1 ⟨i,B,h,hi,c,n⟩⟩,⟨λ j u aA=>?_⟩,d.size,λ j C g aA b k a p=>?_⟩
 ·rintro⟨j,C,g,aA,b,l⟩
  by_cases e:j=i
  ·subst e
   rw[gv l1]at aA
   rw[gv f]at b
   cases aA;cases b
   rcases ad k l with e |e
   ·exact a.2.1 ⟨j,B,h,hi,c,e⟩
   ·have:=a.2.2;omega
  ·rw[jG (Ne.symm e)]at aA b
   exact a.2.1 ⟨j,C,g,aA,b,l⟩
 ·by_cases e:j=i
  ·subst e
   rw[c]at aA
   cases aA
   refine⟨h',gv f,?_⟩
   rw[gv l1,hi]
   exact m
  ·refine⟨u,by rw[jG (Ne.symm e)];exact aA,λ _=>rfl,?_⟩
   rw[jG (Ne.symm e)]
   exact⟨cT _,λ _=>⟨rfl,rfl,cT _,λ _=>rfl⟩⟩
 ·by_cases e:j=i
  ·subst e
   rw[gv l1]at aA
   rw[gv f]at b
   cases aA;cases b
   rcases ad k a with e |e
   ·exact⟨B,h,hi,c,e⟩
   ·omega
  ·rw[jG (Ne.symm e)]at aA b
   exact⟨C,g,aA,b,a⟩
theorem Mem.dC(c:Mem T W M0 X bl ρ w){i:Nat}{B B':aF T.El}{h h':Value}(hi:bl[i]? =some B)(m:ρ[i]? =some h)(n:br (bE B h) w w')
 (ad:∀k∈bE B' h',k∈bE B h\/(w.heap.size<=k/\k<w'.heap.size))(s:To X bl (bl.set i B') ρ (ρ.set i h') w w')
 (y:jj T (bk X (bl.set i B') (ρ.set i h') w') w' (ρ.set i h') (bl.set i B') B' h'):Mem T W M0 X (bl.set i B') (ρ.set i h') w':=by
 have l1:=(aP.1 hi).1
 have z:=(aP.1 m).1
 have key:∀ {j:Nat}{C:aF T.El}{g:Value},(bl.set i B')[j]? =some C->(ρ.set i h')[j]? =some g->(j=i/\C=B'/\g=h')\/(j≠i/\bl[j]? =some C/\ρ[j]? =some g):=λ{j C g} aA f=>by
  by_cases e:j=i
  ·subst e
   rw[gv l1]at aA
   rw[gv z]at f
   cases aA;cases f
   exact .inl ⟨rfl,rfl,rfl⟩
  ·rw[jG (Ne.symm e)]at aA f
   exact .inr ⟨e,aA,f⟩
 refine⟨c.bY.trans n λ k d=>(c.lt k ⟨i,B,h,hi,m,d⟩).2,by simp[c.len],c.hW,?_,?_,?_⟩
 ·rintro k ⟨j,C,g,aA,f,d⟩
  rcases key aA f with⟨rfl,rfl,rfl⟩|⟨_,l,J⟩
  ·rcases ad k d with e |e
   ·have:=c.lt k ⟨j,B,h,hi,m,e⟩
    exact⟨fe this.1 n.size,this.2⟩
   ·exact⟨e.2,.inr (hv c.bY.size e.1)⟩
  ·have:=c.lt k ⟨j,C,g,l,J,d⟩
   exact⟨fe this.1 n.size,this.2⟩
 ·intro a b C D g u A f t v o k d p
  rcases key A f with⟨rfl,rfl,rfl⟩|⟨x,l,J⟩
  ·rcases key t v with⟨rfl,_⟩|⟨ao,q,r⟩
   ·exact o rfl
   ·rcases ad k d with e |e
    ·exact c.bC _ _ _ _ _ _ hi m q r o k e p
    ·have:=(c.lt k ⟨b,D,u,q,r,p⟩).1;omega
  ·rcases key t v with⟨rfl,rfl,rfl⟩|⟨ao,q,r⟩
   ·rcases ad k p with e |e
    ·exact c.bC _ _ _ _ _ _ l J hi m o k d e
    ·have:=(c.lt k ⟨a,C,g,l,J,d⟩).1;omega
   ·exact c.bC _ _ _ _ _ _ l J q r o k d p
 ·intro j C g aA f
  rcases key aA f with⟨rfl,rfl,rfl⟩|⟨x,l,J⟩
  ·exact y
  ·exact(c.ok j C g l J).later s.F s.L λ k d=>n.block k (c.lt k ⟨j,C,g,l,J,d⟩).1 λ E=>c.bC _ _ _ _ _ _ l J hi m x k d E
theorem Mem.AN(c:Mem T W M0 X bl ρ w){B:aF T.El}{h:Value}(d:br [] w w')(ad:∀k∈bE B h,w.heap.size<=k/\k<w'.heap.size):To X bl (bl++[B]) ρ (ρ++[h]) w w':=by
 refine⟨λ k b=>⟨⟨b.1,?_,fe b.2.2 d.size⟩,d.block k b.2.2 (by simp)⟩,⟨λ j u aA=>?_⟩,d.size,λ j C g aA a k b i=>?_⟩
 ·rintro⟨j,C,g,aA,a,f⟩
  rcases gL j bl.length with e |e
  ·rw[eA e]at aA
   rw[eA (by rw[c.len];exact e)]at a
   exact b.2.1 ⟨j,C,g,aA,a,f⟩
  ·rw[fq e]at aA
   rw[fq (by rw[c.len];exact e),c.len]at a
   cases aL:j-bl.length with
   |zero=>
    rw[aL]at aA a
    simp only[dU,aH]at aA a
    subst aA;subst a
    have:=(ad k f).1
    have:=b.2.2
    omega
   |succ q=>rw[aL]at aA;simp at aA
 ·have e:=(aP.1 aA).1
  have e':j<bl.length:=by rw[<-c.len];exact e
  refine⟨u,by rw[eA e];exact aA,λ _=>rfl,?_⟩
  rw[eA e']
  exact⟨cT _,λ _=>⟨rfl,rfl,cT _,λ _=>rfl⟩⟩
 ·rcases gL j bl.length with e |e
  ·rw[eA e]at aA
   rw[eA (by rw[c.len];exact e)]at a
   exact⟨C,g,aA,a,b⟩
  ·rw[fq e]at aA
   rw[fq (by rw[c.len];exact e),c.len]at a
   cases aL:j-bl.length with
   |zero=>
    rw[aL]at aA a
    simp only[dU,aH]at aA a
    subst aA;subst a
    have:=(ad k b).1
    omega
   |succ q=>rw[aL]at aA;simp at aA
theorem Mem.push(c:Mem T W M0 X bl ρ w){B:aF T.El}{h:Value}(l:br [] w w')(ad:∀k∈bE B h,w.heap.size<=k/\k<w'.heap.size)
 (v:jj T (bk X (bl++[B]) (ρ++[h]) w') w' (ρ++[h]) (bl++[B]) B h):Mem T W M0 X (bl++[B]) (ρ++[h]) w':=by
 have p:=c.AN l ad (B:=B) (h:=h)
 have key:∀ {j:Nat}{C:aF T.El}{g:Value},(bl++[B])[j]? =some C->(ρ++[h])[j]? =some g->(j=bl.length/\C=B/\g=h)\/(j<bl.length/\bl[j]? =some C/\ρ[j]? =some g):=λ{j C g} aA d=>by
  rcases gL j bl.length with e |e
  ·rw[eA e]at aA
   rw[eA (by rw[c.len];exact e)]at d
   exact .inr ⟨e,aA,d⟩
  ·rw[fq e]at aA
   rw[fq (by rw[c.len];exact e),c.len]at d
   cases aL:j-bl.length with
   |zero=>
    rw[aL]at aA d
    simp only[dU,aH]at aA d
    exact .inl ⟨by omega,aA.symm,d.symm⟩
   |succ q=>rw[aL]at aA;simp at aA
 refine⟨c.bY.trans l (by simp),by simp[c.len],c.hW,?_,?_,?_⟩
 ·rintro k ⟨j,C,g,aA,d,f⟩
  rcases key aA d with⟨rfl,rfl,rfl⟩|⟨_,i,J⟩
  ·exact⟨(ad k f).2,.inr (hv c.bY.size (ad k f).1)⟩
  ·have:=c.lt k ⟨j,C,g,i,J,f⟩
   exact⟨fe this.1 l.size,this.2⟩
 ·intro a b C D g u x d r s t k f m
  rcases key x d with⟨rfl,rfl,rfl⟩|⟨y,i,J⟩
  ·rcases key r s with⟨rfl,_⟩|⟨ao,n,o⟩
   ·exact t rfl
   ·have:=(c.lt k ⟨b,D,u,n,o,m⟩).1
    have:=(ad k f).1
    omega
  ·rcases key r s with⟨rfl,rfl,rfl⟩|⟨ao,n,o⟩
   ·have:=(c.lt k ⟨a,C,g,i,J,f⟩).1
    have:=(ad k m).1
    omega
   ·exact c.bC _ _ _ _ _ _ i J n o t k f m
 ·intro j C g aA d
  rcases key aA d with⟨rfl,rfl,rfl⟩|⟨y,i,J⟩
  ·exact v
  ·exact(c.ok j C g i J).later p.F p.L λ k f=>l.block k (c.lt k ⟨j,C,g,i,J,f⟩).1 (by simp)
end
def cG{α:Type}:List (Nat×α)->Nat->Option α
 |[],_=>none
 |p::r,t=>match cy p.1 t with
  |true=>some p.2
  |false=>cG r t
structure rO (T:bT) (F:Nat->Prop) (w:World) (ρ:List Value) (bl:List (aF T.El)) (n:cE) (fr:List (Nat×aI T.El)) (a:Act):Prop where
 size:a.tmps.size=n.n
 defers:a.defers=n.ds
 get:∀t y,cG fr t=some y->aw T F w ρ bl y (a.tmps.getD t undef)
section
variable{T:bT}{F F':Nat->Prop}{w w':World}{ρ ρ':List Value}{bl bl':List (aF T.El)}{n:cE}{fr:List (Nat×aI T.El)}{a:Act}
theorem rO.later(b:∀k,F k->F' k/\w'.heap[k]? =w.heap[k]?)(c:mM T ρ ρ' bl bl')(h:rO T F w ρ bl n fr a):rO T F' w' ρ' bl' n fr a:=⟨h.size,h.defers,λ t y hy=>(h.get t y hy).later b c⟩
theorem zg{a:Act}{d t:Nat}{v:Value}(aL:d<a.tmps.size):(a.put (some d) v).tmps.getD t undef=if d=t then v else a.tmps.getD t undef:=by
 simp only[Act.put,e0,f_];by_cases e:d=t
 ·subst e;simp[aL]
 ·simp[e]
theorem rO.put{d:Nat}{y:aI T.El}{v:Value}(h:rO T F w ρ bl n fr a)(aL:fs d n.n=true)(c:aw T F w ρ bl y v):rO T F w ρ bl n ((d,y)::fr) (a.put (some d) v):=by
 have f:d<n.n:=cS aL;refine⟨by simpa[Act.put]using h.size,h.defers,λ t z b=>?_⟩;rw[zg (by rw[h.size];exact f)];simp only[cG]at b;cases ag:cy d t with
 |true=>
  rw[ag]at b
  simp only[aH]at b
  rw[if_pos (bd ag),<-b];exact c
 |false=>
  rw[ag]at b
  rw[if_neg (λ e=>by subst e;simp at ag)]
  exact h.get t z b
def oQ{α:Type}:List (Nat×α)->Nat->List (Nat×α)
 |[],_=>[]
 |p::r,t=>match cy p.1 t with
  |true=>oQ r t
  |false=>p::oQ r t
theorem Pg{α:Type}{d t:Nat}{y:α}:∀ {fr:List (Nat×α)},cG (oQ fr d) t=some y->t≠d/\cG fr t=some y
 |[],h=>by simp[oQ,cG]at h
 |p::r,h=>by
  simp only[oQ]at h;cases ag:cy p.1 d with
  |true=>
   rw[ag]at h
   obtain⟨b,J⟩:=Pg h
   refine⟨b,?_⟩
   simp only[cG]
   cases hc:cy p.1 t with
   |true=>exact absurd ((bd hc).symm.trans (bd ag)) b
   |false=>exact J
  |false=>
   rw[ag]at h
   simp only[cG]at h⊢
   cases hc:cy p.1 t with
   |true=>
    rw[hc]at h
    refine⟨λ e=>?_,h⟩
    rw[bd hc,e]at ag
    simp at ag
   |false=>rw[hc]at h;exact Pg h
theorem rO.Qx{d:Nat}{v:Value}(h:rO T F w ρ bl n fr a)(aL:fs d n.n=true):rO T F w ρ bl n (oQ fr d) (a.put (some d) v):=by
 have b:d<n.n:=cS aL;refine⟨by simpa[Act.put]using h.size,h.defers,λ t z c=>?_⟩;obtain⟨e,J⟩:=Pg c;rw[zg (by rw[h.size];exact b),if_neg (Ne.symm e)];exact h.get t z J
end
end bc
namespace I
def dy{α β cB:Type}(o:Option (α⊕β))(k:α->Option cB)(l:β->Option cB):Option cB:=match o with
 |none=>none
 |some (.inl a)=>k a
 |some (.inr b)=>l b
end I
namespace bc
open Go Go.RowKit ay I
inductive D (α:Type):Type 1
 |ok (a:α)
 |no
 |op {β:Type} (o:Option β) (k:β->D α)
 |qx (c:Bool) (x y:D α)
 |u9 {β cB:Type} (o:Option (β⊕cB)) (k:β->D α) (l:cB->D α)
def D.bind{α β:Type}:D α->(α->D β)->D β
 | .ok a,f=>f a
 | .no,_=>.no
 | .op o k,f=>.op o λ b=>(k b).bind f
 | .qx c x y,f=>.qx c (x.bind f) (y.bind f)
 | .u9 o k l,f=>.u9 o (λ b=>(k b).bind f) (λ c=>(l c).bind f)
def D.run{α ρ:Type}:D α->(α->Option ρ)->Option ρ
 | .ok a,K=>K a
 | .no,_=>none
 | .op o k,K=>o.bind λ b=>(k b).run K
 | .qx c x y,K=>cond c (x.run K) (y.run K)
 | .u9 o k l,K=>dy o (λ b=>(k b).run K) (λ c=>(l c).run K)
def D.out{α:Type}:D α->α->Prop
 | .ok b,a=>b=a
 | .no,_=>False
 | .op o k,a=>∃b,o=some b/\(k b).out a
 | .qx c x y,a=>(c=true/\x.out a)\/(c=false/\y.out a)
 | .u9 o k l,a=>(∃b,o=some (.inl b)/\(k b).out a)\/(∃c,o=some (.inr c)/\(l c).out a)
theorem D.s4{α ρ:Type}{r:ρ}:∀ {d:D α}{K:α->Option ρ},d.run K=some r-> ∃a,d.out a/\K a=some r
 | .ok a,K,h=>⟨a,rfl,h⟩
 | .no,K,h=>by cases h
 | .op o k,K,h=>by
   obtain⟨b,g,J⟩:=fY h;obtain⟨a,e,f⟩:=D.s4 J;exact⟨a,⟨b,g,e⟩,f⟩
 | .qx c x y,K,h=>by
   cases c with
   |true=>obtain⟨a,e,f⟩:=D.s4 (d:=x) h;exact⟨a,.inl ⟨rfl,e⟩,f⟩
   |false=>obtain⟨a,e,f⟩:=D.s4 (d:=y) h;exact⟨a,.inr ⟨rfl,e⟩,f⟩
 | .u9 o k l,K,h=>by
   cases o with
   |none=>cases h
   |some s=>
    cases s with
    |inl b=>obtain⟨a,e,f⟩:=D.s4 (d:=k b) h;exact⟨a,.inl ⟨b,rfl,e⟩,f⟩
    |inr c=>obtain⟨a,e,f⟩:=D.s4 (d:=l c) h;exact⟨a,.inr ⟨c,rfl,e⟩,f⟩
theorem D.j9{α β:Type}:∀ {d:D α}{f:α->D β}{b:β},(d.bind f).out b-> ∃a,d.out a/\(f a).out b
 | .ok a,f,b,h=>⟨a,rfl,h⟩
 | .no,f,b,h=>h.elim
 | .op o k,f,b,h=>by
   obtain⟨x,e,J⟩:=h;obtain⟨a,g,i⟩:=D.j9 J;exact⟨a,⟨x,e,g⟩,i⟩
 | .qx c x y,f,b,h=>by
   rcases h with⟨e,J⟩|⟨e,J⟩
   ·obtain⟨a,g,i⟩:=D.j9 J;exact⟨a,.inl ⟨e,g⟩,i⟩
   ·obtain⟨a,g,i⟩:=D.j9 J;exact⟨a,.inr ⟨e,g⟩,i⟩
 | .u9 o k l,f,b,h=>by
   rcases h with⟨x,e,J⟩|⟨x,e,J⟩
   ·obtain⟨a,g,i⟩:=D.j9 J;exact⟨a,.inl ⟨x,e,g⟩,i⟩
   ·obtain⟨a,g,i⟩:=D.j9 J;exact⟨a,.inr ⟨x,e,g⟩,i⟩
def D.of{α:Type}:Option α->D α
 |some a=>.ok a
 |none=>.no
theorem D.pT{α:Type}{o:Option α}{a:α}(h:(D.of o).out a):o=some a:=by
 cases o with
 |none=>exact h.elim
 |some b=>exact congrArg some h
structure Env where
 P:Program
 T:bT
 cY:List (Nat×aI T.El)
 cl:Bool
 cf:List Nat
 l3:Nat
 MZ:List UInt8->List (T.El l3)
def lay(P:Program)(t:TypeId):Option (Bool×Nat):=match P.underlying t,P.info? t with
 |some (.struct _),some i=>some (true,i.size)
 |some (.array _ _),some i=>some (true,i.size)
 |some _,some i=>some (false,i.size)
 |_,_=>none
theorem run_sizeOf{P:Program}{t:TypeId}{i:TypeInfo}(h:P.info? t=some i)(w:World):(Go.sizeOf t).run P w= .ok i.size w:=by
 simp[Go.sizeOf,typeInfo,go_sem,h]
theorem Kn{P:Program}{t:TypeId}{b:Bool}{n:Nat}(h:lay P t=some (b,n)):(∀w,(isAgg t).run P w= .ok b w)/\ ∀w,(Go.sizeOf t).run P w= .ok n w:=by
 unfold lay at h;split at h
 ·rename_i a J
  simp only[aH,cF]at h
  obtain⟨rfl,rfl⟩:=h
  exact⟨λ w=>by simp[isAgg,run_underlying a],run_sizeOf J⟩
 ·rename_i a J
  simp only[aH,cF]at h
  obtain⟨rfl,rfl⟩:=h
  exact⟨λ w=>by simp[isAgg,run_underlying a],run_sizeOf J⟩
 ·rename_i d i c e a J
  simp only[aH,cF]at h
  obtain⟨rfl,rfl⟩:=h
  refine⟨λ w=>?_,run_sizeOf J⟩
  simp only[isAgg,Sem.run_bind,run_underlying a,Result.andThen_ok]
  cases d<;>first |rfl |(exact absurd a (by simpa using c _))|(exact absurd a (by simpa using e _ _))
 ·cases h
def k1:Option TypeDesc->Option n0
 |some (.int k)=>some (.i k)
 |some .bool=>some .b
 |some .string=>some .s
 |some (.slice _)=>some .cv
 |_=>none
theorem w2{P:Program}{t:TypeId}{k:n0}(h:k1 (P.underlying t)=some k):k.ok P t:=by
 unfold k1 at h;split at h<;>simp only[aH,reduceCtorEq]at h<;>subst h
 ·rename_i h;exact h
 ·rename_i h;exact h
 ·rename_i h;exact h
 ·rename_i e h;exact⟨e,h⟩
def NH(P:Program)(s j:Nat):Option (Nat×Nat×Nat):=match P.underlying s with
 |some (.struct cf)=>match nth cf.toList j with
  |some f=>match P.info? f.type with
   |some i=>match cy i.size 0 with
    |true=>none
    |false=>some (f.offset,f.type,i.size)
   |none=>none
  |none=>none
 |_=>none
theorem agE{P:Program}{s j off t n:Nat}(h:NH P s j=some (off,t,n)):∃cf f,P.underlying s=some (.struct cf)/\cf[j]? =some f/\f.offset=off/\f.type=t/\(∀w,(Go.sizeOf f.type).run P w= .ok n w)/\cy n 0=false:=by
 unfold NH at h;split at h
 ·rename_i cf a
  split at h
  ·rename_i f J
   split at h
   ·rename_i i b
    split at h
    ·cases h
    ·rename_i c
     simp only[aH,cF]at h
     obtain⟨rfl,rfl,rfl⟩:=h
     rw[dh,hT]at J
     exact⟨cf,f,a,J,rfl,rfl,run_sizeOf b,c⟩
   ·cases h
  ·cases h
 ·cases h
section
variable{El:Nat->Type}
def mS(cs:List (aI El))(o:Nat):Bool×Nat->Option (aI El)
 |(false,_)=>nth cs o
 |(true,n)=>match jF (o+n) cs.length with
  |true=>some (.a ((cs.drop o).take n))
  |false=>none
end
section
variable{T:bT}{F:Nat->Prop}{w:World}{ρ:List Value}{bl:List (aF T.El)}{P:Program}
theorem Fv{cs:List (aI T.El)}{o a q t:Nat}{c:Bool×Nat}{y:aI T.El}{vs:List Value}(k:lay P t=some c)(h:mS cs o c=some y)(d:a8 T F w ρ bl cs vs)(hc:fo w ⟨a,q,none⟩ vs) :
 ∃v us,aw T F w ρ bl y v/\fo w ⟨a,q+o,none⟩ us/\ ∀(op:Oper)(ac:Act)(x:Operand)(w':World),op.op= .load t x->ac.eval x= .pointer (some ⟨a,q+o,none⟩)->fo w' ⟨a,q+o,none⟩ us->bh P op ac w' v w':=by
 obtain⟨b,n⟩:=c
 have C2:=Kn k
 cases b with
 |false=>
  simp only[mS]at h
  rw[dh]at h
  obtain⟨v,l,J⟩:=d.at_ h
  refine⟨v,[v],J,λ j u aA=>?_,λ op ac x w' e f g=>yh C2.1 e f (by simpa using g 0 v rfl)⟩
  cases j with
  |zero=>simp only[dU,aH]at aA;subst aA;simpa using hc o v l
  |succ j=>simp at aA
 |true=>
  simp only[mS]at h
  split at h
  ·rename_i ag
   simp only[aH]at h
   subst h
   have m:=cS ag
   have i:=d.len
   refine⟨.agg ⟨(vs.drop o).take n⟩,(vs.drop o).take n,?_,λ j u aA=>?_,λ op ac x w' e f g=>apB C2.1 C2.2 (by simp;omega) e f g⟩
   ·simp only[aw]
    exact⟨_,rfl,a8.take n (a8.drop o d)⟩
   ·rw[hG]at aA
    split at aA
    ·rw[i_]at aA
     have:=hc (o+j) u aA
     simpa[kU]using this
    ·cases aA
  ·cases h
end
end bc
namespace bc
open Go Go.RowKit ay I
structure yT (T:bT):Prop where
 cs:∀t d F w xs,(T.ty t).rd F w xs d->a8 T F w [] [] ((T.e t).cs d) xs
 hz:∀t a1 d,(T.e t).hz a1=some d-> ∀F w ρ bl xs,a8 T F w ρ bl a1 xs->(T.ty t).rd F w xs d
 key:∀t K,(T.e t).key=some K-> ∀F w xs k,(T.ty t).rd F w xs k->Am (T.e t).agg xs= @lY.enc _ K.dec K.sy k
 one:∀t,(T.e t).agg=false-> ∀d,((T.e t).cs d).length=1
def bT.val(T:bT)(t:Nat)(d:T.El t):aI T.El:=match(T.e t).agg with
 |true=>.a ((T.e t).cs d)
 |false=>((T.e t).cs d).headD (.p undef)
structure di (E:Env):Prop where
 tb:yT E.T
 call:∀f∈E.cf,∀args w,(callFunc f args).run E.P w= .ok (.enter f args) w
 aEc:E.P.follows .mixedOrders=true
 ad8:∀l,(E.MZ l).length=l.length
 aul:∀F w l xs,dM Q1 F w xs l->dM (E.T.ty E.l3) F w xs (E.MZ l)
 eq:∀t f,(E.T.e t).eq=some f-> ∀F w xs ys d e,(E.T.ty t).rd F w xs d->(E.T.ty t).rd F w ys e-> ∀(o:Oper)(a:Act)(x y:Operand)(t':TypeId)(b:Bool),o.op= .binOp (cond b .eql .neq) t x y t'->a.eval x= .agg ⟨xs⟩->a.eval y= .agg ⟨ys⟩-> ∀w',bh E.P o a w' (.bool (cond b (f d e) (!f d e))) w'
section
variable{T:bT}{F:Nat->Prop}{w:World}{ρ:List Value}{bl:List (aF T.El)}
theorem aDA{w:World}{F:Nat->Prop}{l:List (aI T.El)}{vs:List Value}(h:a8 T F w [] [] l vs):a8 T F w ρ bl l vs:=a8.later (λ _ h=>⟨h,rfl⟩) ⟨λ i h hi=>by simp at hi⟩ l h
theorem yT.cells(a:yT T){t:Nat}{d:T.El t}{xs:List Value}(h:(T.ty t).rd F w xs d):a8 T F w ρ bl ((T.e t).cs d) xs:=aDA (a.cs t d F w xs h)
theorem yT.val(a:yT T){t:Nat}{d:T.El t}{xs:List Value}(h:(T.ty t).rd F w xs d):aw T F w ρ bl (T.val t d) (Am (T.e t).agg xs):=by
 have hc:=a.cells (ρ:=ρ) (bl:=bl) h;unfold bT.val;cases c:(T.e t).agg with
 |true=>simp only[aw,Am];exact⟨xs,rfl,hc⟩
 |false=>
  have b:=a.one t c d
  cases hcs:(T.e t).cs d with
  |nil=>rw[hcs]at b;simp at b
  |cons y r=>
   rw[hcs]at hc
   simp only[a8]at hc
   obtain⟨u,us,rfl,e,_⟩:=hc
   exact e
def Y_{El:Nat->Type}:aI El->Nat->Option (aI El)
 | .b i o,n=>some (.b i (o+n))
 | .x t d o,n=>some (.x t d (o+n))
 | .e i g k t j d o,n=>some (.e i g k t j d (o+n))
 | .w i g o,n=>some (.w i g (o+n))
 |_,_=>none
def P6{El:Nat->Type}(gs:Nat->Nat):aI El->Bool
 | .b _ _=>true
 | .x _ _ _=>true
 | .e i g _ _ _ _ _=>cy g (gs i)
 | .w i g _=>cy g (gs i)
 |_=>false
def uc{El:Nat->Type}(bl:List (aF El))(i:Nat):Nat:=b4 (nth bl i)
theorem CJ{El:Nat->Type}(bl:List (aF El))(i:Nat):uc bl i=b4 bl[i]? :=by rw[uc,dh]
theorem aFI{y k:aI T.El}{n:Nat}{v:Value}(hi:P6 (uc bl) y=true)(h:Y_ y n=some k)(b:aw T F w ρ bl y v):∃g o,v= .pointer (some ⟨g,o,none⟩)/\aw T F w ρ bl k (.pointer (some ⟨g,o+n,none⟩)):=by
 cases y<;>simp only[Y_,aH,reduceCtorEq]at h<;>subst h
 ·simp only[aw]at b
  obtain⟨g,d,J⟩:=b
  refine⟨g,_,J,?_⟩
  simp only[aw]
  exact⟨g,d,rfl⟩
 ·simp only[aw]at b
  obtain⟨a,q,cs,d,J,e,l⟩:=b
  refine⟨a,_,d,?_⟩
  simp only[aw]
  exact⟨a,q,cs,by rw[kU],J,e,l⟩
 ·simp only[aw]at b
  obtain⟨_,u,d,J,e⟩:=b
  simp only[P6]at hi
  have hi:=bd hi
  rw[CJ]at hi
  obtain⟨⟨A,gp,c,f,i,m,j⟩,p,r⟩:=e hi
  refine⟨_,_,j,?_⟩
  simp only[aw]
  exact⟨trivial,u,d,J,λ _=>⟨⟨A,gp,c,f,i,m,by rw[kU]⟩,p,r⟩⟩
 ·simp only[aw]at b
  obtain⟨_,u,d,J,e⟩:=b
  simp only[P6]at hi
  have hi:=bd hi
  rw[CJ]at hi
  obtain⟨A,gp,c,f,i,j⟩:=e hi
  refine⟨_,_,j,?_⟩
  simp only[aw]
  exact⟨trivial,u,d,J,λ _=>⟨A,gp,c,f,i,rfl⟩⟩
def nm{El:Nat->Type}(bl:List (aF El)):aI El->aI El
 | .r i g=>match nth bl i with
   |some (.z t g' _ l)=>match cy g g' with
    |true=>.s t l
    |false=>.r i g
   |_=>.r i g
 |y=>y
end
section
variable{T:bT}{W w:World}{M0:List Nat}{X:Nat->Prop}{bl:List (aF T.El)}{ρ:List Value}
theorem PO(c:Mem T W M0 X bl ρ w){y:aI T.El}{v:Value}(a:aw T (bk X bl ρ w) w ρ bl y v):aw T (bk X bl ρ w) w ρ bl (nm bl y) v:=by
 cases y with
 |r i g=>
  simp only[nm]
  split
  ·rename_i t g' k l hi
   rw[dh]at hi
   split
   ·rename_i ag
    have ag:=bd ag
    simp only[aw]at a⊢
    obtain⟨_,h,d,J,b⟩:=a
    rw[hi]at b
    have:=b ag
    subst this
    exact c.ok i _ _ hi d
   ·exact a
  ·exact a
 |_=>exact a
def FJ(E:Env)(bl:List (aF E.T.El))(t:Nat):aI E.T.El->D (aI E.T.El)
 | .b i o=>match nth bl i,lay E.P t with
   |some (.c _ cs),some a=>.of (mS cs o a)
   |_,_=>.no
 | .x t' d o=>match lay E.P t with
   |some a=>.of (mS ((E.T.e t').cs d) o a)
   |none=>.no
 | .e i g k t' j d o=>match nth bl i,lay E.P t with
   |some (.r c b e l),some a=>match cy g b,cy k e with
    |true,true=>.of (mS ((E.T.e t').cs d) o a)
    |true,false=>.op (idx l j) λ d'=>.of (mS ((E.T.e c).cs d') o a)
    |_,_=>.no
   |_,_=>.no
 | .w i g o=>match nth bl i,lay E.P t with
   |some (.k _ _ b cs),some a=>match cy g b with
    |true=>.of (mS cs o a)
    |false=>.no
   |_,_=>.no
 | .Au i g sz q=>match nth bl i,lay E.P t with
   |some (.r c b e l),some a=>match cy g b&&cy sz (E.T.ty c).size with
    |true=>.op (idx l q) λ d=>.of (mS [.e i g e c q d 0] 0 a)
    |false=>.no
   |_,_=>.no
 |_=>.no
def X6{El:Nat->Type}:aI El->Option Nat
 | .b i _=>some i
 | .e i _ _ _ _ _ _=>some i
 | .w i _ _=>some i
 |_=>none
def MJ(X:Nat->Prop)(bl:List (aF T.El))(ρ:List Value)(w:World)(k:Nat):Option Nat->Prop
 |none=>bk X bl ρ w k
 |some i=>∃B h,bl[i]? =some B/\ρ[i]? =some h/\k∈bE B h
def Ib(P:Program)(t:Nat)(en:Addr)(us:List Value)(v:Value):Prop:=∀(op:Oper)(ac:Act)(x:Operand)(w':World),op.op= .load t x->ac.eval x= .pointer (some en)->fo w' en us->bh P op ac w' v w'
theorem u4{w:World}{t sz n c:Nat}{A:Option Addr}{xs:List Value}(d:0<n)(h:rowIs w t sz (.slice A n c) n xs):∃g,A=some ⟨g,0,none⟩/\dD A=g/\fo w ⟨g,0,none⟩ xs/\ ∀m:Nat,ag (.slice A m c)=[g]:=by
 have hc:=h.cap;have h:=h.own d;rcases h.2 with⟨a,e⟩|⟨g,cap,cur,a,_⟩
 ·omega
 ·simp only[Value.slice.injEq]at a
  obtain⟨rfl,_,rfl⟩:=a
  refine⟨g,rfl,rfl,λ j u aA=>?_,λ m=>?_⟩
  ·have b:=h.cells (g:=g) rfl j u aA
   rw[lm]at b
   exact b
  ·cases c with
   |zero=>omega
   |succ c=>rfl
theorem alI{α:Type}{T:dj α}{F:Nat->Prop}{w:World}{g:Nat}{l:List α}{xs:List Value}{j:Int}{d:α}(hc:fo w ⟨g,0,none⟩ xs)(a:dM T F w xs l)(hi:idx l j=some d):∃cs,T.rd F w cs d/\fo w ⟨g,j.toNat*T.size,none⟩ cs:=by
 obtain⟨_,_,J⟩:=lF hi;obtain⟨cs,b,c⟩:=K4 T a J;refine⟨cs,b,λ q u e=>?_⟩;have:=hc (j.toNat*T.size+q) u (c q u e);simpa using this
theorem axn{E:Env}(R:yT E.T){W w:World}{M0:List Nat}{X:Nat->Prop}{bl:List (aF E.T.El)}{ρ:List Value}(S:Mem E.T W M0 X bl ρ w){t:Nat}{p y:aI E.T.El}{L:Value}(m:aw E.T (bk X bl ρ w) w ρ bl p L)(h:(FJ E bl t p).out y) :
 ∃en us v,L= .pointer (some en)/\aw E.T (bk X bl ρ w) w ρ bl y v/\fo w en us/\Ib E.P t en us v/\MJ X bl ρ w en.block (X6 p):=by
 unfold FJ at h
 split at h
 ·rename_i i o
  split at h
  ·rename_i ty cs Q b J
   rw[dh]at b
   have h:=D.pT h
   simp only[aw]at m
   obtain⟨g,r,rfl⟩:=m
   obtain⟨g',vs,H,ao,aT⟩:=S.ok i _ _ b r
   simp only[Value.pointer.injEq,aH,Addr.mk.injEq,and_true]at H
   subst H
   have hc:fo w ⟨g,0,none⟩ vs:=λ j u aA=>by
    have ag:(bb.ck g ty vs).ok w:=ao;simpa using yZ ag aA
   obtain⟨v,us,e,I,f⟩:=Fv J h aT hc
   refine⟨⟨g,o,none⟩,us,v,rfl,e,by simpa using I,λ op ac x w' au aa kS=>f op ac x w' au (by simpa using aa) (by simpa using kS),_,_,b,r,by simp[bE,ag]⟩
  ·exact h.elim
 ·rename_i t' d o
  split at h
  ·rename_i Q J
   have h:=D.pT h
   simp only[aw]at m
   obtain⟨a,q,cs,rfl,aq,a_,cZ⟩:=m
   obtain⟨v,us,e,I,f⟩:=Fv J h (R.cells a_) cZ
   exact⟨_,us,v,rfl,e,I,f,aq⟩
  ·exact h.elim
 ·rename_i i g k t' j d o
  split at h
  ·rename_i U g2 I l Q b J
   rw[dh]at b
   simp only[aw]at m
   obtain⟨_,u,C,z,B⟩:=m
   rw[b]at B
   obtain⟨A,c,xs,H,ao,aT⟩:=S.ok i _ _ b C
   subst H
   split at h
   ·rename_i r hk
    have h:=D.pT h
    obtain⟨⟨cn,gp,bJ,s,M,V,F⟩,aFY,Za⟩:=B (bd r)
    obtain⟨l',K,G⟩:=Za (bd hk)
    simp only[jx,aH,Sigma.mk.injEq]at K
    obtain⟨fg,K⟩:=K
    subst fg
    have K:=eq_of_heq K
    subst K
    simp only[Value.slice.injEq]at s
    obtain⟨rfl,rfl,rfl⟩:=s
    obtain⟨gb,rfl,N,hc,O⟩:=u4 (by have:=(lF G).2.1;omega) ao
    obtain⟨cs,Y,Z⟩:=alI hc aT G
    obtain⟨v,us,e,Dn,f⟩:=Fv J h (R.cells Y) Z
    refine⟨_,us,v,F,e,?_,?_,_,_,b,C,by simp[bE,O,N,dD]⟩
    ·simpa[jy,dD]using Dn
    ·simpa[jy,dD,Ib]using f
   ·rename_i r hk
    obtain⟨d',G,h⟩:=h
    have h:=D.pT h
    obtain⟨⟨cn,gp,bJ,s,M,V,F⟩,_,_⟩:=B (bd r)
    simp only[Value.slice.injEq]at s
    obtain⟨rfl,rfl,rfl⟩:=s
    obtain⟨gb,rfl,N,hc,O⟩:=u4 (by have:=(lF G).2.1;omega) ao
    obtain⟨cs,Y,Z⟩:=alI hc aT G
    obtain⟨v,us,e,Dn,f⟩:=Fv J h (R.cells Y) Z
    refine⟨_,us,v,F,e,?_,?_,_,_,b,C,by simp[bE,O,N,dD]⟩
    ·simpa[jy,dD]using Dn
    ·simpa[jy,dD,Ib]using f
   ·exact h.elim
  ·exact h.elim
 ·rename_i i g o
  split at h
  ·rename_i U sz g2 cs Q b J
   rw[dh]at b
   split at h
   ·rename_i r
    have h:=D.pT h
    simp only[aw]at m
    obtain⟨_,u,C,z,B⟩:=m
    rw[b]at B
    obtain⟨A,n,c,xs,H,ao,aT⟩:=S.ok i _ _ b C
    subst H
    obtain⟨cn,gp,bJ,s,M,F⟩:=B (bd r)
    simp only[Value.slice.injEq]at s
    obtain⟨rfl,rfl,rfl⟩:=s
    obtain⟨gb,rfl,N,hc,O⟩:=u4 M ao
    obtain⟨v,us,e,Dn,f⟩:=Fv J h aT hc
    refine⟨_,us,v,F,e,?_,?_,_,_,b,C,by simp[bE,O,N,dD]⟩
    ·simpa[dD]using Dn
    ·simpa[dD,Ib]using f
   ·exact h.elim
  ·exact h.elim
 ·rename_i i g sz q
  split at h
  ·rename_i U g2 I l Q b J
   rw[dh]at b
   split at h
   ·rename_i ag
    simp only[cb]at ag
    have r:=bd ag.1
    have ah:=bd ag.2
    obtain⟨d,G,h⟩:=h
    have h:=D.pT h
    simp only[aw]at m
    obtain⟨a,o,P,rfl,aD,⟨ho,u,C,z,B⟩,hc⟩:=m
    have F8:=z
    rw[b]at B F8
    obtain⟨A,n,c,s,M,V,F⟩:=B r
    have av:a8 E.T (bk X bl ρ w) w ρ bl [.e i g I U q d 0] [P]:=by
     simp only[a8,aw];refine⟨P,[],rfl,⟨ho,u,C,z,λ _=>⟨⟨A,n,c,s,M,V,?_⟩,by rw[b];exact cT _,λ _=>⟨l,by rw[b];rfl,G⟩⟩⟩,rfl⟩;rw[b,F,ah];rfl
    obtain⟨v,us,e,Dn,f⟩:=Fv J h av hc
    exact⟨_,us,v,rfl,e,by simpa using Dn,by simpa[Ib]using f,aD⟩
   ·exact h.elim
  ·exact h.elim
 ·exact h.elim
end
end bc
namespace bc
open Go Go.RowKit ay I
def cellsOf{El:Nat->Type}:aI El->List (aI El)
 | .a l=>l
 | .p (.agg ⟨vs⟩)=>vs.map .p
 |y=>[y]
def fO{α:Type}:List α->Nat->List α->List α
 |l,0,cs=>cs++l.drop cs.length
 |[],_+1,_=>[]
 |u::l,n+1,cs=>u::fO l n cs
theorem xj{α:Type}:∀(l:List α)(n:Nat)(cs:List α),n+cs.length<=l.length->fO l n cs=l.take n++cs++l.drop (n+cs.length)
 |l,0,cs,_=>by simp[fO]
 |[],n+1,cs,h=>by simp at h
 |u::l,n+1,cs,h=>by
  have:=xj l n cs (by simp at h;omega);simp only[fO,this,kO,iE];have e:n+1+cs.length=(n+cs.length)+1:=by omega
  rw[e,List.drop_succ_cons]
theorem X4{α:Type}{l:List α}{n:Nat}{cs:List α}(h:n+cs.length<=l.length):(fO l n cs).length=l.length:=by
 rw[xj l n cs h];simp;omega
theorem agG(off:Nat):∀(cs:List Value)(k:Nat)(l:Array Value),off+k+cs.length<=l.size->((cs.zipIdx k).foldl (λ(a:Array Value)(x:Value×Nat)=>a.setIfInBounds (off+x.2) x.1) l).toList=fO l.toList (off+k) cs
 |[],k,l,h=>by
  rw[xj _ _ _ (by simpa using h)];simp
 |c::r,k,l,h=>by
  simp only[List.zipIdx_cons,jr];have h':off+(k+1)+r.length<=(l.setIfInBounds (off+k) c).size:=by simp at h⊢;omega
  rw[agG off r (k+1) _ h',xj _ _ _ (by simpa using h'),xj _ _ _ (by simpa using h)];have b:off+k<l.toList.length:=by simp at h⊢;omega
  simp only[Array.toList_setIfInBounds,dL];apply lu;intro i;simp only[np,fZ,kc,hG,List.getElem?_set,i_,dR,dL];have d:min (off+(k+1)) l.toList.length=off+k+1:=by simp at h b⊢;omega
  have ao:min (off+k) l.toList.length=off+k:=by omega
  rw[d,ao];by_cases c1:i<off+k
  ·simp[c1,show i<off+k+1 by omega,show i<off+k+1+r.length by omega,show i<off+k+(r.length+1) by omega,show i<off+(k+1) by omega,show¬off+k=i by omega]
  ·by_cases c2:i=off+k
   ·subst c2
    simp only[show off+k<off+k+1 by omega,show off+k<off+k+1+r.length by omega,show off+k<off+k+(r.length+1) by omega,show off+k<off+(k+1) by omega,if_true,b,Nat.lt_irrefl,if_false,mm,dU]
   ·by_cases c3:i<off+k+1+r.length
    ·simp only[show¬i<off+k+1 by omega,c3,show i<off+k+(r.length+1) by omega,c1,if_false,if_true]
     have:i- (off+k)=(i- (off+k+1))+1:=by omega
     rw[this,List.getElem?_cons_succ]
    ·simp only[show¬i<off+k+1 by omega,c3,show¬i<off+k+(r.length+1) by omega,if_false,show¬(off+k=off+(k+1)+r.length+(i- (off+k+1+r.length))) by omega]
     congr 1
     omega
def wb{El:Nat->Type}(pl:Nat->Option (Nat×Nat)):List (aI El)->List (Nat×aI El)->Option (List (aI El))
 |cs,[]=>some cs
 |cs,(i,y)::r=>match pl i with
  |some (off,size)=>match cy (cellsOf y).length size&&jF (off+(cellsOf y).length) cs.length with
   |true=>wb pl (fO cs off (cellsOf y)) r
   |false=>none
  |none=>none
section
variable{T:bT}{F:Nat->Prop}{w:World}{ρ:List Value}{bl:List (aF T.El)}
theorem s0:∀(vs:List Value),a8 T F w ρ bl (vs.map .p) vs
 |[]=>by simp[a8]
 |v::r=>by simp only[eB,a8];exact⟨v,r,rfl,rfl,s0 r⟩
theorem lN{z:aI T.El}{u:Value}(a:aw T F w ρ bl z u):a8 T F w ρ bl [z] [u]:=by
 simp only[a8];exact⟨u,[],rfl,a,rfl⟩
theorem Nc{v:Value}(h:kZ v):v.cells.toList=[v]:=by cases v<;>simp[kZ]at h;rfl
theorem Nb{v:Value}(h:wZ v):v.cells.toList=[v]:=by cases v<;>simp[wZ]at h;rfl
theorem pk{y:aI T.El}{v:Value}(h:aw T F w ρ bl y v):a8 T F w ρ bl (cellsOf y) v.cells.toList:=by
 cases y with
 |a l=>simp only[aw]at h;obtain⟨vs,rfl,h⟩:=h;exact h
 |p u=>
  simp only[aw]at h
  subst h
  cases v with
  |agg cs=>obtain⟨vs⟩:=cs;exact s0 vs
  |_=>exact lN (by simp[aw])
 |b i o=>have h':=h;simp only[aw]at h';obtain⟨g,_,rfl⟩:=h';exact lN h
 |x t d o=>have h':=h;simp only[aw]at h';obtain⟨a,q,cs,rfl,_⟩:=h';exact lN h
 |s t l=>have h':=h;simp only[aw]at h';obtain⟨A,c,e⟩:=mz _ h';subst e;exact lN h
 |q t l=>have h':=h;simp only[aw]at h';obtain⟨_,A,rfl⟩:=h';exact lN h
 |r i g=>have h':=h;simp only[aw]at h';rw[Nc h'.1];exact lN h
 |v i g lo hi=>have h':=h;simp only[aw]at h';rw[Nc h'.1];exact lN h
 |e i g k t j d o=>have h':=h;simp only[aw]at h';rw[Nb h'.1];exact lN h
 |w i g o=>have h':=h;simp only[aw]at h';rw[Nb h'.1];exact lN h
 |m i=>have h':=h;simp only[aw]at h';obtain⟨g,_,rfl⟩:=h';exact lN h
 |n _ _ _=>have h':=h;simp only[aw]at h';obtain⟨g,rfl,_⟩:=h';exact lN h
 |f fn cs=>have h':=h;simp only[aw]at h';obtain⟨g,rfl,_⟩:=h';exact lN h
 |h fn us=>have h':=h;simp only[aw]at h';obtain⟨g,rfl,_⟩:=h';exact lN h
 |u l=>have h':=h;simp only[aw]at h';obtain⟨g,rfl,_⟩:=h';exact lN h
 |i t z=>have h':=h;simp only[aw]at h';obtain⟨g,rfl,_⟩:=h';exact lN h
 |pp i g sz ef=>have h':=h;simp only[aw]at h';obtain⟨_,_,rfl,_⟩:=h';exact lN h
 |Au i g sz q=>have h':=h;simp only[aw]at h';obtain⟨_,_,_,rfl,_⟩:=h';exact lN h
theorem a8.lay{l cs:List (aI T.El)}{vs us:List Value}{n:Nat}(h:a8 T F w ρ bl l vs)(h':a8 T F w ρ bl cs us)(a:n+cs.length<=l.length):a8 T F w ρ bl (fO l n cs) (fO vs n us):=by
 have b:=h.len;have ao:=h'.len;rw[xj _ _ _ a,xj _ _ _ (by omega),ao];exact a8.bI (a8.bI (a8.take n h) h') (a8.drop _ h)
def rU(T:bT)(F:Nat->Prop)(w:World)(ρ:List Value)(bl:List (aF T.El)):List (Nat×aI T.El)->List (Nat×Value)->Prop
 |[],vs=>vs=[]
 |(i,y)::r,vs=>∃v ws,vs=(i,v)::ws/\aw T F w ρ bl y v/\rU T F w ρ bl r ws
theorem UK{pl:Nat->Option (Nat×Nat)}:∀ {ps:List (Nat×aI T.El)}{vs:List (Nat×Value)}{cs out:List (aI T.El)}{us:List Value},a8 T F w ρ bl cs us->rU T F w ρ bl ps vs->wb pl cs ps=some out-> ∃os,Instr.fill pl ⟨us⟩ vs=some ⟨os⟩/\a8 T F w ρ bl out os
 |[],vs,cs,out,us,h,b,a=>by
  simp only[rU]at b;subst b;simp only[wb,aH]at a;subst a;exact⟨us,rfl,h⟩
 |(i,y)::r,vs,cs,out,us,h,b,a=>by
  simp only[rU]at b;obtain⟨v,ws,rfl,hy,c⟩:=b;simp only[wb]at a;split at a
  ·rename_i off size Gd
   split at a
   ·rename_i ag
    simp only[cb]at ag
    have f:=bd ag.1
    have ao:=cS ag.2
    have hc:=pk hy
    have l1:=hc.len
    have g:=h.len
    have j:v.cells.size=(cellsOf y).length:=by rw[<-l1];simp
    obtain⟨os,d,J⟩:=UK (h.lay hc ao) c a
    refine⟨os,?_,J⟩
    simp only[Instr.fill,Gd]
    rw[if_neg (by simp only[ia,decide_eq_true_eq,bne_iff_ne,not_or];simp only[List.size_toArray];omega)]
    have e:v.cells.zipIdx.toList=v.cells.toList.zipIdx:=by simp
    rw[<-Array.foldl_toList,e]
    have:=agG off v.cells.toList 0 ⟨us⟩ (by simp;omega)
    simp only[lf]at this
    rw[<-d]
    congr 1
    rw[<-Array.toList_inj]
    exact this
   ·cases a
  ·cases a
end
def KR(P:Program):List Go.Field->Option (List (Nat×Nat))
 |[]=>some []
 |f::r=>match P.info? f.type,KR P r with
  |some i,some l=>some ((f.offset,i.size)::l)
  |_,_=>none
theorem akH{P:Program}{w:World}:∀ {cf:List Go.Field}{l:List (Nat×Nat)},KR P cf=some l->(cf.mapM λ(f:Go.Field)=>(do pure (f.offset,<-Go.sizeOf f.type):Sem (Nat×Nat))).run P w= .ok l w
 |[],l,h=>by simp only[KR,aH]at h;subst h;rfl
 |f::r,l,h=>by
  simp only[KR]at h;split at h
  ·rename_i i l' a J
   simp only[aH]at h
   subst h
   rw[List.mapM_cons]
   simp only[Sem.run_bind,run_sizeOf a,akH J,Result.andThen_ok,Sem.run_pure]
  ·cases h
def EZ(P:Program)(t:TypeId):Option (List Value):=match P.info? t with
 |some i=>match i.zero with
  |some z=>some z.cells.toList
  |none=>none
 |none=>none
theorem Mt{P:Program}{t:TypeId}{l:List Value}(h:EZ P t=some l):∃z,(∀w,(zeroValue t).run P w= .ok z w)/\z.cells=⟨l⟩:=by
 unfold EZ at h;split at h
 ·rename_i i a
  split at h
  ·rename_i z J
   simp only[aH]at h
   subst h
   refine⟨z,λ w=>?_,by simp⟩
   simp only[zeroValue,typeInfo,Sem.run_bind]
   simp[go_sem,a,J]
  ·cases h
 ·cases h
def Up(E:Env)(t:Nat)(ps:List (Nat×aI E.T.El)):D (aI E.T.El):=match E.P.underlying t,EZ E.P t with
 |some (.struct cf),some z=>match KR E.P cf.toList with
  |some pl=>match wb (λ i=>nth pl i) (z.map .p) ps with
   |some cs=>.ok (.a cs)
   |none=>.no
  |none=>.no
 |_,_=>.no
section
variable{E:Env}{F:Nat->Prop}{w:World}{ρ:List Value}{bl:List (aF E.T.El)}
theorem axc{t:Nat}{ps:List (Nat×aI E.T.El)}{vs:List (Nat×Value)}{y:aI E.T.El}(d:rU E.T F w ρ bl ps vs)(h:(Up E t ps).out y) :
 ∃v,aw E.T F w ρ bl y v/\ ∀(o:Oper)(a:Act)(xs:List (Nat×Operand))(w':World),o.op= .build t xs.toArray->xs.map (λ p=>(p.1,a.eval p.2))=vs->bh E.P o a w' v w':=by
 unfold Up at h
 split at h
 ·rename_i cf z g J
  split at h
  ·rename_i pl j
   split at h
   ·rename_i cs k
    have h:aI.a cs=y:=h
    subst h
    obtain⟨s,l,Xk⟩:=Mt J
    obtain⟨os,c,m⟩:=UK (s0 z) d k
    refine⟨.agg ⟨os⟩,by simp only[aw];exact⟨os,rfl,m⟩,λ o a xs w' n q=>?_⟩
    have b:(λ i=>nth pl i)=(λ i=>(⟨pl⟩:Array (Nat×Nat))[i]?):=by funext i;rw[dh];simp
    have Gd:(cf.mapM λ(f:Go.Field)=>(do pure (f.offset,<-Go.sizeOf f.type):Sem (Nat×Nat))).run E.P w'= .ok ⟨pl⟩ w':=by
     have r:=akH (w:=w') j;have e:cf.mapM (λ(f:Go.Field)=>(do pure (f.offset,<-Go.sizeOf f.type):Sem (Nat×Nat)))=List.toArray <$> cf.toList.mapM (λ(f:Go.Field)=>(do pure (f.offset,<-Go.sizeOf f.type):Sem (Nat×Nat))):=by
      rw[<-List.mapM_toArray]
     rw[e,map_eq_pure_bind,Sem.run_bind,r];rfl
    rw[b]at c
    simp only[bh,execOp,n,Instr.build,Sem.run_bind,l,Result.andThen_ok,run_underlying g,Gd,hK,q,Xk,c]
    rfl
   ·exact h.elim
  ·exact h.elim
 ·exact h.elim
end
end bc
namespace ay
open Go Go.RowKit I
section
variable{P:Program}{ops:Array Oper}{Q:Exit->Act->World->Prop}{a:Act}{w:World}{rest:List Oper}{o:Oper}{n:cE}{d:Nat}{l:List (Nat×Value)}
 {W:World}{M0 X:List Nat}{E:List bb}{D:List bF}
def bb.nil:bb:=⟨[],λ _=>True,λ _ _ _ _=>trivial⟩
theorem bz.NA{x:bb}{w':World}(b:bz W M0 X w E D)(i:Nat)(hi:E[i]? =some x)(c:br [] w w'):x.ok w':=
 x.law w w' (λ k e=>c.block k (b.lt k (hM.2 ⟨x,bG hi,e⟩)).1 (by simp)) (b.e i hi)
theorem aNr{t:TypeId}{x:Operand}{lo hi:Option Operand}{p r:List UInt8}{i j:Int}(q:P.underlying t=some .string)(u:o.op= .slice t x lo hi none)(v:a.eval x=cw p)
 (y:(lo=none/\i=0)\/ ∃z,lo=some z/\a.eval z= .int .i64 i)(kT:(hi=none/\j=p.length)\/ ∃z,hi=some z/\a.eval z= .int .i64 j)(A:cut p i j=some r):bh P o a w (cw r) w:=by
 obtain⟨⟨I,J,K⟩,rfl⟩:=TX A
 have b:(⟨p.toArray⟩:ByteArray).size=p.length:=by simp[ByteArray.size]
 have f:∀code,(Instr.sliceBound (.int .i64 j) (⟨p.toArray⟩:ByteArray).size code).run P w= .ok j.toNat w:=λ code=>Az rfl (by rw[b];omega)
 rw[b]at f
 have B:∀code,(Instr.sliceBound (.int .i64 i) j.toNat code).run P w= .ok i.toNat w:=λ code=>Az rfl (by omega)
 have s:∀code,(Instr.sliceBound (.int .i64 i) (⟨p.toArray⟩:ByteArray).size code).run P w= .ok i.toNat w:=λ code=>Az rfl (by rw[b];omega)
 rw[b]at s
 have C:(⟨p.toArray⟩:ByteArray).extract i.toNat j.toNat=⟨((p.take j.toNat).drop i.toNat).toArray⟩:=by
  apply ByteArray.ext;simp[ByteArray.data_extract,List.drop_take]
 have key:∀c e:Option Value,((c=none/\i=0)\/c=some (.int .i64 i))->((e=none/\j=p.length)\/e=some (.int .i64 j)) ->
  (Instr.slice t (.string ⟨p.toArray⟩) c e none).run P w= .ok (cw ((p.take j.toNat).drop i.toNat)) w:=by
  intro c e F G
  have ag:∃m,(Instr.sliceBounds false (⟨p.toArray⟩:ByteArray).size (⟨p.toArray⟩:ByteArray).size c e none).run P w= .ok (i.toNat,j.toNat,m) w:=by
   rcases F with⟨rfl,rfl⟩|rfl<;>rcases G with⟨rfl,aA⟩|rfl
   ·exact⟨_,by simp[Instr.sliceBounds,aA,b];rfl⟩
   ·exact⟨_,by simp[Instr.sliceBounds,b,f];rfl⟩
   ·exact⟨_,by simp[Instr.sliceBounds,s,aA,b];rfl⟩
   ·exact⟨_,by simp[Instr.sliceBounds,b,f,B];rfl⟩
  obtain⟨m,ag⟩:=ag
  simp only[Instr.slice,Sem.run_bind,run_underlying q,Result.andThen_ok,mo,hX,if_false,ag,Sem.run_pure,C,cw]
 have H:=key (lo.map a.eval) (hi.map a.eval) (y.imp (λ h=>⟨by rw[h.1];rfl,h.2⟩) (λ⟨z,g,k⟩=>by rw[g,fU,k])) (kT.imp (λ h=>⟨by rw[h.1];rfl,h.2⟩) (λ⟨z,g,k⟩=>by rw[g,fU,k]))
 simp only[bh,execOp,u,v,cw,Instr.sliceAt,Sem.run_bind,run_underlying q,Result.andThen_ok,jq,H]
 rfl
theorem aNw{t:TypeId}{x:Operand}{v:Value}(hc:P.concrete t=true)(b:o.op= .makeInterface t x)(c:a.eval x=v):bh P o a w (.iface t v) w:=by
 simp only[bh,execOp,b,c];simp[go_sem,run_makeInterface _ _ _ hc]
end
end ay
namespace bc
open Go Go.RowKit ay I
abbrev lg(P:Program)(o:Oper)(a:Act)(v:Value):Prop:=∀w,bh P o a w v w
section
variable{E:Env}{W w:World}{M0:List Nat}{X:Nat->Prop}{bl:List (aF E.T.El)}{ρ:List Value}
def Y5(E:Env)(x y:Operand)(b:Bool):aI E.T.El->aI E.T.El->D (aI E.T.El)
 | .p u,.p v=>match P3 x y b u v with
   |some r=>.ok (.p r)
   |none=>.qx b (.ok (.p u)) (.ok (.p v))
 |u,v=>.qx b (.ok u) (.ok v)
theorem aFx{F:Nat->Prop}{a:Act}{x y:Operand}{b:Bool}{u v z:aI E.T.El}(h:(Y5 E x y b u v).out z)(c:b=true->aw E.T F w ρ bl u (a.eval x))(hy:b=false->aw E.T F w ρ bl v (a.eval y)) :
 ∃r,(if b then a.eval x else a.eval y)=r/\aw E.T F w ρ bl z r:=by
 have key:(D.qx b (.ok u) (.ok v)).out z-> ∃r,(if b then a.eval x else a.eval y)=r/\aw E.T F w ρ bl z r:=λ h=>by
  rcases h with⟨ag,h⟩|⟨ag,h⟩
  ·have h:u=z:=h
   subst h;subst ag
   exact⟨_,rfl,by simpa using c rfl⟩
  ·have h:v=z:=h
   subst h;subst ag
   exact⟨_,rfl,by simpa using hy rfl⟩
 unfold Y5 at h
 split at h
 ·rename_i u v
  split at h
  ·rename_i r d
   have h:aI.p r=z:=h
   subst h
   refine⟨r,akC (a:=a) d (λ ag=>?_) (λ ag=>?_),by simp[aw]⟩
   ·simpa[aw]using c ag
   ·simpa[aw]using hy ag
  ·exact key h
 ·exact key h
theorem aNJ{P:Program}{o:Oper}{a:Act}{c x y:Operand}{b:Bool}{r:Value}(d:o.op= .pick c x y)(hc:a.eval c= .bool b)(h:(if b then a.eval x else a.eval y)=r):bh P o a w r w:=by
 cases b with
 |true=>exact Sv d hc (by simpa using h)
 |false=>exact Su d hc (by simpa using h)
def aBF(P:Program)(t:TypeId):Bool:=match P.underlying t with
 |some (.struct _)=>true
 |_=>false
def lG{El:Nat->Type}:aI El->Bool
 | .a _=>true
 | .p (.agg _)=>true
 |_=>false
def Nr(E:Env)(t:Nat)(b:Bool)(u v:aI E.T.El):D (aI E.T.El):=match lG u&&lG v with
 |true=>match(E.T.e t).eq,(E.T.e t).hz (cellsOf u),(E.T.e t).hz (cellsOf v)with
  |some f,some d,some e=>.ok (.p (.bool (cond b (f d e) (!f d e))))
  |_,_,_=>.no
 |false=>.no
def aiv:Value->Bool
 | .pointer none=>true
 |_=>false
def OV{El:Nat->Type}:aI El->Bool
 | .b _ _=>true
 | .x _ _ _=>true
 | .e _ _ _ _ _ _ _=>true
 | .w _ _ _=>true
 |_=>false
def Y9(P:Program)(t:TypeId):Bool:=match P.underlying t with
 |some (.pointer _)=>true
 |_=>false
def DU(op:BinOp)(b:Bool):Option Bool:=match op with
 | .eql=>some b
 | .neq=>some (!b)
 |_=>none
def aeX(op:BinOp)(m n:Int):Option Value:=match op with
 | .quo=>some (.int .i64 (ax (m.tdiv n)))
 | .rem=>some (.int .i64 (m.tmod n))
 |_=>none
def Uo(E:Env)(t:Nat)(op:BinOp)(gr:Bool)(u v:aI E.T.El):D (aI E.T.El):=match aBF E.P t,op with
 |true,.eql=>Nr E t true u v
 |true,.neq=>Nr E t false u v
 |_,_=>match u,v with
  | .p x,.p y=>match bin (k1 (E.P.underlying t)) gr op x y with
    |some r=>.ok (.p r)
    |none=>match x,y with
     | .int .i64 m,.int .i64 n=>match aeX op m n with
       |some r=>.op (xC (!decide (n=0))) λ _=>.ok (.p r)
       |none=>.no
     | .int .u64 m,.int _ (.ofNat n)=>match op,jF n 64 with
       | .shr,true=>.ok (.p (.int .u64 (xM m n)))
       |_,_=>.no
     |_,_=>.no
  |u,.p y=>match Y9 E.P t&&OV u&&aiv y,DU op false with
   |true,some b=>.ok (.p (.bool b))
   |_,_=>.no
  |_,_=>.no
theorem aNK{P:Program}{o:Oper}{a:Act}{t t':TypeId}{x y:Operand}{p:Addr}{op:BinOp}{b:Bool}(c:Y9 P t=true)(ag:DU op false=some b)(g:o.op= .binOp op t x y t')(i:a.eval x= .pointer (some p))(hy:a.eval y= .pointer none):bh P o a w (.bool b) w:=by
 have f:∃e,P.underlying t=some (.pointer e):=by
  unfold Y9 at c;split at c
  ·rename_i e h;exact⟨e,h⟩
  ·cases c
 obtain⟨e,f⟩:=f;have h:∀d:Nat,(Op.equalIn (d+1) t (.pointer (some p)) (.pointer none)).run P w= .ok false w:=λ d=>by
  simp[Op.equalIn,run_underlying f]
 cases op<;>simp only[DU,aH,reduceCtorEq]at ag<;>subst ag
 ·have J:(binOp .eql t (.pointer (some p)) (.pointer none)).run P w= .ok (.bool false) w:=by
   simp only[binOp];simp[Op.equal,Op.maxDepth,h 9999]
  simp only[bh,execOp,g,i,hy];simp[go_sem,J]
 ·have J:(binOp .neq t (.pointer (some p)) (.pointer none)).run P w= .ok (.bool true) w:=by
   simp only[binOp];simp[Op.equal,Op.maxDepth,h 9999]
  simp only[bh,execOp,g,i,hy];simp[go_sem,J]
theorem aiw{F:Nat->Prop}{y:aI E.T.El}{v:Value}(h:OV y=true)(a:aw E.T F w ρ bl y v):∃p,v= .pointer (some p):=by
 cases y<;>simp only[OV,reduceCtorEq]at h
 ·simp only[aw]at a;obtain⟨g,_,rfl⟩:=a;exact⟨_,rfl⟩
 ·simp only[aw]at a;obtain⟨_,_,_,rfl,_⟩:=a;exact⟨_,rfl⟩
 ·simp only[aw]at a;cases v<;>simp[wZ]at a;rename_i p;cases p<;>simp at a;exact⟨_,rfl⟩
 ·simp only[aw]at a;cases v<;>simp[wZ]at a;rename_i p;cases p<;>simp at a;exact⟨_,rfl⟩
theorem Kc{F:Nat->Prop}{y:aI E.T.El}{v:Value}(h:lG y=true)(a:aw E.T F w ρ bl y v):v= .agg ⟨v.cells.toList⟩:=by
 cases y<;>simp only[lG,reduceCtorEq]at h
 ·rename_i u
  simp only[aw]at a
  subst a
  cases v<;>simp only[lG,reduceCtorEq]at h
  simp[Value.cells]
 ·simp only[aw]at a
  obtain⟨vs,rfl,_⟩:=a
  simp[Value.cells]
theorem axb(a7:di E){F:Nat->Prop}{o:Oper}{a:Act}{t:Nat}{op:BinOp}{gr:Bool}{x y:Operand}{t':TypeId}{u v z:aI E.T.El}(h:(Uo E t op gr u v).out z)(j:o.op= .binOp op t x y t')(C:gr=true-> ∀k n,a.eval y= .int k n->n≠0)
 (i:aw E.T F w ρ bl u (a.eval x))(hy:aw E.T F w ρ bl v (a.eval y)):∃r,lg E.P o a r/\aw E.T F w ρ bl z r:=by
 have A:∀ {b:Bool},op=cond b .eql .neq->(Nr E t b u v).out z-> ∃r,lg E.P o a r/\aw E.T F w ρ bl z r:=λ{b} ag h=>by
  unfold Nr at h;split at h
  ·rename_i l
   simp only[cb]at l
   split at h
   ·rename_i f d e c J D
    have h:aI.p (.bool (cond b (f d e) (!f d e)))=z:=h
    subst h
    have G:=a7.tb.hz _ _ _ J _ _ _ _ _ (pk i)
    have s:=a7.tb.hz _ _ _ D _ _ _ _ _ (pk hy)
    exact⟨.bool (cond b (f d e) (!f d e)),λ w'=>a7.eq t f c _ _ _ _ d e G s o a x y t' b (by rw[j,ag]) (Kc l.1 i) (Kc l.2 hy) w',by simp only[aw]⟩
   ·exact h.elim
  ·exact h.elim
 unfold Uo at h
 split at h
 ·exact A (b:=true) rfl h
 ·exact A (b:=false) rfl h
 ·split at h
  ·rename_i p q
   simp only[aw]at i hy
   split at h
   ·rename_i r g
    have h:aI.p r=z:=h
    subst h
    exact⟨r,λ w'=>aec (λ k H=>w2 H) C g j i hy,by simp only[aw]⟩
   ·split at h
    ·rename_i m n
     split at h
     ·rename_i r g
      obtain⟨b,c,J⟩:=h
      have J:aI.p r=z:=J
      subst J
      have B:=YI c
      refine⟨r,λ w'=>?_,by simp only[aw]⟩
      unfold aeX at g
      split at g
      ·simp only[aH]at g;subst g;exact apE j i hy B
      ·simp only[aH]at g;subst g;exact apF j i hy B
      ·cases g
     ·exact h.elim
    ·rename_i m k n _
     split at h
     ·rename_i ag _
      have h:aI.p (.int .u64 (xM m n))=z:=h
      subst h
      exact⟨_,λ w'=>aNM (by assumption) j i hy,by simp only[aw]⟩
     ·exact h.elim
    ·exact h.elim
  ·rename_i q _
   split at h
   ·rename_i b c J
    have h:aI.p (.bool b)=z:=h
    subst h
    simp only[cb]at c
    simp only[aw]at hy
    obtain⟨p,I⟩:=aiw c.1.2 i
    have K:q= .pointer none:=by
     cases q<;>simp only[aiv,reduceCtorEq,and_false]at c;rename_i L;cases L<;>simp at c⊢
    exact⟨_,λ w'=>aNK c.1.1 J j I (by rw[hy,K]),by simp only[aw]⟩
   ·exact h.elim
  ·exact h.elim
end
end bc
namespace bc
open Go Go.RowKit ay I
def oS(P:Program)(t:TypeId):Option (Nat×Nat):=match P.underlying t with
 |some (.slice e)=>match P.info? e with
  |some i=>some (e,i.size)
  |none=>none
 |_=>none
theorem s6{P:Program}{t e n:Nat}(h:oS P t=some (e,n)):P.underlying t=some (.slice e)/\ ∀w,(Go.sizeOf e).run P w= .ok n w:=by
 unfold oS at h;split at h
 ·rename_i e' a
  split at h
  ·rename_i i J
   simp only[aH,cF]at h
   obtain⟨rfl,rfl⟩:=h
   exact⟨a,run_sizeOf J⟩
  ·cases h
 ·cases h
def Uu(E:Env)(bl:List (aF E.T.El))(t:Nat):aI E.T.El->aI E.T.El->D (aI E.T.El)
 | .s t' l,.p (.int .i64 j)=>match oS E.P t with
   |some (_,n)=>match cy n (E.T.ty t').size with
    |true=>.op (idx l j) λ d=>.ok (.x t' d 0)
    |false=>.no
   |none=>.no
 | .q t' l,.p (.int .i64 j)=>match oS E.P t with
   |some (_,n)=>match cy n (E.T.ty t').size with
    |true=>.op (idx l j) λ d=>.ok (.x t' d 0)
    |false=>.no
   |none=>.no
 | .r i g,.p (.int .i64 j)=>match oS E.P t,nth bl i with
   |some (_,n),some (.r t' a k l)=>match cy g a&&cy n (E.T.ty t').size with
    |true=>.op (idx l j) λ d=>.ok (.e i g k t' j d 0)
    |false=>.no
   |some (_,n),some (.k _ sz a cs)=>match cy g a&&cy n sz&&decide (0<=j)&&jF ((j.toNat+1)*sz) cs.length&&fs 0 sz with
    |true=>.ok (.w i g (j.toNat*sz))
    |false=>.no
   |_,_=>.no
 | .v i g lo hi,.p (.int .i64 j)=>match oS E.P t,nth bl i with
   |some (_,n),some (.r t' a k l)=>match cy g a&&cy n (E.T.ty t').size with
    |true=>.op (idx ((l.take hi.toNat).drop lo.toNat) j) λ d=>.ok (.e i g k t' (lo+j) d 0)
    |false=>.no
   |_,_=>.no
 | .pp i g sz ef,.p (.int .i64 j)=>match oS E.P t with
   |some (_,n)=>match cy n 1 with
    |true=>.op (idx ef j) λ q=>.ok (.Au i g sz q)
    |false=>.no
   |none=>.no
 |_,_=>.no
theorem aBl{α:Type}{l:List α}{lo hi j:Int}{d:α}(e:0<=lo)(f:hi<=l.length)(h:idx ((l.take hi.toNat).drop lo.toNat) j=some d):idx l (lo+j)=some d/\0<=j/\lo+j<hi:=by
 obtain⟨a,b,c⟩:=lF h;simp only[ks,fZ]at b;rw[i_,hG]at c;split at c
 ·refine⟨?_,a,by omega⟩
  unfold idx
  rw[if_pos (by omega),show(lo+j).toNat=lo.toNat+j.toNat by omega]
  exact c
 ·cases c
section
variable{E:Env}{W w:World}{M0:List Nat}{X:Nat->Prop}{bl:List (aF E.T.El)}{ρ:List Value}
theorem Hb{t sz n c:Nat}{A:Option Addr}{xs:List Value}(h:rowIs w t sz (.slice A n c) n xs)(a:0<n):∃g,A=some ⟨g,0,none⟩:=h.cap.2.2.2 (by have:=h.cap.1;omega)
theorem Qz{t sz n c:Nat}{A:Option Addr}{xs:List Value}(h:rowIs w t sz (.slice A n c) n xs):n<=c:=h.cap.1
theorem agf{F:Nat->Prop}{t':Nat}{l:List (E.T.El t')}{o:Oper}{a:Act}{t e n:Nat}{x y:Operand}{j:Int}{d:E.T.El t'}{A:Option Addr}{c:Nat}(aj:oS E.P t=some (e,n))(h:n=(E.T.ty t').size)(b:idx l j=some d)(i:o.op= .indexAddr t x y)
 (k:a.eval x= .slice A l.length c)(f:(b5 (E.T.ty t')).rd F w [.slice A l.length c] l)(hy:a.eval y= .int .i64 j):∃r,lg E.P o a r/\aw E.T F w ρ bl (.x t' d 0) r:=by
 have m:=b
 obtain⟨p,q⟩:=s6 aj
 obtain⟨s,aA,cs,u,v⟩:=D7 _ f b
 refine⟨_,λ w'=>qi p q i k hy s aA,?_⟩
 simp only[aw]
 obtain⟨cn,C,g,ao,aT,bQ,dw⟩:=(f:(b5 _).rd _ w _ l)
 have z:l≠[]:=by intro e;subst e;have:=(lF m).2.1;simp at this
 have B:=(dw z).2.1
 simp only[h3,Value.slice.injEq,and_true,true_and]at g
 obtain⟨rfl,rfl⟩:=g
 exact⟨dD A,fP A+j.toNat*(E.T.ty t').size,cs,by rw[h];simp,B,u,v⟩
theorem axi{o:Oper}{a:Act}{t:Nat}{x y:Operand}{u v z:aI E.T.El}(D:Mem E.T W M0 X bl ρ w)(h:(Uu E bl t u v).out z)(L:o.op= .indexAddr t x y)
 (b:aw E.T (bk X bl ρ w) w ρ bl u (a.eval x))(hy:aw E.T (bk X bl ρ w) w ρ bl v (a.eval y)):∃r,lg E.P o a r/\aw E.T (bk X bl ρ w) w ρ bl z r:=by
 unfold Uu at h
 split at h
 ·rename_i t' l j
  split at h
  ·rename_i e n aj
   split at h
   ·rename_i ag
    obtain⟨d,f,J⟩:=h
    have J:aI.x t' d 0=z:=J
    subst J
    simp only[aw]at b hy
    obtain⟨A,c,F⟩:=mz _ b
    rw[F]at b
    exact agf aj (bd ag) f L F b hy
   ·exact h.elim
  ·exact h.elim
 ·rename_i t' l j
  split at h
  ·rename_i e n aj
   split at h
   ·rename_i ag
    obtain⟨d,f,J⟩:=h
    have J:aI.x t' d 0=z:=J
    subst J
    simp only[aw]at b hy
    obtain⟨A,c,F⟩:=mz _ b.1
    have b:=b.1
    rw[F]at b
    exact agf aj (bd ag) f L F b hy
   ·exact h.elim
  ·exact h.elim
 ·rename_i i g j
  split at h
  ·rename_i e n t' Q k l aj hi
   rw[dh]at hi
   split at h
   ·rename_i ag
    simp only[cb]at ag
    obtain⟨d,f,J⟩:=h
    have J:aI.e i g k t' j d 0=z:=J
    subst J
    simp only[aw]at b hy
    obtain⟨_,aL,p,s,C⟩:=b
    rw[hi]at s C
    have G:=C (bd ag.1)
    obtain⟨A,c,xs,M,ao,aT⟩:=D.ok i _ _ hi p
    subst M
    obtain⟨N,R,S⟩:=lF f
    obtain⟨gb,rfl⟩:=Hb ao (by omega)
    obtain⟨H,I⟩:=s6 aj
    have K:=bd ag.2
    refine⟨_,λ w'=>qi H I L G hy rfl ⟨N,by omega⟩,?_⟩
    simp only[aw]
    refine⟨trivial,_,p,by rw[hi];exact s,λ _=>⟨⟨_,_,_,rfl,N,by omega,by simp[dD,fP,hi,jy,K]⟩,by rw[hi];exact cT _,λ _=>⟨l,by rw[hi];rfl,f⟩⟩⟩
   ·exact h.elim
  ·rename_i e n t' sz Q cs aj hi
   rw[dh]at hi
   split at h
   ·rename_i ag
    simp only[cb,decide_eq_true_eq]at ag
    obtain⟨⟨⟨⟨Y,Z⟩,eY⟩,e6⟩,U⟩:=ag
    have h:aI.w i g (j.toNat*sz)=z:=h
    subst h
    simp only[aw]at b hy
    obtain⟨_,aL,p,s,C⟩:=b
    rw[hi]at s C
    have G:=C (bd Y)
    obtain⟨A,m,c,xs,M,ao,aT⟩:=D.ok i _ _ hi p
    subst M
    have e6:=cS e6
    have U:=cS U
    have V:=aT.len
    have aOx:=ao.len
    have aOv:j.toNat<m:=by
     rcases gL j.toNat m with q |q
     ·exact q
     ·have:=kA sz q
      rw[jP]at e6
      omega
    obtain⟨gb,rfl⟩:=Hb ao (by omega)
    obtain⟨H,I⟩:=s6 aj
    have K:=bd Z
    refine⟨_,λ w'=>qi H I L G hy rfl ⟨eY,by omega⟩,?_⟩
    simp only[aw]
    exact⟨trivial,_,p,by rw[hi];exact s,λ _=>⟨_,_,_,rfl,by omega,by simp[dD,fP,K]⟩⟩
   ·exact h.elim
  ·exact h.elim
 ·rename_i i g lo c6 j
  split at h
  ·rename_i e n t' Q k l aj hi
   rw[dh]at hi
   split at h
   ·rename_i ag
    simp only[cb]at ag
    obtain⟨d,f,J⟩:=h
    have J:aI.e i g k t' (lo+j) d 0=z:=J
    subst J
    simp only[aw]at b hy
    obtain⟨_,aL,p,s,C⟩:=b
    rw[hi]at s C
    obtain⟨cn,e9,bJ,B,O,l0,l1,cx,G,_,bR⟩:=C (bd ag.1)
    obtain⟨A,c,xs,M,ao,aT⟩:=D.ok i _ _ hi p
    rw[M]at O ao
    simp only[Value.slice.injEq]at O
    obtain⟨rfl,rfl,rfl⟩:=O
    obtain⟨lv,P,k0⟩:=aBl l0 cx f
    obtain⟨gb,rfl⟩:=Hb ao (by omega)
    have uh:=Qz ao
    obtain⟨H,I⟩:=s6 aj
    have K:=bd ag.2
    rw[bR (by omega)]at G
    simp only[fU,lm]at G
    refine⟨_,λ w'=>qi H I L G hy rfl ⟨P,by omega⟩,?_⟩
    simp only[aw]
    refine⟨trivial,_,p,by rw[hi];exact s,λ _=>⟨⟨_,_,_,M,by omega,by omega,?_⟩,by rw[hi];exact cT _,λ _=>⟨l,by rw[hi];rfl,lv⟩⟩⟩
    rw[hi]
    have:(lo+j).toNat=lo.toNat+j.toNat:=by omega
    simp[dD,fP,jy,K,this,jP]
   ·exact h.elim
  ·exact h.elim
 ·rename_i i g sz ef j
  split at h
  ·rename_i e n aj
   split at h
   ·rename_i ag
    obtain⟨q,f,J⟩:=h
    have J:aI.Au i g sz q=z:=J
    subst J
    simp only[aw]at b hy
    obtain⟨A,c,F,_,_,a_⟩:=b
    obtain⟨N,R,S⟩:=lF f
    have b2:ef≠[]:=by intro e;subst e;simp at R
    obtain⟨cU,aD,xs,bn,bi⟩:=a_ b2
    obtain⟨u,jD,mB⟩:=bn.at_ S
    obtain⟨H,I⟩:=s6 aj
    have K:=bd ag
    refine⟨_,λ w'=>qi H I L F hy cU ⟨N,by omega⟩,?_⟩
    simp only[aw]
    refine⟨dD A,fP A+j.toNat,u,by rw[K];simp,aD,mB,λ m y D=>?_⟩
    cases m with
    |zero=>
     simp only[dU,aH]at D
     subst D
     simpa using bi _ _ jD
    |succ m=>simp at D
   ·exact h.elim
  ·exact h.elim
 ·exact h.elim
def Ux(E:Env)(bl:List (aF E.T.El))(t:Nat):aI E.T.El->D (aI E.T.El)
 | .p (.string ⟨⟨p⟩⟩)=>match k1 (E.P.underlying t)with
   |some .s=>.ok (.p (.int .i64 (p.length:Int)))
   |_=>.no
 | .p (.slice _ n _)=>match k1 (E.P.underlying t)with
   |some .cv=>.ok (.p (.int .i64 (n:Int)))
   |_=>.no
 | .s _ l=>match k1 (E.P.underlying t)with
   |some .cv=>.ok (.p (.int .i64 (l.length:Int)))
   |_=>.no
 | .q _ l=>match k1 (E.P.underlying t)with
   |some .cv=>.ok (.p (.int .i64 (l.length:Int)))
   |_=>.no
 | .pp _ _ _ l=>match k1 (E.P.underlying t)with
   |some .cv=>.ok (.p (.int .i64 (l.length:Int)))
   |_=>.no
 | .r i g=>match k1 (E.P.underlying t),nth bl i with
   |some .cv,some (.r _ a _ l)=>match cy g a with
    |true=>.ok (.p (.int .i64 (l.length:Int)))
    |false=>.no
   |some .cv,some (.k _ sz a cs)=>match cy g a&&fs 0 sz with
    |true=>.ok (.p (.int .i64 ((cs.length / sz:Nat):Int)))
    |false=>.no
   |_,_=>.no
 | .v i g lo hi=>match k1 (E.P.underlying t)with
   |some .cv=>match cy g (uc bl i)with
    |true=>.ok (.p (.int .i64 (hi-lo)))
    |false=>.no
   |_=>.no
 |_=>.no
theorem axm{o:Oper}{a:Act}{t:Nat}{x:Operand}{u z:aI E.T.El}(C:Mem E.T W M0 X bl ρ w)(h:(Ux E bl t u).out z)(F:o.op= .call { callee:=.builtin .len,args:=#[x],argTypes:=#[t] })
 (d:aw E.T (bk X bl ρ w) w ρ bl u (a.eval x)):∃r,lg E.P o a r/\aw E.T (bk X bl ρ w) w ρ bl z r:=by
 have fin:∀ {A:Option Addr}{n c:Nat},k1 (E.P.underlying t)=some .cv->a.eval x= .slice A n c->(D.ok (aI.p (.int .i64 (n:Int)))).out z-> ∃r,lg E.P o a r/\aw E.T (bk X bl ρ w) w ρ bl z r:=λ{A n c} b f h=>by
  have h:aI.p (.int .i64 (n:Int))=z:=h;subst h;obtain⟨e,H⟩:=(w2 b:n0.ok E.P t .cv)
  exact⟨_,λ w'=>apz H F f,by simp only[aw]⟩
 unfold Ux at h
 split at h
 ·rename_i p
  split at h
  ·rename_i b
   have h:aI.p (.int .i64 (p.length:Int))=z:=h
   subst h
   simp only[aw]at d
   exact⟨_,λ w'=>apA (w2 b) F d,by simp only[aw]⟩
  ·exact h.elim
 ·split at h
  ·rename_i b;simp only[aw]at d;exact fin b d h
  ·exact h.elim
 ·split at h
  ·rename_i b;simp only[aw]at d;obtain⟨A,c,f⟩:=mz _ d;exact fin b f h
  ·exact h.elim
 ·split at h
  ·rename_i b;simp only[aw]at d;obtain⟨A,f⟩:=d.2;exact fin b f h
  ·exact h.elim
 ·split at h
  ·rename_i b;simp only[aw]at d;obtain⟨A,c,f,_⟩:=d;exact fin b f h
  ·exact h.elim
 ·rename_i i g
  split at h
  ·rename_i t' I k l b hi
   rw[dh]at hi
   split at h
   ·rename_i ag
    simp only[aw]at d
    obtain⟨_,aL,s,G,j⟩:=d
    rw[hi]at j
    obtain⟨A,c,xs,v,_⟩:=C.ok i _ _ hi s
    exact fin b ((j (bd ag)).trans v) h
   ·exact h.elim
  ·rename_i t' sz I cs b hi
   rw[dh]at hi
   split at h
   ·rename_i ag
    simp only[cb]at ag
    simp only[aw]at d
    obtain⟨_,aL,s,G,j⟩:=d
    rw[hi]at j
    obtain⟨A,m,c,xs,v,ao,aT⟩:=C.ok i _ _ hi s
    have q:=aT.len
    have J:=ao.len
    have K:=cS ag.2
    have L:cs.length / sz=m:=by rw[<-q,J];exact Nat.mul_div_cancel _ K
    rw[L]at h
    exact fin b ((j (bd ag.1)).trans v) h
   ·exact h.elim
  ·exact h.elim
 ·rename_i i g lo y
  split at h
  ·rename_i b
   split at h
   ·rename_i ag
    have ag:=bd ag
    rw[CJ]at ag
    simp only[aw]at d
    obtain⟨_,aL,s,G,j⟩:=d
    obtain⟨A,m,c,B,M,l0,l1,N,f,_⟩:=j ag
    refine fin b f ?_
    have h:aI.p (.int .i64 (y-lo))=z:=h
    rw[<-h,show((y.toNat-lo.toNat:Nat):Int)=y-lo by omega]
    exact rfl
   ·exact h.elim
  ·exact h.elim
 ·exact h.elim
end
end bc
namespace bc
open Go Go.RowKit ay I
theorem avu{α:Type}{T:dj α}{F:Nat->Prop}{w:World}{A:Option Addr}{c:Nat}{li r:List α}{i j:Int}(h:(b5 T).rd F w [.slice A li.length c] li)(g:cut li i j=some r) :
 (b5 T).rd F w [.slice (if c=i.toNat then A else A.map (·.add (i.toNat*T.size))) (j.toNat-i.toNat) (c-i.toNat)] r/\j.toNat-i.toNat=r.length/\li.length<=c:=by
 obtain⟨⟨x,y,J⟩,rfl⟩:=TX g
 obtain⟨z,c1,f,ao,aT,bQ,dw⟩:=h
 simp only[h3,Value.slice.injEq,and_true,true_and]at f
 obtain⟨rfl,rfl⟩:=f
 have a:((li.take j.toNat).drop i.toNat).length=j.toNat-i.toNat:=by rw[ks,fZ];omega
 refine⟨?_,a.symm,ao⟩
 refine⟨_,c-i.toNat,by rw[a],by rw[a];omega,by omega,λ d=>?_,λ k=>?_⟩
 ·split at d
  ·have:=bQ d;omega
  ·cases A with
   |none=>have:=bQ rfl;omega
   |some en=>cases d
 ·have l:0<((li.take j.toNat).drop i.toNat).length:=l8.2 k
  have m:li≠[]:=by intro e;subst e;simp at l
  obtain⟨n,o,xs,p,s⟩:=dw m
  have t:c≠i.toNat:=by omega
  rw[if_neg t,n]
  refine⟨?_,?_⟩
  ·simp only[fU,lm]
   rfl
  simp only[fU,lm]
  refine⟨o,_,u2 i.toNat j.toNat p,λ q u v=>?_⟩
  have b:(xs.take (j.toNat*T.size))[i.toNat*T.size+q]? =some u:=by rwa [i_]at v
  rw[hG]at b
  split at b
  ·have:=s (i.toNat*T.size+q) u b
   simpa[dD,fP,kU]using this
  ·cases b
def rZ{El:Nat->Type}(z:Int):Option (aI El)->Option Int
 |none=>some z
 |some (.p (.int .i64 n))=>some n
 |_=>none
def p3(n:Nat)(lo hi:Int):Option Unit:=if 0<=lo/\lo<=hi/\hi<=(n:Int)then some ()else none
theorem amX{n:Nat}{lo hi:Int}{u:Unit}(h:p3 n lo hi=some u):0<=lo/\lo<=hi/\hi<=(n:Int):=by
 unfold p3 at h;split at h
 ·assumption
 ·cases h
def H3{El:Nat->Type}:Option (aI El)->Bool
 |none=>true
 |some (.p (.int .i64 (.ofNat 0)))=>true
 |_=>false
def Us(E:Env)(bl:List (aF E.T.El))(t:Nat)(u:aI E.T.El)(lo hi:Option (aI E.T.El)):D (aI E.T.El):=match u with
 | .s t' l=>match oS E.P t,rZ 0 lo,rZ (l.length:Int) hi with
   |some (_,n),some i,some j=>match cy n (E.T.ty t').size with
    |true=>.op (cut l i j) λ r=>.ok (.s t' r)
    |false=>.no
   |_,_,_=>.no
 | .p (.string ⟨⟨p⟩⟩)=>match k1 (E.P.underlying t),rZ 0 lo,rZ (p.length:Int) hi with
   |some .s,some i,some j=>.op (cut p i j) λ r=>.ok (.p (cw r))
   |_,_,_=>.no
 | .r i g=>match oS E.P t,nth bl i with
   |some (_,n),some (.r t' c _ l)=>match rZ 0 lo,rZ (l.length:Int) hi,cy g c&&cy n (E.T.ty t').size with
    |some a,some b,true=>.op (p3 l.length a b) λ _=>.ok (.v i g a b)
    |_,_,_=>.no
   |_,_=>.no
 | .v i g p q=>match oS E.P t,nth bl i with
   |some (_,n),some (.r t' c _ l)=>match rZ 0 lo,rZ (q-p) hi,cy g c&&cy n (E.T.ty t').size with
    |some a,some b,true=>.op (p3 (q-p).toNat a b) λ _=>.ok (.v i g (p+a) (p+b))
    |_,_,_=>.no
   |_,_=>.no
 | .p (.slice none 0 0)=>match oS E.P t,H3 lo&&H3 hi with
   |some _,true=>.ok (.p (.slice none 0 0))
   |_,_=>.no
 |_=>.no
section
variable{E:Env}{W w:World}{M0:List Nat}{X:Nat->Prop}{bl:List (aF E.T.El)}{ρ:List Value}{a:Act}
def Cp(E:Env)(F:Nat->Prop)(w:World)(ρ:List Value)(bl:List (aF E.T.El))(a:Act):Option Operand->Option (aI E.T.El)->Prop
 |none,none=>True
 |some x,some y=>aw E.T F w ρ bl y (a.eval x)
 |_,_=>False
theorem vW{F:Nat->Prop}{lo:Option Operand}{u:Option (aI E.T.El)}{z i:Int}(h:Cp E F w ρ bl a lo u)(ag:rZ z u=some i):(lo=none/\i=z)\/ ∃x,lo=some x/\a.eval x= .int .i64 i:=by
 cases lo with
 |none=>
  cases u with
  |none=>simp only[rZ,aH]at ag;exact .inl ⟨rfl,ag.symm⟩
  |some y=>exact h.elim
 |some x=>
  cases u with
  |none=>exact h.elim
  |some y=>
   right
   refine⟨x,rfl,?_⟩
   have h:aw E.T F w ρ bl y (a.eval x):=h
   unfold rZ at ag
   split at ag
   ·rename_i e;cases e
   ·rename_i n e
    simp only[aH]at e ag
    subst e;subst ag
    simpa only[aw]using h
   ·cases ag
theorem Sz{F:Nat->Prop}{lo:Option Operand}{u:Option (aI E.T.El)}(h:Cp E F w ρ bl a lo u)(ag:H3 u=true):(lo=none/\(0 :Int)=0)\/ ∃x,lo=some x/\a.eval x= .int .i64 0:=by
 refine vW (z:=0) (i:=0) h ?_;unfold H3 at ag;split at ag
 ·rfl
 ·rfl
 ·cases ag
theorem axf{o:Oper}{t:Nat}{x:Operand}{lo hi:Option Operand}{u z:aI E.T.El}{D F:Option (aI E.T.El)}(R:Mem E.T W M0 X bl ρ w)(h:(Us E bl t u D F).out z)(G:o.op= .slice t x lo hi none)
 (d:aw E.T (bk X bl ρ w) w ρ bl u (a.eval x))(H:Cp E (bk X bl ρ w) w ρ bl a lo D)(kT:Cp E (bk X bl ρ w) w ρ bl a hi F):∃r,lg E.P o a r/\aw E.T (bk X bl ρ w) w ρ bl z r:=by
 unfold Us at h
 split at h
 ·rename_i t' l
  split at h
  ·rename_i e n i j aj v J
   split at h
   ·rename_i ag
    obtain⟨r,m,b⟩:=h
    have b:aI.s t' r=z:=b
    subst b
    obtain⟨y,C⟩:=s6 aj
    simp only[aw]at d
    obtain⟨A,c,S⟩:=mz _ d
    rw[S]at d
    obtain⟨V,bi,Y⟩:=avu d m
    have I:=bd ag
    subst I
    exact⟨_,λ w'=>Sq y C G S (vW H v) (vW kT J) (TX m).1 Y,by simp only[aw];exact V⟩
   ·exact h.elim
  ·exact h.elim
 ·rename_i p
  split at h
  ·rename_i i j Z v J
   obtain⟨r,m,b⟩:=h
   have b:aI.p (cw r)=z:=b
   subst b
   simp only[aw]at d
   exact⟨_,λ w'=>aNr (w2 Z) G d (vW H v) (vW kT J) m,by simp only[aw]⟩
  ·exact h.elim
 ·rename_i i g
  split at h
  ·rename_i e n t' g2 k l aj f
   rw[dh]at f
   split at h
   ·rename_i p q v J ag
    simp only[cb]at ag
    obtain⟨r,m,b⟩:=h
    have b:aI.v i g p q=z:=b
    subst b
    obtain⟨y,C⟩:=s6 aj
    simp only[aw]at d
    obtain⟨_,aL,K,L,M⟩:=d
    rw[f]at L M
    have O:=M (bd ag.1)
    obtain⟨A,c,xs,N,ao,aT⟩:=R.ok i _ _ f K
    rw[N]at O ao
    obtain⟨v0,v1,P⟩:=amX m
    have I:=bd ag.2
    subst I
    refine⟨_,λ w'=>Sq y C G O (vW H v) (vW kT J) ⟨v0,v1,P⟩ (Qz ao),?_⟩
    simp only[aw]
    have cU:A=A.map (·.add (0*(E.T.ty t').size)):=by
     cases A<;>simp[Addr.add]
    refine⟨trivial,aL,K,by rw[f];exact L,λ _=>⟨A,_,c,_,N,v0,v1,P,rfl,λ e=>?_,λ e=>?_⟩⟩
    ·subst e
     split
     ·rfl
     ·exact cU.symm
    ·rw[if_neg (by have:=Qz ao;omega),f];rfl
   ·exact h.elim
  ·exact h.elim
 ·rename_i i g p q
  split at h
  ·rename_i e n t' g2 k l aj f
   rw[dh]at f
   split at h
   ·rename_i s r v J ag
    simp only[cb]at ag
    obtain⟨_,m,b⟩:=h
    have b:aI.v i g (p+s) (p+r)=z:=b
    subst b
    obtain⟨y,C⟩:=s6 aj
    simp only[aw]at d
    obtain⟨_,aL,K,L,M⟩:=d
    rw[f]at L M
    obtain⟨cn,e9,bJ,B,Q,l0,l1,cx,O,N5,bR⟩:=M (bd ag.1)
    obtain⟨A,c,xs,N,ao,aT⟩:=R.ok i _ _ f K
    rw[N]at Q ao
    simp only[Value.slice.injEq]at Q
    obtain⟨rfl,rfl,rfl⟩:=Q
    have uh:=Qz ao
    obtain⟨v0,v1,P⟩:=amX m
    have I:=bd ag.2
    subst I
    have sc:=vW kT J
    rw[show q-p=((q.toNat-p.toNat:Nat):Int) by omega]at sc
    refine⟨_,λ w'=>Sq y C G O (vW H v) sc ⟨v0,v1,by omega⟩ (by omega),?_⟩
    simp only[aw]
    have U:(p+s).toNat=p.toNat+s.toNat:=by omega
    have kX:(p+r).toNat=p.toNat+r.toNat:=by omega
    refine⟨trivial,aL,K,by rw[f];exact L,λ _=>⟨A,_,c,(if c-p.toNat=s.toNat then B else B.map (·.add (s.toNat*(E.T.ty t').size))),N,by omega,by omega,by omega,?_,λ e=>?_,λ e=>?_⟩⟩
    ·rw[U,kX,show p.toNat+r.toNat- (p.toNat+s.toNat)=r.toNat-s.toNat by omega,show c-p.toNat-s.toNat=c- (p.toNat+s.toNat) by omega]
    ·have zv:p=0:=by omega
     have C6:s=0:=by omega
     subst zv;subst C6
     rw[N5 rfl]
     split
     ·rfl
     ·cases A<;>simp[Addr.add]
    ·obtain⟨gb,rfl⟩:=Hb ao (by omega)
     rw[if_neg (by omega),bR (by omega),f]
     simp[lm,jy,U,jP]
   ·exact h.elim
  ·exact h.elim
 ·split at h
  ·rename_i e aj ag
   have h:aI.p (.slice none 0 0)=z:=h
   subst h
   simp only[cb]at ag
   obtain⟨y,C⟩:=s6 aj
   simp only[aw]at d
   exact⟨_,λ w'=>aNq y C G d (Sz H ag.1) ((Sz kT ag.2).imp (λ h=>⟨h.1,rfl⟩) id),by simp only[aw]⟩
  ·exact h.elim
 ·exact h.elim
end
end bc
namespace bc
open Go Go.RowKit ay I
def uK{cR β:Type}(K:h8 cR)(d:List (cR×β))(k:cR):Option β:=@cH cR β K.dec d k
def j7{cR β:Type}(K:h8 cR)(d:List (cR×β))(k:cR):Option Nat:=@pP cR β K.dec d k
def uL{cR β:Type}(K:h8 cR)(d:List (cR×β))(k:cR)(v:β):List (cR×β):=@gf cR β K.dec d k v
abbrev h8.enc{cR:Type}(K:h8 cR):cR->Value:=@lY.enc cR K.dec K.sy
abbrev h8.desc{cR:Type}(K:h8 cR):TypeDesc:=@lY.desc cR K.dec K.sy
section
variable{T:bT}{F:Nat->Prop}{w:World}{kt vt:Nat}{K:h8 (T.El kt)}
theorem UN(k:T.El kt):∀ {es:List MapEntry}{d:List (T.El kt×T.El vt)}(i:Nat),jO T F w K es d ->
 (uK K d k=none/\j7 K d k=none/\Instr.findNow K.desc (K.enc k) es i=some none)\/(∃p x v,uK K d k=some x/\j7 K d k=some p/\Cq T F w vt x v/\Instr.findNow K.desc (K.enc k) es i=some (some (i+p,v)))
 |[],[],i,_=>.inl ⟨rfl,rfl,rfl⟩
 |[],_::_,_,h=>h.elim
 |_::_,[],_,h=>h.elim
 |e::es,p::d,i,h=>by
  obtain⟨j,J,l⟩:=h;have aj:Instr.sameNow K.desc (K.enc k) e.key=some (@decide (p.1=k) (K.dec p.1 k)):=by rw[j];exact @lY.same _ K.dec K.sy k p.1
  by_cases a:p.1=k
  ·right
   refine⟨0,p.2,e.val,?_,?_,J,?_⟩
   ·simp only[uK,cH,if_pos a]
   ·simp only[j7,pP,if_pos a]
   ·simp only[Instr.findNow,aj,a,decide_true,lf]
  ·have g:Instr.findNow K.desc (K.enc k) (e::es) i=Instr.findNow K.desc (K.enc k) es (i+1):=by simp only[Instr.findNow,aj,a,decide_false]
   rcases UN k (i+1) l with⟨c,b,f⟩|⟨q,x,v,c,b,f,m⟩
   ·left
    refine⟨?_,?_,by rw[g];exact f⟩
    ·simp only[uK,cH,if_neg a];exact c
    ·simp only[j7,pP,if_neg a]
     simp only[j7]at b
     rw[b];rfl
   ·right
    refine⟨q+1,x,v,?_,?_,f,?_⟩
    ·simp only[uK,cH,if_neg a];exact c
    ·simp only[j7,pP,if_neg a]
     simp only[j7]at b
     rw[b];rfl
    ·rw[g,m,show i+1+q=i+(q+1) by omega]
theorem jO.len:∀ {es:List MapEntry}{d:List (T.El kt×T.El vt)},jO T F w K es d->es.length=d.length
 |[],[],_=>rfl
 |[],_::_,h=>h.elim
 |_::_,[],h=>h.elim
 |_::_,_::_,h=>by simp[jO.len h.2.2]
theorem aaI{P:Program}{es:Array MapEntry}{d:List (T.El kt×T.El vt)}{t:Nat}(k:T.El kt)(c:P.underlying t=some K.desc)(e:jO T F w K es.toList d)(w':World) :
 (uK K d k=none/\j7 K d k=none/\(Instr.findKey t (K.enc k) es.toList).run P w'= .ok none w')\/(∃p x v,uK K d k=some x/\j7 K d k=some p/\Cq T F w vt x v/\(Instr.findKey t (K.enc k) es.toList).run P w'= .ok (some (p,v)) w'):=by
 rcases UN k 0 e with⟨a,J,b⟩|⟨p,x,v,a,J,b,f⟩
 ·left
  refine⟨a,J,?_⟩
  simp only[Instr.findKey,Sem.run_bind,run_underlying c,Result.andThen_ok,b]
  rfl
 ·right
  refine⟨p,x,v,a,J,b,?_⟩
  simp only[Instr.findKey,Sem.run_bind,run_underlying c,Result.andThen_ok,f,jM]
  rfl
end
def Nj:Option TypeDesc->TypeDesc->Bool
 |some (.int k),.int k'=>nh k k'
 |some .string,.string=>true
 |_,_=>false
theorem aeT{o:Option TypeDesc}{d:TypeDesc}(h:Nj o d=true):o=some d:=by
 unfold Nj at h;split at h
 ·rw[pK h]
 ·rfl
 ·cases h
def adh:Value->Bool->Bool
 | .agg _,b=>b
 |_,b=>!b
def H4(P:Program)(t:TypeId):Option Value:=match P.info? t with
 |some i=>i.zero
 |none=>none
theorem aNP{P:Program}{t:TypeId}{z:Value}(h:H4 P t=some z):∀w,(zeroValue t).run P w= .ok z w:=by
 unfold H4 at h;split at h
 ·rename_i i a
  intro w
  simp only[zeroValue,typeInfo,Sem.run_bind]
  simp[go_sem,a,h]
 ·cases h
theorem apR{z:Value}{b:Bool}(h:adh z b=true):z=Am b z.cells.toList:=by
 unfold adh at h;split at h
 ·rename_i cs
  subst h
  obtain⟨vs⟩:=cs
  rfl
 ·rename_i a
  have ag:b=false:=by simpa using h
  subst ag
  cases z<;>first |rfl |exact(a _ rfl).elim
def yj(E:Env)(vt a:Nat):Option (E.T.El vt):=match H4 E.P a with
 |some z=>match adh z (E.T.e vt).agg with
  |true=>(E.T.e vt).hz (z.cells.toList.map .p)
  |false=>none
 |none=>none
def mapOf(P:Program)(t:TypeId):Option (Nat×Nat):=match P.underlying t with
 |some (.map k e)=>some (k,e)
 |_=>none
theorem Yg{P:Program}{t k e:Nat}(h:mapOf P t=some (k,e)):P.underlying t=some (.map k e):=by
 unfold mapOf at h;split at h
 ·rename_i a
  simp only[aH,cF]at h
  obtain⟨rfl,rfl⟩:=h
  exact a
 ·cases h
def Pl{El:Nat->Type}(bl:List (aF El)):aI El->Option (Σ a:Nat×Nat,List (El a.1×El a.2))
 | .m i=>match nth bl i with
   |some (.m kt vt d)=>some ⟨(kt,vt),d⟩
   |_=>none
 | .n kt vt d=>some ⟨(kt,vt),d⟩
 |_=>none
def Gy(E:Env)(ok:Bool){kt vt:Nat}(K:h8 (E.T.El kt))(d:List (E.T.El kt×E.T.El vt))(k:E.T.El kt)(z:E.T.El vt):aI E.T.El:=match ok with
 |true=>.u [E.T.val vt ((uK K d k).getD z),.p (.bool (uK K d k).isSome)]
 |false=>E.T.val vt ((uK K d k).getD z)
def Uz(E:Env)(bl:List (aF E.T.El))(t:Nat)(ok:Bool)(u v:aI E.T.El):D (aI E.T.El):=match mapOf E.P t,Pl bl u with
 |some (k,e),some ⟨(kt,vt),d⟩=>match(E.T.e kt).key with
  |some K=>match Nj (E.P.underlying k) K.desc,(E.T.e kt).hz (cellsOf v),yj E vt e,(match lG v with|true=>(E.T.e kt).agg |false=>!(E.T.e kt).agg)with
   |true,some key,some z,true=>.ok (Gy E ok K d key z)
   |_,_,_,_=>.no
  |none=>.no
 |_,_=>.no
section
variable{E:Env}{W w:World}{M0:List Nat}{X:Nat->Prop}{bl:List (aF E.T.El)}{ρ:List Value}{a:Act}
def DM{El:Nat->Type}:aI El->Option Nat
 | .m i=>some i
 |_=>none
theorem ajx(j:Mem E.T W M0 X bl ρ w){u:aI E.T.El}{v:Value}{kt vt:Nat}{d:List (E.T.El kt×E.T.El vt)}(h:Pl bl u=some ⟨(kt,vt),d⟩)(b:aw E.T (bk X bl ρ w) w ρ bl u v) :
 ∃r,v= .map (some r)/\yA E.T (bk X bl ρ w) w kt vt r d/\MJ X bl ρ w r (DM u):=by
 cases u<;>simp only[Pl,reduceCtorEq]at h
 ·rename_i i
  split at h
  ·rename_i e f d' hi
   simp only[aH,Sigma.mk.injEq,cF]at h
   obtain⟨⟨rfl,rfl⟩,h⟩:=h
   have h:=eq_of_heq h
   subst h
   rw[dh]at hi
   simp only[aw]at b
   obtain⟨r,c,rfl⟩:=b
   obtain⟨k,g,ao⟩:=j.ok i _ _ hi c
   simp only[Value.map.injEq,aH]at g
   subst g
   exact⟨r,rfl,ao,_,_,hi,c,by simp[bE,ag]⟩
  ·cases h
 ·rename_i e f d'
  simp only[aH,Sigma.mk.injEq,cF]at h
  obtain⟨⟨rfl,rfl⟩,h⟩:=h
  have h:=eq_of_heq h
  subst h
  simp only[aw]at b
  obtain⟨r,rfl,c,J⟩:=b
  exact⟨r,rfl,J,c⟩
theorem Ty{F:Nat->Prop}{u:aI E.T.El}{v:Value}{b:Bool}(y:aw E.T F w ρ bl u v)(h:(match lG u with|true=>b |false=>!b)=true):v=Am b v.cells.toList:=by
 cases B:lG u with
 |true=>
  rw[B]at h
  have h:b=true:=h
  subst h
  exact Kc B y
 |false=>
  rw[B]at h
  have h:b=false:=by simpa using h
  subst h
  have hc:=pk y
  have:v.cells.toList=[v]:=by
   cases u with
   |p u=>
    simp only[aw]at y
    subst y
    cases v<;>first |rfl |(simp[lG]at B)
   |a l=>simp[lG]at B
   |b i o=>simp only[aw]at y;obtain⟨g,_,rfl⟩:=y;rfl
   |x t d o=>simp only[aw]at y;obtain⟨_,_,_,rfl,_⟩:=y;rfl
   |s t l=>simp only[aw]at y;obtain⟨A,c,e⟩:=mz _ y;subst e;rfl
   |q t l=>simp only[aw]at y;obtain⟨_,A,rfl⟩:=y;rfl
   |r i g=>simp only[aw]at y;exact Nc y.1
   |v i g lo hi=>simp only[aw]at y;exact Nc y.1
   |e i g k t j d o=>simp only[aw]at y;exact Nb y.1
   |w i g o=>simp only[aw]at y;exact Nb y.1
   |m i=>simp only[aw]at y;obtain⟨g,_,rfl⟩:=y;rfl
   |n _ _ _=>simp only[aw]at y;obtain⟨g,rfl,_⟩:=y;rfl
   |f fn cs=>simp only[aw]at y;obtain⟨g,rfl,_⟩:=y;rfl
   |h fn us=>simp only[aw]at y;obtain⟨g,rfl,_⟩:=y;rfl
   |u l=>simp only[aw]at y;obtain⟨g,rfl,_⟩:=y;rfl
   |i t z=>simp only[aw]at y;obtain⟨g,rfl,_⟩:=y;rfl
   |pp i g sz ef=>simp only[aw]at y;obtain⟨_,_,rfl,_⟩:=y;rfl
   |Au i g sz q=>simp only[aw]at y;obtain⟨_,_,_,rfl,_⟩:=y;rfl
  rw[this];rfl
theorem amW(a7:di E){F:Nat->Prop}{vt:Nat}{x:E.T.El vt}{v:Value}(h:Cq E.T F w vt x v):aw E.T F w ρ bl (E.T.val vt x) v:=by
 obtain⟨xs,b,rfl⟩:=h;exact a7.tb.val b
theorem val_zero(a7:di E){F:Nat->Prop}{vt c:Nat}{z:E.T.El vt}(h:yj E vt c=some z):∃b,(∀w,(zeroValue c).run E.P w= .ok b w)/\aw E.T F w ρ bl (E.T.val vt z) b:=by
 unfold yj at h;split at h
 ·rename_i b d
  split at h
  ·rename_i J
   refine⟨b,aNP d,?_⟩
   have:=a7.tb.hz _ _ _ h F w ρ bl _ (s0 b.cells.toList)
   rw[apR J]
   have e:=a7.tb.val (ρ:=ρ) (bl:=bl) this
   exact e
  ·cases h
 ·cases h
theorem axo(a7:di E)(M:Mem E.T W M0 X bl ρ w){o:Oper}{t:Nat}{ok:Bool}{x y:Operand}{u v z:aI E.T.El}(h:(Uz E bl t ok u v).out z)(B:o.op= .lookup t x y ok)
 (N:aw E.T (bk X bl ρ w) w ρ bl u (a.eval x))(hy:aw E.T (bk X bl ρ w) w ρ bl v (a.eval y)) :
 ∃r q,aw E.T (bk X bl ρ w) w ρ bl z r/\MJ X bl ρ w q (DM u)/\ ∀w',w'.heap[q]? =w.heap[q]? ->bh E.P o a w' r w':=by
 unfold Uz at h
 split at h
 ·rename_i k e kt vt d O J
  split at h
  ·rename_i K b8
   split at h
   ·rename_i key z0 aL P Q R
    have h:Gy E ok K d key z0=z:=h
    subst h
    obtain⟨q,C,⟨S,D,es,cl,U,m,m3⟩,G⟩:=ajx M J N
    rw[b8]at D
    cases D
    have H:a.eval y=K.enc key:=by
     have V:=a7.tb.hz _ _ _ P _ _ _ _ _ (pk hy);have ao:=a7.tb.key _ _ b8 _ _ _ _ V;exact(Ty hy R).trans ao
    have Y:=Yg O
    have f:=aeT aL
    obtain⟨n,oA,g⟩:=val_zero a7 (w:=w) (F:=bk X bl ρ w) (ρ:=ρ) (bl:=bl) Q
    have i:∀w',w'.heap[q]? =w.heap[q]? ->(Instr.lookup t (.map (some q)) (K.enc key) ok).run E.P w'=(do
     let(v,s) <-match<-Instr.findKey k (K.enc key) es.toList with
      |some (_,v)=>pure (v,true)
      |none=>pure (<-zeroValue e,false)
     pure (if ok then Value.tuple #[v,.bool s]else v):Sem Value).run E.P w':=λ w' j=>by
     simp only[Instr.lookup,Sem.run_bind,Sem.run_pure,run_underlying Y,Result.andThen_ok,MapKept.run_getObj_map (j.trans U),@lY.check _ K.dec K.sy E.P w' es.isEmpty k key f]
     rfl
    rcases aaI (vt:=vt) key f m w with⟨b,Z,_⟩|⟨p,A,l,b,Z,I,f6⟩
    ·refine⟨if ok then .tuple #[n,.bool false]else n,q,?_,G,λ w' j=>?_⟩
     ·cases ok with
      |true=>simp only[Gy,b,jL,mo,aw,if_true];exact⟨[n,.bool false],rfl,by simp only[a8];exact⟨_,_,rfl,g,_,_,rfl,by simp only[aw],rfl⟩⟩
      |false=>simp only[Gy,b,jL];exact g
     ·simp only[bh,execOp,B,C,H,Sem.run_bind,i w' j]
      rcases aaI (vt:=vt) key f m w' with⟨_,_,f4⟩|⟨p,A,l,c,_⟩
      ·simp only[f4,Result.andThen_ok,Sem.run_bind,oA,Sem.run_pure]
      ·rw[b]at c;cases c
    ·refine⟨if ok then .tuple #[l,.bool true]else l,q,?_,G,λ w' j=>?_⟩
     ·cases ok with
      |true=>simp only[Gy,b,jd,Option.isSome_some,aw,if_true];exact⟨[l,.bool true],rfl,by simp only[a8];exact⟨_,_,rfl,amW a7 I,_,_,rfl,by simp only[aw],rfl⟩⟩
      |false=>simp only[Gy,b,jd];exact amW a7 I
     ·simp only[bh,execOp,B,C,H,Sem.run_bind,i w' j]
      have f5:∀w',(Instr.findKey k (K.enc key) es.toList).run E.P w'= .ok (some (p,l)) w':=by
       intro w';rcases UN (vt:=vt) key 0 m with⟨c,_⟩|⟨uW,gj,fl,c,g2,g3,L⟩
       ·rw[b]at c;cases c
       ·have:(Instr.findKey k (K.enc key) es.toList).run E.P w= .ok (some (uW,fl)) w:=by
         simp only[Instr.findKey,Sem.run_bind,run_underlying f,Result.andThen_ok,L,jM];rfl
        rw[f6]at this;simp only[Result.ok.injEq,aH,cF,and_true]at this;obtain⟨rfl,rfl⟩:=this;simp only[Instr.findKey,Sem.run_bind,run_underlying f,Result.andThen_ok,L,jM];rfl
      simp only[f5,Result.andThen_ok,Sem.run_bind,Sem.run_pure]
   ·exact h.elim
  ·exact h.elim
 ·exact h.elim
def Uy(E:Env)(bl:List (aF E.T.El))(t:Nat)(u:aI E.T.El):D (aI E.T.El):=match mapOf E.P t,Pl bl u with
 |some _,some ⟨_,d⟩=>.ok (.p (.int .i64 (d.length:Int)))
 |_,_=>.no
theorem axl(b:Mem E.T W M0 X bl ρ w){o:Oper}{t:Nat}{x:Operand}{u z:aI E.T.El}(h:(Uy E bl t u).out z)(c:o.op= .call { callee:=.builtin .len,args:=#[x],argTypes:=#[t] })
 (e:aw E.T (bk X bl ρ w) w ρ bl u (a.eval x)):∃r q,aw E.T (bk X bl ρ w) w ρ bl z r/\MJ X bl ρ w q (DM u)/\ ∀w',w'.heap[q]? =w.heap[q]? ->bh E.P o a w' r w':=by
 unfold Uy at h
 split at h
 ·rename_i p s d f J
  have h:aI.p (.int .i64 (d.length:Int))=z:=h
  subst h
  obtain⟨q,g,⟨K,b8,es,cl,i,j,v⟩,k⟩:=ajx b J e
  have l:=Yg f
  have m:es.size=d.length:=by have:=j.len;simpa using this
  refine⟨.int .i64 (d.length:Int),q,by simp only[aw],k,λ w' n=>?_⟩
  simp only[bh,execOp,c,resolve,invoke,hK,eB,iD,g]
  simp[go_sem,Builtin.len_,run_underlying l,goInt,MapKept.run_getObj_map (n.trans i),m]
 ·exact h.elim
def UC(E:Env)(t j:Nat)(u:aI E.T.El):D (aI E.T.El):=match lG u,NH E.P t j with
 |true,some (off,om,_)=>match lay E.P om with
  |some b=>.of (mS (cellsOf u) off b)
  |none=>.no
 |_,_=>.no
theorem axr{F:Nat->Prop}{o:Oper}{t j:Nat}{x:Operand}{u z:aI E.T.El}(h:(UC E t j u).out z)(c:o.op= .field t x j)(d:aw E.T F w ρ bl u (a.eval x)):∃r,lg E.P o a r/\aw E.T F w ρ bl z r:=by
 unfold UC at h;split at h
 ·rename_i off om sz l ad
  split at h
  ·rename_i m p
   have h:=D.pT h
   obtain⟨cf,f,e,g,q,s,C,G⟩:=agE ad
   have i:=Kc l d
   have hc:=pk d
   obtain⟨b,n⟩:=m
   have C2:=Kn p
   subst s;subst q
   cases b with
   |false=>
    simp only[mS]at h
    rw[dh]at h
    obtain⟨v,y,J⟩:=hc.at_ h
    have A:(a.eval x).cells[f.offset]? =some v:=by rw[<-hT];exact y
    refine⟨v,λ w'=>?_,J⟩
    simp only[bh,execOp,c,Instr.field,Sem.run_bind,run_underlying e,Result.andThen_ok,g]
    rw[i]
    simp[asAgg,part,C2.1,A]
   |true=>
    simp only[mS]at h
    split at h
    ·rename_i ag
     simp only[aH]at h
     subst h
     have B:=cS ag
     have k:=hc.len
     refine⟨.agg ⟨((a.eval x).cells.toList.drop f.offset).take n⟩,λ w'=>?_,?_⟩
     ·simp only[bh,execOp,c,Instr.field,Sem.run_bind,run_underlying e,Result.andThen_ok,g]
      rw[i]
      simp only[asAgg,part,Sem.run_bind,Sem.run_pure,C2.1,C2.2,Result.andThen_ok,if_true]
      congr 2
      apply congrArg Value.agg
      rw[<-Array.toList_inj]
      simp[List.extract_eq_take_drop,Nat.add_sub_cancel_left,Value.cells]
     ·simp only[aw]
      exact⟨_,rfl,a8.take n (a8.drop _ hc)⟩
    ·cases h
  ·exact h.elim
 ·exact h.elim
end
end bc
namespace bc
open Go Go.RowKit ay I
structure cC (El:Nat->Type) where
 fr:List (Nat×aI El)
 gs:List (Nat×Nat×Bool×aI El)
 eu:List (Nat×Bool)
def Gw{El:Nat->Type}:List (Nat×Nat×Bool×aI El)->List (Nat×Bool)->Nat->Option (aI El)
 |[],_,_=>none
 |p::r,cur,t=>match cy p.1 t&&CO cur p.2.1 p.2.2.1 with
  |true=>some p.2.2.2
  |false=>Gw r cur t
def Ax{El:Nat->Type}:List (Nat×Nat×Bool×aI El)->Nat->List (Nat×Nat×Bool×aI El)
 |[],_=>[]
 |p::r,d=>match cy p.1 d||cy p.2.1 d with
  |true=>Ax r d
  |false=>p::Ax r d
structure o6 (T:bT) (F:Nat->Prop) (w:World) (ρ:List Value) (bl:List (aF T.El)) (n:cE) (f:cC T.El) (a:Act):Prop where
 er:rO T F w ρ bl n f.fr a
 gs:∀p∈f.gs,a.tmps.getD p.2.1 undef= .bool p.2.2.1 ->aw T F w ρ bl p.2.2.2 (a.tmps.getD p.1 undef)
 eu:∀p∈f.eu,a.tmps.getD p.1 undef= .bool p.2
section
variable{T:bT}{F F':Nat->Prop}{w w':World}{ρ ρ':List Value}{bl bl':List (aF T.El)}{n:cE}{f:cC T.El}{a:Act}
theorem o6.later(b:∀k,F k->F' k/\w'.heap[k]? =w.heap[k]?)(c:mM T ρ ρ' bl bl')(h:o6 T F w ρ bl n f a):o6 T F' w' ρ' bl' n f a:=⟨h.er.later b c,λ p d ag=>(h.gs p d ag).later b c,h.eu⟩
theorem Ya(h:o6 T F w ρ bl n f a){cur:List (Nat×Bool)}(hc:jU a cur):∀ {gs:List (Nat×Nat×Bool×aI T.El)}{t:Nat}{y:aI T.El},(∀p∈gs,p∈f.gs)->Gw gs cur t=some y->aw T F w ρ bl y (a.tmps.getD t undef)
 |[],_,_,_,J=>by simp[Gw]at J
 |p::r,t,y,b,J=>by
  simp only[Gw]at J;split at J
  ·rename_i ag
   simp only[cb,aH]at ag J
   subst J
   have:=h.gs p (b p (by simp)) (ahs hc ag.2)
   rwa [bd ag.1]at this
  ·exact Ya h hc (λ q c=>b q (by simp[c])) J
theorem aaD{d:Nat}{p:Nat×Nat×Bool×aI T.El}:∀ {gs:List (Nat×Nat×Bool×aI T.El)},p∈Ax gs d->p∈gs/\p.1≠d/\p.2.1≠d
 |[],h=>by simp[Ax]at h
 |q::r,h=>by
  simp only[Ax]at h;split at h
  ·obtain⟨b,J⟩:=aaD h;exact⟨by simp[b],J⟩
  ·rename_i ag
   simp only[iF]at ag
   rcases cI.1 h with rfl |h
   ·exact⟨by simp,λ e=>by rw[e]at ag;simp at ag,λ e=>by rw[e]at ag;simp at ag⟩
   ·obtain⟨b,J⟩:=aaD h;exact⟨by simp[b],J⟩
theorem aaC{α:Type}{d:Nat}{p:Nat×α}:∀ {l:List (Nat×α)},p∈oQ l d->p∈l/\p.1≠d
 |[],h=>by simp[oQ]at h
 |q::r,h=>by
  simp only[oQ]at h;split at h
  ·obtain⟨b,J⟩:=aaC h;exact⟨by simp[b],J⟩
  ·rename_i ag
   rcases cI.1 h with rfl |h
   ·exact⟨by simp,λ e=>by rw[e]at ag;simp at ag⟩
   ·obtain⟨b,J⟩:=aaC h;exact⟨by simp[b],J⟩
def cC.put(f:cC T.El)(d:Nat)(y:aI T.El):cC T.El:=⟨(d,y)::oQ f.fr d,Ax f.gs d,oQ f.eu d⟩
def cC.q_(f:cC T.El)(d j:Nat)(b:Bool)(y:aI T.El):cC T.El:=⟨oQ f.fr d,(d,j,b,y)::Ax f.gs d,oQ f.eu d⟩
theorem o6.akT{d:Nat}{v:Value}(h:o6 T F w ρ bl n f a)(aL:fs d n.n=true):(∀p∈Ax f.gs d,(a.put (some d) v).tmps.getD p.2.1 undef= .bool p.2.2.1 ->aw T F w ρ bl p.2.2.2 ((a.put (some d) v).tmps.getD p.1 undef))/\ ∀p∈oQ f.eu d,(a.put (some d) v).tmps.getD p.1 undef= .bool p.2:=by
 have b:d<a.tmps.size:=by rw[h.er.size];exact cS aL
 refine⟨λ p c ag=>?_,λ p c=>?_⟩
 ·obtain⟨e,J,g⟩:=aaD c
  rw[zg b,if_neg (Ne.symm g)]at ag
  rw[zg b,if_neg (Ne.symm J)]
  exact h.gs p e ag
 ·obtain⟨e,J⟩:=aaC c
  rw[zg b,if_neg (Ne.symm J)]
  exact h.eu p e
theorem o6.put{d:Nat}{y:aI T.El}{v:Value}(h:o6 T F w ρ bl n f a)(aL:fs d n.n=true)(c:aw T F w ρ bl y v):o6 T F w ρ bl n (f.put d y) (a.put (some d) v):=by
 obtain⟨e,J⟩:=h.akT (v:=v) aL;refine⟨⟨(h.er.put aL c).size,(h.er.put aL c).defers,λ t z b=>(h.er.put aL c).get t z ?_⟩,e,J⟩;simp only[cC.put,cG]at b⊢;split at b
 ·exact b
 ·exact(Pg b).2
theorem o6.q_{d j:Nat}{b:Bool}{y:aI T.El}{v:Value}(h:o6 T F w ρ bl n f a)(aL:fs d n.n=true)(i:cy j d=false)(k:a.tmps.getD j undef= .bool b->aw T F w ρ bl y v):o6 T F w ρ bl n (f.q_ d j b y) (a.put (some d) v):=by
 obtain⟨l,J⟩:=h.akT (v:=v) aL;have g:d<a.tmps.size:=by rw[h.er.size];exact cS aL
 have c:d≠j:=λ e=>by subst e;simp at i
 refine⟨h.er.Qx aL,λ p aC ag=>?_,J⟩;rcases cI.1 aC with rfl |aC
 ·simp only at ag⊢
  rw[zg g,if_neg c]at ag
  rw[zg g,if_pos rfl]
  exact k ag
 ·exact l p aC ag
end
def od(E:Env)(bl:List (aF E.T.El))(f:cC E.T.El)(cur:List (Nat×Bool)):Operand->Option (aI E.T.El)
 | .const v=>some (.p v)
 | .global g=>cG E.cY g
 | .func g=>some (.f (.func g) [])
 | .tmp t=>match cG f.fr t with
   |some y=>some (nm bl y)
   |none=>match Gw f.gs cur t with
    |some y=>some (nm bl y)
    |none=>match Gw f.gs f.eu t with
     |some y=>some (nm bl y)
     |none=>none
def pR(E:Env)(bl:List (aF E.T.El))(f:cC E.T.El)(cur:List (Nat×Bool)):List Operand->Option (List (aI E.T.El))
 |[]=>some []
 |x::r=>match od E bl f cur x,pR E bl f cur r with
  |some y,some ys=>some (y::ys)
  |_,_=>none
def KI(E:Env)(bl:List (aF E.T.El))(f:cC E.T.El)(cur:List (Nat×Bool)):Option Operand->Option (Option (aI E.T.El))
 |none=>some none
 |some x=>match od E bl f cur x with
  |some y=>some (some y)
  |none=>none
def GK(E:Env)(bl:List (aF E.T.El))(f:cC E.T.El)(cur:List (Nat×Bool)):List (Nat×Operand)->Option (List (Nat×aI E.T.El))
 |[]=>some []
 |(i,x)::r=>match od E bl f cur x,GK E bl f cur r with
  |some y,some ys=>some ((i,y)::ys)
  |_,_=>none
structure R (E:Env) (W:World) (M0:List Nat) (X:Nat->Prop) (n:cE) (f:cC E.T.El) (bl:List (aF E.T.El)) (ρ:List Value) (a:Act) (w:World):Prop where
 mem:Mem E.T W M0 X bl ρ w
 d_:o6 E.T (bk X bl ρ w) w ρ bl n f a
 cY:∀g y,cG E.cY g=some y->aw E.T (bk X bl ρ w) w ρ bl y (.pointer (some ⟨g,0,none⟩))
section
variable{E:Env}{W w w':World}{M0:List Nat}{X:Nat->Prop}{n:cE}{f:cC E.T.El}{bl bl':List (aF E.T.El)}{ρ ρ':List Value}{a:Act}{cur:List (Nat×Bool)}
theorem R.to(h:R E W M0 X n f bl ρ a w)(b:To X bl bl' ρ ρ' w w')(c:Mem E.T W M0 X bl' ρ' w'):R E W M0 X n f bl' ρ' a w':=⟨c,h.d_.later b.F b.L,λ g y d=>b.v (h.cY g y d)⟩
theorem R.put{d:Nat}{y:aI E.T.El}{v:Value}(h:R E W M0 X n f bl ρ a w)(aL:fs d n.n=true)(b:aw E.T (bk X bl ρ w) w ρ bl y v):R E W M0 X n (f.put d y) bl ρ (a.put (some d) v) w:=⟨h.mem,h.d_.put aL b,h.cY⟩
theorem aeO{a:Act}:∀ {l:List (Nat×Bool)},(∀p∈l,a.tmps.getD p.1 undef= .bool p.2)->jU a l
 |[],_=>trivial
 |p::r,h=>⟨h p (by simp),aeO λ q b=>h q (by simp[b])⟩
theorem dA(h:R E W M0 X n f bl ρ a w)(hc:jU a cur){x:Operand}{y:aI E.T.El}(b:od E bl f cur x=some y):aw E.T (bk X bl ρ w) w ρ bl y (a.eval x):=by
 cases x with
 |const v=>simp only[od,aH]at b;subst b;simp only[aw];rfl
 |global g=>exact h.cY g y b
 |func g=>simp only[od,aH]at b;subst b;simp only[aw];exact⟨[],rfl,by simp[a8]⟩
 |tmp t=>
  simp only[od]at b
  split at b
  ·rename_i z c
   simp only[aH]at b
   subst b
   exact PO h.mem (h.d_.er.get t z c)
  ·split at b
   ·rename_i z c
    simp only[aH]at b
    subst b
    exact PO h.mem (Ya h.d_ hc (λ p d=>d) c)
   ·split at b
    ·rename_i z c
     simp only[aH]at b
     subst b
     exact PO h.mem (Ya h.d_ (aeO h.d_.eu) (λ p d=>d) c)
    ·cases b
theorem Al(h:R E W M0 X n f bl ρ a w)(hc:jU a cur):∀ {xs:List Operand}{ys:List (aI E.T.El)},pR E bl f cur xs=some ys->a8 E.T (bk X bl ρ w) w ρ bl ys (xs.map a.eval)
 |[],ys,b=>by simp only[pR,aH]at b;subst b;simp[a8]
 |x::r,ys,b=>by
  simp only[pR]at b;split at b
  ·rename_i y d c J
   simp only[aH]at b
   subst b
   simp only[eB,a8]
   exact⟨_,_,rfl,dA h hc c,Al h hc J⟩
  ·cases b
theorem aj'(h:R E W M0 X n f bl ρ a w)(hc:jU a cur){x:Option Operand}{y:Option (aI E.T.El)}(b:KI E bl f cur x=some y):Cp E (bk X bl ρ w) w ρ bl a x y:=by
 cases x with
 |none=>simp only[KI,aH]at b;subst b;trivial
 |some x=>
  simp only[KI]at b
  split at b
  ·rename_i z c
   simp only[aH]at b
   subst b
   exact dA h hc c
  ·cases b
theorem YQ(h:R E W M0 X n f bl ρ a w)(hc:jU a cur):∀ {xs:List (Nat×Operand)}{ys:List (Nat×aI E.T.El)},GK E bl f cur xs=some ys->rU E.T (bk X bl ρ w) w ρ bl ys (xs.map λ p=>(p.1,a.eval p.2))
 |[],ys,b=>by simp only[GK,aH]at b;subst b;simp[rU]
 |(i,x)::r,ys,b=>by
  simp only[GK]at b;split at b
  ·rename_i y d c J
   simp only[aH]at b
   subst b
   simp only[eB,rU]
   exact⟨_,_,rfl,dA h hc c,YQ h hc J⟩
  ·cases b
end
def UD(E:Env)(bl:List (aF E.T.El))(f:cC E.T.El)(cur:List (Nat×Bool))(c x y:Operand):D (aI E.T.El):=
 match od E bl f cur c with
 |some (.p (.bool b))=>match E.cl,c with
  |true,_=>match b with
   |true=>.of (od E bl f cur x)
   |false=>.of (od E bl f cur y)
  |false,.tmp a=>match cG f.eu a with
   |some true=>.of (od E bl f cur x)
   |some false=>.of (od E bl f cur y)
   |none=>match od E bl f ((a,true)::cur) x,od E bl f ((a,false)::cur) y with
    |some u,some v=>Y5 E x y b u v
    |_,_=>.no
  |false,_=>.no
 |_=>.no
def abx:IntKind->Int->Option Int
 | .i64,m=>some (ax m)
 | .u64,m=>some (Hv m)
 | .u8,m=>some ((jT m).toNat:Int)
 |_,_=>none
def Ut(P:Program)(s d:Nat):Value->Option Value
 | .int k m=>match k1 (P.underlying s),k1 (P.underlying d)with
   |some (.i j),some (.i k')=>match nh j k,abx k' m with
    |true,some r=>some (.int k' r)
    |_,_=>none
   |_,_=>none
 |_=>none
def UZ(E:Env)(bl:List (aF E.T.El))(t:Nat)(u:aI E.T.El)(hi a:Option (aI E.T.El)):D (aI E.T.El):=match oS E.P t,H3 hi&&H3 a with
 |some (e,n),true=>match cy n (E.T.ty e).size with
  |true=>match u with
   | .s _ _=>.ok (.q e [])
   | .q _ _=>.ok (.q e [])
   | .r i g=>match cy g (uc bl i)with
     |true=>.ok (.q e [])
     |false=>.no
   | .p (.slice none 0 0)=>.ok (.p (.slice none 0 0))
   | .p (.slice (some _) 0 _)=>.ok (.q e [])
   |_=>.no
  |false=>.no
 |_,_=>.no
def YK{El:Nat->Type}(bl:List (aF El)):aI El->Bool
 | .s _ (_::_)=>true
 | .q _ (_::_)=>true
 | .p (.slice (some _) _ _)=>true
 | .r i g=>match nth bl i with
   |some (.r _ a _ (_::_))=>cy g a
   |_=>false
 |_=>false
def PN{El:Nat->Type}:aI El->Bool
 | .p (.slice none _ _)=>true
 |_=>false
def UB(P:Program){El:Nat->Type}(bl:List (aF El))(t:Nat)(op:BinOp)(u v:aI El):Option Bool:=match k1 (P.underlying t),PN v,DU op true with
 |some .cv,true,some b=>match PN u with
  |true=>some b
  |false=>match YK bl u with
   |true=>some (!b)
   |false=>none
 |_,_,_=>none
def FK(E:Env)(bl:List (aF E.T.El))(f:cC E.T.El)(cur:List (Nat×Bool)):Op->D (aI E.T.El)
 | .move x=>.of (od E bl f cur x)
 | .assign x=>.of (od E bl f cur x)
 | .pick c x y=>UD E bl f cur c x y
 | .binOp op t x y _=>match od E bl f cur x,od E bl f cur y with
   |some u,some v=>match UB E.P bl t op u v with
    |some b=>.ok (.p (.bool b))
    |none=>Uo E t op (Kd y) u v
   |_,_=>.no
 | .unOp .not _ x=>match od E bl f cur x with
   |some (.p (.bool p))=>.ok (.p (.bool (!p)))
   |_=>.no
 | .unOp .neg _ x=>match od E bl f cur x with
   |some (.p (.int .i64 m))=>.ok (.p (.int .i64 (ax (0-m))))
   |_=>.no
 | .convert s d x=>match od E bl f cur x with
   |some (.p u)=>match Ut E.P s d u with
    |some r=>.ok (.p r)
    |none=>.no
   |_=>.no
 | .load t x=>match od E bl f cur x with
   |some p=>FJ E bl t p
   |none=>.no
 | .fieldAddr s x j=>match od E bl f cur x,NH E.P s j with
   |some p,some (off,_,_)=>match P6 (uc bl) p with
    |true=>.of (Y_ p off)
    |false=>.no
   |_,_=>.no
 | .nilCheck x=>match od E bl f cur x with
   |some p=>match OV p with
    |true=>.ok p
    |false=>.no
   |none=>.no
 | .extract x i=>match od E bl f cur x with
   |some (.u l)=>.of (nth l i)
   |_=>.no
 | .makeFunc fn ⟨[]⟩ ⟨ys⟩=>match pR E bl f cur ys with
   |some us=>.ok (.f fn us)
   |none=>.no
 | .makeFunc fn ⟨xs⟩ ⟨[]⟩=>match pR E bl f cur xs with
   |some us=>.ok (.h fn us)
   |none=>.no
 | .makeInterface t x=>match od E bl f cur x,E.P.concrete t with
   |some y,true=>.ok (.i t y)
   |_,_=>.no
 | .indexAddr t x y=>match od E bl f cur x,od E bl f cur y with
   |some u,some v=>Uu E bl t u v
   |_,_=>.no
 | .index t x y=>match od E bl f cur x,od E bl f cur y,k1 (E.P.underlying t)with
   |some (.p (.string ⟨⟨p⟩⟩)),some (.p (.int .i64 j)),some .s=>.op (idx p j) λ b=>.ok (.p (.int .u8 (b.toNat:Int)))
   |_,_,_=>.no
 | .slice t x lo hi none=>match od E bl f cur x,KI E bl f cur lo,KI E bl f cur hi with
   |some u,some a,some b=>Us E bl t u a b
   |_,_,_=>.no
 | .slice t x none (some hi) (some e)=>match od E bl f cur x,od E bl f cur hi,od E bl f cur e with
   |some u,some a,some b=>UZ E bl t u (some a) (some b)
   |_,_,_=>.no
 | .lookup t x y ok=>match od E bl f cur x,od E bl f cur y with
   |some u,some v=>Uz E bl t ok u v
   |_,_=>.no
 | .field t x j=>match od E bl f cur x with
   |some u=>UC E t j u
   |none=>.no
 | .build t ⟨ps⟩=>match GK E bl f cur ps with
   |some ys=>Up E t ys
   |none=>.no
 | .call ⟨.builtin .len,⟨[x]⟩,⟨[t]⟩⟩=>match od E bl f cur x with
   |some u=>match mapOf E.P t with
    |some _=>Uy E bl t u
    |none=>Ux E bl t u
   |none=>.no
 | .call ⟨.builtin .cap,⟨[x]⟩,⟨[t]⟩⟩=>match oS E.P t,od E bl f cur x with
   |some _,some (.p (.slice _ _ c))=>.ok (.p (.int .i64 (c:Int)))
   |_,_=>.no
 |_=>.no
def qZ(E:Env)(bl:List (aF E.T.El))(f:cC E.T.El)(cur:List (Nat×Bool)):Op->Option (Option Nat)
 | .load _ x=>match od E bl f cur x with
   |some p=>some (X6 p)
   |none=>none
 | .lookup _ x _ _=>match od E bl f cur x with
   |some u=>some (DM u)
   |none=>none
 | .call ⟨.builtin .len,⟨[x]⟩,⟨[t]⟩⟩=>match mapOf E.P t,od E bl f cur x with
   |some _,some u=>some (DM u)
   |_,_=>none
 |_=>none
def yV(P:Program)(o:Oper)(a:Act)(X:Nat->Prop){El:Nat->Type}(bl:List (aF El))(ρ:List Value)(w:World)(r:Value):Option (Option Nat)->Prop
 |none=>lg P o a r
 |some i=>∃(q:Nat)(S:World->Prop),(match i with
  |none=>bk X bl ρ w q
  |some i=>∃B h,bl[i]? =some B/\ρ[i]? =some h/\q∈bE B h)/\S w/\(∀w',w'.heap[q]? =w.heap[q]? ->S w')/\ ∀w',S w'->bh P o a w' r w'
theorem yV.now{P:Program}{o:Oper}{a:Act}{X:Nat->Prop}{El:Nat->Type}{bl:List (aF El)}{ρ:List Value}{w:World}{r:Value}:∀ {i:Option (Option Nat)},yV P o a X bl ρ w r i->bh P o a w r w
 |none,h=>h w
 |some _,⟨_,_,_,b,_,J⟩=>J w b
end bc
namespace bc
open Go Go.RowKit ay I
theorem oG{α:Type}{t:Nat}{y:α}:∀ {l:List (Nat×α)},cG l t=some y->(t,y)∈l
 |[],h=>by simp[cG]at h
 |p::r,h=>by
  simp only[cG]at h;split at h
  ·rename_i ag
   simp only[aH]at h
   subst h
   rw[<-bd ag]
   simp
  ·exact dZ _ (oG h)
section
variable{E:Env}{W w w':World}{M0:List Nat}{X:Nat->Prop}{n:cE}{f:cC E.T.El}{bl:List (aF E.T.El)}{ρ:List Value}{a:Act}{cur:List (Nat×Bool)}
theorem apx{P:Program}{o:Oper}{A:Option Addr}{m c sz t e:Nat}{x hi b:Operand}(d:P.underlying t=some (.slice e))(aj:∀w,(Go.sizeOf e).run P w= .ok sz w)(g:o.op= .slice t x none (some hi) (some b))(h:a.eval x= .slice A m c)(i:a.eval hi= .int .i64 0)(J:a.eval b= .int .i64 0)(w:World):bh P o a w (.slice A 0 0) w:=by
 have k:=aIG (P:=P) (w:=w) (A:=A) (m:=m) (c:=c) (j:=0) d aj ⟨lI _,by omega⟩;simp only[bh,execOp,g,h,Instr.sliceAt,Sem.run_bind,run_underlying d,Result.andThen_ok,jq,fU,i,J,k];rfl
theorem aF5{F:Nat->Prop}{t:Nat}(A:Option Addr):aw E.T F w ρ bl (.q t []) (.slice A 0 0):=by
 simp only[aw];exact⟨⟨A,0,rfl,cT _,gT _,λ _=>rfl,λ h=>absurd rfl h⟩,A,rfl⟩
theorem aaU{v:Value}(h:kZ v):∃A m c,v= .slice A m c:=by
 cases v<;>simp[kZ]at h;exact⟨_,_,_,rfl⟩
theorem ax3(B:Mem E.T W M0 X bl ρ w){o:Oper}{t:Nat}{x hi g:Operand}{u z i j:aI E.T.El}(h:(UZ E bl t u (some i) (some j)).out z)(l:o.op= .slice t x none (some hi) (some g))
 (b:aw E.T (bk X bl ρ w) w ρ bl u (a.eval x))(y:aw E.T (bk X bl ρ w) w ρ bl i (a.eval hi))(J:aw E.T (bk X bl ρ w) w ρ bl j (a.eval g)):∃r,lg E.P o a r/\aw E.T (bk X bl ρ w) w ρ bl z r:=by
 unfold UZ at h
 split at h
 ·rename_i e gp aj ag
  simp only[cb]at ag
  have p:a.eval hi= .int .i64 0:=by
   rcases Sz (lo:=some hi) (u:=some i) (show Cp E _ w ρ bl a (some hi) (some i) from y) ag.1 with⟨e,_⟩|⟨_,e,k⟩
   ·cases e
   ·cases e;exact k
  have q:a.eval g= .int .i64 0:=by
   rcases Sz (lo:=some g) (u:=some j) (show Cp E _ w ρ bl a (some g) (some j) from J) ag.2 with⟨e,_⟩|⟨_,e,k⟩
   ·cases e
   ·cases e;exact k
  obtain⟨s,v⟩:=s6 aj
  have fin:∀ {A:Option Addr}{m c:Nat},a.eval x= .slice A m c->(D.ok (aI.q e ([]:List (E.T.El e)))).out z-> ∃r,lg E.P o a r/\aw E.T (bk X bl ρ w) w ρ bl z r:=λ{A m c} d h=>by
   have h:aI.q e []=z:=h;subst h;exact⟨_,λ w'=>apx s v l d p q w',aF5 A⟩
  split at h
  ·split at h
   ·simp only[aw]at b;obtain⟨A,c,d⟩:=mz _ b;exact fin d h
   ·simp only[aw]at b;obtain⟨A,d⟩:=b.2;exact fin d h
   ·split at h
    ·simp only[aw]at b;obtain⟨A,m,c,d⟩:=aaU b.1;exact fin d h
    ·exact h.elim
   ·have h:aI.p (.slice none 0 0)=z:=h
    subst h
    simp only[aw]at b
    exact⟨_,λ w'=>apx s v l b p q w',by simp only[aw]⟩
   ·simp only[aw]at b;exact fin b h
   ·exact h.elim
  ·exact h.elim
 ·exact h.elim
theorem aKj{k:IntKind}{m r:Int}(h:abx k m=some r):k.wrap m=r:=by
 unfold abx at h;split at h<;>simp only[aH,reduceCtorEq]at h<;>subst h
 ·exact xX m
 ·rw[IntKind.wrap_u64];rfl
 ·exact amH m
theorem axg{P:Program}{o:Oper}{s d:Nat}{x:Operand}{u r:Value}(h:Ut P s d u=some r)(b:o.op= .convert s d x)(c:a.eval x=u):lg P o a r:=by
 unfold Ut at h;split at h
 ·rename_i k m
  split at h
  ·rename_i j k' e J
   split at h
   ·rename_i l g i
    simp only[aH]at h
    subst h
    have:=pK g
    subst this
    rw[<-aKj i]
    exact λ w=>ac8 (w2 e) (w2 J) b c
   ·cases h
  ·cases h
 ·cases h
theorem aBC{y:Operand}(b:Kd y=true)(k:IntKind)(n:Int)(c:a.eval y= .int k n):n≠0:=by
 unfold Kd at b;split at b
 ·rename_i k' gp
  have:a.eval (.const (.int k' gp))= .int k' gp:=rfl
  rw[this]at c
  injection c with _ e
  subst e
  simpa using b
 ·cases b
theorem axs(h:R E W M0 X n f bl ρ a w)(hc:jU a cur){o:Oper}{c x y:Operand}{z:aI E.T.El}(d:(UD E bl f cur c x y).out z)(k:o.op= .pick c x y):∃r,lg E.P o a r/\aw E.T (bk X bl ρ w) w ρ bl z r:=by
 unfold UD at d;split at d
 ·rename_i b m
  have g:=dA h hc m
  simp only[aw]at g
  have tk:b=true->(D.of (od E bl f cur x)).out z-> ∃r,lg E.P o a r/\aw E.T (bk X bl ρ w) w ρ bl z r:=λ ag d=>by
   have:=dA h hc (D.pT d);exact⟨_,λ w'=>Sv k (by rw[g,ag]) rfl,this⟩
  have i:b=false->(D.of (od E bl f cur y)).out z-> ∃r,lg E.P o a r/\aw E.T (bk X bl ρ w) w ρ bl z r:=λ ag d=>by
   have:=dA h hc (D.pT d);exact⟨_,λ w'=>Su k (by rw[g,ag]) rfl,this⟩
  split at d
  ·cases b with
   |true=>exact tk rfl d
   |false=>exact i rfl d
  ·rename_i j _
   split at d
   ·rename_i l
    have:=h.d_.eu _ (oG l)
    have e:a.eval (.tmp j)= .bool true:=this
    rw[g]at e
    exact tk (by injection e) d
   ·rename_i l
    have:=h.d_.eu _ (oG l)
    have e:a.eval (.tmp j)= .bool false:=this
    rw[g]at e
    exact i (by injection e) d
   ·split at d
    ·rename_i u v p q
     obtain⟨r,s,J⟩:=aFx (a:=a) (x:=x) (y:=y) d (λ ag=>dA h (show jU a ((j,true)::cur) from⟨by subst ag;exact g,hc⟩) p) (λ ag=>dA h (show jU a ((j,false)::cur) from⟨by subst ag;exact g,hc⟩) q)
     exact⟨r,λ w'=>aNJ k g s,J⟩
    ·exact d.elim
  ·exact d.elim
 ·exact d.elim
theorem apG{P:Program}{o:Oper}{t t':TypeId}{x y:Operand}{A:Option Addr}{m c e9 g:Nat}{op:BinOp}{b:Bool}(k:k1 (P.underlying t)=some .cv)(ag:DU op A.isNone=some b)(i:o.op= .binOp op t x y t')(j:a.eval x= .slice A m c)(hy:a.eval y= .slice none e9 g)(w:World):bh P o a w (.bool b) w:=by
 obtain⟨e,l⟩:=w2 k;have h:∀d:Nat,(Op.equalIn (d+1) t (.slice A m c) (.slice none e9 g)).run P w= .ok A.isNone w:=λ d=>by
  cases A<;>simp[Op.equalIn,run_underlying l]
 cases op<;>simp only[DU,aH,reduceCtorEq]at ag<;>subst ag
 ·have J:(binOp .eql t (.slice A m c) (.slice none e9 g)).run P w= .ok (.bool A.isNone) w:=by
   simp only[binOp];simp[Op.equal,Op.maxDepth,h 9999]
  simp only[bh,execOp,i,j,hy];simp[go_sem,J]
 ·have J:(binOp .neq t (.slice A m c) (.slice none e9 g)).run P w= .ok (.bool (!A.isNone)) w:=by
   simp only[binOp];simp[Op.equal,Op.maxDepth,h 9999]
  simp only[bh,execOp,i,j,hy];simp[go_sem,J]
theorem amd{α:Type}{T:dj α}{F:Nat->Prop}{v:Value}{d:α}{l:List α}(h:(b5 T).rd F w [v] (d::l)):∃g m c,v= .slice (some g) m c:=by
 obtain⟨A,c,e,_,_,_,J⟩:=h;simp only[h3,and_true]at e;subst e;rw[(J (by simp)).1];exact⟨_,_,_,rfl⟩
theorem aE6(j:Mem E.T W M0 X bl ρ w){u:aI E.T.El}{v:Value}(h:YK bl u=true)(b:aw E.T (bk X bl ρ w) w ρ bl u v):∃g m c,v= .slice (some g) m c:=by
 unfold YK at h;split at h
 ·simp only[aw]at b;exact amd b
 ·simp only[aw]at b;exact amd b.1
 ·simp only[aw]at b;exact⟨_,_,_,b⟩
 ·split at h
  ·rename_i t' p k d l hi
   rw[dh]at hi
   simp only[aw]at b
   obtain⟨_,aL,o,q,e⟩:=b
   rw[hi]at e
   obtain⟨A,c,xs,i,ao,aT⟩:=j.ok _ _ _ hi o
   rw[e (bd h),i]
   rw[i]at ao
   obtain⟨g,rfl⟩:=Hb ao (by simp)
   exact⟨_,_,_,rfl⟩
  ·cases h
 ·cases h
theorem ajW{F:Nat->Prop}{u:aI E.T.El}{v:Value}(h:PN u=true)(b:aw E.T F w ρ bl u v):∃m c,v= .slice none m c:=by
 unfold PN at h;split at h
 ·simp only[aw]at b;exact⟨_,_,b⟩
 ·cases h
theorem axq(p:Mem E.T W M0 X bl ρ w){t:Nat}{op:BinOp}{u v:aI E.T.El}{o:Oper}{x y:Operand}{t':TypeId}{b:Bool}(h:UB E.P bl t op u v=some b)(i:o.op= .binOp op t x y t')(j:aw E.T (bk X bl ρ w) w ρ bl u (a.eval x))(hy:aw E.T (bk X bl ρ w) w ρ bl v (a.eval y)):lg E.P o a (.bool b):=by
 unfold UB at h;split at h
 ·rename_i b0 k J d
  obtain⟨e9,q,l⟩:=ajW J hy
  split at h
  ·rename_i e
   simp only[aH]at h
   subst h
   obtain⟨m,c,ex⟩:=ajW e j
   exact λ w'=>apG (A:=none) k d i ex l w'
  ·split at h
   ·rename_i e
    simp only[aH]at h
    subst h
    obtain⟨g,m,c,ex⟩:=aE6 p e j
    refine λ w'=>apG (A:=some g) k ?_ i ex l w'
    cases op<;>simp only[DU,aH,reduceCtorEq]at d⊢ <;>subst d<;>rfl
   ·cases h
 ·cases h
theorem agn(a7:di E)(h:R E W M0 X n f bl ρ a w)(hc:jU a cur){o:Oper}{op:Op}(k:o.op=op){z:aI E.T.El}(d:(FK E bl f cur op).out z):∃r,aw E.T (bk X bl ρ w) w ρ bl z r/\yV E.P o a X bl ρ w r (qZ E bl f cur op):=by
 have s:(∃r,lg E.P o a r/\aw E.T (bk X bl ρ w) w ρ bl z r)-> ∃r,aw E.T (bk X bl ρ w) w ρ bl z r/\yV E.P o a X bl ρ w r none:=λ⟨r,i,J⟩=>⟨r,J,i⟩
 unfold FK at d;split at d
 ·exact s ⟨_,λ w'=>vv k rfl,dA h hc (D.pT d)⟩
 ·exact s ⟨_,λ w'=>yg k rfl,dA h hc (D.pT d)⟩
 ·exact s (axs h hc d k)
 ·split at d
  ·rename_i u v i J
   split at d
   ·rename_i b ag
    have d:aI.p (.bool b)=z:=d
    subst d
    exact s ⟨_,axq h.mem ag k (dA h hc i) (dA h hc J),by simp only[aw]⟩
   ·exact s (axb a7 d k (λ G=>aBC G) (dA h hc i) (dA h hc J))
  ·exact d.elim
 ·split at d
  ·rename_i p i
   have d:aI.p (.bool (!p))=z:=d
   subst d
   have:=dA h hc i
   simp only[aw]at this
   exact s ⟨_,λ w'=>apD k this,by simp only[aw]⟩
  ·exact d.elim
 ·split at d
  ·rename_i m i
   have d:aI.p (.int .i64 (ax (0-m)))=z:=d
   subst d
   have:=dA h hc i
   simp only[aw]at this
   exact s ⟨_,λ w'=>aNH k this,by simp only[aw]⟩
  ·exact d.elim
 ·split at d
  ·rename_i u i
   split at d
   ·rename_i r J
    have d:aI.p r=z:=d
    subst d
    have:=dA h hc i
    simp only[aw]at this
    exact s ⟨_,axg J k this,by simp only[aw]⟩
   ·exact d.elim
  ·exact d.elim
 ·rename_i t x
  split at d
  ·rename_i p i
   obtain⟨en,us,v,H,C,K,N,L⟩:=axn a7.tb h.mem (dA h hc i) d
   refine⟨v,C,?_⟩
   simp only[qZ,i,yV]
   refine⟨en.block,λ w'=>fo w' en us,?_,K,λ w' F=>K.law F,λ w' F=>N o a x w' k H F⟩
   revert L
   cases X6 p<;>exact λ h=>h
  ·exact d.elim
 ·split at d
  ·rename_i p off om sz i J
   split at d
   ·rename_i M
    obtain⟨g,q,B,ao⟩:=aFI M (D.pT d) (dA h hc i)
    obtain⟨cf,Q,H,C,K,N,L,P⟩:=agE J
    subst K
    exact s ⟨_,λ w'=>Ss H C L P k B,ao⟩
   ·exact d.elim
  ·exact d.elim
 ·split at d
  ·rename_i p i
   split at d
   ·rename_i M
    have d:p=z:=d
    subst d
    have:=dA h hc i
    obtain⟨q,e⟩:=aiw M this
    exact s ⟨_,λ w'=>Mq k e,by rw[<-e];exact this⟩
   ·exact d.elim
  ·exact d.elim
 ·split at d
  ·rename_i l i
   have:=dA h hc i
   simp only[aw]at this
   obtain⟨vs,B,ao⟩:=this
   have hi:=D.pT d
   rw[dh]at hi
   obtain⟨v,aT,bQ⟩:=ao.at_ hi
   exact s ⟨v,λ w'=>Mp (vs:=vs) k B aT,bQ⟩
  ·exact d.elim
 ·split at d
  ·rename_i us i
   have d:aI.f _ us=z:=d
   subst d
   have:=Al h hc i
   refine s ⟨_,λ w'=>?_,by simp only[aw];exact⟨_,rfl,this⟩⟩
   simp only[bh,execOp,k,Instr.makeFunc]
   simp only[hK,iD]
   rfl
  ·exact d.elim
 ·split at d
  ·rename_i us i
   have d:aI.h _ us=z:=d
   subst d
   have:=Al h hc i
   refine s ⟨_,λ w'=>?_,by simp only[aw];exact⟨_,rfl,this⟩⟩
   simp only[bh,execOp,k,Instr.makeFunc]
   simp only[hK,iD]
   rfl
  ·exact d.elim
 ·split at d
  ·rename_i y i J
   have d:aI.i _ y=z:=d
   subst d
   exact s ⟨_,λ w'=>aNw J k rfl,by simp only[aw];exact⟨_,rfl,dA h hc i⟩⟩
  ·exact d.elim
 ·split at d
  ·rename_i u v i J
   exact s (axi h.mem d k (dA h hc i) (dA h hc J))
  ·exact d.elim
 ·split at d
  ·rename_i p j i J I
   obtain⟨b,H,C⟩:=d
   have C:aI.p (.int .u8 (b.toNat:Int))=z:=C
   subst C
   have B:=dA h hc i
   have ao:=dA h hc J
   simp only[aw]at B ao
   exact s ⟨_,λ w'=>aNy (w2 I) k B ao H,by simp only[aw]⟩
  ·exact d.elim
 ·split at d
  ·rename_i u lo hi i J I
   exact s (axf h.mem d k (dA h hc i) (aj' h hc J) (aj' h hc I))
  ·exact d.elim
 ·split at d
  ·rename_i u lo hi i J I
   exact s (ax3 h.mem d k (dA h hc i) (dA h hc J) (dA h hc I))
  ·exact d.elim
 ·split at d
  ·rename_i u v i J
   obtain⟨r,q,B,ao,aT⟩:=axo a7 h.mem d k (dA h hc i) (dA h hc J)
   refine⟨r,B,?_⟩
   simp only[qZ,i,yV]
   refine⟨q,λ w'=>w'.heap[q]? =w.heap[q]?,?_,rfl,λ w' F=>F,aT⟩
   revert ao
   cases DM u<;>exact λ h=>h
  ·exact d.elim
 ·split at d
  ·rename_i u i
   exact s (axr d k (dA h hc i))
  ·exact d.elim
 ·split at d
  ·rename_i ys i
   obtain⟨v,B,ao⟩:=axc (YQ h hc i) d
   exact s ⟨v,λ w'=>ao o a _ w' k rfl,B⟩
  ·exact d.elim
 ·split at d
  ·rename_i x t _ u i
   split at d
   ·rename_i S G
    obtain⟨r,q,B,ao,aT⟩:=axl h.mem d k (dA h hc i)
    refine⟨r,B,?_⟩
    simp only[qZ,G,i,yV]
    refine⟨q,λ w'=>w'.heap[q]? =w.heap[q]?,?_,rfl,λ w' F=>F,aT⟩
    revert ao
    cases DM u<;>exact λ h=>h
   ·rename_i G
    have:=s (axm h.mem d k (dA h hc i))
    simpa only[qZ,G]using this
  ·exact d.elim
 ·split at d
  ·rename_i e A m c aj i
   have d:aI.p (.int .i64 (c:Int))=z:=d
   subst d
   have O:=dA h hc i
   simp only[aw]at O
   exact s ⟨_,λ w'=>aNp (s6 (e:=e.1) (n:=e.2) aj).1 k O,by simp only[aw]⟩
  ·exact d.elim
 ·exact d.elim
end
end bc
namespace bc
open Go Go.RowKit ay I
structure eC (El:Nat->Type) where
 y:Option (aI El)
 bl:List (aF El)
 ws:List Nat
section
variable{T:bT}{W w w':World}{M0:List Nat}{X:Nat->Prop}{bl:List (aF T.El)}{ρ:List Value}
theorem Mem.aj8(a:Mem T W M0 X bl ρ w){k:Nat}(h:qo bl ρ k): ¬X k:=λ b=>by
 have c:=a.hW k b;rcases(a.lt k h).2 with e |e
 ·exact c.2 e
 ·omega
theorem Hh{α:Type}{l:List α}{i:Nat}{x:α}(h:l[i]? =some x):l.set i x=l:=by
 obtain⟨a,J⟩:=aP.1 h;rw[<-J,mI]
theorem Mem.freeze(a:Mem T W M0 X bl ρ w){i t g k:Nat}{l:List (T.El t)}(hi:bl[i]? =some (.r t g k l)):Mem T W M0 X (bl.set i (.z t g k l)) ρ w/\To X bl (bl.set i (.z t g k l)) ρ ρ w w:=by
 obtain⟨h,b⟩:=a.sA hi;have d:=a.D9 (B':=aF.z t g k l) (h':=h) (w':=w) hi b (br.refl _ _) (λ q f=>by simp[bE]at f) ⟨λ _=>rfl,cT _,λ _=>⟨rfl,rfl,cT _,λ _=>rfl⟩⟩;have m:=a.dC (B':=aF.z t g k l) (h':=h) (w':=w) hi b (br.refl _ _) (λ q f=>by simp[bE]at f) d (by
  obtain⟨A,c,xs,rfl,J,s⟩:=a.ok i _ _ hi b;obtain⟨c1,c2,c3,c4⟩:=J.cap;refine⟨A,c,rfl,c1,c2,c3,λ u=>?_⟩;have v:0<l.length:=l8.2 u;obtain⟨gb,rfl,x,hc,n⟩:=u4 v J;refine⟨rfl,?_,xs,oO _ d.F s,by simpa[dD,fP]using hc⟩;have o:qo bl ρ gb:=⟨i,_,_,hi,b,by simp only[bE];rw[n];simp⟩
  refine⟨by simpa[dD]using a.aj8 o,?_,by simpa[dD]using(a.lt gb o).1⟩;rintro⟨j,B,g',aA,p,r⟩;by_cases e:j=i
  ·subst e
   rw[gv (aP.1 hi).1]at aA
   cases aA
   simp[bE]at r
  ·rw[jG (Ne.symm e)]at aA
   rw[jG (Ne.symm e)]at p
   exact a.bC i j _ _ _ _ hi b aA p (Ne.symm e) gb (by simp only[bE];rw[n];simp) (by simpa[dD]using r))
 rw[Hh b]at m d;exact⟨m,d⟩
end
def gy{El:Nat->Type}(bl:List (aF El)):aI El->List (aF El)×aI El
 | .r i g=>match nth bl i with
   |some (.r t a k l)=>match cy g a with
    |true=>(bl.set i (.z t a k l),.s t l)
    |false=>(bl,.r i g)
   |some (.z t a _ l)=>match cy g a with
    |true=>(bl,.s t l)
    |false=>(bl,.r i g)
   |_=>(bl,.r i g)
 | .q t l=>(bl,.s t l)
 |y=>(bl,y)
def oh{El:Nat->Type}:List (aF El)->List (aI El)->List (aF El)×List (aI El)
 |bl,[]=>(bl,[])
 |bl,y::r=>match gy bl y with
  |(bl',a)=>match oh bl' r with
   |(b,c)=>(b,a::c)
section
variable{T:bT}{W w w':World}{M0:List Nat}{X:Nat->Prop}{bl:List (aF T.El)}{ρ:List Value}
theorem agL(c:Mem T W M0 X bl ρ w){y b:aI T.El}{bl':List (aF T.El)}{v:Value}(h:gy bl y=(bl',b))(a:aw T (bk X bl ρ w) w ρ bl y v):Mem T W M0 X bl' ρ w/\To X bl bl' ρ ρ w w/\aw T (bk X bl' ρ w) w ρ bl' b v:=by
 have same:∀ {u:aI T.El},(bl,u)=(bl',b)->aw T (bk X bl ρ w) w ρ bl u v->Mem T W M0 X bl' ρ w/\To X bl bl' ρ ρ w w/\aw T (bk X bl' ρ w) w ρ bl' b v:=λ{u} h m=>by
  simp only[cF]at h;obtain⟨rfl,rfl⟩:=h;exact⟨c,.refl,m⟩
 unfold gy at h;split at h
 ·rename_i i g
  split at h
  ·rename_i t n k l hi
   rw[dh]at hi
   split at h
   ·rename_i ag
    have ag:=bd ag
    subst ag
    simp only[cF]at h
    obtain⟨rfl,rfl⟩:=h
    obtain⟨d,J⟩:=c.freeze hi
    refine⟨d,J,?_⟩
    have e:=J.v a
    simp only[aw]at e⊢
    obtain⟨_,aL,o,p,f⟩:=e
    have j:(bl.set i (aF.z t g k l))[i]? =some (aF.z t g k l):=gv (aP.1 hi).1
    rw[j]at f
    rw[f rfl]
    exact d.ok i _ _ j o
   ·exact same h a
  ·rename_i t n k l hi
   rw[dh]at hi
   split at h
   ·rename_i ag
    refine same h ?_
    have:=PO c a
    simp only[nm,dh,hi,ag]at this
    exact this
   ·exact same h a
  ·exact same h a
 ·refine same h ?_
  simp only[aw]at a⊢
  exact a.1
 ·exact same h a
theorem NQ:∀ {ys a:List (aI T.El)}{bl bl':List (aF T.El)}{vs:List Value},Mem T W M0 X bl ρ w->oh bl ys=(bl',a)->a8 T (bk X bl ρ w) w ρ bl ys vs->Mem T W M0 X bl' ρ w/\To X bl bl' ρ ρ w w/\a8 T (bk X bl' ρ w) w ρ bl' a vs
 |[],a,bl,bl',vs,c,h,b=>by
  simp only[oh,cF]at h;obtain⟨rfl,rfl⟩:=h;exact⟨c,.refl,b⟩
 |y::r,a,bl,bl',vs,c,h,b=>by
  simp only[a8]at b;obtain⟨u,us,rfl,g,i⟩:=b;simp only[oh]at h;cases d:gy bl y with
  |mk j n=>
   rw[d]at h
   cases J:oh j r with
   |mk o p=>
    rw[J]at h
    simp only[cF]at h
    obtain⟨rfl,rfl⟩:=h
    obtain⟨k,e,v1⟩:=agL c d g
    obtain⟨l,f,m⟩:=NQ k J (e.vs i)
    refine⟨l,e.trans f,?_⟩
    simp only[a8]
    exact⟨u,us,rfl,f.v v1,m⟩
end
section
variable{E:Env}{W w w':World}{M0:List Nat}{X:Nat->Prop}{n:cE}{f:cC E.T.El}{bl:List (aF E.T.El)}{ρ:List Value}{a:Act}{cur:List (Nat×Bool)}
def hd(E:Env)(o:Oper)(a:Act)(W:World)(M0:List Nat)(X:Nat->Prop)(bl:List (aF E.T.El))(ρ:List Value)(w:World)(e:eC E.T.El):Prop:=
 ∃w' ρ',Mem E.T W M0 X e.bl ρ' w'/\To X bl e.bl ρ ρ' w w'/\(∀k,k<w.heap.size->(∀i∈e.ws,∀B h,bl[i]? =some B->ρ[i]? =some h->k∉bE B h)->w'.heap[k]? =w.heap[k]?)/\
  match e.y with
  |some y=>∃v,bh E.P o a w v w'/\aw E.T (bk X e.bl ρ' w') w' ρ' e.bl y v
  |none=>rX E.P o a w w'
theorem ajS(c:Mem E.T W M0 X bl ρ w){o:Oper}{t:Nat}{cs:List (aI E.T.El)}{vs:List Value}(g:a8 E.T (bk X bl ρ w) w ρ bl cs vs)(hy:bh E.P o a w (.pointer (some ⟨w.heap.size,0,none⟩)) (w.alloc (.cells ⟨vs⟩ t))) :
 hd E o a W M0 X bl ρ w ⟨some (.b bl.length 0),bl++[.c t cs],[]⟩:=by
 have d:br [] w (w.alloc (.cells ⟨vs⟩ t)):=br.alloc _ _ _
 have ad:∀k∈bE (aF.c t cs) (.pointer (some ⟨w.heap.size,0,none⟩)),w.heap.size<=k/\k<(w.alloc (.cells ⟨vs⟩ t)).heap.size:=λ k b=>by
  simp only[bE,ag,dT]at b;subst b;simp
 have e:=c.AN (B:=aF.c t cs) (h:=.pointer (some ⟨w.heap.size,0,none⟩)) d ad
 refine⟨_,ρ++[.pointer (some ⟨w.heap.size,0,none⟩)],c.push d ad ⟨_,vs,rfl,heap_alloc_new w _,e.vs g⟩,e,λ k b _=>d.block k b (by simp),_,hy,?_⟩
 simp only[aw]
 exact⟨_,by rw[<-c.len];simp,rfl⟩
theorem aEF(c:Mem E.T W M0 X bl ρ w){o:Oper}{kt vt:Nat}{K:h8 (E.T.El kt)}(b8:(E.T.e kt).key=some K)(hy:bh E.P o a w (.map (some w.heap.size)) (w.alloc (.map #[] 0))) :
 hd E o a W M0 X bl ρ w ⟨some (.m bl.length),bl++[.m kt vt []],[]⟩:=by
 have d:br [] w (w.alloc (.map #[] 0)):=br.alloc _ _ _
 have ad:∀k∈bE (aF.m kt vt ([]:List (E.T.El kt×E.T.El vt))) (.map (some w.heap.size)),w.heap.size<=k/\k<(w.alloc (.map #[] 0)).heap.size:=λ k b=>by
  simp only[bE,ag,dT]at b;subst b;simp
 have e:=c.AN (B:=aF.m kt vt ([]:List (E.T.El kt×E.T.El vt))) (h:=.map (some w.heap.size)) d ad
 refine⟨_,ρ++[.map (some w.heap.size)],c.push d ad ⟨_,rfl,K,b8,#[],0,heap_alloc_new w _,trivial,by simp,by simp⟩,e,λ k b _=>d.block k b (by simp),_,hy,?_⟩
 simp only[aw]
 exact⟨_,by rw[<-c.len];simp,rfl⟩
def PW{El:Nat->Type}:aI El->Bool
 | .a _=>false
 | .u _=>false
 | .p v=>v.oneCell'
 |_=>true
theorem aFm{F:Nat->Prop}{y:aI E.T.El}{v:Value}(h:PW y=true)(B:aw E.T F w ρ bl y v):v.oneCell'=true:=by
 cases y with
 |p u=>simp only[aw]at B;subst B;exact h
 |a l=>simp[PW]at h
 |b i o=>simp only[aw]at B;obtain⟨g,_,rfl⟩:=B;rfl
 |x t d o=>simp only[aw]at B;obtain⟨_,_,_,rfl,_⟩:=B;rfl
 |s t l=>simp only[aw]at B;obtain⟨A,c,e⟩:=mz _ B;subst e;rfl
 |q t l=>simp only[aw]at B;obtain⟨_,A,rfl⟩:=B;rfl
 |r i g=>simp only[aw]at B;obtain⟨A,m,c,rfl⟩:=aaU B.1;rfl
 |v i g lo hi=>simp only[aw]at B;obtain⟨A,m,c,rfl⟩:=aaU B.1;rfl
 |e i g k t j d o=>simp only[aw]at B;have:=B.1;cases v<;>simp[wZ]at this;rfl
 |w i g o=>simp only[aw]at B;have:=B.1;cases v<;>simp[wZ]at this;rfl
 |m i=>simp only[aw]at B;obtain⟨g,_,rfl⟩:=B;rfl
 |n _ _ _=>simp only[aw]at B;obtain⟨g,rfl,_⟩:=B;rfl
 |f fn cs=>simp only[aw]at B;obtain⟨g,rfl,_⟩:=B;rfl
 |h fn us=>simp only[aw]at B;obtain⟨g,rfl,_⟩:=B;rfl
 |u l=>simp[PW]at h
 |i t z=>simp only[aw]at B;obtain⟨g,rfl,_⟩:=B;rfl
 |pp i g sz ef=>simp only[aw]at B;obtain⟨_,_,rfl,_⟩:=B;rfl
 |Au i g sz q=>simp only[aw]at B;obtain⟨_,_,_,rfl,_⟩:=B;rfl
def xF{El:Nat->Type}:List (aI El)->Bool
 |[]=>true
 |y::r=>PW y&&xF r
theorem KK{F:Nat->Prop}:∀ {ys:List (aI E.T.El)}{vs:List Value},xF ys=true->a8 E.T F w ρ bl ys vs->vs.all (·.oneCell')=true
 |[],vs,_,b=>by simp only[a8]at b;subst b;rfl
 |y::r,vs,h,b=>by
  simp only[a8]at b;obtain⟨u,us,rfl,c,J⟩:=b;simp only[xF,cb]at h;simp only[List.all_cons,cb];exact⟨aFm h.1 c,KK h.2 J⟩
theorem Pa:∀(l:List Value)(n:Nat)(cs:List Value),ay.lay l n cs=fO l n cs
 |l,0,cs=>by cases l<;>rfl
 |[],n+1,cs=>rfl
 |u::l,n+1,cs=>by simp only[ay.lay,fO,Pa l n cs]
def QQ{El:Nat->Type}(bl:List (aF El))(i:Nat):Bool:=match nth bl i with
 |some (.r _ _ _ _)=>true
 |_=>false
def UE(E:Env)(bl:List (aF E.T.El))(t:Nat)(p y:aI E.T.El):D (eC E.T.El):=match lay E.P t,xF (cellsOf y)with
 |some (_,sz),true=>match cy (cellsOf y).length sz with
  |true=>match p with
   | .b i o=>match nth bl i with
     |some (.c ty cs)=>match jF (o+(cellsOf y).length) cs.length with
      |true=>.ok ⟨none,bl.set i (.c ty (fO cs o (cellsOf y))),[i]⟩
      |false=>.no
     |_=>.no
   | .e i g k t' j d o=>match nth bl i with
     |some (.r b c e l)=>match cy g c,cy k e with
      |true,true=>match oh bl (fO ((E.T.e t').cs d) o (cellsOf y)),l2 t' b,jF (o+(cellsOf y).length) ((E.T.e t').cs d).length with
       |(bl',cs),.isTrue h,true=>match(E.T.e t').hz cs,QQ bl' i with
        |some d',true=>.ok ⟨none,bl'.set i (.r b c (e+1) (l.set j.toNat (h▸d'))),[i]⟩
        |_,_=>.no
       |_,_,_=>.no
      |true,false=>.op (idx l j) λ d=>match oh bl (fO ((E.T.e b).cs d) o (cellsOf y)),jF (o+(cellsOf y).length) ((E.T.e b).cs d).length with
       |(bl',cs),true=>match(E.T.e b).hz cs,QQ bl' i with
        |some d',true=>.ok ⟨none,bl'.set i (.r b c (e+1) (l.set j.toNat d')),[i]⟩
        |_,_=>.no
       |_,_=>.no
      |_,_=>.no
     |_=>.no
   | .w i g o=>match nth bl i with
     |some (.k b m c cs)=>match cy g c&&jF (o+(cellsOf y).length) cs.length with
      |true=>.ok ⟨none,bl.set i (.k b m c (fO cs o (cellsOf y))),[i]⟩
      |false=>.no
     |_=>.no
   |_=>.no
  |false=>.no
 |_,_=>.no
theorem alJ{o:Oper}{t g c m sz n q tb:Nat}{x y:Operand}{v:Value}{xs vs:List Value}(j:v.cells=vs.toArray)(aj:∀w,(Go.sizeOf t).run E.P w= .ok sz w)(k:cy vs.length sz=true)(l:vs.all (·.oneCell')=true)
 (p:0<n)(e:rowIs w tb m (.slice (some ⟨g,0,none⟩) n c) n xs)(b:q+vs.length<=xs.length)(r:o.op= .store t x y)(s:a.eval x= .pointer (some ⟨g,q,none⟩))(hy:a.eval y=v) :
 ∃w',rX E.P o a w w'/\br [g] w w'/\rowIs w' tb m (.slice (some ⟨g,0,none⟩) n c) n (fO xs q vs):=by
 have d:=e.len
 have e:=e.own p
 rcases e.2 with⟨_,D⟩|⟨g',cap,cur,h,ao,aT,bQ,dw,eR,i⟩
 ·omega
 ·simp only[Value.slice.injEq,aH,Addr.mk.injEq,and_true,true_and]at h
  obtain⟨rfl,rfl⟩:=h
  have u:xs.length<=cur.toList.length:=by rw[<-i,fZ];omega
  obtain⟨w',z,A,B⟩:=ac9 (tb:=tb) (cs:=cur.toList) j aj k l (by simpa using hv b (by simpa using u)) (show(bb.ck g tb cur.toList).ok w by simpa[bb.ck]using aT) r s hy
  refine⟨w',z,A,.inl ⟨by rw[X4 b,d],.inr ⟨g,c,⟨ay.lay cur.toList q vs⟩,rfl,ao,B,bQ,dw,?_,?_⟩⟩⟩
  ·rw[Pa]
   simp only[List.size_toArray]
   rw[X4 (by omega)]
   simpa using eR
  ·rw[Pa]
   simp only
   subst i
   rw[xj _ _ _ (by omega),xj _ _ _ b]
   have C:n*m<=cur.toList.length:=by have:=eR;have F:n*m<=c*m:=kA m bQ;simp;omega
   exact aaZ (by rw[d]at b;exact b) C
theorem aju{j n sz o k:Nat}(h:j<n)(J:o+k<=sz):j*sz+o+k<=n*sz:=by
 have:(j+1)*sz<=n*sz:=kA sz h;rw[jP]at this;omega
end
end bc
namespace bc
open Go Go.RowKit ay I
section
variable{E:Env}{W w w':World}{M0:List Nat}{X:Nat->Prop}{n:cE}{f:cC E.T.El}{bl:List (aF E.T.El)}{ρ:List Value}{a:Act}{cur:List (Nat×Bool)}
theorem OO(g:Mem E.T W M0 X bl ρ w){o:Oper}{i:Nat}{B B':aF E.T.El}{h:Value}(hi:bl[i]? =some B)(c:ρ[i]? =some h)(d:br (bE B h) w w')(ad:bE B' h=bE B h)
 (j:b4 (some B')=b4 (some B)/\jy E.T (some B')=jy E.T (some B)/\gY (some B)<=gY (some B')/\(gY (some B')=gY (some B)->jx (some B')=jx (some B)))(hy:rX E.P o a w w')
 (m:To X bl (bl.set i B') ρ ρ w w'->jj E.T (bk X (bl.set i B') ρ w') w' ρ (bl.set i B') B' h):hd E o a W M0 X bl ρ w ⟨none,bl.set i B',[i]⟩:=by
 have ec:∀k∈bE B' h,k∈bE B h\/(w.heap.size<=k/\k<w'.heap.size):=λ k e=>.inl (ad▸e)
 have b:=g.D9 (B':=B') (h':=h) hi c d ec ⟨λ _=>rfl,by rw[j.1];exact cT _,λ _=>⟨rfl,j.2⟩⟩
 have aj:=Hh c
 have l:=g.dC (B':=B') (h':=h) hi c d ec b (by rw[aj]at b⊢;exact m b)
 rw[aj]at l b
 exact⟨w',ρ,l,b,λ k e p=>d.block k e (p i (by simp) B h hi c),hy⟩
theorem hd.first{o:Oper}{bl':List (aF E.T.El)}{e:eC E.T.El}(c:To X bl bl' ρ ρ w w)(d:∀i∈e.ws,∀B' h k,bl'[i]? =some B'->ρ[i]? =some h->k∈bE B' h-> ∃B,bl[i]? =some B/\k∈bE B h)(h:hd E o a W M0 X bl' ρ w e):hd E o a W M0 X bl ρ w e:=by
 obtain⟨w',ρ',j,J,l,m⟩:=h;refine⟨w',ρ',j,c.trans J,λ k p q=>l k p λ i hi B' g ag b r=>?_,m⟩;obtain⟨B,s,t⟩:=d i hi B' g k ag b r;exact q i hi B g s b t
theorem ax1{bl bl':List (aF E.T.El)}{y b:aI E.T.El}(h:gy bl y=(bl',b))(i:Nat):bl'[i]? =bl[i]? \/ ∃t g k l,bl[i]? =some (.r t g k l)/\bl'[i]? =some (.z t g k l):=by
 unfold gy at h;split at h
 ·rename_i j g
  split at h
  ·rename_i t c k l aA
   rw[dh]at aA
   split at h
   ·simp only[cF]at h
    obtain⟨rfl,_⟩:=h
    by_cases e:i=j
    ·subst e
     exact .inr ⟨t,c,k,l,aA,gv (aP.1 aA).1⟩
    ·exact .inl (jG (Ne.symm e))
   ·simp only[cF]at h;exact .inl (by rw[h.1])
  ·split at h<;>(simp only[cF]at h;exact .inl (by rw[h.1]))
  ·simp only[cF]at h;exact .inl (by rw[h.1])
 ·simp only[cF]at h;exact .inl (by rw[h.1])
 ·simp only[cF]at h;exact .inl (by rw[h.1])
theorem NP:∀ {ys c:List (aI E.T.El)}{bl bl':List (aF E.T.El)},oh bl ys=(bl',c)-> ∀i:Nat,bl'[i]? =bl[i]? \/ ∃t g k l,bl[i]? =some (.r t g k l)/\bl'[i]? =some (.z t g k l)
 |[],c,bl,bl',h,i=>by
  simp only[oh,cF]at h;exact .inl (by rw[h.1])
 |y::r,c,bl,bl',h,i=>by
  simp only[oh]at h;cases d:gy bl y with
  |mk e j=>
   rw[d]at h
   cases J:oh e r with
   |mk m o=>
    rw[J]at h
    simp only[cF]at h
    obtain⟨rfl,_⟩:=h
    rcases ax1 d i with b |⟨t,g,k,l,b,ao⟩
    ·rcases NP J i with aT |⟨t,g,k,l,aT,bQ⟩
     ·exact .inl (aT.trans b)
     ·exact .inr ⟨t,g,k,l,by rw[<-b];exact aT,bQ⟩
    ·rcases NP J i with aT |⟨t',g',k',l',aT,bQ⟩
     ·exact .inr ⟨t,g,k,l,b,by rw[aT,ao]⟩
     ·rw[ao]at aT;cases aT
theorem ajg{α:Type}:∀(l:List α)(q:Nat)(cs b:List α),q+cs.length<=l.length->fO (l++b) q cs=fO l q cs++b
 |l,0,cs,b,h=>by
  have e:∀m:List α,fO m 0 cs=cs++m.drop cs.length:=λ m=>by cases m<;>rfl
  rw[e,e,List.drop_append_of_le_length (by simpa using h),g_]
 |[],q+1,cs,b,h=>by simp at h
 |u::l,q+1,cs,b,h=>by
  simp only[iE,fO,ajg l q cs b (by simp at h;omega)]
theorem ajh{α:Type}:∀(a l:List α)(q:Nat)(cs:List α),fO (a++l) (a.length+q) cs=a++fO l q cs
 |[],l,q,cs=>by simp
 |u::a,l,q,cs=>by
  have e:(u::a).length+q=(a.length+q)+1:=by simp only[dL];omega
  rw[e];simp only[iE,fO,ajh a l q cs]
theorem aDC{α:Type}{xs cs0 vs:List α}{p q:Nat}(h:(xs.drop p).take cs0.length=cs0)(i:p+cs0.length<=xs.length)(b:q+vs.length<=cs0.length):xs.take p++fO cs0 q vs++xs.drop (p+cs0.length)=fO xs (p+q) vs:=by
 have c:xs=xs.take p++(cs0++xs.drop (p+cs0.length)):=by
  have d:xs.drop p=cs0++xs.drop (p+cs0.length):=by
   rw[<-List.drop_drop];have:=(jv cs0.length (xs.drop p)).symm;rwa [h]at this
  rw[<-d,jv]
 have g:(xs.take p).length=p:=by rw[fZ];omega
 have e:=ajh (xs.take p) (cs0++xs.drop (p+cs0.length)) q vs;rw[<-c,g,ajg _ _ _ _ b,<-g_]at e;exact e.symm
theorem afF(a7:di E)(H:Mem E.T W M0 X bl ρ w){o:Oper}{t sz i b g k q:Nat}{l:List (E.T.El b)}{x y:Operand}{j:Int}{d d':E.T.El b}{u:aI E.T.El}{bl':List (aF E.T.El)}{cs:List (aI E.T.El)}{h:Value}{A:Option Addr}{c m:Nat}
 (aj:∀w,(Go.sizeOf t).run E.P w= .ok sz w)(U:xF (cellsOf u)=true)(J:cy (cellsOf u).length sz=true)(hi:bl[i]? =some (.r b g k l))(I:ρ[i]? =some h)(aL:idx l j=some d)(z:q+(cellsOf u).length<=((E.T.e b).cs d).length)
 (B:QQ bl' i=true)(K:oh bl (fO ((E.T.e b).cs d) q (cellsOf u))=(bl',cs))(V:(E.T.e b).hz cs=some d')(r:h= .slice A m c)(Y:o.op= .store t x y)(Z:a.eval x= .pointer (some ⟨dD A,j.toNat*(E.T.ty b).size+q,none⟩))(hu:aw E.T (bk X bl ρ w) w ρ bl u (a.eval y)) :
 hd E o a W M0 X bl ρ w ⟨none,bl'.set i (.r b g (k+1) (l.set j.toNat d')),[i]⟩:=by
 have wD:=pk hu
 have C1:=wD.len
 obtain⟨cn,bJ,xs,C,ao,aT⟩:=H.ok i _ _ hi I
 rw[r]at C
 simp only[Value.slice.injEq]at C
 obtain⟨rfl,rfl,rfl⟩:=C
 obtain⟨aiz,D,pI⟩:=lF aL
 obtain⟨gb,rfl,wz,hc,lA⟩:=u4 (by omega) (r▸ao)
 obtain⟨cs0,L,bA⟩:=K4 (E.T.ty b) aT pI
 have s:=a7.tb.cells (ρ:=ρ) (bl:=bl) L
 have kv:=s.len
 have M:=(E.T.ty b).len L
 obtain⟨m1,N,v1⟩:=NQ H K (s.lay wD z)
 have fN:=a7.tb.hz _ _ _ V _ _ _ _ _ v1
 have O:=xK _ aT
 have p:j.toNat*(E.T.ty b).size+q+(a.eval y).cells.toList.length<=xs.length:=by
  rw[O,C1];exact aju D (by omega)
 obtain⟨w',bn,bi,ch⟩:=alJ (E:=E) (a:=a) (v:=a.eval y) (vs:=(a.eval y).cells.toList) (by simp) aj (by rw[C1];exact J) (KK U wD) (show 0<l.length by omega) (r▸ao) p Y (by simpa[dD]using Z) rfl
 have P:bl'[i]? =some (.r b g k l):=by
  rcases NP K i with e |⟨t',g',k',l',bQ,dw⟩
  ·exact e.trans hi
  ·unfold QQ at B
   rw[dh,dw]at B
   cases B
 have aD:bE (aF.r b g k l) h=[gb]:=by subst r;simpa[bE]using lA _
 have F:=OO (B':=aF.r b g (k+1) (l.set j.toNat d')) (w':=w') (o:=o) (a:=a) m1 P I (by rw[aD];exact bi) rfl ⟨rfl,rfl,Nat.le_succ _,λ e=>absurd e (by simp[gY])⟩ bn (λ Q=>by
  refine⟨some ⟨gb,0,none⟩,c,fO xs (j.toNat*(E.T.ty b).size+q) (a.eval y).cells.toList,by subst r;simp,by subst r;simpa using ch,?_⟩;have G:dM (E.T.ty b) (bk X (bl'.set i (aF.r b g (k+1) (l.set j.toNat d'))) ρ w') w' xs l:=oO _ (N.trans Q).F aT;have ky:=(E.T.ty b).law Q.F fN;have cZ:=aao ky G D;have e:xs.take (j.toNat*(E.T.ty b).size)++fO cs0 q (a.eval y).cells.toList++xs.drop (j.toNat*(E.T.ty b).size+(E.T.ty b).size)=fO xs (j.toNat*(E.T.ty b).size+q) (a.eval y).cells.toList:=by
   have eS:=agq bA;have R:=aDC (q:=q) (vs:=(a.eval y).cells.toList) eS (by rw[M,O];have:=aju (o:=0) (k:=(E.T.ty b).size) (sz:=(E.T.ty b).size) D (by omega);omega) (by omega);rw[M]at R;exact R
  rw[<-e];exact cZ)
 refine hd.first N (λ i' S B' g' D0 ag az aN=>?_) F
 simp only[dT]at S
 subst S
 exact⟨_,hi,by rw[P]at ag;cases ag;exact aN⟩
end
end bc
namespace bc
open Go Go.RowKit ay I
section
variable{E:Env}{W w w':World}{M0:List Nat}{X:Nat->Prop}{n:cE}{f:cC E.T.El}{bl:List (aF E.T.El)}{ρ:List Value}{a:Act}{cur:List (Nat×Bool)}
theorem axt(a7:di E)(z:Mem E.T W M0 X bl ρ w){o:Oper}{t:Nat}{x y:Operand}{p u:aI E.T.El}{e:eC E.T.El}(h:(UE E bl t p u).out e)(L:o.op= .store t x y)
 (B:aw E.T (bk X bl ρ w) w ρ bl p (a.eval x))(P:aw E.T (bk X bl ρ w) w ρ bl u (a.eval y)):hd E o a W M0 X bl ρ w e:=by
 unfold UE at h
 split at h
 ·rename_i b sz al M
  have aj:=(Kn al).2
  split at h
  ·rename_i J
   have wD:=pk P
   have C1:=wD.len
   split at h
   ·rename_i i r
    split at h
    ·rename_i ty cs hi
     rw[dh]at hi
     split at h
     ·rename_i ag
      have h:(⟨none,bl.set i (.c ty (fO cs r (cellsOf u))),[i]⟩:eC E.T.El)=e:=h
      subst h
      have ag:=cS ag
      simp only[aw]at B
      obtain⟨g,q,Q⟩:=B
      obtain⟨g',vs,G,ao,aT⟩:=z.ok i _ _ hi q
      simp only[Value.pointer.injEq,aH,Addr.mk.injEq,and_true]at G
      subst G
      have R:=aT.len
      obtain⟨w',S,H,U⟩:=ac9 (tb:=ty) (cs:=vs) (v:=a.eval y) (vs:=(a.eval y).cells.toList) (by simp) aj (by rw[C1];exact J) (KK M wD) (by rw[C1,R];exact Nat.ble_eq_true_of_le ag) (show(bb.ck g ty vs).ok w from ao) L Q rfl
      refine OO (B':=aF.c ty (fO cs r (cellsOf u))) z hi q (by simpa[bE,bc.ag]using H) rfl ⟨rfl,rfl,cT _,λ _=>rfl⟩ S (λ I=>⟨g,ay.lay vs r (a.eval y).cells.toList,rfl,U,?_⟩)
      rw[Pa]
      exact(I.vs aT).lay (I.vs wD) ag
     ·exact h.elim
    ·exact h.elim
   ·rename_i i g k t' j d r
    split at h
    ·rename_i C g2 H l hi
     rw[dh]at hi
     simp only[aw]at B
     obtain⟨_,aL,K,V,D⟩:=B
     rw[hi]at D
     split at h
     ·rename_i q N
      have q:=bd q
      have N:=bd N
      subst q;subst N
      obtain⟨⟨A,m,c,s,O,Y,Z⟩,aFY,Za⟩:=D rfl
      obtain⟨l',F,dc⟩:=Za rfl
      split at h
      ·rename_i bl' cs aOG qN aOu Js
       simp only[jx,aH,Sigma.mk.injEq]at F
       obtain⟨fg,F⟩:=F
       subst fg
       have F:=eq_of_heq F
       subst F
       split at h
       ·rename_i d' ez eT
        have h:(⟨none,bl'.set i (.r C g (k+1) (l.set j.toNat d')),[i]⟩:eC E.T.El)=e:=h
        subst h
        exact afF a7 z aj M J hi K dc (cS Js) eT qN ez s L (by simpa[jy]using Z) P
       ·exact h.elim
      ·exact h.elim
     ·rename_i q N
      have q:=bd q
      subst q
      obtain⟨⟨A,m,c,s,O,Y,Z⟩,_⟩:=D rfl
      obtain⟨d1,dc,h⟩:=h
      dsimp only at h
      split at h
      ·rename_i bl' cs qN Js
       split at h
       ·rename_i d' ez eT
        have h:(⟨none,bl'.set i (.r C g (H+1) (l.set j.toNat d')),[i]⟩:eC E.T.El)=e:=h
        subst h
        exact afF a7 z aj M J hi K dc (cS Js) eT qN ez s L (by simpa[jy]using Z) P
       ·exact h.elim
      ·exact h.elim
     ·exact h.elim
    ·exact h.elim
   ·rename_i i g r
    split at h
    ·rename_i C s2 g2 cs hi
     rw[dh]at hi
     split at h
     ·rename_i ag
      simp only[cb]at ag
      have h:(⟨none,bl.set i (.k C s2 g2 (fO cs r (cellsOf u))),[i]⟩:eC E.T.El)=e:=h
      subst h
      simp only[aw]at B
      obtain⟨_,aL,K,V,D⟩:=B
      rw[hi]at D
      have q:=bd ag.1
      subst q
      obtain⟨A,m,c,s,O,Y⟩:=D rfl
      obtain⟨cn,e9,bJ,xs,G,ao,aT⟩:=z.ok i _ _ hi K
      rw[G]at s
      simp only[Value.slice.injEq]at s
      obtain⟨rfl,rfl,rfl⟩:=s
      subst G
      have Jr:=cS ag.2
      have az2:=aT.len
      obtain⟨gb,rfl,wz,hc,lA⟩:=u4 O ao
      obtain⟨w',S,H,U⟩:=alJ (E:=E) (a:=a) (v:=a.eval y) (vs:=(a.eval y).cells.toList) (by simp) aj (by rw[C1];exact J) (KK M wD) O ao (by rw[C1,az2];exact Jr) L (by simpa[dD]using Y) rfl
      have aD:bE (aF.k C s2 g cs) (.slice (some ⟨gb,0,none⟩) e9 bJ)=[gb]:=by simpa[bE]using lA _
      exact OO (B':=aF.k C s2 g (fO cs r (cellsOf u))) z hi K (by rw[aD];exact H) rfl ⟨rfl,rfl,cT _,λ _=>rfl⟩ S (λ I=>⟨_,_,_,_,rfl,U,(I.vs aT).lay (I.vs wD) Jr⟩)
     ·exact h.elim
    ·exact h.elim
   ·exact h.elim
  ·exact h.elim
 ·exact h.elim
theorem afK{F:Nat->Prop}{kt vt:Nat}{K:h8 (E.T.El kt)}{k:E.T.El kt}{v:E.T.El vt}{u:Value}(g:Cq E.T F w vt v u):∀ {es:List MapEntry}{d:List (E.T.El kt×E.T.El vt)}{p:Nat},jO E.T F w K es d->j7 K d k=some p->jO E.T F w K (es.modify p λ e=>{ e with key:=K.enc k,val:=u }) (uL K d k v)
 |[],[],_,_,b=>by simp[j7,pP]at b
 |[],_::_,_,h,_=>h.elim
 |_::_,[],_,h,_=>h.elim
 |e::es,q::d,p,h,b=>by
  obtain⟨j,J,i⟩:=h;by_cases c:q.1=k
  ·simp only[j7,pP,if_pos c,aH]at b
   subst b
   simp only[uL,gf,if_pos c,List.modify_zero_cons]
   exact⟨rfl,g,i⟩
  ·simp only[j7,pP,if_neg c,cz]at b
   obtain⟨m,l,rfl⟩:=b
   simp only[uL,gf,if_neg c,List.modify_succ_cons]
   exact⟨j,J,afK g i l⟩
theorem afJ{F:Nat->Prop}{kt vt:Nat}{K:h8 (E.T.El kt)}{k:E.T.El kt}{v:E.T.El vt}{u:Value}{c:Nat}(i:Cq E.T F w vt v u):∀ {es:List MapEntry}{d:List (E.T.El kt×E.T.El vt)},jO E.T F w K es d->j7 K d k=none->jO E.T F w K (es++[{ key:=K.enc k,val:=u,born:=c }]) (uL K d k v)
 |[],[],_,_=>⟨rfl,i,trivial⟩
 |[],_::_,h,_=>h.elim
 |_::_,[],h,_=>h.elim
 |e::es,q::d,h,b=>by
  obtain⟨j,J,l⟩:=h;by_cases g:q.1=k
  ·simp[j7,pP,if_pos g]at b
  ·simp only[j7,pP,if_neg g,Option.map_eq_none_iff]at b
   simp only[uL,gf,if_neg g,iE]
   exact⟨j,J,afJ i l b⟩
theorem afI{F:Nat->Prop}{kt vt:Nat}{K:h8 (E.T.El kt)}{k:E.T.El kt}:∀ {es:List MapEntry}{d:List (E.T.El kt×E.T.El vt)}{p:Nat},jO E.T F w K es d->j7 K d k=some p-> ∃e,es[p]? =some e/\e.key=K.enc k
 |[],[],_,_,b=>by simp[j7,pP]at b
 |[],_::_,_,h,_=>h.elim
 |_::_,[],_,h,_=>h.elim
 |e::es,q::d,p,h,b=>by
  obtain⟨g,J,i⟩:=h;by_cases c:q.1=k
  ·simp only[j7,pP,if_pos c,aH]at b
   subst b
   exact⟨e,rfl,by rw[g,c]⟩
  ·simp only[j7,pP,if_neg c,cz]at b
   obtain⟨l,j,rfl⟩:=b
   simpa using afI i j
def NB(E:Env)(bl:List (aF E.T.El))(t:Nat)(u k v:aI E.T.El):D (eC E.T.El):=match u,mapOf E.P t with
 | .m i,some (b,_)=>match nth bl i with
   |some (.m kt vt d)=>match(E.T.e kt).key with
    |some K=>match oh bl (cellsOf v)with
     |(bl',cs)=>match Nj (E.P.underlying b) K.desc,(E.T.e kt).hz (cellsOf k),(E.T.e vt).hz cs,(match lG k with|true=>(E.T.e kt).agg |false=>!(E.T.e kt).agg)&&(match lG v with|true=>(E.T.e vt).agg |false=>!(E.T.e vt).agg)with
      |true,some key,some val,true=>.ok ⟨none,bl'.set i (.m kt vt (uL K d key val)),[i]⟩
      |_,_,_,_=>.no
    |none=>.no
   |_=>.no
 |_,_=>.no
theorem agm(a7:di E)(hm:Mem E.T W M0 X bl ρ w){o:Oper}{t:Nat}{x y z:Operand}{u k v:aI E.T.El}{e:eC E.T.El}(h:(NB E bl t u k v).out e)(au:o.op= .mapUpdate t x y z\/o.op= .insert t x y z)
 (P:aw E.T (bk X bl ρ w) w ρ bl u (a.eval x))(hy:aw E.T (bk X bl ρ w) w ρ bl k (a.eval y))(Q:aw E.T (bk X bl ρ w) w ρ bl v (a.eval z)):hd E o a W M0 X bl ρ w e:=by
 unfold NB at h
 split at h
 ·rename_i i R aO_ D
  split at h
  ·rename_i kt vt d hi
   rw[dh]at hi
   split at h
   ·rename_i K b8
    split at h
    rename_i bl' cs S
    split at h
    ·rename_i key val aL WD qR F
     have h:(⟨none,bl'.set i (.m kt vt (uL K d key val)),[i]⟩:eC E.T.El)=e:=h
     subst h
     simp only[cb]at F
     simp only[aw]at P
     obtain⟨r,U,V⟩:=P
     have Y:a.eval y=K.enc key:=by
      have j:=a7.tb.hz _ _ _ WD _ _ _ _ _ (pk hy);exact(Ty hy F.1).trans (a7.tb.key _ _ b8 _ _ _ _ j)
     obtain⟨Z,t1,v1⟩:=NQ hm S (pk Q)
     have fN:=a7.tb.hz _ _ _ qR _ _ _ _ _ v1
     have G:bl'[i]? =some (.m kt vt d):=by
      rcases NP S i with e |⟨t',g',k',l',bQ,dw⟩
      ·exact e.trans hi
      ·rw[hi]at bQ;cases bQ
     have m:Cq E.T (bk X bl' ρ w) w vt val (a.eval z):=⟨_,fN,Ty Q F.2⟩
     obtain⟨eV,j,adC,CM,es,clock,s,B,bU,H⟩:=Z.ok i _ _ G U
     simp only[Value.map.injEq,aH]at j
     subst j
     rw[b8]at CM
     cases CM
     have hu:=Yg D
     have I:=aeT aL
     have bD:r<w.heap.size:=(gw.1 s).1
     have jo:∀L:Obj,br [r] w { w with heap:=w.heap.setIfInBounds r L }:=λ L=>⟨rfl,rfl,rfl,by simp,λ q _ aB=>by
      show(w.heap.setIfInBounds r L)[q]? =_
      rw[f_,if_neg (λ e=>aB (by simp[e]))]⟩
     refine hd.first t1 (λ i' JC B' g' D0 ag az aN=>?_) ?_
     ·simp only[dT]at JC
      subst JC
      rw[G]at ag
      cases ag
      exact⟨_,hi,aN⟩
     have fin:∀(l:Array MapEntry)(A:Nat),rX E.P o a w { w with heap:=w.heap.setIfInBounds r (.map l A) } ->jO E.T (bk X bl' ρ w) w K l.toList (uL K d key val)->(l.toList.map (·.born)).Pairwise (·< ·)->(∀e∈l.toList,e.born<A) ->
      hd E o a W M0 X bl' ρ w ⟨none,bl'.set i (.m kt vt (uL K d key val)),[i]⟩:=λ l A Xi h1 J aq=>by
      refine OO (B':=aF.m kt vt (uL K d key val)) (w':={ w with heap:=w.heap.setIfInBounds r (.map l A) }) Z G U (by simpa[bE,bc.ag]using jo _) rfl ⟨rfl,rfl,cT _,λ _=>rfl⟩ Xi (λ aJ=>⟨r,rfl,K,b8,l,A,by simp[bD],h1.law aJ.F,J,aq⟩)
     rcases aaI (vt:=vt) key I B w with⟨f1,C,f3⟩|⟨p,apw,Hu,f1,C,f3,f4⟩
     ·refine fin (es.push { key:=K.enc key,val:=a.eval z,born:=clock }) (clock+1) ?_ ?_ ?_ ?_
      ·rcases au with au |au<;>
       ·simp only[rX,execOp,au,V,Y,Instr.mapUpdate,Sem.run_bind,run_underlying hu,Result.andThen_ok,MapKept.run_getObj_map s,@lY.check _ K.dec K.sy E.P w false R key I,f3,MapKept.run_setObj_map _ s]
        rfl
      ·simpa using afJ m B C
      ·simp only[Array.toList_push,jH,eB,iD,List.pairwise_append]
       refine⟨bU,by simp,λ b ag c hc=>?_⟩
       obtain⟨e,g,rfl⟩:=hY.1 ag
       simp only[dT]at hc
       subst hc
       exact H e g
      ·intro e g
       simp only[Array.toList_push,cj,dT]at g
       rcases g with g |rfl
       ·exact Nat.lt_succ_of_lt (H e g)
       ·exact l4 _
     ·obtain⟨e,g,M⟩:=afI (k:=key) B C
      have N:es[p]? =some e:=by simpa using g
      have FY:((es.modify p λ e=>{ e with key:=K.enc key,val:=a.eval z }).toList.map (·.born))=es.toList.map (·.born):=by
       rw[Array.toList_modify];apply lu;intro i;simp only[jw,List.getElem?_modify];cases hi:es.toList[i]? with
       |none=>simp
       |some e'=>by_cases Oq:p=i<;>simp[Oq]
      refine fin (es.modify p λ e=>{ e with key:=K.enc key,val:=a.eval z }) clock ?_ ?_ ?_ ?_
      ·have JM:(Instr.keyThatStays e.key (K.enc key)).run E.P w= .ok (K.enc key) w:=by
        rw[M];simp only[Instr.keyThatStays,@lY.bits _ K.dec K.sy,if_true];rfl
       rcases au with au |au<;>
       ·simp only[rX,execOp,au,V,Y,Instr.mapUpdate,Sem.run_bind,run_underlying hu,Result.andThen_ok,MapKept.run_getObj_map s,@lY.check _ K.dec K.sy E.P w false R key I,f4,N,fU,jd,JM,MapKept.run_setObj_map _ s]
        rfl
      ·rw[Array.toList_modify];exact afK m B C
      ·rw[FY];exact bU
      ·intro j Wh
       have:j.born∈es.toList.map (·.born):=by rw[<-FY];exact hY.2 ⟨j,Wh,rfl⟩
       obtain⟨ao,O,heq⟩:=hY.1 this
       rw[<-heq];exact H ao O
    ·exact h.elim
   ·exact h.elim
  ·exact h.elim
 ·exact h.elim
end
end bc
namespace bc
open Go Go.RowKit ay I
section
variable{P:Program}{w w':World}
def Fl(w:World)(sz m:Nat)(A:Option Addr)(news:List Value):Prop:=(m=0/\news=[])\/ ∃en,A=some en/\news.length=m*sz/\(∀j u,news[j]? =some u->w.cell? (en.add j)=some u)/\ ∀u∈news,u.oneCell'=true
theorem aID{t ty e:TypeId}{i:TypeInfo}(d:P.underlying t=some (.slice e))(hi:P.info? e=some i)(A b:Option Addr)(n c c2:Nat)(a:n<=c):(Builtin.append_ #[t,t] ty #[.slice A n c,.slice b 0 c2]).run P w= .ok (.slice A n c) w:=by
 cases A<;>cases b<;>simp[Builtin.append_,run_underlying d,Go.sizeOf,typeInfo,hi,Builtin.lenOf,Builtin.firstCells,a,storeCells,loadCells,loadCellsFrom]
theorem rowIs.short{t sz n c k:Nat}{A:Option Addr}{xs:List Value}(e:rowIs w t sz (.slice A n c) n xs)(b:k<=n):rowIs w t sz (.slice A k c) k (xs.take (k*sz)):=by
 have l:=e.len;have d:k*sz<=n*sz:=kA sz b;rcases e with e |⟨rfl,rfl,cn,e⟩
 ·rcases e.2 with⟨a,m⟩|⟨g,cap,cur,a,J,f,o,h,i,j⟩
  ·simp only[Value.slice.injEq]at a
   obtain⟨rfl,rfl,rfl⟩:=a
   have:k=0:=by omega
   subst this
   exact .inl ⟨by simp,.inl ⟨rfl,rfl⟩⟩
  ·simp only[Value.slice.injEq]at a
   obtain⟨rfl,_,rfl⟩:=a
   refine .inl ⟨by rw[fZ];omega,.inr ⟨g,c,cur,rfl,J,f,by omega,h,i,?_⟩⟩
   rw[<-j,List.take_take,mj d]
 ·have:k=0:=by omega
  subst this
  simp only[Value.slice.injEq]at e
  obtain⟨rfl,_,rfl⟩:=e
  exact .inr ⟨rfl,by simp,A,rfl⟩
theorem adZ{t ty e:TypeId}{i:TypeInfo}{z:Value}{bytes sz:Nat}(r:P.underlying t=some (.slice e))(hi:P.info? e=some i)(B:i.zero=some z)(C:i.size=sz)(D:i.bytes=bytes)(E:z.cells.size=sz)(F:0<sz)
 {A s:Option Addr}{n c m c2:Nat}{xs news:List Value}(v:rowIs w e sz (.slice A n c) n xs)(aj:Fl w sz m s news)(G:n+m<=maxLen)(ag:(n+m)*bytes<=140737488355328) :
 ∃cn H w',(Builtin.append_ #[t,t] ty #[.slice A n c,.slice s m c2]).run P w= .ok (.slice cn (n+m) H) w'/\rowIs w' e sz (.slice cn (n+m) H) (n+m) (xs++news)/\br (bc.ag (.slice A n c)) w w'/\ ∀k∈bc.ag (.slice cn (n+m) H),k∈bc.ag (.slice A n c)\/(w.heap.size<=k/\k<w'.heap.size):=by
 have M:=v.cap
 rcases lS m with N |hm
 ·subst N
  have I:news=[]:=by
   rcases aj with⟨_,h⟩|⟨_,_,h,_⟩
   ·exact h
   ·exact hL (by simpa using h)
  subst I
  exact⟨A,c,w,aID r hi A s n c c2 M.1,by simpa using v,br.refl _ _,λ k a=>.inl a⟩
 ·obtain⟨en,rfl,K,L,C3⟩:∃en,s=some en/\news.length=m*sz/\(∀j u,news[j]? =some u->w.cell? (en.add j)=some u)/\ ∀u∈news,u.oneCell'=true:=by
   rcases aj with⟨h,_⟩|h
   ·omega
   ·exact h
  have grow:∀ {fl:Value}{w':World}{b:Nat},w'.ownsRow b e sz fl (n+m) (xs++news)-> ∃g cap cur,fl= .slice (some ⟨g,0,none⟩) (n+m) cap/\b<=g/\w'.heap[g]? =some (.cells cur e (0,0))/\n+m<=cap:=λ{fl w' b} h=>by
   rcases h.2 with⟨_,N⟩|⟨g,cap,cur,R,J,S,T,_⟩
   ·omega
   ·exact⟨g,cap,cur,R,J,S,T⟩
  have l:∀ {fl:Value}{w':World}{b:Nat},w'.ownsRow b e sz fl (n+m) (xs++news)->w'.ownsRow 0 e sz fl (n+m) (xs++news):=λ{fl w' b} h=>⟨h.1,h.2.imp id λ⟨g,cap,cur,U,_,f⟩=>⟨g,cap,cur,U,gT _,f⟩⟩
  rcases lS c with hc |hc
  ·subst hc
   have I:n=0:=by omega
   subst I
   have V:xs=[]:=hL (by rw[v.len];simp)
   subst V
   have W:bc.ag (.slice A 0 0)=[]:=by cases A<;>rfl
   rw[W]
   cases A with
   |none=>
    obtain⟨fl,w',o,d,p,_,O⟩:=run_append_own_at (P:=P) w w.heap.size t ty e i z sz bytes r hi B C D E F (.slice none 0 0) 0 [] ⟨by simp,.inl ⟨rfl,rfl⟩⟩ en m c2 news K L C3 G ag (cT _)
    obtain⟨g,cap,cur,rfl,x,f,Q⟩:=grow (b:=w.heap.size) d
    refine⟨_,_,w',o,.inl (l d),br.grown p,λ k a=>?_⟩
    right
    have:k=g:=by
     cases cap with
     |zero=>simp[bc.ag]at a
     |succ q=>simpa[bc.ag]using a
    subst this
    exact⟨x,(gw.1 f).1⟩
   |some b=>
    obtain⟨fl,w',o,d,p⟩:=run_append_arg_grows (P:=P) w t ty e i z sz bytes r hi B C D E F b 0 0 [] (by simp) (λ j u X=>by simp at X) en m c2 news K L (by omega) G ag
    obtain⟨g,cap,cur,rfl,x,f,Q⟩:=grow (b:=w.heap.size) d
    refine⟨_,_,w',o,.inl (l d),br.grown p,λ k a=>?_⟩
    right
    have:k=g:=by
     cases cap with
     |zero=>simp[bc.ag]at a
     |succ q=>simpa[bc.ag]using a
    subst this
    exact⟨x,(gw.1 f).1⟩
  ·obtain⟨y,rfl⟩:=M.2.2.2 hc
   have Y:w.ownsRow 0 e sz (.slice (some ⟨y,0,none⟩) n c) n xs:=by
    rcases v with h |⟨_,_,cn,h⟩
    ·exact h
    ·simp only[Value.slice.injEq]at h;omega
   obtain⟨fl,w',o,d,p,_,O⟩:=run_append_own_at (P:=P) w 0 t ty e i z sz bytes r hi B C D E F (.slice (some ⟨y,0,none⟩) n c) n xs Y en m c2 news K L C3 G ag (gT _)
   obtain⟨g,cap,cur,rfl,x,f,Q⟩:=grow (b:=0) d
   have Z:bc.ag (.slice (some ⟨y,0,none⟩) n c)=[y]:=by
    cases c with
    |zero=>omega
    |succ c=>rfl
   rw[Z]
   refine⟨_,_,w',o,.inl d,br.grown p,λ k a=>?_⟩
   have:k=g:=by
    cases cap with
    |zero=>simp[bc.ag]at a
    |succ q=>simpa[bc.ag]using a
   subst this
   rcases O with dw |dw
   ·left
    simp only[Value.ownBlock,aH]at dw
    simp[dw]
   ·right
    simp only[Value.ownBlock,aH]at dw
    rw[dw]
    refine⟨cT _,?_⟩
    rw[<-dw]
    exact(gw.1 f).1
end
def tU(P:Program)(t:TypeId):Option (Nat×Nat×Nat):=match P.underlying t with
 |some (.slice e)=>match P.info? e with
  |some i=>match i.zero with
   |some z=>match cy z.cells.size i.size&&fs 0 i.size&&fs 0 i.bytes with
    |true=>some (e,i.size,i.bytes)
    |false=>none
   |none=>none
  |none=>none
 |_=>none
theorem y8{P:Program}{t e sz b3:Nat}(h:tU P t=some (e,sz,b3)):P.underlying t=some (.slice e)/\ ∃i z,P.info? e=some i/\i.zero=some z/\i.size=sz/\i.bytes=b3/\z.cells.size=sz/\0<sz/\0<b3:=by
 unfold tU at h;split at h
 ·rename_i e' b
  split at h
  ·rename_i i J
   split at h
   ·rename_i z c
    split at h
    ·rename_i a
     simp only[aH,cF]at h
     obtain⟨rfl,rfl,rfl⟩:=h
     simp only[cb]at a
     exact⟨b,i,z,J,c,rfl,rfl,bd a.1.1,cS a.1.2,cS a.2⟩
    ·cases h
   ·cases h
  ·cases h
 ·cases h
def y2{El:Nat->Type}(t t':Nat)(l:List (El t)):Option (List (El t')):=match l2 t t' with
 | .isTrue h=>some (h▸l)
 | .isFalse _=>none
def Gn{El:Nat->Type}{t:Nat}(e:b7 El t):List (List (aI El))->Option (List (El t))
 |[]=>some []
 |c::r=>match e.hz c,Gn e r with
  |some d,some ds=>some (d::ds)
  |_,_=>none
def Fx{α:Type}(sz:Nat):Nat->List α->List (List α)
 |0,_=>[]
 |n+1,l=>l.take sz::Fx sz n (l.drop sz)
def Lz(E:Env)(bl:List (aF E.T.El))(t:Nat):aI E.T.El->Option (List (E.T.El t))
 | .s t' l=>y2 t' t l
 | .q t' l=>y2 t' t l
 | .p (.slice none 0 0)=>some []
 | .p (.slice (some _) 0 _)=>some []
 | .r j g=>match nth bl j with
   |some (.r t' a _ l)=>match cy g a with
    |true=>y2 t' t l
    |false=>none
   |some (.k _ sz a cs)=>match cy g a&&cy sz (E.T.ty t).size&&fs 0 sz with
    |true=>Gn (E.T.e t) (Fx sz (cs.length / sz) cs)
    |false=>none
   |_=>none
 | .v j g lo hi=>match nth bl j with
   |some (.r t' a _ l)=>match cy g a with
    |true=>y2 t' t ((l.take hi.toNat).drop lo.toNat)
    |false=>none
   |_=>none
 |_=>none
section
variable{E:Env}{W w w':World}{M0:List Nat}{X:Nat->Prop}{n:cE}{f:cC E.T.El}{bl:List (aF E.T.El)}{ρ:List Value}{a:Act}{cur:List (Nat×Bool)}
theorem Fu{El:Nat->Type}{t t':Nat}{l:List (El t)}{l':List (El t')}(h:y2 t t' l=some l'):∃e:t=t',e▸l=l':=by
 unfold y2 at h;split at h
 ·rename_i e _
  simp only[aH]at h
  exact⟨e,h⟩
 ·cases h
theorem Xt(a7:di E){F:Nat->Prop}{t sz:Nat}:∀(n:Nat){cs:List (aI E.T.El)}{vs:List Value}{l:List (E.T.El t)},a8 E.T F w ρ bl cs vs->vs.length=n*sz->Gn (E.T.e t) (Fx sz n cs)=some l->dM (E.T.ty t) F w vs l/\l.length=n
 |0,cs,vs,l,h,b,hi=>by
  simp only[Fx,Gn,aH]at hi;subst hi;exact⟨hL (by simpa using b),rfl⟩
 |n+1,cs,vs,l,h,b,hi=>by
  simp only[Fx,Gn]at hi;split at hi
  ·rename_i d ds c J
   simp only[aH]at hi
   subst hi
   have e:=a7.tb.hz _ _ _ c _ _ _ _ _ (a8.take sz h)
   obtain⟨g,i⟩:=Xt a7 n (a8.drop sz h) (by rw[ks,b,jP];omega) J
   exact⟨⟨vs.take sz,vs.drop sz,(jv sz vs).symm,e,g⟩,by simp[i]⟩
  ·cases hi
theorem amk{F:Nat->Prop}{t:Nat}{l:List (E.T.El t)}{A:Option Addr}{c:Nat}(h:(b5 (E.T.ty t)).rd F w [.slice A l.length c] l):∃news,Fl w (E.T.ty t).size l.length A news/\dM (E.T.ty t) F w news l:=by
 obtain⟨cn,m,d,ao,aT,bQ,dw⟩:=h;simp only[h3,Value.slice.injEq,and_true,true_and]at d;obtain⟨rfl,rfl⟩:=d;by_cases e:l=[]
 ·subst e
  exact⟨[],.inl ⟨rfl,rfl⟩,rfl⟩
 ·obtain⟨g,o,xs,b,i⟩:=dw e
  exact⟨xs,.inr ⟨_,g,xK _ b,λ j u k=>by rw[lm];exact i j u k,G8 _ b⟩,b⟩
theorem aaH{t sz n c:Nat}{A:Option Addr}{xs:List Value}(h:rowIs w t sz (.slice A n c) n xs)(b:∀u∈xs,u.oneCell'=true):Fl w sz n A xs:=by
 rcases lS n with aE |aE
 ·subst aE
  exact .inl ⟨rfl,hL (by rw[h.len];simp)⟩
 ·obtain⟨g,rfl,_,hc,_⟩:=u4 aE h
  exact .inr ⟨_,rfl,h.len,λ j u d=>by rw[lm];exact hc j u d,b⟩
theorem amj(a7:di E)(x:Mem E.T W M0 X bl ρ w){t:Nat}{y:aI E.T.El}{l:List (E.T.El t)}{v:Value}(h:Lz E bl t y=some l)(b:aw E.T (bk X bl ρ w) w ρ bl y v) :
 ∃A c news,v= .slice A l.length c/\Fl w (E.T.ty t).size l.length A news/\dM (E.T.ty t) (bk X bl ρ w) w news l:=by
 unfold Lz at h
 split at h
 ·obtain⟨rfl,rfl⟩:=Fu h
  simp only[aw]at b
  obtain⟨A,c,rfl⟩:=mz _ b
  obtain⟨news,z,J⟩:=amk b
  exact⟨A,c,news,rfl,z,J⟩
 ·obtain⟨rfl,rfl⟩:=Fu h
  simp only[aw]at b
  obtain⟨A,c,rfl⟩:=mz _ b.1
  obtain⟨news,z,J⟩:=amk b.1
  exact⟨A,c,news,rfl,z,J⟩
 ·simp only[aH]at h
  subst h
  simp only[aw]at b
  exact⟨none,0,[],b,.inl ⟨rfl,rfl⟩,rfl⟩
 ·simp only[aH]at h
  subst h
  simp only[aw]at b
  exact⟨_,_,[],b,.inl ⟨rfl,rfl⟩,rfl⟩
 ·rename_i j g
  split at h
  ·rename_i t' D k l' hi
   rw[dh]at hi
   split at h
   ·rename_i ag
    obtain⟨rfl,rfl⟩:=Fu h
    simp only[aw]at b
    obtain⟨_,aL,p,F,e⟩:=b
    rw[hi]at e
    obtain⟨A,c,xs,i,ao,aT⟩:=x.ok j _ _ hi p
    rw[e (bd ag),i]
    exact⟨A,c,xs,rfl,aaH (i▸ao) (G8 _ aT),aT⟩
   ·cases h
  ·rename_i t' sz D cs hi
   rw[dh]at hi
   split at h
   ·rename_i ag
    simp only[cb]at ag
    simp only[aw]at b
    obtain⟨_,aL,p,F,e⟩:=b
    rw[hi]at e
    obtain⟨A,m,c,xs,i,ao,aT⟩:=x.ok j _ _ hi p
    have I:=cS ag.2
    have d:=aT.len
    have J:=ao.len
    have K:cs.length / sz=m:=by rw[<-d,J];exact Nat.mul_div_cancel _ I
    rw[K]at h
    obtain⟨G,L⟩:=Xt a7 m aT J h
    rw[e (bd ag.1.1),i,L]
    have:=aaH (i▸ao) (G8 _ G)
    rw[bd ag.1.2]at this
    exact⟨A,c,xs,rfl,this,G⟩
   ·cases h
  ·cases h
 ·rename_i j g lo o
  split at h
  ·rename_i t' D k l' hi
   rw[dh]at hi
   split at h
   ·rename_i ag
    obtain⟨rfl,rfl⟩:=Fu h
    simp only[aw]at b
    obtain⟨_,aL,p,F,e⟩:=b
    rw[hi]at e
    obtain⟨cn,e9,Q,B,C,l0,l1,R,M,S,N⟩:=e (bd ag)
    obtain⟨A,c,xs,i,ao,aT⟩:=x.ok j _ _ hi p
    rw[i]at C ao
    simp only[Value.slice.injEq]at C
    obtain⟨rfl,rfl,rfl⟩:=C
    have d:((l'.take o.toNat).drop lo.toNat).length=o.toNat-lo.toNat:=by rw[ks,fZ];omega
    refine⟨B,c-lo.toNat,(xs.take (o.toNat*(E.T.ty t').size)).drop (lo.toNat*(E.T.ty t').size),by rw[d];exact M,?_,u2 _ _ aT⟩
    have r:=u2 lo.toNat o.toNat aT
    rcases Int.lt_or_le lo o with O |Ol
    ·right
     obtain⟨gb,rfl⟩:=Hb ao (by omega)
     obtain⟨U,P,_,hc,_⟩:=u4 (by omega) ao
     cases P
     refine⟨⟨gb,lo.toNat*(E.T.ty t').size,none⟩,by rw[N O];simp[lm,jy],xK _ r,λ q u s=>?_,G8 _ r⟩
     rw[i_,hG]at s
     split at s
     ·rw[lm]
      have:=hc _ u s
      simpa using this
     ·cases s
    ·left
     have:o.toNat-lo.toNat=0:=by omega
     have H:((l'.take o.toNat).drop lo.toNat)=[]:=hL (by rw[d];exact this)
     refine⟨by rw[H];rfl,?_⟩
     rw[H]at r
     exact r
   ·cases h
  ·cases h
 ·cases h
end
end bc
namespace bc
open Go Go.RowKit ay I
def QU(E:Env)(bl:List (aF E.T.El))(t:Nat):aI E.T.El->Option (Option (Nat×Nat)×List (E.T.El t))
 | .p (.slice none 0 0)=>some (none,[])
 | .q _ []=>some (none,[])
 | .r i g=>match nth bl i with
   |some (.r t' a _ l)=>match cy g a,y2 t' t l with
    |true,some l'=>some (some (i,g),l')
    |_,_=>none
   |_=>none
 | .v i g (.ofNat 0) hi=>match nth bl i with
   |some (.r t' a _ l)=>match cy g a,y2 t' t (l.take hi.toNat)with
    |true,some l'=>some (some (i,g),l')
    |_,_=>none
   |_=>none
 |_=>none
def AM(E:Env)(bl:List (aF E.T.El))(e sz:Nat):aI E.T.El->Option (Option (Nat×Nat)×List (aI E.T.El))
 | .p (.slice none 0 0)=>some (none,[])
 | .q _ []=>some (none,[])
 | .r i g=>match nth bl i with
   |some (.k t' a b cs)=>match cy g b&&cy t' e&&cy a sz with
    |true=>some (some (i,g),cs)
    |false=>none
   |_=>none
 |_=>none
def Um(E:Env)(bl:List (aF E.T.El))(t:Nat)(u v:aI E.T.El):D (eC E.T.El):=match tU E.P t with
 |some (e,sz,b3)=>match cy sz (E.T.ty e).size,QU E bl e u,Lz E bl e v with
  |true,some (none,_),some m=>.op (bI b3 [] m) λ l=>.ok ⟨some (.r bl.length 0),bl++[.r e 0 0 l],[]⟩
  |true,some (some (i,g),b),some m=>.op (bI b3 b m) λ l=>.ok ⟨some (.r i (g+1)),bl.set i (.r e (g+1) 0 l),[i]⟩
  |_,_,_=>match AM E bl e sz u,(match AM E bl e sz v with
   |some (_,m)=>match xF m with
    |true=>some m
    |false=>none
   |none=>none)with
    |some (none,_),some m=>.op (bI b3 [] (fV (m.length / sz) ())) λ _=>.ok ⟨some (.r bl.length 0),bl++[.k e sz 0 m],[]⟩
    |some (some (i,g),b),some m=>.op (bI b3 (fV (b.length / sz) ()) (fV (m.length / sz) ())) λ _=>.ok ⟨some (.r i (g+1)),bl.set i (.k e sz (g+1) (b++m)),[i]⟩
    |_,_=>.no
 |none=>.no
section
variable{E:Env}{W w w':World}{M0:List Nat}{X:Nat->Prop}{n:cE}{f:cC E.T.El}{bl:List (aF E.T.El)}{ρ:List Value}{a:Act}{cur:List (Nat×Bool)}
def Tq(w:World)(bl:List (aF E.T.El))(ρ:List Value)(e sz n:Nat)(v:Value)(xs:List Value):Option (Nat×Nat)->Prop
 |none=>∃A,v= .slice A 0 0/\n=0/\xs=[]
 |some (i,g)=>∃A c h B,v= .slice A n c/\rowIs w e sz v n xs/\bl[i]? =some B/\ρ[i]? =some h/\bE B h=bc.ag v/\kZ h/\b4 (some B)=g
theorem amu(s:Mem E.T W M0 X bl ρ w){e:Nat}{u:aI E.T.El}{v:Value}{p:Option (Nat×Nat)}{l:List (E.T.El e)}(h:QU E bl e u=some (p,l))(b:aw E.T (bk X bl ρ w) w ρ bl u v) :
 ∃xs,Tq (E:=E) w bl ρ e (E.T.ty e).size l.length v xs p/\dM (E.T.ty e) (bk X bl ρ w) w xs l:=by
 unfold QU at h
 split at h
 ·simp only[aH,cF]at h
  obtain⟨rfl,rfl⟩:=h
  simp only[aw]at b
  exact⟨[],⟨none,b,rfl,rfl⟩,rfl⟩
 ·simp only[aH,cF]at h
  obtain⟨rfl,rfl⟩:=h
  simp only[aw]at b
  obtain⟨A,x⟩:=b.2
  exact⟨[],⟨A,x,rfl,rfl⟩,rfl⟩
 ·rename_i i g
  split at h
  ·rename_i t' y k l' hi
   rw[dh]at hi
   split at h
   ·rename_i t ag hc
    simp only[aH,cF]at h
    obtain⟨rfl,rfl⟩:=h
    obtain⟨rfl,rfl⟩:=Fu hc
    have ag:=bd ag
    simp only[aw]at b
    obtain⟨_,aL,o,z,q⟩:=b
    rw[hi]at q
    have C:=q ag
    obtain⟨A,c,xs,j,ao,aT⟩:=s.ok i _ _ hi o
    rw[C]
    exact⟨xs,⟨A,c,aL,_,j,ao,hi,o,rfl,by rw[j];trivial,ag.symm⟩,aT⟩
   ·cases h
  ·cases h
 ·rename_i i g m
  split at h
  ·rename_i t' y k l' hi
   rw[dh]at hi
   split at h
   ·rename_i t ag hc
    simp only[aH,cF]at h
    obtain⟨rfl,rfl⟩:=h
    obtain⟨rfl,rfl⟩:=Fu hc
    have ag:=bd ag
    simp only[aw]at b
    obtain⟨_,aL,o,z,q⟩:=b
    rw[hi]at q
    obtain⟨cn,e9,H,B,r,l0,l1,t,D,F,_⟩:=q ag
    obtain⟨A,c,xs,j,ao,aT⟩:=s.ok i _ _ hi o
    rw[j]at r ao
    simp only[Value.slice.injEq]at r
    obtain⟨rfl,rfl,rfl⟩:=r
    have G:=F rfl
    subst G
    have d:(l'.take m.toNat).length=m.toNat:=by rw[fZ];omega
    have bQ:=ao.short (k:=m.toNat) (by omega)
    have dw:v= .slice B m.toNat c:=by rw[D];simp
    rw[dw]
    refine⟨xs.take (m.toNat*(E.T.ty t').size),⟨B,c,aL,_,by rw[d],by rw[d];exact bQ,hi,o,by rw[j];cases B<;>cases c<;>rfl,by rw[j];trivial,ag.symm⟩,?_⟩
    have:=u2 0 m.toNat aT
    simpa using this
   ·cases h
  ·cases h
 ·cases h
theorem aa8(q:Mem E.T W M0 X bl ρ w){e sz:Nat}{u:aI E.T.El}{v:Value}{p:Option (Nat×Nat)}{cs:List (aI E.T.El)}(r:0<sz)(h:AM E bl e sz u=some (p,cs))(b:aw E.T (bk X bl ρ w) w ρ bl u v) :
 ∃xs,Tq (E:=E) w bl ρ e sz (cs.length / sz) v xs p/\a8 E.T (bk X bl ρ w) w ρ bl cs xs:=by
 unfold AM at h
 split at h
 ·simp only[aH,cF]at h
  obtain⟨rfl,rfl⟩:=h
  simp only[aw]at b
  exact⟨[],⟨none,b,by simp,rfl⟩,by simp[a8]⟩
 ·simp only[aH,cF]at h
  obtain⟨rfl,rfl⟩:=h
  simp only[aw]at b
  obtain⟨A,s⟩:=b.2
  exact⟨[],⟨A,s,by simp,rfl⟩,by simp[a8]⟩
 ·rename_i i g
  split at h
  ·rename_i t' t C x hi
   rw[dh]at hi
   split at h
   ·rename_i ag
    simp only[cb]at ag
    simp only[aH,cF]at h
    obtain⟨rfl,rfl⟩:=h
    have j:=bd ag.1.1
    have y:=bd ag.1.2
    have z:=bd ag.2
    subst y;subst z
    simp only[aw]at b
    obtain⟨_,aL,k,D,l⟩:=b
    rw[hi]at l
    have B:=l j
    obtain⟨A,m,c,xs,o,ao,aT⟩:=q.ok i _ _ hi k
    have d:=aT.len
    have J:=ao.len
    have sp:x.length / t=m:=by rw[<-d,J];exact Nat.mul_div_cancel _ r
    rw[B,sp]
    exact⟨xs,⟨A,c,aL,_,o,ao,hi,k,rfl,by rw[o];trivial,j.symm⟩,aT⟩
   ·cases h
  ·cases h
 ·cases h
theorem ad0(r:Mem E.T W M0 X bl ρ w){o:Oper}{t e sz b3:Nat}{x y:Operand}{p:Option (Nat×Nat)}{n m:Nat}{xs news:List Value}{v:Option Addr}{c2:Nat}(B':Nat->aF E.T.El)(Y:tU E.P t=some (e,sz,b3))(Z:o.op= .call { callee:=.builtin .append,args:=#[x,y],argTypes:=#[t,t] })
 (H:Tq (E:=E) w bl ρ e sz n (a.eval x) xs p)(hy:a.eval y= .slice v m c2)(aj:Fl w sz m v news)(ag:(n+m)*b3<=140737488355328)
 (C:∀g,b4 (some (B' g))=g)(I:∀g h,bE (B' g) h=bc.ag h)
 (K:∀(bl':List (aF E.T.El))(ρ':List Value)(w':World)(g:Nat)(cn:Option Addr)(b:Nat),To X bl bl' ρ ρ' w w'->rowIs w' e sz (.slice cn (n+m) b) (n+m) (xs++news)->jj E.T (bk X bl' ρ' w') w' ρ' bl' (B' g) (.slice cn (n+m) b)) :
 hd E o a W M0 X bl ρ w (match p with
  |none=>⟨some (.r bl.length 0),bl++[B' 0],[]⟩
  |some (i,g)=>⟨some (.r i (g+1)),bl.set i (B' (g+1)),[i]⟩):=by
 obtain⟨L,i0,z,hi,M,N,J,O,P,cZ⟩:=y8 Y
 have Q:n+m<=maxLen:=by
  have eS:=mC (n+m) cZ;simp only[maxLen];omega
 have R:∀ {A:Option Addr}{c:Nat}{fl:Value}{w':World},a.eval x= .slice A n c->(Builtin.append_ #[t,t] o.type #[.slice A n c,.slice v m c2]).run E.P w= .ok fl w'->bh E.P o a w fl w':=λ{A c fl w'} l gA=>by
  simp only[bh,execOp,Z,resolve,invoke,builtin,Sem.run_bind,Sem.run_pure,Result.andThen_ok,hK,eB,iD,l,hy,gA]
 cases p with
 |none=>
  obtain⟨A,l,rfl,rfl⟩:=H
  obtain⟨cn,b,w',D,F,d,s⟩:=adZ (w:=w) (ty:=o.type) L hi M N J O P (show rowIs w e sz (.slice A 0 0) 0 [] from .inr ⟨rfl,rfl,A,rfl⟩) aj Q ag
  have qK:bc.ag (.slice A 0 0)=[]:=by cases A<;>rfl
  rw[qK]at d s
  have ad:∀k∈bE (B' 0) (.slice cn (0+m) b),w.heap.size<=k/\k<w'.heap.size:=λ k j=>by
   rw[I]at j;rcases s k j with e |e
   ·simp at e
   ·exact e
  have q:=r.AN (B:=B' 0) (h:=.slice cn (0+m) b) d ad
  refine⟨w',ρ++[.slice cn (0+m) b],r.push d ad (K _ _ _ _ _ _ q F),q,λ k j _=>d.block k j (by simp),_,R l D,?_⟩
  simp only[aw]
  refine⟨trivial,.slice cn (0+m) b,by rw[<-r.len];simp,gT _,λ _=>rfl⟩
 |some G=>
  obtain⟨i,g⟩:=G
  obtain⟨A,c,h,B,l,S,u,kT,U,W1,V⟩:=H
  rw[l]at S U
  obtain⟨cn,b,w',D,F,d,s⟩:=adZ (w:=w) (ty:=o.type) L hi M N J O P S aj Q ag
  rw[<-U]at d s
  have ad:∀k∈bE (B' (g+1)) (.slice cn (n+m) b),k∈bE B h\/(w.heap.size<=k/\k<w'.heap.size):=λ k j=>s k (by rw[I]at j;exact j)
  have q:=r.D9 (B':=B' (g+1)) (h':=.slice cn (n+m) b) u kT d ad ⟨λ aB=>absurd W1 aB,by rw[C,V];omega,λ e=>by rw[C,V]at e;omega⟩
  refine⟨w',ρ.set i (.slice cn (n+m) b),r.dC u kT d ad q (K _ _ _ _ _ _ q F),q,λ k j c7=>d.block k j (c7 i (by simp) B h u kT),_,R l D,?_⟩
  simp only[aw]
  have l1:=(aP.1 u).1
  have cx:=(aP.1 kT).1
  refine⟨trivial,_,gv cx,?_,λ _=>rfl⟩
  rw[gv l1,C]
  exact cT _
theorem axa(a7:di E)(z:Mem E.T W M0 X bl ρ w){o:Oper}{t:Nat}{x y:Operand}{u v:aI E.T.El}{r:eC E.T.El}(h:(Um E bl t u v).out r)(V:o.op= .call { callee:=.builtin .append,args:=#[x,y],argTypes:=#[t,t] })
 (H:aw E.T (bk X bl ρ w) w ρ bl u (a.eval x))(hy:aw E.T (bk X bl ρ w) w ρ bl v (a.eval y)):hd E o a W M0 X bl ρ w r:=by
 unfold Um at h
 split at h
 ·rename_i e sz b3 N
  obtain⟨_,_,_,_,_,_,_,_,O,_⟩:=y8 N
  have C:∀ {p:Option (Nat×Nat)}{b m l:List (E.T.El e)},cy sz (E.T.ty e).size=true->QU E bl e u=some (p,b)->Lz E bl e v=some m->bI b3 b m=some l->hd E o a W M0 X bl ρ w (match p with
   |none=>⟨some (.r bl.length 0),bl++[.r e 0 0 l],[]⟩
   |some (i,g)=>⟨some (.r i (g+1)),bl.set i (.r e (g+1) 0 l),[i]⟩):=λ{p b m l} j J k s=>by
   have j:=bd j
   subst j
   obtain⟨ag,rfl⟩:=MX s
   obtain⟨xs,P,Q⟩:=amu z J H
   obtain⟨I,c2,news,K,L,fR⟩:=amj a7 z k hy
   have:=ad0 (B':=λ g=>aF.r e g 0 (b++m)) z N V P K L ag (λ _=>rfl) (λ _ _=>rfl) (λ bl' ρ' w' g cn R D S=>⟨cn,R,xs++news,by rw[dR],by rw[dR];exact S,K3 _ (oO _ D.F fR) (oO _ D.F Q)⟩)
   cases p<;>exact this
  have F:∀ {p q:Option (Nat×Nat)}{b m:List (aI E.T.El)}{l:List Unit},AM E bl e sz u=some (p,b)->AM E bl e sz v=some (q,m)->xF m=true->bI b3 (fV (b.length / sz) ()) (fV (m.length / sz) ())=some l->hd E o a W M0 X bl ρ w (match p with
   |none=>⟨some (.r bl.length 0),bl++[.k e sz 0 (b++m)],[]⟩
   |some (i,g)=>⟨some (.r i (g+1)),bl.set i (.k e sz (g+1) (b++m)),[i]⟩):=λ{p q b m l} j J Y k=>by
   obtain⟨ag,_⟩:=MX k
   simp only[kf]at ag
   obtain⟨xs,P,Q⟩:=aa8 z O j H
   obtain⟨ys,K,L⟩:=aa8 z O J hy
   have Z:∃I c2,a.eval y= .slice I (m.length / sz) c2/\Fl w sz (m.length / sz) I ys:=by
    cases q with
    |none=>
     obtain⟨A,M,ao,rfl⟩:=K
     rw[ao]
     exact⟨A,0,M,.inl ⟨rfl,rfl⟩⟩
    |some aim=>
     obtain⟨A,c,h,B,M,ao,_⟩:=K
     rw[M]at ao
     exact⟨A,c,M,aaH ao (λ u hu=>k_.1 (KK Y L) u hu)⟩
   obtain⟨I,c2,s1,s2⟩:=Z
   have:=ad0 (B':=λ g=>aF.k e sz g (b++m)) z N V P s1 s2 ag (λ _=>rfl) (λ _ _=>rfl) (λ bl' ρ' w' g cn R D S=>⟨cn,_,R,xs++ys,rfl,S,a8.bI (D.vs Q) (D.vs L)⟩)
   cases p<;>exact this
  split at h
  ·rename_i b m j J k
   obtain⟨l,s,d⟩:=h
   have d:(⟨some (.r bl.length 0),bl++[.r e 0 0 l],[]⟩:eC E.T.El)=r:=d
   subst d
   have U:b=[]:=by
    obtain⟨xs,⟨A,_,ao,_⟩,_⟩:=amu z J H;exact hL ao
   subst U
   exact C (p:=none) j J k s
  ·rename_i i g b m j J k
   obtain⟨l,s,d⟩:=h
   have d:(⟨some (.r i (g+1)),bl.set i (.r e (g+1) 0 l),[i]⟩:eC E.T.El)=r:=d
   subst d
   exact C j J k s
  ·have G:∀ {m:List (aI E.T.El)},(match AM E bl e sz v with
    |some (_,m)=>match xF m with
     |true=>some m
     |false=>none
    |none=>none)=some m-> ∃q,AM E bl e sz v=some (q,m)/\xF m=true:=λ{m} h=>by
    split at h
    ·rename_i q e9 aN
     split at h
     ·rename_i j1
      simp only[aH]at h
      subst h
      exact⟨q,aN,j1⟩
     ·cases h
    ·cases h
   split at h
   ·rename_i b m j J
    obtain⟨q,J,k⟩:=G J
    obtain⟨l,s,d⟩:=h
    have d:(⟨some (.r bl.length 0),bl++[.k e sz 0 m],[]⟩:eC E.T.El)=r:=d
    subst d
    have U:b=[]:=by
     obtain⟨xs,⟨A,_,ao,aT⟩,bQ⟩:=aa8 z O j H;subst aT;exact hL bQ.len.symm
    subst U
    exact F (p:=none) (b:=[]) j J k (by simpa using s)
   ·rename_i i g b m j J
    obtain⟨q,J,k⟩:=G J
    obtain⟨l,s,d⟩:=h
    have d:(⟨some (.r i (g+1)),bl.set i (.k e sz (g+1) (b++m)),[i]⟩:eC E.T.El)=r:=d
    subst d
    exact F j J k s
   ·exact h.elim
 ·exact h.elim
end
end bc
namespace bc
open Go Go.RowKit ay I
def lU{α:Type}(z:List α):Nat->List α
 |0=>[]
 |n+1=>z++lU z n
theorem SB{α:Type}(z:List α):∀n,(lU z n).length=n*z.length
 |0=>by simp[lU]
 |n+1=>by simp only[lU,dR,SB z n,jP];omega
theorem apT{α:Type}{z:List α}:∀ {n i:Nat},i<n*z.length->(lU z n)[i]? =z[i%z.length]?
 |0,i,h=>by simp at h
 |n+1,i,h=>by
  simp only[lU];rcases gL i z.length with c |c
  ·rw[eA c,Nat.mod_eq_of_lt c]
  ·rw[fq c,apT (by rw[jP]at h;omega),Nat.mod_eq_sub_mod c]
theorem apS(a:Array Value)(n:Nat)(h:0<a.size):((Array.range (n*a.size)).map (a[·%a.size]!))=⟨lU a.toList n⟩:=by
 rw[<-Array.toList_inj];apply lu;intro i;rcases gL i (n*a.size)with c |c
 ·simp only
  rw[apT (by simpa using c)]
  have b:i%a.size<a.size:=Nat.mod_lt _ h
  simp[c,b]
 ·rw[gE (by simpa using c),gE (by rw[SB];simpa using c)]
theorem apU{El:Nat->Type}(z:List Value):∀n,(lU z n).map (aI.p (El:=El))=lU (z.map .p) n
 |0=>rfl
 |n+1=>by simp[lU,apU z n]
def agj(E:Env)(bl:List (aF E.T.El))(t n:Nat)(ps:List (Nat×aI E.T.El)):Option (eC E.T.El):=match tU E.P t,n,ps with
 |some (e,sz,_),0,[]=>match cy sz (E.T.ty e).size with
  |true=>some ⟨some (.r bl.length 0),bl++[.r e 0 0 []],[]⟩
  |false=>some ⟨some (.r bl.length 0),bl++[.k e sz 0 []],[]⟩
 |_,_,_=>none
def Uw(E:Env)(bl:List (aF E.T.El))(t n:Nat)(ps:List (Nat×aI E.T.El)):D (eC E.T.El):=match tU E.P t with
 |some (e,sz,_)=>match EZ E.P e,jF n 100000&&fs 0 n&&jF (n*sz) 16777216 with
  |some z,true=>match wb (λ i=>some (i*sz,sz)) (lU (z.map .p) n) ps with
   |some cs=>match oh bl cs with
    |(bl',a)=>match cy sz (E.T.ty e).size,Gn (E.T.e e) (Fx sz n a)with
     |true,some l=>.ok ⟨some (.r bl'.length 0),bl'++[.r e 0 0 l],[]⟩
     |_,_=>.ok ⟨some (.r bl.length 0),bl++[.k e sz 0 cs],[]⟩
   |none=>.no
  |_,_=>.no
 |none=>.no
def Uv(E:Env)(bl:List (aF E.T.El))(t n:Nat)(ps:List (Nat×aI E.T.El)):D (eC E.T.El):=match agj E bl t n ps with
 |some r=>.ok r
 |none=>Uw E bl t n ps
def aaL:Operand->Operand->Bool
 | .tmp a,.tmp b=>cy a b
 | .const (.int .i64 m),.const (.int .i64 n)=>decide (m=n)
 |_,_=>false
theorem aIR{a:Act}{x y:Operand}(h:aaL x y=true):a.eval x=a.eval y:=by
 unfold aaL at h;split at h
 ·rw[bd h]
 ·rw[of_decide_eq_true h]
 ·cases h
def UA(E:Env)(bl:List (aF E.T.El))(t:Nat)(x y:Operand)(u:aI E.T.El):D (eC E.T.El):=match tU E.P t,u with
 |some (e,sz,b3),.p (.int .i64 k)=>match cy sz (E.T.ty e).size,yj E e e,aaL x y with
  |true,some z0,true=>.op (zU z0 b3 k) λ l=>.ok ⟨some (.r bl.length 0),bl++[.r e 0 0 l],[]⟩
  |_,_,_=>.no
 |_,_=>.no
section
variable{E:Env}{W w w':World}{M0:List Nat}{X:Nat->Prop}{n:cE}{f:cC E.T.El}{bl:List (aF E.T.El)}{ρ:List Value}{a:Act}{cur:List (Nat×Bool)}
theorem KE(c:Mem E.T W M0 X bl ρ w){o:Oper}{e sz n:Nat}{vs:List Value}{B:aF E.T.El}(r:b4 (some B)=0)(j:∀h,bE B h=bc.ag h)(d:vs.length=n*sz)(l:n<=maxLen)
 (m:∀(bl':List (aF E.T.El))(ρ':List Value)(w':World),To X bl bl' ρ ρ' w w'->rowIs w' e sz (.slice (some ⟨w.heap.size,0,none⟩) n n) n vs->jj E.T (bk X bl' ρ' w') w' ρ' bl' B (.slice (some ⟨w.heap.size,0,none⟩) n n))
 (hy:bh E.P o a w (.slice (some ⟨w.heap.size,0,none⟩) n n) (w.alloc (.cells ⟨vs⟩ e))):hd E o a W M0 X bl ρ w ⟨some (.r bl.length 0),bl++[B],[]⟩:=by
 have g:br [] w (w.alloc (.cells ⟨vs⟩ e)):=br.alloc _ _ _
 have p:rowIs (w.alloc (.cells ⟨vs⟩ e)) e sz (.slice (some ⟨w.heap.size,0,none⟩) n n) n vs:=
  .inl ⟨d,.inr ⟨w.heap.size,n,⟨vs⟩,rfl,gT _,heap_alloc_new w _,cT _,l,by simpa using d,by rw[<-d,jI]⟩⟩
 have ad:∀k∈bE B (.slice (some ⟨w.heap.size,0,none⟩) n n),w.heap.size<=k/\k<(w.alloc (.cells ⟨vs⟩ e)).heap.size:=λ k b=>by
  rw[j]at b;have:k=w.heap.size:=by
   cases n with
   |zero=>simp[bc.ag]at b
   |succ q=>simpa[bc.ag]using b
  subst this;simp
 have i:=c.AN (B:=B) (h:=.slice (some ⟨w.heap.size,0,none⟩) n n) g ad
 refine⟨_,ρ++[.slice (some ⟨w.heap.size,0,none⟩) n n],c.push g ad (m _ _ _ i p),i,λ k b _=>g.block k b (by simp),_,hy,?_⟩
 simp only[aw]
 exact⟨trivial,.slice (some ⟨w.heap.size,0,none⟩) n n,by rw[<-c.len];simp,gT _,λ _=>rfl⟩
theorem axj(a7:di E)(D:Mem E.T W M0 X bl ρ w){o:Oper}{t n:Nat}{xs:List (Nat×Operand)}{ps:List (Nat×aI E.T.El)}{r:eC E.T.El}(h:(Uw E bl t n ps).out r)(M:o.op= .buildSlice t n xs.toArray)
 (N:rU E.T (bk X bl ρ w) w ρ bl ps (xs.map λ p=>(p.1,a.eval p.2))):hd E o a W M0 X bl ρ w r:=by
 unfold Uw at h
 split at h
 ·rename_i e sz b3 O
  obtain⟨P,i0,Q,hi,oA,R,J,m,S,cZ⟩:=y8 O
  split at h
  ·rename_i z U ag
   simp only[cb]at ag
   have Jq:=cS ag.1.1
   have FW:=cS ag.1.2
   have Ob:=cS ag.2
   obtain⟨g,F,s⟩:=Mt U
   have V:g=Q:=by
    have j:=F w;simp only[zeroValue,typeInfo,Sem.run_bind]at j;simp[go_sem,hi,oA]at j;exact j.symm
   subst V
   have u:z.length=sz:=by rw[<-m,s];simp
   split at h
   ·rename_i cs ad
    obtain⟨os,Y,v⟩:=UK (s0 (lU z n)) N (by rw[apU];exact ad)
    have x:os.length=n*sz:=by
     have j:=v.len;have key:∀ {ps:List (Nat×aI E.T.El)}{c d:List (aI E.T.El)},wb (λ i=>some (i*sz,sz)) c ps=some d->d.length=c.length:=by
      intro ps;induction ps with
      |nil=>intro c d b;simp only[wb,aH]at b;rw[b]
      |cons p r Z=>
       intro c d b
       obtain⟨i,y⟩:=p
       simp only[wb]at b
       split at b
       ·rename_i G
        simp only[cb]at G
        rw[Z b,X4 (cS G.2)]
       ·cases b
     rw[j,key ad,SB,gC,u]
    have k:=apS g.cells n (by rw[m];exact S)
    rw[m,s]at k
    have H:bh E.P o a w (.slice (some ⟨w.heap.size,0,none⟩) n n) (w.alloc (.cells ⟨os⟩ e)):=by
     have bq: ¬(n*sz>2^24):=by omega
     have bA:n*sz≠0:=by
      intro b;rcases Nat.mul_eq_zero.1 b with q |q<;>omega
     simp only[bh,execOp,M,Instr.buildSlice,Sem.run_bind,Sem.run_pure,run_sizeOf hi,R,F,Result.andThen_ok,run_underlying P,hK,if_neg bq,if_neg bA];have I:g.cells.size=sz:=m;rw[s]at I;simp only[s];rw[I,k,Y];rfl
    have K:n<=maxLen:=by simp only[maxLen];omega
    split at h
    rename_i bl' kq qN
    obtain⟨m1,t1,v1⟩:=NQ D qN v
    split at h
    ·rename_i l A al
     have h:(⟨some (.r bl'.length 0),bl'++[.r e 0 0 l],[]⟩:eC E.T.El)=r:=h
     subst h
     have A:=bd A
     obtain⟨b_,L⟩:=Xt a7 n v1 x al
     refine hd.first t1 (λ i hi=>by simp at hi) (KE (e:=e) (sz:=sz) (n:=n) (vs:=os) m1 rfl (λ _=>rfl) x K (λ yY lV c0 B C=>?_) H)
     subst A
     exact⟨_,_,os,by rw[L],by rw[L];exact C,oO _ B.F b_⟩
    ·have h:(⟨some (.r bl.length 0),bl++[.k e sz 0 cs],[]⟩:eC E.T.El)=r:=h
     subst h
     exact KE (e:=e) (sz:=sz) (n:=n) (vs:=os) D rfl (λ _=>rfl) x K (λ yY lV c0 B C=>⟨_,_,_,os,rfl,C,B.vs v⟩) H
   ·exact h.elim
  ·exact h.elim
 ·exact h.elim
theorem axk(a7:di E)(c:Mem E.T W M0 X bl ρ w){o:Oper}{t n:Nat}{xs:List (Nat×Operand)}{ps:List (Nat×aI E.T.El)}{r:eC E.T.El}(h:(Uv E bl t n ps).out r)(g:o.op= .buildSlice t n xs.toArray)
 (i:rU E.T (bk X bl ρ w) w ρ bl ps (xs.map λ p=>(p.1,a.eval p.2))):hd E o a W M0 X bl ρ w r:=by
 unfold Uv at h
 split at h
 ·rename_i j b
  have h:j=r:=h
  subst h
  unfold agj at b
  split at b
  ·rename_i e sz b3 k
   obtain⟨l,m,z,hi,oA,A,J,B,C,D⟩:=y8 k
   have s:xs=[]:=by
    cases xs with
    |nil=>rfl
    |cons p q=>simp[rU]at i
   subst s
   have hy:bh E.P o a w _ _:=aNm (sz:=m.size) l (λ w=>run_sizeOf hi w) g
   split at b
   ·rename_i ag
    simp only[aH]at b
    subst b
    exact KE (e:=e) (sz:=sz) (n:=0) (vs:=[]) c rfl (λ _=>rfl) (by simp) (gT _) (λ u v x y d=>⟨_,_,[],rfl,by rw[<-bd ag];exact d,rfl⟩) hy
   ·simp only[aH]at b
    subst b
    exact KE (e:=e) (sz:=sz) (n:=0) (vs:=[]) c rfl (λ _=>rfl) (by simp) (gT _) (λ u v x y d=>⟨_,_,_,[],rfl,d,rfl⟩) hy
  ·cases b
 ·exact axj a7 c h g i
theorem als{α:Type}{T:dj α}{F:Nat->Prop}{w:World}{z:List Value}{z0:α}(h:T.rd F w z z0):∀n,dM T F w (lU z n) (fV n z0)
 |0=>rfl
 |n+1=>⟨z,lU z n,rfl,h,als h n⟩
theorem axp(a7:di E)(A:Mem E.T W M0 X bl ρ w){o:Oper}{t:Nat}{x y:Operand}{u:aI E.T.El}{r:eC E.T.El}(h:(UA E bl t x y u).out r)(B:o.op= .makeSlice t x y)(g:aw E.T (bk X bl ρ w) w ρ bl u (a.eval x)):hd E o a W M0 X bl ρ w r:=by
 unfold UA at h;split at h
 ·rename_i e sz b3 k C
  obtain⟨D,v,b,hi,oA,F,J,d,G,H⟩:=y8 C
  split at h
  ·rename_i z0 i c aj
   obtain⟨l,I,j⟩:=h
   have j:(⟨some (.r bl.length 0),bl++[.r e 0 0 l],[]⟩:eC E.T.El)=r:=j
   subst j
   have i:=bd i
   obtain⟨K,Y,rfl⟩:=aEf I
   obtain⟨m,rfl⟩:=lR K
   simp only[bV]at *
   have L:m<=b3*m:=Nat.le_mul_of_pos_left m H
   have z:m<=maxLen:=by simp only[maxLen];omega
   simp only[aw]at g
   have hy:a.eval y= .int .i64 (m:Int):=by rw[<-aIR aj,g]
   have M:(E.T.ty e).rd (bk X bl ρ w) w b.cells.toList z0:=by
    unfold yj at c;split at c
    ·rename_i N p
     split at c
     ·have O:N=b:=by
       simp only[H4,hi]at p;rw[oA]at p;exact(eJ p).symm
      subst O;exact a7.tb.hz _ _ _ c _ _ ρ bl _ (s0 _)
     ·cases c
    ·cases c
   have Q:(v.bytes:Int)*(m:Int)<=281474976710656:=by
    rw[J];have R:((b3*m:Nat):Int)<=281474976710656:=by omega
    rwa [Int.natCast_mul]at R
   have q:=run_make (P:=E.P) w t e v b D hi oA .i64 .i64 (m:Int) (m:Int) (by omega) (lI _) Q (by simp only[maxLen]at z;omega)
   simp only[bV]at q
   have s:madeCells b.cells (m*sz)=⟨lU b.cells.toList m⟩:=by
    have:=apS b.cells m (by rw[d];exact G);rw[d]at this;simp only[madeCells,d];exact this
   rw[F,s]at q
   have S:bh E.P o a w (.slice (some ⟨w.heap.size,0,none⟩) m m) (w.alloc (.cells ⟨lU b.cells.toList m⟩ e)):=by
    simp only[bh,execOp,B,g,hy,Sem.run_bind,q,Result.andThen_ok,Sem.run_pure]
   refine KE (e:=e) (sz:=sz) (n:=m) (vs:=lU b.cells.toList m) A rfl (λ _=>rfl) (by rw[SB];simp[d]) z (λ Z lV c0 U V=>?_) S
   subst i
   exact⟨_,_,_,by rw[kf],by rw[kf];exact V,als ((E.T.ty e).law U.F M) m⟩
  ·exact h.elim
 ·exact h.elim
end
end bc
namespace bc
open Go Go.RowKit ay I
def amG(P:Program)(t:Nat):Bool:=match P.underlying t with
 |some (.int .u8)=>true
 |_=>false
def UF(E:Env)(bl:List (aF E.T.El))(s d:Nat)(u:aI E.T.El):D (eC E.T.El):=match E.P.underlying s,E.P.underlying d,u with
 |some .string,some (.slice e),.p (.string ⟨⟨l⟩⟩)=>match cy e E.l3,amG E.P E.l3 with
  |true,true=>.op (bytesOf l) λ r=>.ok ⟨some (.s E.l3 (E.MZ r)),bl,[]⟩
  |_,_=>.no
 |_,_,_=>.no
section
variable{E:Env}{W w w':World}{M0:List Nat}{X:Nat->Prop}{bl:List (aF E.T.El)}{ρ:List Value}{a:Act}
theorem axu(a7:di E)(i:Mem E.T W M0 X bl ρ w){o:Oper}{s d:Nat}{x:Operand}{u:aI E.T.El}{r:eC E.T.El}(f:(UF E bl s d u).out r)(A:o.op= .convert s d x)(p:aw E.T (bk X bl ρ w) w ρ bl u (a.eval x)):hd E o a W M0 X bl ρ w r:=by
 unfold UF at f;split at f
 ·rename_i e l C D
  split at f
  ·rename_i ag m
   have ag:=bd ag
   subst ag
   have F:E.P.underlying E.l3=some (.int .u8):=by
    unfold amG at m;split at m
    ·assumption
    ·cases m
   obtain⟨q,c,J⟩:=f
   have J:(⟨some (.s E.l3 (E.MZ q)),bl,[]⟩:eC E.T.El)=r:=J
   subst J
   simp only[aw]at p
   unfold bytesOf at c
   split at c
   ·rename_i G
    simp only[aH]at c
    subst c
    have t:=run_bytes_of_string (P:=E.P) w s d E.l3 ⟨⟨l⟩⟩ C D F
    have H:(⟨⟨l⟩⟩:ByteArray).size=l.length:=rfl
    have hc:=grownCap_ge w l.length 0 E.l3
    have v:=grownCap_le_maxLen w l.length 0 E.l3 (by simp only[maxLen];omega)
    obtain⟨B,y⟩:∃B,B=bytesRow ⟨⟨l⟩⟩ (grownCap w l.length 0 E.l3):=⟨_,rfl⟩
    obtain⟨eK,z⟩:∃eK,eK=grownCap w l.length 0 E.l3:=⟨_,rfl⟩
    rw[H,<-y,<-z]at t
    rw[<-z]at hc v
    have hy:bh E.P o a w (.slice (some ⟨w.heap.size,0,none⟩) l.length eK) (w.drew.alloc (.cells B E.l3 (B.size,B.size+1))):=by
     simp only[bh,execOp,A,p,Sem.run_bind,t,Result.andThen_ok];rfl
    have n:br [] w (w.drew.alloc (.cells B E.l3 (B.size,B.size+1))):=(br.drew [] w).trans (br.alloc [] _ _) (by simp)
    refine⟨_,ρ,i.e8 n,Mem.ta n,λ k g _=>n.block k g (by simp),_,hy,?_⟩
    simp only[aw]
    refine⟨_,eK,by rw[a7.ad8],by rw[a7.ad8];exact hc,v,(λ h=>by cases h),λ _=>⟨rfl,⟨?_,?_,by show w.heap.size<_;simp⟩,_,a7.aul _ _ _ _ (alr l),λ j u aA=>?_⟩⟩
    ·intro g
     have c:w.heap.size<W.heap.size:=(i.hW _ g).1
     have J:=i.bY.size
     omega
    ·intro g
     have c:w.heap.size<w.heap.size:=(i.lt _ g).1
     omega
    ·rw[jw,cz]at aA
     obtain⟨b,ag,rfl⟩:=aA
     obtain⟨I,K⟩:=aP.1 ag
     have:=bytesRow_at ⟨⟨l⟩⟩ (grownCap w l.length 0 E.l3) j (by simpa using I)
     rw[<-y]at this
     show World.cell? _ ⟨w.heap.size,0+j,none⟩=_
     simp only[World.cell?,World.alloc]
     rw[show(w.drew.heap.push _)[w.heap.size]? =some _ from Array.getElem?_push_size (xs:=w.heap)]
     simp only[jM,this]
     simp[K]
   ·cases c
  ·exact f.elim
 ·exact f.elim
end
end bc
namespace bc
open Go Go.RowKit ay I
def Un(E:Env)(bl:List (aF E.T.El))(t tn:Nat)(u v:aI E.T.El):D (eC E.T.El):=match tU E.P t,k1 (E.P.underlying tn),u,v with
 |some (e,sz,b3),some (.i .i64),.p (.slice none 0 0),.p (.int .i64 k)=>match cy sz 1&&cy (E.T.ty e).size 1,yj E e e with
  |true,some z0=>.op (Ix z0 b3 k) λ l=>.ok ⟨some (.r bl.length 0),bl++[.r e 0 0 l],[]⟩
  |_,_=>.no
 |_,_,_,_=>.no
section
variable{E:Env}{W w w':World}{M0:List Nat}{X:Nat->Prop}{n:cE}{f:cC E.T.El}{bl:List (aF E.T.El)}{ρ:List Value}{a:Act}{cur:List (Nat×Bool)}
theorem aw'(a7:di E)(i:Mem E.T W M0 X bl ρ w){o:Oper}{t tn:Nat}{x y:Operand}{u v:aI E.T.El}{r:eC E.T.El}(h:(Un E bl t tn u v).out r)(M:o.op= .call { callee:=.builtin .append,args:=#[x,y],argTypes:=#[t,tn] })
 (H:aw E.T (bk X bl ρ w) w ρ bl u (a.eval x))(I:aw E.T (bk X bl ρ w) w ρ bl v (a.eval y)):hd E o a W M0 X bl ρ w r:=by
 unfold Un at h
 split at h
 ·rename_i e sz b3 k N p
  obtain⟨O,Q,b,hi,oA,R,J,g,gV,S⟩:=y8 N
  have s:=w2 p
  split at h
  ·rename_i z0 ag d
   simp only[cb]at ag
   have aj:=bd ag.1
   have U:=bd ag.2
   subst aj
   obtain⟨l,V,z⟩:=h
   have z:(⟨some (.r bl.length 0),bl++[.r e 0 0 l],[]⟩:eC E.T.El)=r:=z
   subst z
   obtain⟨Y,bn,rfl⟩:=auh V
   obtain⟨m,rfl⟩:=lR (Int.le_of_lt Y)
   simp only[bV]at *
   have Z:m<=b3*m:=Nat.le_mul_of_pos_left m S
   simp only[aw]at H I
   have fN:(E.T.ty e).rd (bk X bl ρ w) w b.cells.toList z0:=by
    unfold yj at d;split at d
    ·rename_i Mu A
     split at d
     ·have ai:Mu=b:=by
       simp only[H4,hi]at A;rw[oA]at A;exact(eJ A).symm
      subst ai;exact a7.tb.hz _ _ _ d _ _ ρ bl _ (s0 _)
     ·cases d
    ·cases d
   obtain⟨eK,C⟩:∃eK,b.cells= #[eK]:=by
    revert g;generalize b.cells=cs;obtain⟨l⟩:=cs;intro g;cases l with
    |nil=>simp at g
    |cons c r=>cases r with
     |nil=>exact⟨c,rfl⟩
     |cons _ _=>simp at g
   have gA:=Lib.run_append_nil_zeros (P:=E.P) w t tn o.type e Q b .i64 .i64 O s hi oA m (by omega) (by omega) (by omega) (by rw[J,Nat.mul_comm];omega)
   let cap:=grownCap w m 0 e
   have FZ:m<=cap:=grownCap_ge w m 0 e
   have Ju:cap<=maxLen:=grownCap_le_maxLen w m 0 e (by simp only[maxLen];omega)
   have Xk:∀q,(Builtin.zeroCells b.cells q).toList=fV q eK:=by
    intro q;rw[C];apply List.ext_getElem
    ·simp[Builtin.zeroCells]
    ·intro j R J
     simp[Builtin.zeroCells,Nat.mod_one]
   let cur:=Builtin.zeroCells b.cells m++Builtin.zeroCells b.cells (cap-m)
   have hcs:cur.size=cap:=by simp only[cur,Array.size_append,size_zeroCells,C];simp;omega
   have pF:bh E.P o a w (.slice (some ⟨w.heap.size,0,none⟩) m cap) (w.drew.alloc (.cells cur e)):=by
    simp only[bh,execOp,M,resolve,invoke,builtin,Sem.run_bind,Sem.run_pure,Result.andThen_ok,hK,eB,iD,H,I,gA,cap,cur]
   have D:br [] w (w.drew.alloc (.cells cur e)):=(br.drew [] w).trans (br.alloc [] w.drew (.cells cur e)) (by simp)
   have CX:w.drew.heap.size=w.heap.size:=rfl
   have oz:rowIs (w.drew.alloc (.cells cur e)) e 1 (.slice (some ⟨w.heap.size,0,none⟩) m cap) m (fV m eK):=by
    refine .inl ⟨by simp,.inr ⟨w.heap.size,cap,cur,rfl,gT _,?_,FZ,Ju,by simp[hcs],?_⟩⟩
    ·rw[<-CX];exact heap_alloc_new w.drew _
    ·simp only[cur,Array.toList_append,Xk,j3]
     rw[kh (by simp),h0 (by simp)]
   have uh:cap=(cap-1)+1:=by omega
   have ad:∀q∈bE (aF.r (El:=E.T.El) e 0 0 (fV m z0)) (.slice (some ⟨w.heap.size,0,none⟩) m cap),w.heap.size<=q/\q<(w.drew.alloc (.cells cur e)).heap.size:=λ q K=>by
    rw[uh]at K;have:q=w.heap.size:=by simpa[bE,bc.ag]using K
    subst this;simp
   have L:=i.AN (B:=aF.r e 0 0 (fV m z0)) (h:=.slice (some ⟨w.heap.size,0,none⟩) m cap) D ad
   have G:∀(q:Nat)(F:Nat->Prop)(w':World),(E.T.ty e).rd F w' [eK] z0->dM (E.T.ty e) F w' (fV q eK) (fV q z0):=λ q F w' h=>by
    induction q with
    |zero=>rfl
    |succ q a'=>exact⟨[eK],fV q eK,rfl,h,a'⟩
   refine⟨_,ρ++[.slice (some ⟨w.heap.size,0,none⟩) m cap],i.push D ad ⟨some ⟨w.heap.size,0,none⟩,cap,fV m eK,by rw[kf],by rw[U,kf];exact oz,G m _ _ ?_⟩,L,λ k p _=>D.block k p (by simp),_,pF,?_⟩
   ·have:=(E.T.ty e).law L.F fN
    rwa [C]at this
   ·simp only[aw]
    exact⟨trivial,.slice (some ⟨w.heap.size,0,none⟩) m cap,by rw[<-i.len];simp,gT _,λ _=>rfl⟩
  ·exact h.elim
 ·exact h.elim
end
end bc
namespace I
def fQ{α:Type}(l:List α)(p:Nat)(ds:List α):List α:=l.take p++ds++l.drop (p+ds.length)
theorem GO{α:Type}{l:List α}{p:Nat}{ds:List α}(h:p+ds.length<=l.length):(fQ l p ds).length=l.length:=by
 simp[fQ];omega
end I
namespace bc
open Go Go.RowKit ay I
theorem ago(b:Nat):∀(vs:List Value)(o:Nat)(w:World),br [b] w (w.setCells b o vs)
 |[],_,w=>br.refl _ w
 |v::r,o,w=>(br.set w ⟨b,o,none⟩ v).trans (ago b r (o+1) _) (λ x a=>.inl a)
theorem al4(b:Nat)(e:TypeId)(a:Nat×Nat):∀(vs:List Value)(o:Nat)(w:World)(cur:List Value),w.heap[b]? =some (.cells cur.toArray e a)->o+vs.length<=cur.length ->
 (w.setCells b o vs).heap[b]? =some (.cells (fQ cur o vs).toArray e a)
 |[],o,w,cur,h,_=>by simpa[World.setCells,fQ]using h
 |v::r,o,w,cur,h,d=>by
  simp only[dL]at d;have ag:b<w.heap.size:=by
   rcases gL b w.heap.size with h' |h'
   ·exact h'
   ·rw[ib h']at h;cases h
  have f:(w.setCell ⟨b,o,none⟩ v).heap[b]? =some (.cells (cur.set o v).toArray e a):=by
   simp only[World.setCell,ke,if_pos,h,fU];simp
  have:=al4 b e a r (o+1) _ (cur.set o v) f (by simp;omega);show((w.setCell ⟨b,o,none⟩ v).setCells b (o+1) r).heap[b]? =_
  rw[this];have g:cur.set o v=cur.take o++v::cur.drop (o+1):=by rw[List.set_eq_take_append_cons_drop,if_pos (by omega)]
  have c:(cur.take o).length=o:=by rw[fZ];omega
  have i:(cur.set o v).take (o+1)=cur.take o++[v]:=by
   rw[g,lE,c,h0 (by rw[c];omega)];simp
  have ao:(cur.set o v).drop (o+1+r.length)=cur.drop (o+(v::r).length):=by
   rw[List.drop_set_of_lt (by omega)];congr 1;simp;omega
  simp only[fQ];rw[i,ao];simp
theorem aFq{α:Type}{l ds:List α}{p n:Nat}(h:p+ds.length<=n)(a:n<=l.length):(fQ l p ds).take n=fQ (l.take n) p ds:=aaZ h a
structure S_ (El:Nat->Type) where
 i:Nat
 t:Nat
 g:Nat
 k:Nat
 l:List (El t)
 lo:Int
 hi:Int
def P5{El:Nat->Type}(bl:List (aF El)):aI El->Option (S_ El)
 | .v i g lo hi=>match nth bl i with
   |some (.r t a k l)=>match cy g a with
    |true=>some ⟨i,t,a,k,l,lo,hi⟩
    |false=>none
   |_=>none
 | .r i g=>match nth bl i with
   |some (.r t a k l)=>match cy g a with
    |true=>some ⟨i,t,a,k,l,0,(l.length:Int)⟩
    |false=>none
   |_=>none
 |_=>none
def Ur(E:Env)(bl:List (aF E.T.El))(t:Nat)(u v:aI E.T.El):D (eC E.T.El):=match tU E.P t,P5 bl u with
 |some (_,n,_),some p=>match cy n 1&&cy (E.T.ty p.t).size 1,Lz E bl p.t v with
  |true,some m=>.op (xC (decide (0<p.l.length))) λ _=>.ok ⟨some (.p (.int .i64 ((m.take (p.hi-p.lo).toNat).length:Int))),bl.set p.i (.r p.t p.g (p.k+1) (fQ p.l p.lo.toNat (m.take (p.hi-p.lo).toNat))),[p.i]⟩
  |_,_=>.no
 |_,_=>.no
def Uq(E:Env)(bl:List (aF E.T.El))(t:Nat)(u:aI E.T.El):D (eC E.T.El):=match tU E.P t,P5 bl u with
 |some (e,sz,_),some p=>match cy sz 1&&cy (E.T.ty p.t).size 1&& !(E.T.e p.t).agg,yj E p.t e with
  |true,some z0=>.op (xC (decide (p.lo<p.hi))) λ _=>.ok ⟨some (.u []),bl.set p.i (.r p.t p.g (p.k+1) (fQ p.l p.lo.toNat (fV (p.hi-p.lo).toNat z0))),[p.i]⟩
  |_,_=>.no
 |_,_=>.no
section
variable{E:Env}{W w w':World}{M0:List Nat}{X:Nat->Prop}{n:cE}{f:cC E.T.El}{bl:List (aF E.T.El)}{ρ:List Value}{a:Act}{cur:List (Nat×Bool)}
theorem akN(r:Mem E.T W M0 X bl ρ w){u:aI E.T.El}{v:Value}{p:S_ E.T.El}(h:P5 bl u=some p)(x:(E.T.ty p.t).size=1)(q:aw E.T (bk X bl ρ w) w ρ bl u v) :
 bl[p.i]? =some (.r p.t p.g p.k p.l)/\0<=p.lo/\p.lo<=p.hi/\p.hi<=p.l.length/\ ∃A c B j,ρ[p.i]? =some (.slice A p.l.length c)/\v= .slice B (p.hi.toNat-p.lo.toNat) j/\(p.lo<p.hi->B=A.map (·.add p.lo.toNat)):=by
 unfold P5 at h
 split at h
 ·rename_i i g lo hi
  split at h
  ·rename_i t y k l b
   rw[dh]at b
   split at h
   ·rename_i ag
    simp only[aH]at h
    subst h
    simp only[aw]at q
    obtain⟨_,aL,m,z,o⟩:=q
    rw[b]at o
    obtain⟨A,n,c,B,s,ao,aT,bQ,dw,eR,C⟩:=o (bd ag)
    obtain⟨cn,j,xs,d,D,F⟩:=r.ok _ _ _ b m
    rw[s]at d
    simp only[Value.slice.injEq]at d
    obtain⟨rfl,rfl,rfl⟩:=d
    refine⟨b,ao,aT,bQ,A,c,B,_,s▸m,dw,λ G=>?_⟩
    have:=C G
    simp only[jy,x,j3]at this
    exact this
   ·cases h
  ·cases h
 ·rename_i i g
  split at h
  ·rename_i t y k l b
   rw[dh]at b
   split at h
   ·rename_i ag
    simp only[aH]at h
    subst h
    simp only[aw]at q
    obtain⟨_,aL,m,z,o⟩:=q
    rw[b]at o
    have e:=o (bd ag)
    subst e
    obtain⟨cn,j,xs,d,D,F⟩:=r.ok _ _ _ b m
    refine⟨b,lI _,by simp,lI _,cn,j,cn,j,d▸m,by simpa using d,λ _=>?_⟩
    cases cn with
    |none=>rfl
    |some en=>
     simp[Addr.add]
   ·cases h
  ·cases h
 ·cases h
theorem alK(m:Mem E.T W M0 X bl ρ w){o:Oper}{p:S_ E.T.El}{A:Option Addr}{c:Nat}(hi:bl[p.i]? =some (.r p.t p.g p.k p.l))(d:ρ[p.i]? =some (.slice A p.l.length c))(g:(E.T.ty p.t).size=1){q:Nat}{ds:List (E.T.El p.t)}{vs:List Value}(v:dM (E.T.ty p.t) (bk X bl ρ w) w vs ds)(x:0<p.l.length)(i:q+ds.length<=p.l.length) :
 ∃gb,A=some ⟨gb,0,none⟩/\vs.length=ds.length/\(∀j,j<p.l.length->(w.cell? ⟨gb,j,none⟩).isSome=true)/\(∀j,w.frozen? ⟨gb,j,none⟩=false)/\
  ∀ {r:Value}{y:aI E.T.El},(∀(F:Nat->Prop)(w:World)(ρ:List Value)(bl:List (aF E.T.El)),aw E.T F w ρ bl y r)->bh E.P o a w r (w.setCells gb q vs)->hd E o a W M0 X bl ρ w ⟨some y,bl.set p.i (.r p.t p.g (p.k+1) (fQ p.l q ds)),[p.i]⟩:=by
 obtain⟨cn,U,xs,z,B,C⟩:=m.ok _ _ _ hi d
 simp only[Value.slice.injEq,true_and]at z
 obtain⟨rfl,rfl⟩:=z
 obtain⟨gb,rfl,V,hc,L⟩:=u4 x B
 have wR:=xK _ v
 rw[g,j3]at wR
 have D:=xK _ C
 rw[g,j3]at D
 have G:=B.own x
 rw[g]at G
 rcases G.2 with⟨_,Y⟩|⟨g',cap,cur,H,ao,aT,bQ,dw,eR,I⟩
 ·omega
 simp only[Value.slice.injEq,aH,Addr.mk.injEq,and_true,true_and]at H
 obtain⟨rfl,rfl⟩:=H
 rw[j3]at eR I
 have M:(⟨cur.toList⟩:Array Value)=cur:=by simp
 refine⟨gb,rfl,wR,λ j aA=>?_,λ j=>by simp[World.frozen?,aT],λ{r y} hy N=>?_⟩
 ·have:j<cur.size:=by omega
  simp[World.cell?,aT,this]
 have O:bE (aF.r p.t p.g p.k p.l) (.slice (some ⟨gb,0,none⟩) p.l.length c)=[gb]:=L _
 have s:br (bE (aF.r p.t p.g p.k p.l) (.slice (some ⟨gb,0,none⟩) p.l.length c)) w (w.setCells gb q vs):=by rw[O];exact ago gb vs q w
 have t:=al4 gb p.t (0,0) vs q w cur.toList (by rw[<-M]at aT;exact aT) (by simp;omega)
 have P:rowIs (w.setCells gb q vs) p.t 1 (.slice (some ⟨gb,0,none⟩) p.l.length c) p.l.length (fQ xs q vs):=by
  refine .inl ⟨by rw[GO (by omega),D,j3],.inr ⟨gb,c,_,rfl,ao,t,bQ,dw,?_,?_⟩⟩
  ·have:=GO (l:=cur.toList) (p:=q) (ds:=vs) (by simp;omega)
   simpa[eR]using this
  ·simp only[j3]
   rw[aFq (by omega) (by simp;omega),I]
 have ad:∀k∈bE (aF.r p.t p.g (p.k+1) (fQ p.l q ds)) (.slice (some ⟨gb,0,none⟩) p.l.length c),k∈bE (aF.r p.t p.g p.k p.l) (.slice (some ⟨gb,0,none⟩) p.l.length c)\/(w.heap.size<=k/\k<(w.setCells gb q vs).heap.size):=λ k u=>.inl u
 have wN:∀ {h:Value},(¬kZ h->h=h)/\b4 (some (aF.r p.t p.g p.k p.l))<=b4 (some (aF.r p.t p.g (p.k+1) (fQ p.l q ds)))/\(b4 (some (aF.r p.t p.g (p.k+1) (fQ p.l q ds)))=b4 (some (aF.r p.t p.g p.k p.l))->h=h/\jy E.T (some (aF.r p.t p.g (p.k+1) (fQ p.l q ds)))=jy E.T (some (aF.r p.t p.g p.k p.l))/\gY (some (aF.r p.t p.g p.k p.l))<=gY (some (aF.r p.t p.g (p.k+1) (fQ p.l q ds)))/\(gY (some (aF.r p.t p.g (p.k+1) (fQ p.l q ds)))=gY (some (aF.r p.t p.g p.k p.l))->jx (some (aF.r p.t p.g (p.k+1) (fQ p.l q ds)))=jx (some (aF.r p.t p.g p.k p.l)))):=λ{h}=>
  ⟨λ _=>rfl,cT _,λ _=>⟨rfl,rfl,Nat.le_succ _,λ e=>by simp[gY]at e⟩⟩
 have b:=m.D9 (B':=aF.r p.t p.g (p.k+1) (fQ p.l q ds)) (h':=.slice (some ⟨gb,0,none⟩) p.l.length c) hi d s ad wN
 have aj:=Hh d
 have Q:dM (E.T.ty p.t) (bk X (bl.set p.i (.r p.t p.g (p.k+1) (fQ p.l q ds))) ρ (w.setCells gb q vs)) (w.setCells gb q vs) (fQ xs q vs) (fQ p.l q ds):=by
  rw[aj]at b;have J:=oO _ b.F C;have R:=oO _ b.F v;have c1:=u2 0 q J;have c2:=u2 (q+ds.length) p.l.length J;rw[g]at c1 c2;simp only[j3,Nat.zero_mul,hB]at c1 c2;rw[h0 (by omega),h0 (by omega)]at c2;have:=K3 _ c2 (K3 _ R c1);unfold fQ;rw[wR];exact this
 have K:=m.dC (B':=aF.r p.t p.g (p.k+1) (fQ p.l q ds)) (h':=.slice (some ⟨gb,0,none⟩) p.l.length c) hi d s ad b (by
  rw[aj];exact⟨some ⟨gb,0,none⟩,c,fQ xs q vs,by rw[GO i],by rw[g,GO i];exact P,Q⟩)
 rw[aj]at K b
 exact⟨_,ρ,K,b,λ k u S=>s.block k u (S p.i (by simp) _ _ hi d),r,N,hy _ _ _ _⟩
theorem axe(a7:di E)(g:Mem E.T W M0 X bl ρ w){o:Oper}{t:Nat}{x y:Operand}{u v:aI E.T.El}{r:eC E.T.El}(h:(Ur E bl t u v).out r)(z:o.op= .call { callee:=.builtin .copy,args:=#[x,y],argTypes:=#[t,t] })
 (K:aw E.T (bk X bl ρ w) w ρ bl u (a.eval x))(hy:aw E.T (bk X bl ρ w) w ρ bl v (a.eval y)):hd E o a W M0 X bl ρ w r:=by
 unfold Ur at h
 split at h
 ·rename_i e n b3 p L M
  obtain⟨C,i0,eX,N,oA,O,j2,Q,gV,R⟩:=y8 L
  split at h
  ·rename_i m ag S
   simp only[cb]at ag
   have U:=bd ag.1
   have d:=bd ag.2
   subst U
   obtain⟨_,i,h⟩:=h
   have i:0<p.l.length:=of_decide_eq_true (YI i)
   have h:(⟨some (.p (.int .i64 ((m.take (p.hi-p.lo).toNat).length:Int))),bl.set p.i (.r p.t p.g (p.k+1) (fQ p.l p.lo.toNat (m.take (p.hi-p.lo).toNat))),[p.i]⟩:eC E.T.El)=r:=h
   subst h
   obtain⟨hi,l1,cx,j4,A,c,B,D,V,G,ao⟩:=akN g M d K
   obtain⟨Y,c2,news,H,Z,I⟩:=amj a7 g S hy
   have JU:=xK _ I
   rw[d,j3]at JU
   have b:(m.take (p.hi-p.lo).toNat).length=Nat.min m.length (p.hi.toNat-p.lo.toNat):=by
    rw[fZ,Nat.min_comm];congr 1;omega
   have k:=u2 0 (p.hi-p.lo).toNat I
   rw[d]at k
   simp only[j3,Nat.zero_mul,hB]at k
   have J:(E.P.info? e).map (·.size)=some 1:=by rw[N];simp[O]
   obtain⟨gb,rfl,wR,jn,Wn,fin⟩:=alK (o:=o) (a:=a) (q:=p.lo.toNat) g hi V d k i (by rw[b];have:=Nat.min_le_right m.length (p.hi.toNat-p.lo.toNat);have e:Nat.min m.length (p.hi.toNat-p.lo.toNat)=min m.length (p.hi.toNat-p.lo.toNat):=rfl;omega)
   refine fin (r:=.int .i64 ((m.take (p.hi-p.lo).toNat).length:Int)) (λ F w ρ bl=>by simp only[aw]) ?_
   rcases lS (m.take (p.hi-p.lo).toNat).length with aE |aE
   ·have l:=run_copy_none (P:=E.P) w t t o.type e B Y (p.hi.toNat-p.lo.toNat) D m.length c2 C J (by rw[<-b];exact aE)
    have ca:news.take (p.hi-p.lo).toNat=[]:=hL (wR.trans aE)
    rw[ca,aE]
    simp only[bh,execOp,z,resolve,invoke,builtin,Sem.run_bind,Sem.run_pure,Result.andThen_ok,hK,eB,iD,G,H,l]
    rfl
   ·have bD:p.lo<p.hi:=by
     rw[b]at aE;have e:Nat.min m.length (p.hi.toNat-p.lo.toNat)=min m.length (p.hi.toNat-p.lo.toNat):=rfl;omega
    rcases Z with⟨bq,_⟩|⟨en,rfl,bA,bU,fL⟩
    ·rw[b,bq]at aE
     have e:Nat.min 0 (p.hi.toNat-p.lo.toNat)=min 0 (p.hi.toNat-p.lo.toNat):=rfl
     omega
    ·have s:=ao bD
     have s:B=some ⟨gb,p.lo.toNat,none⟩:=by rw[s];simp[Addr.add];try omega
     subst s
     have l:=run_copy_cells (P:=E.P) w t t o.type e gb p.lo.toNat (p.hi.toNat-p.lo.toNat) D en m.length c2 (news.take (p.hi-p.lo).toNat) C J (by rw[wR,b]) (λ j u aA=>by
      rw[hG]at aA;split at aA
      ·exact bU j u aA
      ·cases aA) (λ j aA=>jn _ (by rw[wR,b]at aA;have e:Nat.min m.length (p.hi.toNat-p.lo.toNat)=min m.length (p.hi.toNat-p.lo.toNat):=rfl;omega)) (λ j _=>Wn _) (λ v af=>fL v (List.mem_of_mem_take af))
     rw[<-wR]
     simp only[bh,execOp,z,resolve,invoke,builtin,Sem.run_bind,Sem.run_pure,Result.andThen_ok,hK,eB,iD,G,H,l]
     rfl
  ·exact h.elim
 ·exact h.elim
theorem axd(a7:di E)(D:Mem E.T W M0 X bl ρ w){o:Oper}{t:Nat}{x:Operand}{u:aI E.T.El}{r:eC E.T.El}(h:(Uq E bl t u).out r)(K:o.op= .call { callee:=.builtin .clear,args:=#[x],argTypes:=#[t] })
 (L:aw E.T (bk X bl ρ w) w ρ bl u (a.eval x)):hd E o a W M0 X bl ρ w r:=by
 unfold Uq at h
 split at h
 ·rename_i e n b3 p M N
  obtain⟨O,i0,d,G,oA,ga,j2,k,gV,Q⟩:=y8 M
  split at h
  ·rename_i z0 ag b
   simp only[cb]at ag
   have R:(E.T.e p.t).agg=false:=by simpa using ag.2
   have S:=bd ag.1.1
   have H:=bd ag.1.2
   subst S
   obtain⟨_,U,h⟩:=h
   have V:p.lo<p.hi:=of_decide_eq_true (YI U)
   have h:(⟨some (.u []),bl.set p.i (.r p.t p.g (p.k+1) (fQ p.l p.lo.toNat (fV (p.hi-p.lo).toNat z0))),[p.i]⟩:eC E.T.El)=r:=h
   subst h
   obtain⟨hi,l1,cx,j4,A,c,B,Y,Z,m,ao⟩:=akN D N H L
   obtain⟨eK,s⟩:∃eK,d.cells= #[eK]:=by
    revert k;generalize d.cells=cs;obtain⟨l⟩:=cs;intro I;cases l with
    |nil=>simp at I
    |cons c r=>cases r with
     |nil=>exact⟨c,rfl⟩
     |cons _ _=>simp at I
   have i:(E.T.ty p.t).rd (bk X bl ρ w) w [eK] z0/\d=eK:=by
    unfold yj at b;split at b
    ·rename_i Mu v
     split at b
     ·rename_i y
      have m:Mu=d:=by
       simp only[H4,G]at v;rw[oA]at v;exact(eJ v).symm
      subst m
      have:=a7.tb.hz _ _ _ b (bk X bl ρ w) w ρ bl _ (s0 _)
      rw[s]at this
      have g:=apR y
      rw[R,s]at g
      exact⟨this,g⟩
     ·cases b
    ·cases b
   obtain⟨i,z⟩:=i
   have C3:eK.oneCell'=true:=(E.T.ty p.t).one i eK (by simp)
   have jY:dM (E.T.ty p.t) (bk X bl ρ w) w (fV (p.hi-p.lo).toNat eK) (fV (p.hi-p.lo).toNat z0):=by
    generalize(p.hi-p.lo).toNat=q;induction q with
    |zero=>rfl
    |succ q a'=>exact⟨[eK],fV q eK,rfl,i,a'⟩
   obtain⟨gb,rfl,wR,jn,Wn,fin⟩:=alK (o:=o) (a:=a) (q:=p.lo.toNat) D hi Z H jY (by omega) (by rw[kf];omega)
   refine fin (λ F w ρ bl=>by simp only[aw];exact⟨[],rfl,by simp[a8]⟩) ?_
   have C:=ao V
   have C:B=some ⟨gb,p.lo.toNat,none⟩:=by rw[C];simp[Addr.add];try omega
   subst C
   have J:=Lib.run_clear_slice (P:=E.P) w t e o.type d O (λ w=>by simp only[zeroValue,typeInfo,Sem.run_bind];simp[go_sem,G,oA]) (by rw[s,z]) (by rw[z];exact C3) gb p.lo.toNat (p.hi.toNat-p.lo.toNat) Y (by omega) (λ j aA=>jn _ (by omega)) (λ j _=>Wn _)
   have e:p.hi.toNat-p.lo.toNat=(p.hi-p.lo).toNat:=by omega
   rw[e,z]at J
   simp only[bh,execOp,K,resolve,invoke,builtin,Sem.run_bind,Sem.run_pure,Result.andThen_ok,hK,eB,iD,m,e,J]
  ·exact h.elim
 ·exact h.elim
end
end bc
namespace bc
open Go Go.RowKit ay I
def NA(E:Env)(bl:List (aF E.T.El))(f:cC E.T.El)(cur:List (Nat×Bool)):Op->D (eC E.T.El)
 | .alloc t=>match EZ E.P t with
   |some z=>.ok ⟨some (.b bl.length 0),bl++[.c t (z.map .p)],[]⟩
   |none=>.no
 | .box t x=>match od E bl f cur x with
   |some y=>.ok ⟨some (.b bl.length 0),bl++[.c t (cellsOf y)],[]⟩
   |none=>.no
 | .makeMap t none=>match mapOf E.P t with
   |some (k,e)=>match(E.T.e k).key with
    |some _=>.ok ⟨some (.m bl.length),bl++[.m k e []],[]⟩
    |none=>.no
   |none=>.no
 | .store t p x=>match od E bl f cur p,od E bl f cur x with
   |some u,some v=>UE E bl t u v
   |_,_=>.no
 | .mapUpdate t m k x=>match od E bl f cur m,od E bl f cur k,od E bl f cur x with
   |some u,some v,some z=>NB E bl t u v z
   |_,_,_=>.no
 | .insert t m k x=>match od E bl f cur m,od E bl f cur k,od E bl f cur x with
   |some u,some v,some z=>NB E bl t u v z
   |_,_,_=>.no
 | .buildSlice t n ⟨ps⟩=>match GK E bl f cur ps with
   |some ys=>Uv E bl t n ys
   |none=>.no
 | .makeSlice t x y=>match od E bl f cur x with
   |some u=>UA E bl t x y u
   |none=>.no
 | .convert s d x=>match od E bl f cur x with
   |some u=>UF E bl s d u
   |none=>.no
 | .call ⟨.builtin .append,⟨[x,y]⟩,⟨[t,t']⟩⟩=>match cy t t',od E bl f cur x,od E bl f cur y with
   |true,some u,some v=>Um E bl t u v
   |false,some u,some v=>Un E bl t t' u v
   |_,_,_=>.no
 | .call ⟨.builtin .copy,⟨[x,y]⟩,⟨[t,t']⟩⟩=>match cy t t',od E bl f cur x,od E bl f cur y with
   |true,some u,some v=>Ur E bl t u v
   |_,_,_=>.no
 | .call ⟨.builtin .clear,⟨[x]⟩,⟨[t]⟩⟩=>match od E bl f cur x with
   |some u=>Uq E bl t u
   |none=>.no
 |_=>.no
section
variable{E:Env}{W w w':World}{M0:List Nat}{X:Nat->Prop}{n:cE}{f:cC E.T.El}{bl:List (aF E.T.El)}{ρ:List Value}{a:Act}{cur:List (Nat×Bool)}
theorem axh(a7:di E)(h:R E W M0 X n f bl ρ a w)(hc:jU a cur){o:Oper}{op:Op}(d:o.op=op){r:eC E.T.El}(b:(NA E bl f cur op).out r):hd E o a W M0 X bl ρ w r:=by
 unfold NA at b;split at b
 ·rename_i t
  split at b
  ·rename_i z c
   have b:(⟨some (.b bl.length 0),bl++[.c t (z.map .p)],[]⟩:eC E.T.El)=r:=b
   subst b
   obtain⟨l,i,j⟩:=Mt c
   exact ajS h.mem (s0 z) (Bu i j d)
  ·exact b.elim
 ·rename_i t x
  split at b
  ·rename_i y c
   have b:(⟨some (.b bl.length 0),bl++[.c t (cellsOf y)],[]⟩:eC E.T.El)=r:=b
   subst b
   exact ajS h.mem (pk (dA h hc c)) (Sp (v:=a.eval x) (by simp) d rfl)
  ·exact b.elim
 ·rename_i t
  split at b
  ·rename_i k e c
   split at b
   ·rename_i K J
    have b:(⟨some (.m bl.length),bl++[.m k e []],[]⟩:eC E.T.El)=r:=b
    subst b
    exact aEF h.mem J (aNB d)
   ·exact b.elim
  ·exact b.elim
 ·split at b
  ·rename_i u v c J
   exact axt a7 h.mem b d (dA h hc c) (dA h hc J)
  ·exact b.elim
 ·split at b
  ·rename_i u v z c J g
   exact agm a7 h.mem b (.inl d) (dA h hc c) (dA h hc J) (dA h hc g)
  ·exact b.elim
 ·split at b
  ·rename_i u v z c J g
   exact agm a7 h.mem b (.inr d) (dA h hc c) (dA h hc J) (dA h hc g)
  ·exact b.elim
 ·split at b
  ·rename_i ys c
   exact axk a7 h.mem b d (YQ h hc c)
  ·exact b.elim
 ·split at b
  ·rename_i u c
   exact axp a7 h.mem b d (dA h hc c)
  ·exact b.elim
 ·split at b
  ·rename_i u c
   exact axu a7 h.mem b d (dA h hc c)
  ·exact b.elim
 ·rename_i x y t t'
  split at b
  ·rename_i u v c J g
   have:=bd c
   subst this
   exact axa a7 h.mem b d (dA h hc J) (dA h hc g)
  ·rename_i u v c J g
   exact aw' a7 h.mem b d (dA h hc J) (dA h hc g)
  ·exact b.elim
 ·rename_i x y t t'
  split at b
  ·rename_i u v c J g
   have:=bd c
   subst this
   exact axe a7 h.mem b d (dA h hc J) (dA h hc g)
  ·exact b.elim
 ·split at b
  ·rename_i u c
   exact axd a7 h.mem b d (dA h hc c)
  ·exact b.elim
 ·exact b.elim
end
inductive MK
 |q
 |e
 |c
 |no
def O5(P:Program):Op->MK
 | .call c=>match c.callee with
   | .value _=>.c
   | .builtin .len=>.q
   | .builtin .cap=>.q
   | .builtin .append=>.e
   | .builtin .copy=>.e
   | .builtin .clear=>.e
   |_=>.no
 | .alloc _ | .box _ _ | .makeMap _ _ | .store _ _ _ | .mapUpdate _ _ _ _ | .insert _ _ _ _ | .buildSlice _ _ _ | .makeSlice _ _ _=>.e
 | .convert s _ _=>match P.underlying s with
   |some .string=>.e
   |_=>.q
 | .move _ | .assign _ | .pick _ _ _ | .binOp _ _ _ _ _ | .unOp _ _ _ | .load _ _ | .fieldAddr _ _ _ | .nilCheck _ | .extract _ _ | .makeFunc _ _ _ | .makeInterface _ _ | .indexAddr _ _ _ | .index _ _ _
   | .slice _ _ _ _ _ | .lookup _ _ _ _ | .field _ _ _ | .build _ _=>.q
 |_=>.no
inductive adA
 |run
 |skip
 |maybe (bC:Nat) (want b:Bool)
 |cond (bC:Nat) (want:Bool)
 |no
def Fp:Bool->Bool->Bool
 |true,true=>true
 |false,false=>true
 |_,_=>false
theorem yX{a b:Bool}:Fp a b=true↔a=b:=by cases a<;>cases b<;>simp[Fp]
def NZ(E:Env)(ops:Array Oper)(f:cC E.T.El)(n:Nat):Option (Nat×Bool)->adA
 |none=>.run
 |some (j,want)=>match Ja ops j with
  |none=>.no
  |some bC=>match fs bC n with
   |false=>.no
   |true=>match cG f.eu bC with
    |some b=>match Fp b want with
     |true=>.run
     |false=>.skip
    |none=>match cG f.fr bC with
     |some (.p (.tuple ⟨[]⟩))=>.skip
     |some (.p (.bool b))=>match E.cl with
      |true=>match Fp b want with
       |true=>.run
       |false=>.skip
      |false=>.maybe bC want b
     |some _=>.no
     |none=>.cond bC want
section
variable{E:Env}{W w w':World}{M0:List Nat}{X:Nat->Prop}{n:cE}{f:cC E.T.El}{bl:List (aF E.T.El)}{ρ:List Value}{a:Act}{cur:List (Nat×Bool)}{ops:Array Oper}{o:Oper}
theorem aJ'{j bC:Nat}{want:Bool}(aj:a.tmps.size=n.n)(c:o.guard=some (j,want))(aA:(ops[j]?).bind (·.dst)=some bC)(d:fs bC n.n=true) :
 Region.wanted o (yielded ops a.tmps)=true↔a.tmps.getD bC undef= .bool want:=by
 have e:bC<n.n:=cS d
 have J:a.tmps[bC]? =some (a.tmps.getD bC undef):=by
  rw[jJ (by omega)];simp[e0,aj,e]
 simp only[Region.wanted,c,yielded,aA,ae,J,beq_iff_eq]
 constructor
 ·intro h
  split at h
  ·rename_i b ag
   simp only[aH]at h ag
   rw[ag,h]
  ·cases h
 ·intro h
  rw[h]
def at1(E:Env)(ops:Array Oper)(o:Oper)(a:Act)(f:cC E.T.El)(n:Nat):adA->Prop
 | .run=>Region.wanted o (yielded ops a.tmps)=true
 | .skip=>Region.wanted o (yielded ops a.tmps)=false
 | .maybe bC want b=>fs bC n=true/\a.tmps.getD bC undef= .bool b/\(Region.wanted o (yielded ops a.tmps)=true↔a.tmps.getD bC undef= .bool want)
 | .cond bC want=>fs bC n=true/\(Region.wanted o (yielded ops a.tmps)=true↔a.tmps.getD bC undef= .bool want)
 | .no=>True
theorem agS(h:R E W M0 X n f bl ρ a w):at1 E ops o a f n.n (NZ E ops f n.n o.guard):=by
 have aj:=h.d_.er.size;cases i:o.guard with
 |none=>exact Q' i
 |some p=>
  obtain⟨j,want⟩:=p
  simp only[NZ]
  split
  ·trivial
  ·rename_i bC k
   have l:=ag6 k
   split
   ·trivial
   ·rename_i g
    have c:=aJ' (ops:=ops) (o:=o) aj i l g
    split
    ·rename_i b m
     have e:=h.d_.eu _ (oG m)
     split
     ·rename_i ag
      rw[yX]at ag
      subst ag
      exact c.2 e
     ·rename_i ag
      refine(gQ).2 λ d=>?_
      have:=c.1 d
      rw[e]at this
      injection this with this
      rw[yX.2 this]at ag
      cases ag
    ·split
     ·rename_i ad
      have e:=h.d_.er.get _ _ ad
      simp only[aw]at e
      refine(gQ).2 λ d=>?_
      have:=c.1 d
      rw[e]at this
      cases this
     ·rename_i b ad
      have e:=h.d_.er.get _ _ ad
      simp only[aw]at e
      split
      ·split
       ·rename_i ag
        rw[yX]at ag
        subst ag
        exact c.2 e
       ·rename_i ag
        refine(gQ).2 λ d=>?_
        have:=c.1 d
        rw[e]at this
        injection this with this
        rw[yX.2 this]at ag
        cases ag
      ·exact⟨g,e,c⟩
     ·trivial
     ·exact⟨g,c⟩
end
end bc
namespace bc
open Go Go.RowKit ay I
section
variable{α:Type}{β:Type 1}
noncomputable def tZ(l:List α)(k:List α->β):β:=List.rec (motive:=λ _=>(List α->β)->β) (λ k=>k []) (λ p _ a k=>a λ r=>k (p::r)) l k
theorem UT(l:List α):∀k:List α->β,tZ l k=k l:=by
 induction l with
 |nil=>exact λ k=>rfl
 |cons p r a=>exact λ k=>a λ r=>k (p::r)
noncomputable def qH(n:Nat)(k:Nat->β):β:=Nat.casesOn (motive:=λ _=>β) n (k 0) λ m=>k (Nat.succ m)
theorem NN(n:Nat)(k:Nat->β):qH n k=k n:=by cases n<;>rfl
noncomputable def NM(n:Int)(k:Int->β):β:=Int.casesOn (motive:=λ _=>β) n (λ m=>qH m λ m=>k (Int.ofNat m)) (λ m=>qH m λ m=>k (Int.negSucc m))
theorem agI(n:Int)(k:Int->β):NM n k=k n:=by
 cases n
 ·rename_i m;exact NN m λ m=>k (Int.ofNat m)
 ·rename_i m;exact NN m λ m=>k (Int.negSucc m)
noncomputable def agH(b:Bool)(k:Bool->β):β:=Bool.casesOn (motive:=λ _=>β) b (k false) (k true)
theorem axP(b:Bool)(k:Bool->β):agH b k=k b:=by cases b<;>rfl
noncomputable def UU(v:Value)(k:Value->β):β:=match v with
 | .int i n=>NM n λ n=>k (.int i n)
 | .bool b=>agH b λ b=>k (.bool b)
 |v=>k v
theorem axT(v:Value)(k:Value->β):UU v k=k v:=by
 unfold UU;split
 ·exact agI _ _
 ·exact axP _ _
 ·rfl
variable{El:Nat->Type}
noncomputable def UW(y:aI El)(k:aI El->β):β:=match y with
 | .p v=>UU v λ v=>k (.p v)
 | .b i o=>qH i λ i=>qH o λ o=>k (.b i o)
 | .r i g=>qH i λ i=>qH g λ g=>k (.r i g)
 | .v i g lo hi=>qH i λ i=>qH g λ g=>NM lo λ lo=>NM hi λ hi=>k (.v i g lo hi)
 | .s t l=>tZ l λ l=>k (.s t l)
 | .a l=>tZ l λ l=>k (.a l)
 |y=>k y
theorem axU(y:aI El)(k:aI El->β):UW y k=k y:=by
 unfold UW;split<;>simp only[axT,NN,agI,UT]
noncomputable def NL(B:aF El)(k:aF El->β):β:=match B with
 | .c ty cs=>tZ cs λ cs=>k (.c ty cs)
 | .r t g n l=>qH g λ g=>qH n λ n=>tZ l λ l=>k (.r t g n l)
 | .k t sz g cs=>qH g λ g=>tZ cs λ cs=>k (.k t sz g cs)
 | .m kt vt d=>tZ d λ d=>k (.m kt vt d)
 |B=>k B
theorem axR(B:aF El)(k:aF El->β):NL B k=k B:=by
 unfold NL;split<;>simp only[NN,UT]
noncomputable def NK(ws:List Nat)(b:Nat)(l:List (aF El)):Nat->(List (aF El)->β)->β:=List.rec (motive:=λ _=>Nat->(List (aF El)->β)->β) (λ _ k=>k []) (λ B _ a n k=>cond (ff ws n||jF b n) (NL B λ B=>a (n+1) λ r=>k (B::r)) (a (n+1) λ r=>k (B::r))) l
theorem axQ(ws:List Nat)(a:Nat)(l:List (aF El)):∀(n:Nat)(k:List (aF El)->β),NK ws a l n k=k l:=by
 induction l with
 |nil=>exact λ n k=>rfl
 |cons B r b=>
  intro n k
  show cond (ff ws n||jF a n) (NL B λ B=>NK ws a r (n+1) λ r=>k (B::r)) (NK ws a r (n+1) λ r=>k (B::r))=_
  rw[axR,b]
  cases ff ws n||jF a n<;>rfl
noncomputable def US(f:cC El)(k:cC El->β):β:=match f with
 |⟨(d,y)::r,gs,eu⟩=>UW y λ y=>tZ r λ r=>tZ gs λ gs=>tZ eu λ eu=>k ⟨(d,y)::r,gs,eu⟩
 |f=>k f
theorem axS(f:cC El)(k:cC El->β):US f k=k f:=by
 unfold US;split<;>simp only[axU,UT]
end
noncomputable def DV(E:Env){β:Type 1}(f:cC E.T.El)(k:cC E.T.El->β):β:=match E.cl with
 |true=>US f k
 |false=>k f
theorem DW{E:Env}{β:Type 1}(f:cC E.T.El)(k:cC E.T.El->β):DV E f k=k f:=by
 unfold DV;split
 ·exact axS f k
 ·rfl
noncomputable def KH(E:Env){β:Type 1}(ws:List Nat)(a:Nat)(l:List (aF E.T.El))(k:List (aF E.T.El)->β):β:=match E.cl with
 |true=>NK ws a l 0 k
 |false=>k l
theorem PR{E:Env}{β:Type 1}(ws:List Nat)(a:Nat)(l:List (aF E.T.El))(k:List (aF E.T.El)->β):KH E ws a l k=k l:=by
 unfold KH;split
 ·exact axQ ws a l 0 k
 ·rfl
end bc
