/- Part 6 of the proof that is ended in the last text: small logic, what the functions compute, walks, plain laws. -/
import Derived.Test.YteeliipnilghaaaGreatGk5
import Derived.Maps.RangeRun
import Derived.KernelRfl
import Derived.Test.YteeliipnilghaaaGreatProg
import Derived.Test.YteeliipnilghaaaGreatChecked
import Derived.Shelf.SlSortCmp.Whole1
import Derived.Sort.LotA
import Derived.Shelf.SlSortCmp.NoneTotal
open Array renaming getD_eq_getD_getElem?->ek,getElem?_eq_getElem->jh,getElem?_eq_none->hJ,getElem?_modify->jO,getElem?_setIfInBounds->fe,getElem?_toList->ht
open Bool renaming and_eq_true->bH,eq_iff_iff->ie,false_eq_true->hG,false_or->iu,not_eq_true'->gI,not_false->hN,not_true->dC,or_eq_true->hV,true_and->j0
open Classical renaming byContradiction->lW
open List renaming Pairwise.imp_of_mem->lY,all_eq_true->kh,append_assoc->hM,append_nil->hp,cons.injEq->hA,cons_append->jv,drop_eq_getElem_cons->cZ,drop_of_length_le->iQ,drop_zero->gS,exists_of_findSome?_eq_some->ee,ext_getElem?->kL,findSome?_append->lq,findSome?_cons->iJ,findSome?_eq_none_iff->gf,flatMap_cons->iN,getElem?_append_left->fc,getElem?_cons_zero->dG,getElem?_eq_getElem->aJ,getElem?_eq_none->gH,getElem?_eq_some_iff->aO,getElem?_map->jb,getElem?_range->lE,getElem?_set_self->fH,getElem?_take->gT,getElem_map->kr,getElem_mem->hh,length->iv,length_append->dJ,length_cons->de,length_erase_of_mem->lX,length_map->fW,length_mergeSort->mg,length_nil->fT,length_pos_iff->lD,length_reverse->lb,length_take->gw,map_append->kc,map_cons->eu,map_nil->hS,map_singleton->ll,mem_append->b_,mem_cons->cR,mem_cons_of_mem->dX,mem_cons_self->iD,mem_filter->i_,mem_iff_getElem->iP,mem_map->hB,mem_map_of_mem->jM,mem_of_getElem?->bE,mem_range->kS,mem_singleton->dR,mergeSort_perm->kO,nil_append->ju,nodup_append->eQ,nodup_cons->im,nodup_iff_pairwise_ne->lx,nodup_nil->lZ,not_mem_nil->h4,pairwise_iff_getElem->jr,pairwise_mergeSort->l6,perm_ext_iff_of_nodup->k4,range->dM,set_getElem_self->me,take->mf,take_add_one->k5,take_length->jZ,take_of_length_le->hQ
open Nat renaming beq->bS,blt->ez,eq_of_beq_eq_true->bd,le_of_ble_eq_true->cv,le_refl->cC,lt_of_lt_of_le->en,lt_or_ge->gg,mul_one->jB,zero_add->jx,zero_le->gK
open Option renaming bind->d_,bind_some->ae,getD_none->jw,getD_some->iM,map_eq_some_iff->cu,map_none->iW,map_some->fm,some.inj->ei,some.injEq->aF
open Prod renaming fst->kQ,mk.injEq->ca
namespace bc
open Go Go.RowKit aw I Go.ChangeMaps
section
variable{P:Program}{ops:Array Oper}{o:Oper}{rest:List Oper}{a:Act}{w w':World}{v:Value}{Q:Exit->Act->World->Prop}
theorem fz(b:o.guard=none)(hy:bg P o a w v w')(k:wpList P ops Q rest (a.put o.dst v) w'):wpList P ops Q (o::rest) a w:=by
 refine wpList_plain b λ c d=>?_;unfold Oper.wp;rw[show(execOp a.eval o).run P w= .ok (.value v) w' from hy];exact d _ _ k
structure Sd (w:World) (r bm since clock:Nat) (es:Array MapEntry) (acc:List MapEntry):Prop where
 it:∃eB,since<=eB/\w.heap[r]? =some (.mapIter (some bm) since ⟨acc.map (·.born)⟩ eB)
 mp:w.heap[bm]? =some (.map es clock)
theorem aDf{l:List MapEntry}(h:(l.map (·.born)).Nodup):∀ {x y:MapEntry},x∈l->y∈l->x.born=y.born->x=y:=by
 induction l with
 |nil=>intro x y b;simp at b
 |cons z r g=>
  intro x y b hy e
  rw[eu]at h
  have c:=im.1 h
  rcases cR.1 b with ex |Cu
  ·rcases cR.1 hy with d |wb
   ·rw[ex,d]
   ·refine absurd ?_ c.1
    rw[<-ex,e]
    exact jM (f:=(·.born)) wb
  ·rcases cR.1 hy with d |wb
   ·refine absurd ?_ c.1
    rw[<-d,<-e]
    exact jM (f:=(·.born)) Cu
   ·exact g c.2 Cu wb e
theorem XP{α β:Type}{f:α->β}:∀ {l:List α},(l.map f).Nodup->l.Nodup
 |[],_=>lZ
 |a::r,h=>by
  have b:=im.1 (show(f a::r.map f).Nodup from h);exact im.2 ⟨λ c=>b.1 (jM c),XP b.2⟩
theorem XK:∀ {o Y:List Nat},o.Nodup->(∀a∈o,a∈Y)->o.length<=Y.length
 |[],Y,_,_=>gK _
 |a::r,Y,c,aj=>by
  have c:=im.1 c;have d:a∈Y:=aj a (by simp);have f:=XK (o:=r) (Y:=Y.erase a) c.2 λ b af=>(List.mem_erase_of_ne λ e=>by subst e;exact c.1 af).2 (aj b (by simp[af]));rw[lX d]at f;have:0<Y.length:=List.length_pos_of_mem d;simp only[de];omega
theorem azX{es:List MapEntry}{acc:List MapEntry}(c:(es.map (·.born)).Nodup)(g:(acc.map (·.born)).Nodup)(aj:∀e∈acc,e∈es)(h:∀e∈es,e.born∈acc.map (·.born)):acc.Perm es:=by
 have b:acc.Nodup:=XP g;have ne:es.Nodup:=XP c;refine(k4 b ne).2 λ e=>⟨aj e,λ d=>?_⟩
 obtain⟨x,f,i⟩:=hB.1 (h e d);have:=aDf c (aj x f) d i;exact this▸f
def ZC(vi BP ha oq:Nat)(tok:Nat)(h5 l3 lm ki l4:Oper)(c:Code):Code:=
 .block vi (.loop (.seq (.region ha #[h5,l3] false) (.seq (.cond (.tmp tok) .skip (.exit vi)) (.block BP (.seq (.region oq #[lm,ki,l4] false) c)))))
theorem um{d:Option Nat}{v:Value}:(a.put d v).tmps.size=a.tmps.size:=by
 cases d<;>simp[Act.put]
theorem vB{d t:Nat}{v:Value}(h:d≠t):(a.put (some d) v).tmps.getD t undef=a.tmps.getD t undef:=by
 simp only[Act.put,ek,fe,if_neg h]
theorem vA{d:Nat}{v:Value}(h:d<a.tmps.size):(a.put (some d) v).tmps.getD d undef=v:=by
 rw[yz h,if_pos rfl]
theorem BV{t:Nat}:a.eval (.tmp t)=a.tmps.getD t undef:=rfl
def sU(l:List Nat)(a b:Act):Prop:=b.tmps.size=a.tmps.size/\b.defers=a.defers/\ ∀t,t∉l->b.tmps.getD t undef=a.tmps.getD t undef
theorem sU.refl{l:List Nat}{a:Act}:sU l a a:=⟨rfl,rfl,λ _ _=>rfl⟩
theorem sU.put{l:List Nat}{a b:Act}{d:Nat}{v:Value}(h:sU l a b)(aL:d∈l):sU l a (b.put (some d) v):=
 ⟨um.trans h.1,h.2.1,λ t c=>by rw[vB (λ(e:d=t)=>c (by rw[<-e];exact aL))];exact h.2.2 t c⟩
theorem ahi{n vi BP ha oq r bm since clock ti tn tok te tk tv:Nat}{h5 l3 lm ki l4:Oper}{c:Code}{es:Array MapEntry}(f:List MapEntry->Act->World->Prop)
 (kx:h5.op= .next (.tmp ti) false/\h5.dst=some tn/\h5.guard=none)(a6:l3.op= .extract (.tmp tn) 0/\l3.dst=some tok/\l3.guard=none)
 (K:lm.op= .entry (.tmp ti)/\lm.dst=some te/\lm.guard=none)(b5:ki.op= .extract (.tmp te) 0/\ki.dst=some tk/\ki.guard=none)(p':l4.op= .assign (.tmp tk)/\l4.dst=some tv/\l4.guard=none)
 (af:(ez tn n&&ez tok n&&ez te n&&ez tk n)=true)(b2:(!(bS tn ti)&& !(bS tok ti)&& !(bS te ti)&& !(bS tk ti)&& !(bS tok tn)&& !(bS tk te))=true)
 (l:∀x∈es.toList,x.born<since)(L:since<=clock)(ka:(es.toList.map (·.born)).Nodup)
 (M:∀acc a w,f acc a w->a.tmps.size=n/\a.tmps.getD ti undef= .pointer (some ⟨r,0,none⟩)/\Sd w r bm since clock es acc/\(acc.map (·.born)).Nodup/\ ∀e∈acc,e∈es.toList)
 (N:∀acc e a d w w',f acc a w->e∈es.toList->e.born∉acc.map (·.born)->sU [tn,tok,te,tk,tv] a d->(tv<n->d.tmps.getD tv undef=e.key)->bp [r] w w'->w'.heap.size=w.heap.size->(∃eB,since<=eB/\w'.heap[r]? =some (.mapIter (some bm) since ⟨(acc++[e]).map (·.born)⟩ eB)) ->
  c.wp P (λ x d w'=>x= .normal/\f (acc++[e]) d w') d w')
 (Cf:∀acc a d w,f acc a w->acc.Perm es.toList->sU [tn,tok] a d->Q .normal d w)(aG:f [] a w):(ZC vi BP ha oq tok h5 l3 lm ki l4 c).wp P Q a w:=by
 simp only[bH,gI]at af b2
 obtain⟨⟨⟨C,D⟩,O⟩,R⟩:=af
 have C:tn<n:=cv C
 have D:tok<n:=cv D
 have O:te<n:=cv O
 have R:tk<n:=cv R
 obtain⟨⟨⟨⟨⟨S,T⟩,p⟩,aMU⟩,aMV⟩,n6⟩:=b2
 have S:tn≠ti:=λ e=>by subst e;simp at S
 have T:tok≠ti:=λ e=>by subst e;simp at T
 have p:te≠ti:=λ e=>by subst e;simp at p
 obtain⟨yC,q,s⟩:=kx
 obtain⟨t,u,y⟩:=a6
 obtain⟨U,V,W⟩:=K
 obtain⟨vD,rF,mD⟩:=b5
 obtain⟨X,Z,aw8⟩:=p'
 unfold ZC
 refine wp_block (wp_loop_ghost (λ m a w=>∃acc,f acc a w/\m=es.size-acc.length) _ ⟨[],aG,rfl⟩ λ m a w hm=>?_)
 obtain⟨acc,hi,Fv⟩:=hm
 obtain⟨sz,yP,⟨⟨eB,lP,E⟩,F⟩,aC,aj⟩:=M acc a w hi
 refine wp_seq (wp_region_list ?_)
 have iZ:a.eval (.tmp ti)= .pointer (some ⟨r,0,none⟩):=yP
 rcases run_next_at (P:=P) w h5.type r bm since eB ⟨acc.map (·.born)⟩ es clock E F l lP with⟨al,G⟩|⟨e,g,dI,H,G⟩
 ·have cK:bg P h5 a w (.tuple #[.bool false]) w:=by
   simp only[bg,execOp,yC,iZ,Sem.run_bind,G,Result.andThen];rfl
  refine fz s cK ?_;rw[q];refine fz y (Ly (vs:=[.bool false]) (i:=0) (v:=.bool false) t (by rw[BV,vA (by rw[sz];exact C)]) rfl) ?_;rw[u];have Vu:(((a.put (some tn) (.tuple #[.bool false])).put (some tok) (.bool false)).eval (.tmp tok))= .bool false:=by rw[BV,vA (by rw[um,sz];exact D)]
  refine wp_seq (wp_cond_split Vu (λ h=>by cases h) λ _=>wp_exit ?_);simp only[Exit.then,Exit.inBlock,if_true];refine Cf acc a _ w hi (azX ka aC aj λ e g=>?_) ((sU.refl.put (by simp)).put (by simp));have lQ:leftOf es ⟨acc.map (·.born)⟩= #[]:=Array.eq_empty_of_size_eq_zero al;apply lW;intro hc;have:e∈(leftOf es ⟨acc.map (·.born)⟩).toList:=by
   unfold leftOf;simp only[Array.toList_filter,i_];exact⟨g,by simpa using hc⟩
  rw[lQ]at this;simp at this
 ·have Vq:e∈es.toList/\e.born∉acc.map (·.born):=by
   unfold leftOf at g;simp only[Array.toList_filter,i_]at g;exact⟨g.1,by simpa using g.2⟩
  obtain⟨tF,yL⟩:=Vq;obtain⟨b,kB⟩:∃b,b=setBlock dI r (.mapIter (some bm) since ((⟨acc.map (·.born)⟩:Array Nat).push e.born) clock):=⟨_,rfl⟩
  rw[<-kB]at G;have Fs:dI.heap=w.heap:=by rcases H with rfl |rfl<;>rfl
  have FD:r<w.heap.size:=by
   rcases gg r w.heap.size with h |h
   ·exact h
   ·rw[hJ h]at E;cases E
  have ayE:((⟨acc.map (·.born)⟩:Array Nat).push e.born)=⟨(acc++[e]).map (·.born)⟩:=by simp
  have n2:b.heap[r]? =some (.mapIter (some bm) since ((⟨acc.map (·.born)⟩:Array Nat).push e.born) clock):=by
   rw[kB];simp only[setBlock,Fs];rw[fe,if_pos rfl,if_pos FD]
  have A:∀k,k≠r->b.heap[k]? =w.heap[k]? :=λ k hk=>by
   rw[kB];simp only[setBlock,Fs];rw[fe,if_neg (λ e=>hk e.symm)]
  have axq:bm≠r:=λ e=>by rw[e,E]at F;cases F
  have Jh:b.heap.size=w.heap.size:=by rw[kB];simp[setBlock,Fs]
  have jH:bp [r] w b:=⟨by rw[kB];rcases H with rfl |rfl<;>rfl,by rw[kB];rcases H with rfl |rfl<;>rfl,by rw[kB];rcases H with rfl |rfl<;>rfl,by rw[Jh];exact cC _,λ k _ hk=>A k (by simpa using hk)⟩
  have cK:bg P h5 a w (.tuple #[.bool true,e.key,e.val]) b:=by
   simp only[bg,execOp,yC,iZ,Sem.run_bind,G,Result.andThen];rfl
  refine fz s cK ?_;rw[q];refine fz y (Ly (vs:=[.bool true,e.key,e.val]) (i:=0) (v:=.bool true) t (by rw[BV,vA (by rw[sz];exact C)]) rfl) ?_;rw[u];have Vu:(((a.put (some tn) (.tuple #[.bool true,e.key,e.val])).put (some tok) (.bool true)).eval (.tmp tok))= .bool true:=by rw[BV,vA (by rw[um,sz];exact D)]
  refine wp_seq (wp_cond_split Vu (λ _=>wp_skip ?_) λ h=>by cases h);refine wp_block (wp_seq (wp_region_list ?_));obtain⟨j,I⟩:∃j,j=(a.put (some tn) (.tuple #[.bool true,e.key,e.val])).put (some tok) (.bool true):=⟨_,rfl⟩
  rw[<-I];have Z6:j.tmps.size=n:=by rw[I,um,um,sz]
  have ay9:j.eval (.tmp ti)= .pointer (some ⟨r,0,none⟩):=by rw[I,BV,vB T,vB S];exact yP
  have axO:=run_entry_at (P:=P) b r bm since ⟨acc.map (·.born)⟩ es clock e n2 (by rw[A bm axq];exact F) tF ka;have sM:bg P lm j b (.tuple #[e.key,e.val]) b:=by
   simp only[bg,execOp,U,ay9,Sem.run_bind,axO,Result.andThen];rfl
  refine fz W sM ?_;rw[V];refine fz mD (Ly (vs:=[e.key,e.val]) (i:=0) (v:=e.key) vD (by rw[BV,vA (by rw[Z6];exact O)]) rfl) ?_;rw[rF];refine fz aw8 (xC X (v:=e.key) (by rw[BV,vA (by rw[um,Z6];exact R)])) ?_;rw[Z];have gY:sU [tn,tok,te,tk,tv] a (((j.put (some te) (.tuple #[e.key,e.val])).put (some tk) e.key).put (some tv) e.key):=by
   rw[I];exact((((sU.refl.put (by simp)).put (by simp)).put (by simp)).put (by simp)).put (by simp)
  have:=N acc e a _ w b hi tF yL gY (λ Ji=>vA (by rw[um,um,Z6];exact Ji)) jH Jh ⟨clock,L,by rw[n2,ayE]⟩;refine Code.wp_mono (λ x d w' B=>?_) this;obtain⟨rfl,B⟩:=B;refine⟨es.size- (acc++[e]).length,?_,acc++[e],B,rfl⟩;have bC:acc.length<es.size:=by
   have h1:((acc++[e]).map (·.born)).Nodup:=(M _ _ _ B).2.2.2.1;have J:=XK h1 (Y:=es.toList.map (·.born)) λ x aa=>by
    obtain⟨z,ah,rfl⟩:=hB.1 aa;exact jM ((M _ _ _ B).2.2.2.2 z ah)
   simp at J;omega
  simp;omega
end
end bc
namespace bc
open Go Go.RowKit aw I
section
variable{E:Env}
def acM(E:Env)(n:cB)(ss:List Nat)(pas:List cL)(pbs:List bI)(b:j6)(fn:dn E.T.El pas×cF E.T.El pbs->Option (xL E.T.El b))(x r:Code):Prop:=
 ∀da db eS,fn (da,db)=some eS-> ∀(W:World)(M0:List Nat)(X:Nat->Prop)(ρ:List Value)(a:Act)(w:World),a.tmps.size=n.n->a.defers=n.ds->Told E W M0 X ss pas pbs da db ρ a w false ->
  ∀(rest:Code)(Q:Exit->Act->World->Prop),(∀(c:Act)(w':World)(d:List Value),c.tmps.size=n.n->c.defers=n.ds->Told E W M0 X b.ss b.et b.dl eS.1 eS.2 d c w' true ->
   To X (bM id (b' false pbs) false pbs db) (bM id (b' true b.dl) true b.dl eS.2) ρ d w w'->rest.wp E.P Q c w')->(Code.seq x (.seq r rest)).wp E.P Q a w
@[reducible] def J2{T:bR}(ss:List Nat)(pas:List cL)(pbs:List bI)(a:j6)(fn:dn T.El pas×cF T.El pbs->Option (xL T.El a)):fo T:=⟨ss,pas,pbs,[a],λ _ d=>fn d⟩
theorem aDE(F:E.cQ=[]){n:cB}{ss:List Nat}{pas:List cL}{pbs:List bI}{b:j6}{fn:dn E.T.El pas×cF E.T.El pbs->Option (xL E.T.El b)}{x r:Code}(G:b.x= .nm)(aL:acM E n ss pas pbs b fn x r):xS E n ((J2 ss pas pbs b fn).run E 0) x r:=by
 intro rest s t c W M0 X b0 ρ0 w0 ρ a w Q h k;have H:∀ {I:Nat->Prop}{bl':List (aD E.T.El)}{ρ':List Value}{w':World},∀g y,cD E.cQ g=some y->ar E.T (bi I bl' ρ' w') w' ρ' bl' y (.pointer (some ⟨g,0,none⟩)):=λ{_ _ _ _} g y o=>by rw[F]at o;simp[cD]at o
 unfold fo.run at c;split at c
 ·rename_i ys K
  cases q:gv [] (J2 ss pas pbs b fn).pas (J2 ss pas pbs b fn).pbs s.bl ys with
  |mk bl cK=>
  rw[q]at c
  simp only at c
  obtain⟨ev,l,io,L⟩:=vx h.r.mem q (zx h.r (cur:=[]) trivial K)
  split at c
  ·rename_i d sel u v
   simp only[bH]at u
   obtain⟨M,U',N⟩:=u
   obtain⟨da,db⟩:=d
   obtain⟨eS,O,J⟩:=ajy c
   obtain⟨d',e,ak⟩:=J
   simp only[aF]at e
   subst e
   obtain⟨aj,_,P⟩:=tq l s6 v
   obtain⟨R,f⟩:=B5 s6 v
   obtain⟨S,bO⟩:=P (bi (jE X bl ev sel) (bM id (b' false pbs) false pbs db) (gF ev sel) w) λ k f=>aj.Gq f
   have T:=aj.enter l bO
   have U:=S _ L
   have z:(⟨Hl b.x,⟨⟨uW b.ss (ga (iH sel bl.length) (fi bl sel b.dl) b.et eS.1),[],[]⟩,gj bl sel b.dl eS.2,sel++s.ws⟩⟩:b6 E.T.El)=t:=ak
   refine aL da db eS O w _ _ _ a w h.r.dT.ef.size h.r.dT.ef.defers ⟨T,U⟩ rest Q λ V w' Y Z rL A rH=>?_
   obtain⟨C,dF⟩:=O8 M (w:=b) (by simp)
   obtain⟨bQ,dS,fB,fL⟩:=back (gq:=b' true b.dl) l aj R (λ j i B p h h' D=>by
    obtain⟨B',e,ak,_⟩:=f j i p h D;rw[h']at e;cases e;exact N5 C D ak) C (λ i hi=>by
     obtain⟨j,aA,rfl⟩:=iP.1 hi;obtain⟨B,e,_⟩:=f j _ _ (aJ aA) (aJ (by
      have:=aj.len;rw[mU]at this;simp only[gF,fW]at this;omega:j<pbs.length))
     exact(aO.1 e).1) (λ j=>rfl) A.1 rH
   have FF:=fL b.et eS.1 _ A.2
   have yQ:gW s.bl ρ w w' sel:=by
    have:=gW.nil.bF io fB;rwa [hp]at this
   have:=k (fZ ev sel Y) V w' (by
    subst z;exact⟨⟨bQ,⟨⟨Z,rL,λ t y hy=>RM FF hy⟩,λ p m=>by simp at m,λ p m=>by simp at m⟩,H⟩,h.to.trans (io.trans dS),h.wr.bF h.to yQ⟩)
   rw[<-z]at this
   rw[G]at this
   exact this
  ·exact c.elim
 ·exact c.elim
end
end bc
namespace bc
open Go Go.RowKit aw I
section
variable{E:Env}{bt:fb E}{W:World}{M0:List Nat}{X:Nat->Prop}{n:cB}{b0:List (aD E.T.El)}{ρ0:List Value}{w0:World}{ops:Array Oper}{Q:Exit->Act->World->Prop}
theorem O'(a6:c8 E)(j:kU E bt){rest:List Oper}:∀(os:List Oper){s:eG E.T.El}{t:b6 E.T.El}{ρ:List Value}{a:Act}{w:World},(opsL E bt ops n.n os s).out t->t.x= .nm->iT E W M0 X n b0 ρ0 w0 s ρ a w->(∀ρ' l w',iT E W M0 X n b0 ρ0 w0 t.s ρ' l w'->wpList E.P ops Q rest l w')->wpList E.P ops Q (os++rest) a w
 |[],s,t,ρ,a,w,c,_,h,k=>by
  have c:(⟨.nm,s⟩:b6 E.T.El)=t:=c;subst c;exact k ρ a w h
 |o::r,s,t,ρ,a,w,c,g,h,k=>by
  simp only[opsL]at c;show wpList E.P ops Q (o::(r++rest)) a w
  split at c
  ·obtain⟨q,m,J⟩:=D.jR c
   rw[Db]at J
   obtain⟨d,aL,u,p,hy⟩:=Yh (ops:=ops) a6 h.r m
   have next:=O' a6 j r J g (ρ:=ρ) (a:=a.put (some d) u) (w:=w) ⟨p,h.to,h.wr⟩ k
   refine wpList_step λ K v=>?_
   rcases hy with⟨e,hy⟩|⟨e,hy⟩
   ·rw[if_pos e]
    unfold Oper.wp
    rw[show(execOp a.eval o).run E.P w=_ from hy.now]
    show K (a.put o.dst u) w
    rw[aL]
    exact v _ _ next
   ·rw[if_neg (by simp[e]),aL,<-hy]
    exact v _ _ next
  ·exact c.elim
  ·obtain⟨b,m,J⟩:=D.jR c
   have f:=ab1 a6 j h.r m
   have f:=f (wpList E.P ops Q (r++rest)) Q λ ρ' l w' p x e=>by
    have aj:=h.next p x e;cases i:b.x with
    |nm=>
     rw[i]at J
     simp only[Db,O4]at J
     exact O' a6 j r J g aj k
    |ex id=>
     rw[i]at J
     have J:(⟨.ex id,b.s.f,b.s.bl,b.s.ws++s.ws⟩:b6 E.T.El)=t:=J
     subst J
     cases g
    |rt=>
     rw[i]at J
     have J:(⟨.rt,b.s.f,b.s.bl,b.s.ws++s.ws⟩:b6 E.T.El)=t:=J
     subst J
     cases g
    |hP y=>
     rw[i]at J
     have J:(⟨.hP y,b.s.f,b.s.bl,b.s.ws++s.ws⟩:b6 E.T.El)=t:=J
     subst J
     cases g
   unfold wpList
   split
   ·rename_i e
    rw[if_pos e]at f
    exact .inl f
   ·rename_i e
    rw[if_neg e]at f
    exact f
def Hv(E:Env):fb E:=λ _ _ _=>.no
theorem afp:kU E (Hv E):=⟨λ _ _ _ _ h=>h.elim⟩
theorem awB(b:E.cQ=[]){c:Nat->Prop}{bl':List (aD E.T.El)}{ρ':List Value}{w':World}:∀g y,cD E.cQ g=some y->ar E.T (bi c bl' ρ' w') w' ρ' bl' y (.pointer (some ⟨g,0,none⟩)):=λ g y a=>by rw[b]at a;simp[cD]at a
theorem Xn(c:E.cQ=[]){bl:List (aD E.T.El)}{ρ:List Value}{a:Act}{w:World}{fr:List (Nat×aH E.T.El)}(d:Mem E.T W M0 X bl ρ w)(e:a.tmps.size=n.n)(J:a.defers=n.ds)(ap:∀t y,cD fr t=some y->ar E.T (bi X bl ρ w) w ρ bl y (a.tmps.getD t undef)):R E W M0 X n ⟨fr,[],[]⟩ bl ρ a w:=
 ⟨d,⟨⟨e,J,ap⟩,λ p b=>by simp at b,λ p b=>by simp at b⟩,awB c⟩
theorem aip{f:cy E.T.El}{bl:List (aD E.T.El)}{ρ:List Value}{a:Act}{w:World}(h:R E W M0 X n f bl ρ a w):iT E W M0 X n bl ρ w ⟨f,bl,[]⟩ ρ a w:=⟨h,.refl,.nil⟩
end
end bc
namespace bc
open Go Go.RowKit aw I Go.ChangeMaps
structure xT where
 ZD:Nat
 ops:Array Oper
 vi:Nat
 BP:Nat
 ha:Nat
 oq:Nat
 tok:Nat
 h5:Oper
 l3:Oper
 lm:Oper
 ki:Oper
 l4:Oper
 c5:Nat
 om:Array Oper
 eS:Nat
 w6:Array Oper
def xT.x(d:xT):Code:=.seq (.region d.ZD d.ops false) (ZC d.vi d.BP d.ha d.oq d.tok d.h5 d.l3 d.lm d.ki d.l4 (.region d.c5 d.om false))
def xT.r(d:xT):Code:=.region d.eS d.w6 false
def Gb:Code->Code->Option xT
 | .seq (.region ZD ops false) (.block vi (.loop (.seq (.region ha ⟨[h5,l3]⟩ false) (.seq (.cond (.tmp tok) .skip (.exit a)) (.block BP (.seq (.region oq ⟨[lm,ki,l4]⟩ false) (.region c5 om false))))))),.region eS w6 false=>match bS vi a with
   |true=>some ⟨ZD,ops,vi,BP,ha,oq,tok,h5,l3,lm,ki,l4,c5,om,eS,w6⟩
   |false=>none
 |_,_=>none
theorem aje{x r:Code}{d:xT}(h:Gb x r=some d):x=d.x/\r=d.r:=by
 unfold Gb at h;split at h
 ·split at h
  ·rename_i af
   cases h
   rw[<-bd af]
   exact⟨rfl,rfl⟩
  ·cases h
 ·cases h
section
variable{E:Env}{bt:fb E}{W:World}{M0:List Nat}{X:Nat->Prop}{n:cB}{ops:Array Oper}{Q:Exit->Act->World->Prop}
theorem Mem.afg{bl bl':List (aD E.T.El)}{ρ ρ':List Value}{w w':World}(h:Mem E.T W M0 X bl ρ w)(h':Mem E.T W M0 X bl' ρ' w')(aj:w.heap.size<=w'.heap.size)(af:∀k,k<w.heap.size->w'.heap[k]? =w.heap[k]?):bp [] w w':=
 ⟨h'.bW.os.trans h.bW.os.symm,h'.bW.tape.trans h.bW.tape.symm,h'.bW.output.trans h.bW.output.symm,aj,λ k a _=>af k a⟩
theorem PD(a6:c8 E)(e:E.cQ=[]){bl:List (aD E.T.El)}{ρ:List Value}{a:Act}{w:World}{fr:List (Nat×aH E.T.El)}{os rest:List Oper}{α:Type}{K:b6 E.T.El->Option α}{z:α}
 (c:Mem E.T W M0 X bl ρ w)(f:a.tmps.size=n.n)(J:a.defers=n.ds)(ap:∀t y,cD fr t=some y->ar E.T (bi X bl ρ w) w ρ bl y (a.tmps.getD t undef))
 (g:(opsL E (Hv E) ops n.n os ⟨⟨fr,[],[]⟩,bl,[]⟩).run K=some z)(h:∀t,K t=some z->t.x= .nm/\t.s.ws=[])
 (k:∀t ρ' b w',K t=some z->R E W M0 X n t.s.f t.s.bl ρ' b w'->To X bl t.s.bl ρ ρ' w w'->bp [] w w'->wpList E.P ops Q rest b w'):wpList E.P ops Q (os++rest) a w:=by
 obtain⟨t,j,d⟩:=D.sn g
 obtain⟨l,m⟩:=h t d
 refine O' a6 afp os j l (aip (Xn e c f J ap)) λ ρ' b w' aj=>?_
 refine k t ρ' b w' d aj.r aj.to (c.afg aj.r.mem aj.to.sz λ q o=>aj.wr q o λ i hi=>?_)
 rw[m]at hi
 simp at hi
end
def iI(W:List Int):List Int->Int->Option Int
 |[],n=>some n
 |k::r,n=>(idx W (ax (k+1))).bind λ v=>iI W r (ax (n+ax (3+v)))
theorem akV{W:List Int}{x:Int}:∀ {l:List Int}{n:Int},iI W (l++[x]) n=(iI W l n).bind λ m=>(idx W (ax (x+1))).bind λ v=>some (ax (m+ax (3+v)))
 |[],n=>rfl
 |k::r,n=>by
  simp only[jv,iI];cases idx W (ax (k+1))with
  |none=>rfl
  |some v=>exact akV
theorem akU{W:List Int}:∀ {l:List Int}{n m:Int},iI W l n=some m-> ∀x∈l,∃v,idx W (ax (x+1))=some v
 |[],n,m,_,x,aa=>by simp at aa
 |k::r,n,m,h,x,aa=>by
  obtain⟨v,a,J⟩:=fM h;rcases cR.1 aa with rfl |aa
  ·exact⟨v,a⟩
  ·exact akU J x aa
theorem Z4{W:List Int}{l l':List Int}(h:l.Perm l'):∀n,iI W l n=iI W l' n:=by
 induction h with
 |nil=>intro n;rfl
 |cons x _ d=>
  intro n
  simp only[iI]
  cases idx W (ax (x+1))with
  |none=>rfl
  |some v=>exact d _
 |swap x y l=>
  intro n
  simp only[iI]
  cases c:idx W (ax (x+1))with
  |none=>
   cases hy:idx W (ax (y+1))with
   |none=>rfl
   |some v=>simp[c]
  |some u=>
   cases hy:idx W (ax (y+1))with
   |none=>simp[hy]
   |some v=>
    simp only[ae,c,hy]
    congr 1
    unfold ax
    omega
 |trans _ _ a b=>intro n;rw[a,b]
def kf(e:MapEntry):Int:=match e.key with
 | .int _ x=>x
 |_=>0
end bc
namespace bc
open Go Go.RowKit aw I
theorem JG{α:Type}:∀ {fr:List (Nat×α)}{t:Nat}{y:α},cD fr t=some y->(t,y)∈fr
 |[],t,y,h=>by simp[cD]at h
 |p::r,t,y,h=>by
  unfold cD at h;split at h
  ·rename_i af
   simp only[aF]at h
   have:=bd af
   subst this;subst h
   exact iD
  ·exact dX _ (JG h)
def mC{El:Nat->Type}(f:cy El)(s:Nat):Option Value:=match cD f.fr s with
 |some (.p v)=>some v
 |_=>none
theorem awC{El:Nat->Type}{f:cy El}{s:Nat}{v:Value}(h:mC f s=some v):cD f.fr s=some (.p v):=by
 unfold mC at h;split at h
 ·rename_i e
  simp only[aF]at h
  rw[e,h]
 ·cases h
def vC{El:Nat->Type}(f:cy El):List Nat->Option (List Value)
 |[]=>some []
 |s::r=>(mC f s).bind λ v=>(vC f r).bind λ vs=>some (v::vs)
theorem Nc{T:bR}{F:Nat->Prop}{w:World}{ρ:List Value}{bl:List (aD T.El)}{n:cB}{f:cy T.El}{a:Act}(b:q7 T F w ρ bl n f.fr a):∀ {ss:List Nat}{vs:List Value},vC f ss=some vs->ss.map (λ s=>a.tmps.getD s undef)=vs
 |[],vs,h=>by
  simp only[vC,aF]at h;subst h;rfl
 |s::r,vs,h=>by
  obtain⟨v,d,J⟩:=fM h;obtain⟨us,ap,c⟩:=fM J;simp only[aF]at c;subst c;have:=b.get s _ (awC d);simp only[ar]at this;rw[eu,this,Nc b ap]
def rowAt{El:Nat->Type}(bl:List (aD El))(i:Nat):Option (Nat× Σ t,List (El t)):=match bl[i]? with
 |some (.r t g _ l)=>some (g,⟨t,l⟩)
 |_=>none
theorem aGt{El:Nat->Type}{bl:List (aD El)}{i t g:Nat}{l:List (El t)}(h:rowAt bl i=some (g,⟨t,l⟩)):∃k,bl[i]? =some (.r t g k l):=by
 unfold rowAt at h;split at h
 ·rename_i e
  simp only[aF,ca,Sigma.mk.injEq]at h
  obtain⟨rfl,rfl,h⟩:=h
  cases h
  exact⟨_,e⟩
 ·cases h
section
variable{T:bR}{W w w':World}{M0:List Nat}{X:Nat->Prop}{bl bl':List (aD T.El)}{ρ ρ':List Value}
theorem Mem.afd{M:List Nat}(h:Mem T W M0 X bl ρ w)(h':Mem T W M0 X bl' ρ' w')(aj:w.heap.size<=w'.heap.size)(af:∀k,k<w.heap.size->k∉M->w'.heap[k]? =w.heap[k]?):bp M w w':=
 ⟨h'.bW.os.trans h.bW.os.symm,h'.bW.tape.trans h.bW.tape.symm,h'.bW.output.trans h.bW.output.symm,aj,af⟩
theorem Mem.ZI(b:Mem T W M0 X bl ρ w){i t g k:Nat}{l0:List (T.El t)}{a:Value}(hi:bl[i]? =some (.r t g k l0))(d:ρ[i]? =some a):∃A c xs,a= .slice A l0.length c/\rowIs w t (T.ty t).size a l0.length xs/\dE (T.ty t) (bi X bl ρ w) w xs l0:=
 b.ok i _ _ hi d
theorem Mem.akg(b:Mem T W M0 X bl ρ w){i t g k:Nat}{l0 l:List (T.El t)}{a:Value}{A:Option Addr}{c:Nat}{xs:List Value}
 (hi:bl[i]? =some (.r t g k l0))(d:ρ[i]? =some a)(f:bp (bc.af a) w w')(ad:∀k∈bc.af (.slice A l.length c),k∈bc.af a\/(w.heap.size<=k/\k<w'.heap.size))
 (j:rowIs w' t (T.ty t).size (.slice A l.length c) l.length xs)(m:∀F,dE (T.ty t) F w' xs l) :
 Mem T W M0 X (bl.set i (.r t (g+1) 0 l)) (ρ.set i (.slice A l.length c)) w'/\To X bl (bl.set i (.r t (g+1) 0 l)) ρ (ρ.set i (.slice A l.length c)) w w':=by
 have n:kE a:=by
  obtain⟨nz,eB,_,e,_⟩:=b.ZI hi d;rw[e];trivial
 have h:=b.Dq (B':=.r t (g+1) 0 l) (h':=.slice A l.length c) hi d f ad ⟨λ o=>absurd n o,by simp[b1],λ e=>by simp[b1]at e⟩
 exact⟨b.gP hi d f ad h ⟨A,c,xs,rfl,j,m _⟩,h⟩
end
end bc
namespace bc
open Go Go.RowKit aw I
section
variable{E:Env}
structure q6 (T:bR) where
 pas:List cL
 pbs:List bI
 R:Type
 v:R->Value
 WE:Value->Option R
 fn:dn T.El pas×cF T.El pbs->Option R
def q6.run(E:Env)(c:q6 E.T)(ys:List (aH E.T.El))(bl:List (aD E.T.El)):D (fg E.T.El):=match gv [] c.pas c.pbs bl ys with
 |(a,b)=>match ii a [] false c.pas c.pbs b with
  |some (d,_)=>.op (c.fn d) λ x=>.ok ⟨.ret (.p (c.v x)),a,[]⟩
  |none=>.no
def q6.fin{T:bR}(c:q6 T)(r:fg T.El):Option c.R:=match r.e,r.ws with
 | .ret (.p u),[]=>c.WE u
 |_,_=>none
def q6.Eq(E:Env)(bt:fb E)(LE:kV E)(f:Nat)(c:q6 E.T):Prop:=∀(da:dn E.T.El c.pas)(db:cF E.T.El c.pbs),(nQ E bt LE f (ga id (b' false c.pbs) c.pas da) (bM id (b' false c.pbs) false c.pbs db)).run c.fin=c.fn (da,db)
theorem atA{f:Nat}{bt:fb E}{LE:kV E}(a6:c8 E)(q:kU E bt)(s:u2 E LE)(t:E.cQ=[]){c:q6 E.T}(hi:∀u x,c.WE u=some x->u=c.v x)(z:c.Eq E bt LE f):j3 E f (c.run E):=by
 intro ys A r a W M0 X ρ0 w vs B _ C;unfold q6.run at a;cases n:gv [] c.pas c.pbs A ys with
 |mk bl T=>
 rw[n]at a;obtain⟨ρ,l,io,F⟩:=vx B n C;simp only at a;split at a
 ·rename_i d sel G
  obtain⟨da,db⟩:=d
  obtain⟨x,H,J⟩:=a
  have J:(⟨.ret (.p (c.v x)),bl,[]⟩:fg E.T.El)=r:=J
  subst J
  obtain⟨aj,_,I⟩:=tq l s6 G
  obtain⟨K,bO⟩:=I (bi (jE X bl ρ sel) (bM id (b' false c.pbs) false c.pbs db) (gF ρ sel) w) λ k b=>aj.Gq b
  have o:=aj.enter l bO
  obtain⟨U,L,j⟩:=D.sn ((z da db).trans H)
  have M:∀ {N bl' ρ' w'},Hw E N bl' ρ' w':=λ{_ _ _ _} g y p=>by rw[t]at p;simp[cD]at p
  have hc:=((MR a6 q s).ok _ _ _ _ L).2 _ _ _ _ _ vs o M (K vs F)
  refine hc.mono λ e w' O=>?_
  obtain⟨V,gM,P,kN,h⟩:=O
  unfold q6.fin at j
  split at j
  ·rename_i u Q R
   have S:=hi _ _ j
   subst S
   have m:bp [] w w':=o.afd gM P.sz λ k b _=>kN k b λ i hi=>by rw[R]at hi;simp at hi
   refine⟨ρ,l.eV m,io.trans (Mem.su m),λ k b _=>m.block k b (by simp),?_⟩
   rw[Q]at h
   cases e with
   |returned v=>
    simp only[BF,ar]at h
    have ap:ar E.T (bi X bl ρ w') w' ρ bl (.p (c.v x)) v:=by simp only[ar];exact h
    exact ap
   |panicked _=>exact h.elim
   |_=>exact h.elim
  ·cases j
 ·exact a.elim
noncomputable def aP.rd(s:aP E)(f:Nat)(c:q6 E.T)(a:c.Eq E s.t.bt s.t.LE f)(hi:∀u x,c.WE u=some x->u=c.v x)(ad:e2 E.cb f=true:=by kernel_rfl):aP E:=⟨s.t.f f (c.run E),λ h=>(s.ok h).oW ad (atA h (k1 h (s.ok h).ce (s.ok h).le 100) (s.ok h).le s.cQ hi a),s.cQ⟩
theorem cO.Ok.awd{t:cO E}(a6:c8 E)(h:t.Ok){f:Nat}(ad:e2 E.cb f=true){c:hZ E.T}(hc:j3 E f (c.run E)):(t.vy f c).Ok:=by
 refine h.oW ad λ ys bl r a=>?_;split at a
 ·exact hc ys bl r a
 ·exact((k1 a6 h.ce h.le 100).ok f ys bl r a).2
noncomputable def aP.ec(s:aP E)(f:Nat)(c:hZ E.T)(hc:j3 E f (c.run E))(ad:e2 E.cb f=true:=by kernel_rfl):aP E:=⟨s.t.vy f c,λ h=>(s.ok h).awd h ad hc,s.cQ⟩
structure AR (T:bR) where
 ss:List Nat
 pas:List cL
 pbs:List bI
 out:Nat
 R:Type
 v:R->Value
 fn:dn T.El pas×cF T.El pbs->Option R
def AR.run(E:Env)(c:AR E.T)(s:eG E.T.El):D (b6 E.T.El):=match po E s.bl s.f [] (c.ss.map .tmp)with
 |some ys=>match gv [] c.pas c.pbs s.bl ys with
  |(a,b)=>match ii a [] false c.pas c.pbs b with
   |some (d,_)=>.op (c.fn d) λ x=>.ok ⟨.nm,⟨⟨[(c.out,.p (c.v x))],[],[]⟩,a,s.ws⟩⟩
   |none=>.no
 |none=>.no
def AR.AU(E:Env)(n:cB)(c:AR E.T)(x r:Code):Prop:=
 ∀da db eS,c.fn (da,db)=some eS-> ∀(W:World)(M0:List Nat)(X:Nat->Prop)(ρ:List Value)(a:Act)(w:World),a.tmps.size=n.n->a.defers=n.ds->Told E W M0 X c.ss c.pas c.pbs da db ρ a w false ->
  ∀(rest:Code)(Q:Exit->Act->World->Prop),(∀(b:Act)(w':World),b.tmps.size=n.n->b.defers=n.ds->b.tmps.getD c.out undef=c.v eS->bp [] w w'->rest.wp E.P Q b w')->(Code.seq x (.seq r rest)).wp E.P Q a w
theorem atz(m:E.cQ=[]){n:cB}{c:AR E.T}{x r:Code}(aL:c.AU E n x r):xS E n (c.run E) x r:=by
 intro rest s t b W M0 X b0 ρ0 w0 ρ a w Q h k;have o:∀ {u:Nat->Prop}{bl':List (aD E.T.El)}{ρ':List Value}{w':World},∀g y,cD E.cQ g=some y->ar E.T (bi u bl' ρ' w') w' ρ' bl' y (.pointer (some ⟨g,0,none⟩)):=λ{_ _ _ _} g y j=>by rw[m]at j;simp[cD]at j
 unfold AR.run at b;split at b
 ·rename_i ys v
  cases l:gv [] c.pas c.pbs s.bl ys with
  |mk bl O=>
  rw[l]at b
  simp only at b
  obtain⟨ev,e,io,z⟩:=vx h.r.mem l (zx h.r (cur:=[]) trivial v)
  split at b
  ·rename_i d sel A
   obtain⟨da,db⟩:=d
   obtain⟨eS,B,J⟩:=b
   have J:(⟨.nm,⟨⟨[(c.out,.p (c.v eS))],[],[]⟩,bl,s.ws⟩⟩:b6 E.T.El)=t:=J
   obtain⟨aj,_,C⟩:=tq e s6 A
   obtain⟨D,bO⟩:=C (bi (jE X bl ev sel) (bM id (b' false c.pbs) false c.pbs db) (gF ev sel) w) λ k F=>aj.Gq F
   have G:=aj.enter e bO
   have H:=D _ z
   refine aL da db eS B w _ _ _ a w h.r.dT.ef.size h.r.dT.ef.defers ⟨G,H⟩ rest Q λ I w' K L M f=>?_
   have:=k ev I w' (by
    subst J;refine⟨⟨e.eV f,⟨⟨K,L,λ t y hy=>?_⟩,λ p i=>by simp at i,λ p i=>by simp at i⟩,o⟩,h.to.trans (io.trans (Mem.su f)),?_⟩
    ·have:=JG hy
     simp only[dR,ca]at this
     obtain⟨rfl,rfl⟩:=this
     simp only[ar]
     exact M
    ·have:=h.wr.bF h.to (s':=[]) (w'':=w') (bl':=s.bl) (ρ':=ρ) λ q N _=>f.block q N (by simp)
     exact this)
   rw[<-J]at this
   exact this
  ·exact b.elim
 ·exact b.elim
end
end bc
namespace Go.Proofs.YteeliipnilghaaaGreat
open Go Go.RowKit aw I bc
@[reducible] def sx:List bI:=[.c 140 [.B 1,.l 134,.l 3,.l 124,.l 120,.l 121,.M 2],.c 24 [.l 3,.i .i64,.i .i64,.i .i64,.i .i64,.l 3,.i .i64],.m 3 4]
noncomputable def sy:Code×Code:=((Dd Tryz.prog 55 0).getD (.skip,.skip))
noncomputable def hx:xT:=(Gb sy.1 sy.2).getD ⟨0,#[],0,0,0,0,0,default,default,default,default,default,0,#[],0,#[]⟩
theorem aH1:Dd Tryz.prog 55 0=some sy:=by kernel_rfl
theorem aH3:Gb sy.1 sy.2=some hx:=by kernel_rfl
def aH5(d:dn bq.El [.p (.B 0),.p (.i .i64)]×cF bq.El sx):List Int:=List.map (α:=Int×Bool) kQ d.2.2.2.1
def aak:AR bq:=⟨[0,3],[.p (.B 0),.p (.i .i64)],sx,2,Int,.int .i64,λ d=>iI d.2.2.1.1 (aH5 d) d.1.2.1⟩
theorem aH4:hx.h5.op= .next (.tmp 9) false/\hx.h5.dst=some 10/\hx.h5.guard=none:=by refine⟨?_,?_,?_⟩<;>kernel_rfl
theorem aH6:hx.l3.op= .extract (.tmp 10) 0/\hx.l3.dst=some 11/\hx.l3.guard=none:=by refine⟨?_,?_,?_⟩<;>kernel_rfl
theorem aH7:hx.lm.op= .entry (.tmp 9)/\hx.lm.dst=some 12/\hx.lm.guard=none:=by refine⟨?_,?_,?_⟩<;>kernel_rfl
theorem aH8:hx.ki.op= .extract (.tmp 12) 0/\hx.ki.dst=some 13/\hx.ki.guard=none:=by refine⟨?_,?_,?_⟩<;>kernel_rfl
theorem aH9:hx.l4.op= .assign (.tmp 13)/\hx.l4.dst=some 4/\hx.l4.guard=none:=by refine⟨?_,?_,?_⟩<;>kernel_rfl
noncomputable def aIa:List Oper:=hx.ops.toList.take 4
noncomputable def KT:Oper:=(hx.ops.toList.drop 4).headD hx.h5
theorem aH_:hx.ops.toList=aIa++[KT]:=by kernel_rfl
theorem aan:KT.op= .range 70 (.tmp 8)/\KT.dst=some 9/\KT.guard=none:=by refine⟨?_,?_,?_⟩<;>kernel_rfl
def fX{T:bR}(t:b6 T.El):Bool:=match t.x,t.s.ws with
 | .nm,[]=>true
 |_,_=>false
theorem N1{T:bR}{t:b6 T.El}(h:fX t=true):t.x= .nm/\t.s.ws=[]:=by
 unfold fX at h;split at h
 ·rename_i a J;exact⟨a,J⟩
 ·cases h
def aal(t:b6 bq.El):Option (Nat×Nat×Nat×Value):=match fX t,cD t.s.f.fr 8,cD t.s.f.fr 0,cD t.s.f.fr 3 with
 |true,some (.m j),some (.b i o),some (.p u)=>some (j,i,o,u)
 |_,_,_,_=>none
theorem aly{t:b6 bq.El}{j i o:Nat}{u:Value}(h:aal t=some (j,i,o,u)):fX t=true/\cD t.s.f.fr 8=some (.m j)/\cD t.s.f.fr 0=some (.b i o)/\cD t.s.f.fr 3=some (.p u):=by
 unfold aal at h;split at h
 ·rename_i a J ap b
  simp only[aF,ca]at h
  obtain⟨rfl,rfl,rfl,rfl⟩:=h
  exact⟨a,J,ap,b⟩
 ·cases h
def Qj(t:b6 bq.El):Option (Value×Nat×Nat×Value):=match fX t,cD t.s.f.fr 9,cD t.s.f.fr 0,cD t.s.f.fr 3 with
 |true,some (.p v),some (.b i o),some (.p u)=>some (v,i,o,u)
 |_,_,_,_=>none
theorem alz{t:b6 bq.El}{v:Value}{i o:Nat}{u:Value}(h:Qj t=some (v,i,o,u)):fX t=true/\cD t.s.f.fr 9=some (.p v)/\cD t.s.f.fr 0=some (.b i o)/\cD t.s.f.fr 3=some (.p u):=by
 unfold Qj at h;split at h
 ·rename_i a J ap b
  simp only[aF,ca]at h
  obtain⟨rfl,rfl,rfl,rfl⟩:=h
  exact⟨a,J,ap,b⟩
 ·cases h
theorem ac4{T:bR}{F F':Nat->Prop}{w w':World}{ρ ρ':List Value}{bl bl':List (aD T.El)}{i o:Nat}{v a:Value}(b:mr T ρ ρ' bl bl')(h:ar T F w ρ bl (.b i o) v)(h':ar T F' w' ρ' bl' (.b i o) a):a=v:=by
 simp only[ar]at h h';obtain⟨g,c,ak⟩:=h;obtain⟨g',aS,bN⟩:=h';obtain⟨u,d,e,_⟩:=b.at_ i _ c;have:=e (by simp[kE]);rw[d,this]at aS;cases aS;rw[ak,bN]
theorem Tj{F:Nat->Prop}{w:World}:∀ {es:List MapEntry}{d:List (Int×Bool)},jA (kt:=3) (vt:=4) bq F w tQ es d->es.map kf=d.map kQ
 |[],[],_=>rfl
 |[],_::_,h=>h.elim
 |_::_,[],h=>h.elim
 |e::es,p::d,h=>by
  obtain⟨a,_,ap⟩:=h;rw[eu,eu,Tj ap];congr 1;unfold kf;rw[a];rfl
theorem Xc{El:Nat->Type}{s t u:Nat}{x y z:aH El}(h:cD [(s,x),(t,y)] u=some z):(u=s/\z=x)\/(u=t/\z=y):=by
 simp only[cD]at h;split at h
 ·rename_i af
  simp only[aF]at h
  exact .inl ⟨(bd af).symm,h.symm⟩
 ·split at h
  ·rename_i af
   simp only[aF]at h
   exact .inr ⟨(bd af).symm,h.symm⟩
  ·cases h
theorem Ti{F:Nat->Prop}{w:World}:∀ {es:List MapEntry}{d:List (Int×Bool)},jA (kt:=3) (vt:=4) bq F w tQ es d-> ∀e∈es,e.key= .int .i64 (kf e)
 |[],_,_,e,he=>by simp at he
 |_::_,[],h,_,_=>h.elim
 |x::es,p::d,h,e,he=>by
  obtain⟨a,_,ap⟩:=h;rcases cR.1 he with rfl |he
  ·unfold kf
   rw[a]
   rfl
  ·exact Ti ap e he
theorem aB3{El:Nat->Type}{b c d a u:Nat}{e f g i z:aH El}(h:cD [(b,e),(c,f),(d,g),(a,i)] u=some z):(u=b/\z=e)\/(u=c/\z=f)\/(u=d/\z=g)\/(u=a/\z=i):=by
 unfold cD at h;split at h
 ·rename_i af
  simp only[aF]at h
  exact .inl ⟨(bd af).symm,h.symm⟩
 ·unfold cD at h
  split at h
  ·rename_i af
   simp only[aF]at h
   exact .inr (.inl ⟨(bd af).symm,h.symm⟩)
  ·exact .inr (.inr (Xc h))
def aam(t:b6 bq.El):Option (List Value):=match fX t with
 |true=>vC t.s.f [2]
 |false=>none
theorem alA{t:b6 bq.El}{z}(h:aam t=some z):fX t=true/\vC t.s.f [2]=some z:=by
 unfold aam at h;split at h
 ·rename_i a;exact⟨a,h⟩
 ·cases h
set_option maxRecDepth 100000
theorem aIj:aak.AU aE ⟨29,[]⟩ sy.1 sy.2:=by
 intro da db eS fj W M0 X ρ a w c' rL dj rest Q k;obtain⟨aa,az⟩:=aje aH3;rw[aa,az];obtain⟨aM',(f:Int),aNa⟩:=da;obtain⟨M,⟨(g:List Int),N⟩,(j:List (Int×Bool)),O⟩:=db;obtain⟨S,Vf⟩:∃S:Int,S=eS:=⟨eS,rfl⟩
 subst Vf;have dF:iI g (j.map kQ) f=some S:=fj;obtain⟨A,l⟩:=dj;have l:a7 bq _ w ρ _ [.b 0 0,.p (.int .i64 f)] [a.tmps.getD 0 undef,a.tmps.getD 3 undef]:=l;simp only[a7]at l;obtain⟨v0,l0,cp,C,v3,jN,aS,ap,bN⟩:=l;simp only[hA]at cp;obtain⟨rfl,rfl⟩:=cp;simp only[hA]at aS;obtain⟨rfl,rfl⟩:=aS;obtain⟨tJ,ak⟩:=A.rY (i:=2) (B:=.m 3 4 j) rfl;obtain⟨bm,Cc,Sf,Vd,es,clock,tF,IH,V8,Fg⟩:=A.ok 2 (.m 3 4 j) _ rfl ak;subst Cc;obtain rfl:Sf=(tQ:hX (aE.T.El 3)):=by
  have U8:(aE.T.e 3).key=some (tQ:hX (aE.T.El 3)):=by kernel_rfl
  exact ei (Vd.symm.trans U8)
 have IZ:=Tj IH;have ka:(es.toList.map (·.born)).Nodup:=lx.2 (V8.imp λ h=>Nat.ne_of_lt h);refine wp_seq (wp_seq (wp_region_list ?_));rw[aH_];refine PD (n:=⟨29,[]⟩) (K:=aal) (z:=(2,0,0,.int .i64 f)) jG rfl A c' rL (fr:=[(0,.b 0 0),(3,.p (.int .i64 f))]) (λ t y hy=>?_) (by kernel_rfl) (λ t h=>N1 (aly h).1) λ t ev q b Vb D rH E=>?_
 ·rcases Xc hy with⟨rfl,rfl⟩|⟨rfl,rfl⟩
  ·exact C
  ·exact ap
 obtain⟨br,bA,bU,gd⟩:=aly Vb;have s:∀ {k:Nat}{o:Obj}{w:World},w.heap[k]? =some o->k<w.heap.size:=λ{k o w} h=>by
  rcases gg k w.heap.size with h1 |h1
  ·exact h1
  ·rw[hJ h1]at h;cases h
 have f8:=D.dT.ef.get 8 _ bA;simp only[ar]at f8;obtain⟨asO,g1,g2⟩:=f8;obtain⟨mb,bk,R,_⟩:=rH.L.at_ 2 _ ak;have R:=R (by simp[kE]);rw[bk,R]at g1;cases g1;have f0:q.tmps.getD 0 undef=a.tmps.getD 0 undef:=ac4 rH.L C (D.dT.ef.get 0 _ bU);have f3:q.tmps.getD 3 undef= .int .i64 f:=by simpa only[ar]using D.dT.ef.get 3 _ gd
 have F:b.heap[bm]? =some (.map es clock):=(E.block bm (s tF) (by simp)).trans tF;have T:q.eval (.tmp 8)= .map (some bm):=g2;obtain⟨r,fD⟩:∃r,r=b.heap.size:=⟨_,rfl⟩
 have cK:bg aE.P KT q b (.pointer (some ⟨r,0,none⟩)) (b.alloc (.mapIter (some bm) clock #[] clock)):=by
  rw[fD];simp only[bg,execOp,aan.1,T];rw[Sem.run_bind,run_range_map (P:=aE.P) b 70 3 4 bm es clock Tryz.underlying70 F];rfl
 refine fz aan.2.2 cK ?_;rw[aan.2.1];refine wpList_nil ?_;obtain⟨G,kB⟩:∃G,G=b.alloc (.mapIter (some bm) clock #[] clock):=⟨_,rfl⟩
 rw[<-kB];have Fb:bp [] b G:=by rw[kB];exact bp.alloc [] b _
 have Jj:G.heap[r]? =some (.mapIter (some bm) clock #[] clock):=by rw[kB,fD];exact heap_alloc_new b _
 have n2:r<G.heap.size:=s Jj;have HN:q.tmps.size=29:=D.dT.ef.size;have SA:q.defers=[]:=D.dT.ef.defers
 refine ahi (n:=29) (r:=r) (bm:=bm) (since:=clock) (clock:=clock) (ti:=9) (tn:=10) (tok:=11) (te:=12) (tk:=13) (tv:=4) (es:=es)
  (λ acc u w'=>u.tmps.size=29/\u.defers=[]/\u.tmps.getD 0 undef=a.tmps.getD 0 undef/\u.tmps.getD 9 undef= .pointer (some ⟨r,0,none⟩)/\Sd w' r bm clock clock es acc/\(acc.map (·.born)).Nodup/\(∀e∈acc,e∈es.toList)/\bp [] b w'/\ ∃m,u.tmps.getD 3 undef= .int .i64 m/\iI g (acc.map kf) f=some m)
  aH4 aH6 aH7 aH8 aH9 (by decide) (by decide) Fg (cC _) ka (λ acc u w' h=>⟨h.1,h.2.2.2.1,h.2.2.2.2.1,h.2.2.2.2.2.1,h.2.2.2.2.2.2.1⟩) ?_ ?_ ?_
 ·intro acc e a2 a3 jq qP U V yL c Ji Nf NK tG
  obtain⟨Y,Z,i3,i4,⟨i5,azy⟩,i6,i7,i8,m,i9,p⟩:=U
  have H:bp [] b qP:=i8.trans Nf λ x aa=>.inr (by simp at aa;omega)
  have rO:=A.eV (E.trans H (by simp))
  have t4:=Ji (by decide)
  rw[Ti IH e V]at t4
  obtain⟨v,l⟩:=akU dF (kf e) (by rw[<-IZ];exact jM V)
  refine wp_region_list ?_
  rw[show hx.om.toList=hx.om.toList++[] by simp]
  refine PD (n:=⟨29,[]⟩) (K:=Qj) (z:=(.pointer (some ⟨r,0,none⟩),0,0,.int .i64 (I.ax (m+I.ax (3+v))))) jG rfl rO (c.1.trans Y) (c.2.1.trans Z) (fr:=[(4,.p (.int .i64 (kf e))),(3,.p (.int .i64 m)),(9,.p (.pointer (some ⟨r,0,none⟩))),(0,.b 0 0)]) (λ t y hy=>?_) ?_ (λ t h=>N1 (alz h).1) λ t' aop a5 xg Vc d J L=>?_
  ·rcases aB3 hy with⟨rfl,rfl⟩|⟨rfl,rfl⟩|⟨rfl,rfl⟩|⟨rfl,rfl⟩
   ·simpa only[ar]using t4
   ·simp only[ar]
    rw[c.2.2 3 (by decide)]
    exact i9
   ·simp only[ar]
    rw[c.2.2 9 (by decide)]
    exact i4
   ·have:=(Mem.su (X:=X) (bl:=bM (El:=aE.T.El) id (b' false sx) false sx (M,(g,N),j,O)) (ρ:=ρ) (E.trans H (by simp))).v C
    rw[c.2.2 0 (by decide),i3]
    exact this
  ·have e:(opsL aE (Hv aE) hx.om 29 hx.om.toList ⟨⟨[(4,.p (.int .i64 (kf e))),(3,.p (.int .i64 m)),(9,.p (.pointer (some ⟨r,0,none⟩))),(0,.b 0 0)],[],[]⟩,bM id (b' false sx) false sx (M,(g,N),j,O),[]⟩).run Qj=(idx g (I.ax (kf e+1))).bind λ v=>some (.pointer (some ⟨r,0,none⟩),0,0,.int .i64 (I.ax (m+I.ax (3+v)))):=by kernel_rfl
   exact e.trans (by rw[l];rfl)
  ·obtain⟨cW,eF,fw,jd⟩:=alz Vc
   refine wpList_nil ⟨rfl,d.dT.ef.size,d.dT.ef.defers,?_,by simpa only[ar]using d.dT.ef.get 9 _ eF,⟨?_,?_⟩,?_,?_,H.trans L (by simp),_,by simpa only[ar]using d.dT.ef.get 3 _ jd,?_⟩
   ·have:=(Mem.su (X:=X) (bl:=bM (El:=aE.T.El) id (b' false sx) false sx (M,(g,N),j,O)) (ρ:=ρ) (E.trans H (by simp))).v C
    exact ac4 J.L this (d.dT.ef.get 0 _ fw)
   ·obtain⟨eB,kF,pb⟩:=tG
    exact⟨eB,kF,(L.block r (s pb) (by simp)).trans pb⟩
   ·have Nl:qP.heap[bm]? =some (.map es clock):=(H.block bm (s F) (by simp)).trans F
    exact(L.block bm (s Nl) (by simp)).trans Nl
   ·rw[kc,ll]
    exact eQ.2 ⟨i6,by simp,λ x aa y hy ai=>by simp at hy;subst hy;subst ai;exact yL aa⟩
   ·intro x aa
    rcases b_.1 aa with aa |aa
    ·exact i7 x aa
    ·simp at aa;subst aa;exact V
   ·rw[kc,ll,akV,p,ae,l,ae]
 ·intro acc a2 a3 jq U V5 c
  obtain⟨Y,Z,i3,i4,i5,i6,i7,i8,m,i9,p⟩:=U
  have ayq:m=S:=by
   have h1:=Z4 (W:=g) (V5.map kf) f;rw[p,IZ,dF]at h1;exact ei h1
  subst ayq
  have U9:=E.trans i8 (by simp)
  refine wp_seq (wp_region_list ?_)
  rw[show hx.w6.toList=hx.w6.toList++[] by simp]
  refine PD (n:=⟨29,[]⟩) (K:=aam) (z:=[.int .i64 m]) jG rfl (A.eV U9) (c.1.trans Y) (c.2.1.trans Z) (fr:=[(3,.p (.int .i64 m)),(0,.b 0 0)]) (λ t y hy=>?_) (by kernel_rfl) (λ t h=>N1 (alA h).1) λ t' aop a5 xg Vc d J L=>?_
  ·rcases Xc hy with⟨rfl,rfl⟩|⟨rfl,rfl⟩
   ·simp only[ar]
    rw[c.2.2 3 (by decide)]
    exact i9
   ·have:=(Mem.su (X:=X) (bl:=bM (El:=aE.T.El) id (b' false sx) false sx (M,(g,N),j,O)) (ρ:=ρ) U9).v C
    rw[c.2.2 0 (by decide),i3]
    exact this
  ·have sw:=Nc d.dT.ef (alA Vc).2
   simp only[eu,hS,hA,and_true]at sw
   exact wpList_nil (k a5 xg d.dT.ef.size d.dT.ef.defers sw (U9.trans L (by simp)))
 ·refine⟨by rw[um,HN],SA,by rw[vB (by decide),f0],vA (by rw[HN];decide),⟨⟨clock,cC _,Jj⟩,(Fb.block bm (s F) (by simp)).trans F⟩,by simp,by simp,Fb,f,by rw[vB (by decide),f3],rfl⟩
end Go.Proofs.YteeliipnilghaaaGreat
namespace Go.Proofs.YteeliipnilghaaaGreat
open Go Go.RowKit aw I bc
set_option maxRecDepth 100000
theorem aH':xS aE ⟨fl aE.P 55,[]⟩ (aak.run aE) sy.1 sy.2:=by
 have e:fl aE.P 55=29:=by kernel_rfl
 rw[e];exact atz rfl aIj
noncomputable def aqU(F:Nat):aP aE:=(aqT F).ajd 55 0 (aak.run aE) sy.1 sy.2 (λ _ _=>aH') aH1
def WG:Value->Option Int
 | .int .i64 x=>some x
 |_=>none
theorem azY(u:Value)(x:Int)(h:WG u=some x):u= .int .i64 x:=by
 unfold WG at h;split at h
 ·cases h;rfl
 ·cases h
def E8(h:List Int)(m:List (Int×Bool)):Option Int:=iI h (m.map kQ) 0
def aH2:q6 bq:=⟨[.p (.B 0)],sx,Int,.int .i64,WG,λ d=>(E8 d.2.2.1.1 d.2.2.2.1).bind λ x=>some x⟩
noncomputable def RU(F:Nat):aP aE:=(aqU F).rd 55 aH2 (λ da db=>by kernel_rfl) azY
end Go.Proofs.YteeliipnilghaaaGreat
namespace Go.Proofs.YteeliipnilghaaaGreat
open Go Go.RowKit aw I bc
def Eb(F:Nat):Nat->(List Int)->(Int)->(Int)->(List Int)->Option ((Unit×Unit)×List Int×Unit)
 |0,_,_,_,_=>none
 |aQ+1,b,c,a,d=>
  cond (decide (a<c)) ((idx b a).bind λ e=>
(bF 8 d [e]).bind λ f=>
Eb F aQ (b) (c) (ax (a+1)) (f)) (
some (((),()),((d),())))
def aif(F:Nat):fo bq:=⟨[0,3,6,7],[.p (.l 3),.p (.R 0),.p (.i .i64),.p (.i .i64)],[.r 109 false],[⟨.nm,[3],[.p (.R 0)],[.r 109 false]⟩],λ k d=>Eb F k d.1.1 d.1.2.2.1 d.1.2.2.2.1 d.2.1⟩
theorem avY(F:Nat):(aif F).Eq aE (RU F).t.bt ((RU F).t.LE 39) (fl aE.P 39) 0 (hg aE.P 39 0):=⟨λ d=>by kernel_rfl,λ k da db=>by kernel_rfl⟩
noncomputable def RV(F:Nat):aP aE:=(RU F).fR 39 0 F (aif F) (avY F)
def RI(F:Nat)(a:List Int):Option ((List Int×Unit)×Unit):=
 (Eb F F a (↑a.length:Int) 0 []).bind λ b=>
some (((b.snd.fst),()),())
def ahF(F:Nat):ej bq:=⟨[.p (.l 3)],[],[.p (.l 109)],[],λ d=>RI F d.1.1⟩
theorem avX(F:Nat):(ahF F).Eq aE (RV F).t.bt (RV F).t.LE 39:=λ da db=>by kernel_rfl
noncomputable def aqV(F:Nat):aP aE:=(RV F).E5 39 (ahF F) (avX F)
noncomputable def RW(F:Nat):aP aE:=(aqV F).ec 39 (Oa F) (adu F)
end Go.Proofs.YteeliipnilghaaaGreat
namespace Go.Proofs.YteeliipnilghaaaGreat
open Go Go.RowKit aw I bc
def B2(F:Nat)(c:List Int)(d:Int)(e:Int)(f:Int)(g:Int)(h:List Int)(i:Int)(j:List ao)(k:List Int)(l:List (List I.Field))(m:List (List (List UInt8)))(n:List (List I.Target))(o:List Int):Option ((Unit×Int×Unit)×(List Int×Int×Int×Int×Int×List Int×Int×List ao×List Int×List (List I.Field)×List (List (List UInt8))×List (List I.Target)×List Int×List Int×Unit×Unit)×List (Int×Bool)×Unit⊕
 (Unit×Int×Unit)×Unit):=
 di (jT (j' F (aU.mk c d e f g h i) (aR.mk j k l m n))) (λ a=>
cond (decide (a.snd=0)) ((Ec F
 (bj.mk (aU.mk a.fst.H.Words a.fst.H.au a.fst.H.aN a.fst.H.aX a.fst.H.aW a.fst.H.aV a.fst.H.Next)
  (b9.mk (aR.mk a.fst.S.K.a8 a.fst.S.K.aZ a.fst.S.K.Fields a.fst.S.K.Names a.fst.S.K.a1)) a.fst.au a.fst.aN a.fst.dH)
 o).bind λ p=>
some (.inl (((),((p),())),(((a.fst.H.Words),((a.fst.H.au),((a.fst.H.aN),((a.fst.H.aX),((a.fst.H.aW),((a.fst.H.aV),((a.fst.H.Next),((a.fst.S.K.a8),((a.fst.S.K.aZ),((a.fst.S.K.Fields),((a.fst.S.K.Names),((a.fst.S.K.a1),((a.fst.au),((a.fst.aN),((),()))))))))))))))),((a.fst.dH),()))))) (
some (.inl (((),((a.snd),())),(((a.fst.H.Words),((a.fst.H.au),((a.fst.H.aN),((a.fst.H.aX),((a.fst.H.aW),((a.fst.H.aV),((a.fst.H.Next),((a.fst.S.K.a8),((a.fst.S.K.aZ),((a.fst.S.K.Fields),((a.fst.S.K.Names),((a.fst.S.K.a1),((a.fst.au),((a.fst.aN),((),()))))))))))))))),((a.fst.dH),())))))) (λ b=>
cond (decide (b=0)) (none) (
some (.inr (((),((b),())),()))))
def ahC(F:Nat):kq bq:=⟨[.a [.l 3,.i .i64,.i .i64,.i .i64,.i .i64,.l 3,.i .i64],.a [.l 134,.l 3,.l 124,.l 120,.l 121],.p (.l 3)],[],[⟨[.p (.B 0),.p (.i .i64)],[.c 72 [.l 3,.i .i64,.i .i64,.i .i64,.i .i64,.l 3,.i .i64,.l 134,.l 3,.l 124,.l 120,.l 121,.l 3,.l 3,.M 1],.m 3 4]⟩,⟨[.p .gC,.p (.i .i64)],[]⟩],λ d=>B2 F d.1.1.1 d.1.1.2.1 d.1.1.2.2.1 d.1.1.2.2.2.1 d.1.1.2.2.2.2.1 d.1.1.2.2.2.2.2.1 d.1.1.2.2.2.2.2.2.1 d.1.2.1.1 d.1.2.1.2.1 d.1.2.1.2.2.1 d.1.2.1.2.2.2.1 d.1.2.1.2.2.2.2.1 d.1.2.2.1⟩
theorem au6(F:Nat):(ahC F).Eq aE (RW F).t.bt (RW F).t.LE 53:=λ da db=>by kernel_rfl
noncomputable def RX(F:Nat):aP aE:=(RW F).iV 53 (ahC F) (au6 F)
def B4(F:Nat):Nat->(List Int)->(Int)->(Int)->(List Int)->Option ((Unit×Unit)×List Int×Unit)
 |0,_,_,_,_=>none
 |aQ+1,d,e,a,f=>
  cond (decide (a<e)) ((idx d a).bind λ b=>
(bF 8 f [b]).bind λ c=>
B4 F aQ (d) (e) (ax (a+1)) (c)) (
some (((),()),((f),())))
def ah8(F:Nat):fo bq:=⟨[3,6,7,8],[.p (.R 0),.p (.l 109),.p (.i .i64),.p (.i .i64)],[.r 3 false],[⟨.nm,[3],[.p (.R 0)],[.r 3 false]⟩],λ k d=>B4 F k d.1.2.1 d.1.2.2.1 d.1.2.2.2.1 d.2.1⟩
theorem au8(F:Nat):(ah8 F).Eq aE (RX F).t.bt ((RX F).t.LE 90) (fl aE.P 90) 0 (hg aE.P 90 0):=⟨λ d=>by kernel_rfl,λ k da db=>by kernel_rfl⟩
noncomputable def RY(F:Nat):aP aE:=(RX F).fR 90 0 F (ah8 F) (au8 F)
def M4(F:Nat)(b:List Int):Option ((List Int×Unit)×Unit):=
 (B4 F F b (↑b.length:Int) 0 []).bind λ a=>
some (((a.snd.fst),()),())
def ahD(F:Nat):ej bq:=⟨[.p (.l 109)],[],[.p (.l 3)],[],λ d=>M4 F d.1.1⟩
theorem au7(F:Nat):(ahD F).Eq aE (RY F).t.bt (RY F).t.LE 90:=λ da db=>by kernel_rfl
noncomputable def RZ(F:Nat):aP aE:=(RY F).fn 90 (ahD F) (au7 F)
def yx(F:Nat):Nat->(Int)->(Int)->(Int)->(List ao)->(List Int)->(List (List I.Field))->(List (List (List UInt8)))->(List (List I.Target))->(List Int)->(Int)->(Int)->(Int)->(Int)->(List Int)->(Int)->(List (Int×Bool))->(List Int)->Option ((Unit×Unit×Unit)×
 (Unit×List ao×List Int×List (List I.Field)×List (List (List UInt8))×List (List I.Target)×Unit×Unit)×(List Int×Int×Int×Int×Int×List Int×Int×Unit)×List (Int×Bool)×List Int×Unit)
 |0,_,_,_,_,_,_,_,_,_,_,_,_,_,_,_,_,_=>none
 |aQ+1,c,i,a,d,e,f,g,h,b,j,k,l,m,n,o,p,q=>
  cond (decide (a<i)) ((idx b c).bind λ r=>
(rM (b9.mk (aR.mk d e f g h)) r a).bind λ s=>
cond (s) ((idx b (ax (ax (c+3)+a))).bind λ t=>
(bF 8 q [t]).bind λ u=>
yx F aQ (c) (i) (ax (a+1)) (d) (e) (f) (g) (h) (b) (j) (k) (l) (m) (n) (o) (p) (u)) (
yx F aQ (c) (i) (ax (a+1)) (d) (e) (f) (g) (h) (b) (j) (k) (l) (m) (n) (o) (p) (q))) (
some (((),((),())),(((),((d),((e),((f),((g),((h),((),()))))))),(((b),((j),((k),((l),((m),((n),((o),()))))))),((p),((q),()))))))
def ah7(F:Nat):fo bq:=⟨[0,4,5,48,49],[.p (.B 0),.p (.R 3),.p (.i .i64),.p (.i .i64),.p (.i .i64)],[.c 140 [.B 1,.l 134,.l 3,.l 124,.l 120,.l 121,.M 2],.c 24 [.l 3,.i .i64,.i .i64,.i .i64,.i .i64,.l 3,.i .i64],.m 3 4,.r 3 false],[⟨.nm,[0,4],[.p (.B 0),.p (.R 3)],[.c 140 [.B 1,.l 134,.l 3,.l 124,.l 120,.l 121,.M 2],.c 24 [.l 3,.i .i64,.i .i64,.i .i64,.i .i64,.l 3,.i .i64],.m 3 4,.r 3 false]⟩],λ k d=>yx F k d.1.2.2.1 d.1.2.2.2.1 d.1.2.2.2.2.1 d.2.1.2.1 d.2.1.2.2.1 d.2.1.2.2.2.1 d.2.1.2.2.2.2.1 d.2.1.2.2.2.2.2.1 d.2.2.1.1 d.2.2.1.2.1 d.2.2.1.2.2.1 d.2.2.1.2.2.2.1 d.2.2.1.2.2.2.2.1 d.2.2.1.2.2.2.2.2.1 d.2.2.1.2.2.2.2.2.2.1 d.2.2.2.1 d.2.2.2.2.1⟩
theorem au5(F:Nat):(ah7 F).Eq aE (RZ F).t.bt ((RZ F).t.LE 89) (fl aE.P 89) 2 (hg aE.P 89 2):=⟨λ d=>by kernel_rfl,λ k da db=>by kernel_rfl⟩
noncomputable def R0(F:Nat):aP aE:=(RZ F).fR 89 2 F (ah7 F) (au5 F)
def vz(F:Nat):Nat->(List ao)->(List Int)->(List (List I.Field))->(List (List (List UInt8)))->(List (List I.Target))->(List Int)->(Int)->(Int)->(Int)->(Int)->(List Int)->(Int)->(List (Int×Bool))->(List Int)->Option (Unit×(Unit×List ao×List Int×List (List I.Field)×List (List (List UInt8))×List (List I.Target)×Unit×Unit)×(List Int×Int×Int×Int×Int×List Int×Int×Unit)×List (Int×Bool)×List Int×Unit)
 |0,_,_,_,_,_,_,_,_,_,_,_,_,_,_=>none
 |aQ+1,c,d,e,h,i,DB,j,k,l,m,n,o,g,b=>
  cond (decide (0<(↑b.length:Int))) ((idx b (ax ((↑b.length:Int)-1))).bind λ f=>
(if(0 :Int)<=0/\0<=ax ((↑b.length:Int)-1)/\ax ((↑b.length:Int)-1)<=(↑b.length:Int)then some ()else none).bind λ q=>
cond (decide (f=0)||(cJ g f).getD false) (vz F aQ (c) (d) (e) (h) (i) (DB) (j) (k) (l) (m) (n) (o) (g) (mf (ax ((↑b.length:Int)-1)).toNat b)) (
(idx DB (ax (f+1))).bind λ p=>
(yx F F f p 0 c d e h i DB j k l m n o (gA g f true) (mf (ax ((↑b.length:Int)-1)).toNat b)).bind λ a=>
vz F aQ (a.snd.fst.snd.fst) (a.snd.fst.snd.snd.fst) (a.snd.fst.snd.snd.snd.fst) (a.snd.fst.snd.snd.snd.snd.fst) (a.snd.fst.snd.snd.snd.snd.snd.fst) (a.snd.snd.fst.fst) (a.snd.snd.fst.snd.fst) (a.snd.snd.fst.snd.snd.fst) (a.snd.snd.fst.snd.snd.snd.fst) (a.snd.snd.fst.snd.snd.snd.snd.fst) (a.snd.snd.fst.snd.snd.snd.snd.snd.fst) (a.snd.snd.fst.snd.snd.snd.snd.snd.snd.fst) (a.snd.snd.snd.fst) (a.snd.snd.snd.snd.fst))) (
some ((),(((),((c),((d),((e),((h),((i),((),()))))))),(((DB),((j),((k),((l),((m),((n),((o),()))))))),((g),((b),()))))))
def ah6(F:Nat):fo bq:=⟨[0,4],[.p (.B 0),.p (.R 3)],[.c 140 [.B 1,.l 134,.l 3,.l 124,.l 120,.l 121,.M 2],.c 24 [.l 3,.i .i64,.i .i64,.i .i64,.i .i64,.l 3,.i .i64],.m 3 4,.r 3 false],[⟨.nm,[],[],[.c 140 [.B 1,.l 134,.l 3,.l 124,.l 120,.l 121,.M 2],.c 24 [.l 3,.i .i64,.i .i64,.i .i64,.i .i64,.l 3,.i .i64],.m 3 4,.r 3 false]⟩],λ k d=>vz F k d.2.1.2.1 d.2.1.2.2.1 d.2.1.2.2.2.1 d.2.1.2.2.2.2.1 d.2.1.2.2.2.2.2.1 d.2.2.1.1 d.2.2.1.2.1 d.2.2.1.2.2.1 d.2.2.1.2.2.2.1 d.2.2.1.2.2.2.2.1 d.2.2.1.2.2.2.2.2.1 d.2.2.1.2.2.2.2.2.2.1 d.2.2.2.1 d.2.2.2.2.1⟩
theorem au4(F:Nat):(ah6 F).Eq aE (R0 F).t.bt ((R0 F).t.LE 89) (fl aE.P 89) 0 (hg aE.P 89 0):=⟨λ d=>by kernel_rfl,λ k da db=>by kernel_rfl⟩
noncomputable def R1(F:Nat):aP aE:=(R0 F).fR 89 0 F (ah6 F) (au4 F)
def B1(F:Nat)(c:List Int)(d:List ao)(e:List Int)(f:List (List I.Field))(g:List (List (List UInt8)))(kn:List (List I.Target))(h:List Int)(i:Int)(j:Int)(k:Int)(l:Int)(m:List Int)(n:Int)(a:List (Int×Bool)):Option (Unit×(Unit×List ao×List Int×List (List I.Field)×List (List (List UInt8))×List (List I.Target)×Unit×Unit)×(List Int×Int×Int×Int×Int×List Int×Int×Unit)×List (Int×Bool)×Unit):=
 (bF 8 [] c).bind λ b=>
(vz F F d e f g kn h i j k l m n a b).bind λ nb=>
some ((),(((),((nb.snd.fst.snd.fst),((nb.snd.fst.snd.snd.fst),((nb.snd.fst.snd.snd.snd.fst),((nb.snd.fst.snd.snd.snd.snd.fst),((nb.snd.fst.snd.snd.snd.snd.snd.fst),((),()))))))),(((nb.snd.snd.fst.fst),((nb.snd.snd.fst.snd.fst),((nb.snd.snd.fst.snd.snd.fst),((nb.snd.snd.fst.snd.snd.snd.fst),((nb.snd.snd.fst.snd.snd.snd.snd.fst),((nb.snd.snd.fst.snd.snd.snd.snd.snd.fst),((nb.snd.snd.fst.snd.snd.snd.snd.snd.snd.fst),()))))))),((nb.snd.snd.snd.fst),()))))
def ahB(F:Nat):ej bq:=⟨[.p (.B 0),.p (.l 3)],[.c 140 [.B 1,.l 134,.l 3,.l 124,.l 120,.l 121,.M 2],.c 24 [.l 3,.i .i64,.i .i64,.i .i64,.i .i64,.l 3,.i .i64],.m 3 4],[],[.c 140 [.B 1,.l 134,.l 3,.l 124,.l 120,.l 121,.M 2],.c 24 [.l 3,.i .i64,.i .i64,.i .i64,.i .i64,.l 3,.i .i64],.m 3 4],λ d=>B1 F d.1.2.1 d.2.1.2.1 d.2.1.2.2.1 d.2.1.2.2.2.1 d.2.1.2.2.2.2.1 d.2.1.2.2.2.2.2.1 d.2.2.1.1 d.2.2.1.2.1 d.2.2.1.2.2.1 d.2.2.1.2.2.2.1 d.2.2.1.2.2.2.2.1 d.2.2.1.2.2.2.2.2.1 d.2.2.1.2.2.2.2.2.2.1 d.2.2.2.1⟩
theorem au3(F:Nat):(ahB F).Eq aE (R1 F).t.bt (R1 F).t.LE 89:=λ da db=>by kernel_rfl
noncomputable def R2(F:Nat):aP aE:=(R1 F).fn 89 (ahB F) (au3 F)
def T9(F:Nat)(b:List ao)(c:List Int)(d:List (List I.Field))(e:List (List (List UInt8)))(f:List (List I.Target))(g:List Int)(h:List Int)(i:Int)(j:Int)(Ah:Int)(k:Int)(l:List Int)(m:Int):Option ((Unit×Unit)×(List Int×Int×Int×Int×Int×List Int×Int×Unit)×(Unit×List ao×List Int×List (List I.Field)×List (List (List UInt8))×List (List I.Target)×Unit×Unit)×List (Int×Bool)×Unit):=
 (M4 F g).bind λ n=>
(B1 F n.fst.fst b c d e f h i j Ah k l m []).bind λ a=>
some (((),()),(((a.snd.snd.fst.fst),((a.snd.snd.fst.snd.fst),((a.snd.snd.fst.snd.snd.fst),((a.snd.snd.fst.snd.snd.snd.fst),((a.snd.snd.fst.snd.snd.snd.snd.fst),((a.snd.snd.fst.snd.snd.snd.snd.snd.fst),((a.snd.snd.fst.snd.snd.snd.snd.snd.snd.fst),()))))))),(((),((a.snd.fst.snd.fst),((a.snd.fst.snd.snd.fst),((a.snd.fst.snd.snd.snd.fst),((a.snd.fst.snd.snd.snd.snd.fst),((a.snd.fst.snd.snd.snd.snd.snd.fst),((),()))))))),((a.snd.snd.snd.fst),()))))
def ahA(F:Nat):ej bq:=⟨[.p (.B 0),.a [.l 134,.l 3,.l 124,.l 120,.l 121],.p (.l 109)],[.c 24 [.l 3,.i .i64,.i .i64,.i .i64,.i .i64,.l 3,.i .i64]],[.p (.B 1)],[.c 24 [.l 3,.i .i64,.i .i64,.i .i64,.i .i64,.l 3,.i .i64],.c 140 [.B 0,.l 134,.l 3,.l 124,.l 120,.l 121,.M 2],.m 3 4],λ d=>T9 F d.1.2.1.1 d.1.2.1.2.1 d.1.2.1.2.2.1 d.1.2.1.2.2.2.1 d.1.2.1.2.2.2.2.1 d.1.2.2.1 d.2.1.1 d.2.1.2.1 d.2.1.2.2.1 d.2.1.2.2.2.1 d.2.1.2.2.2.2.1 d.2.1.2.2.2.2.2.1 d.2.1.2.2.2.2.2.2.1⟩
theorem au2(F:Nat):(ahA F).Eq aE (R2 F).t.bt (R2 F).t.LE 54:=λ da db=>by kernel_rfl
noncomputable def R3(F:Nat):aP aE:=(R2 F).fn 54 (ahA F) (au2 F)
def yw(F:Nat)(a:List Int)(b:Int)(c:Int)(d:Int)(e:Int)(mc:List Int)(f:Int)(j:List ao)(k:List Int)(l:List (List I.Field))(m:List (List (List UInt8)))(n:List (List I.Target))(g:List Int):Option ((Int×Int×Unit)×Unit):=
 di (B2 F a b c d e mc f j k l m n g) (λ kP=>
cond (!decide (kP.fst.snd.fst=0)) (some (((0),((kP.fst.snd.fst),())),())) (
(RI F g).bind λ o=>
(T9 F kP.snd.fst.snd.snd.snd.snd.snd.snd.snd.fst kP.snd.fst.snd.snd.snd.snd.snd.snd.snd.snd.fst kP.snd.fst.snd.snd.snd.snd.snd.snd.snd.snd.snd.fst kP.snd.fst.snd.snd.snd.snd.snd.snd.snd.snd.snd.snd.fst
 kP.snd.fst.snd.snd.snd.snd.snd.snd.snd.snd.snd.snd.snd.fst o.fst.fst a b c d e mc f).bind λ h=>
((E8 h.snd.fst.fst h.snd.snd.snd.fst).bind λ x=>some x).bind λ p=>
some (((p),((0),())),()))) (λ i=>
cond (!decide (i.fst.snd.fst=0)) (some (((0),((i.fst.snd.fst),())),())) (
none))
def ahz(F:Nat):ej bq:=⟨[.a [.l 3,.i .i64,.i .i64,.i .i64,.i .i64,.l 3,.i .i64],.a [.l 134,.l 3,.l 124,.l 120,.l 121],.p (.l 3)],[],[.p (.i .i64),.p (.i .i64)],[],λ d=>yw F d.1.1.1 d.1.1.2.1 d.1.1.2.2.1 d.1.1.2.2.2.1 d.1.1.2.2.2.2.1 d.1.1.2.2.2.2.2.1 d.1.1.2.2.2.2.2.2.1 d.1.2.1.1 d.1.2.1.2.1 d.1.2.1.2.2.1 d.1.2.1.2.2.2.1 d.1.2.1.2.2.2.2.1 d.1.2.2.1⟩
theorem au1(F:Nat):(ahz F).Eq aE (R3 F).t.bt (R3 F).t.LE 22:=λ da db=>by kernel_rfl
noncomputable def LP(F:Nat):aP aE:=(R3 F).fn 22 (ahz F) (au1 F)
end Go.Proofs.YteeliipnilghaaaGreat
namespace Go.Proofs.YteeliipnilghaaaGreat
open Go Go.RowKit aw I bc
set_option maxRecDepth 100000
@[reducible] def FL:hZ bq:=⟨[],[],[.p .b],[],Bool,λ _=>some true,λ _ r=>((r,()),())⟩
theorem auY:FL.Eq lB (E6 lB (LP 2000).t.ko (λ _ _=>none) 100) (λ _ _=>none) 24:=λ da db=>by
 kernel_rfl
theorem atd:j3 lB 24 (FL.run lB):=
 have a:u2 lB (λ _ _=>none):=λ g fn c _ _ _=>tU (λ _=>rfl) c
 have hc:=((LP 2000).ok jG).ce
 have b:LQ lB (LP 2000).t.ko:=⟨hc.cb,λ g h d=>(Mp g h)▸hc.ok g h d⟩
 λ ys bl r e=>ES My (k1 My b a 100) a rfl (c:=FL.hI) (ej.Eq.v auY) ys bl r (zK e)
theorem aGI:FL.run aE=FL.run lB:=by kernel_rfl
noncomputable def R4(F:Nat):aP aE:=(LP F).add 24 (FL.run aE) (aGI▸(Mp 24 _)▸atd)
end Go.Proofs.YteeliipnilghaaaGreat
namespace Go.Proofs.YteeliipnilghaaaGreat
open Go Go.RowKit aw I bc
def HJ(F:Nat)(b:Int)(a:List Int):Option (Unit×(Unit×Unit)×List Int×Unit):=
 cond (!decide (b=0)) ((kW F a b).bind λ c=>
cond (!c) ((bF 8 a [b]).bind λ d=>
some ((),(((),()),((d),())))) (
some ((),(((),()),((a),()))))) (
some ((),(((),()),((a),()))))
def aht(F:Nat):ej bq:=⟨[.p (.i .i64),.p (.B 0)],[.c 22 [.R 1],.r 3 false],[],[.c 22 [.R 1],.r 3 false],λ d=>HJ F d.1.1 d.2.2.1⟩
theorem auT(F:Nat):(aht F).Eq aE (R4 F).t.bt (R4 F).t.LE 91:=λ da db=>by kernel_rfl
noncomputable def R5(F:Nat):aP aE:=(R4 F).fn 91 (aht F) (auT F)
def Bo(F:Nat):Nat->(List Int)->(Int)->(List Int)->(Int)->(Int)->(Int)->(Int)->(List Int)->(Int)->(List ao)->(List Int)->(List (List I.Field))->(List (List (List UInt8)))->(List (List I.Target))->(List Int)->Option ((Unit×Unit×Unit×(Unit×Unit)×Unit)×
 (List Int×Int×Int×Int×Int×List Int×Int×Unit)×(List ao×List Int×List (List I.Field)×List (List (List UInt8))×List (List I.Target)×Unit)×(Unit×Unit)×List Int×Unit)
 |0,_,_,_,_,_,_,_,_,_,_,_,_,_,_,_=>none
 |aQ+1,a,Hd,b,c,Lc,d,Lf,e,f,g,h,i,j,k,l=>
  cond (decide (Hd<(↑a.length:Int))) ((idx a Hd).bind λ m=>
(HJ F m l).bind λ n=>
Bo F aQ (a) (ax (Hd+1)) (b) (c) (Lc) (d) (Lf) (e) (f) (g) (h) (i) (j) (k) (n.snd.snd.fst)) (
some (((),((),((),(((),()),())))),(((b),((c),((Lc),((d),((Lf),((e),((f),()))))))),(((g),((h),((i),((j),((k),()))))),(((),()),((l),()))))))
def ahX(F:Nat):fo bq:=⟨[2,3,4,7,8,9],[.p (.l 3),.p (.B 0),.p (.B 1),.p (.B 2),.f 91 [.B 2],.p (.i .i64)],[.c 24 [.l 3,.i .i64,.i .i64,.i .i64,.i .i64,.l 3,.i .i64],.c 30 [.l 134,.l 3,.l 124,.l 120,.l 121],.c 22 [.R 3],.r 3 false],[⟨.nm,[3,4,7,8],[.p (.B 0),.p (.B 1),.p (.B 2),.f 91 [.B 2]],[.c 24 [.l 3,.i .i64,.i .i64,.i .i64,.i .i64,.l 3,.i .i64],.c 30 [.l 134,.l 3,.l 124,.l 120,.l 121],.c 22 [.R 3],.r 3 false]⟩],λ k d=>Bo F k d.1.1 d.1.2.2.2.2.2.1 d.2.1.1 d.2.1.2.1 d.2.1.2.2.1 d.2.1.2.2.2.1 d.2.1.2.2.2.2.1 d.2.1.2.2.2.2.2.1 d.2.1.2.2.2.2.2.2.1 d.2.2.1.1 d.2.2.1.2.1 d.2.2.1.2.2.1 d.2.2.1.2.2.2.1 d.2.2.1.2.2.2.2.1 d.2.2.2.2.1⟩
theorem auU(F:Nat):(ahX F).Eq aE (R5 F).t.bt ((R5 F).t.LE 56) (fl aE.P 56) 0 (hg aE.P 56 0):=⟨λ d=>by kernel_rfl,λ k da db=>by kernel_rfl⟩
noncomputable def R6(F:Nat):aP aE:=(R5 F).fR 56 0 F (ahX F) (auU F)
def Bq(F:Nat):Nat->(Int)->(List Int)->(Int)->(List Int)->(Int)->(Int)->(Int)->(Int)->(List Int)->(Int)->(List ao)->(List Int)->(List (List I.Field))->(List (List (List UInt8)))->(List (List I.Target))->(List Int)->Option ((Unit×Unit×Unit×(Unit×Unit)×Int×Unit)×
 (List Int×Int×Int×Int×Int×List Int×Int×Unit)×(List ao×List Int×List (List I.Field)×List (List (List UInt8))×List (List I.Target)×Unit)×(Unit×Unit)×List Int×Unit)
 |0,_,_,_,_,_,_,_,_,_,_,_,_,_,_,_,_=>none
 |aQ+1,f,a,b,c,g,h,i,j,kn,k,l,m,n,o,p,q=>
  cond (decide (b<(↑a.length:Int))) ((idx a b).bind λ d=>
(idx c d).bind λ e=>
(HJ F e q).bind λ nb=>
Bq F aQ (f) (a) (ax (b+1)) (c) (g) (h) (i) (j) (kn) (k) (l) (m) (n) (o) (p) (nb.snd.snd.fst)) (
some (((),((),((),(((),()),((f),()))))),(((c),((g),((h),((i),((j),((kn),((k),()))))))),(((l),((m),((n),((o),((p),()))))),(((),()),((q),()))))))
def ahZ(F:Nat):fo bq:=⟨[3,4,7,8,10,11,12],[.p (.B 0),.p (.B 1),.p (.B 2),.f 91 [.B 2],.p (.i .i64),.p (.l 3),.p (.i .i64)],[.c 24 [.l 3,.i .i64,.i .i64,.i .i64,.i .i64,.l 3,.i .i64],.c 30 [.l 134,.l 3,.l 124,.l 120,.l 121],.c 22 [.R 3],.r 3 false],[⟨.nm,[3,4,7,8,10],[.p (.B 0),.p (.B 1),.p (.B 2),.f 91 [.B 2],.p (.i .i64)],[.c 24 [.l 3,.i .i64,.i .i64,.i .i64,.i .i64,.l 3,.i .i64],.c 30 [.l 134,.l 3,.l 124,.l 120,.l 121],.c 22 [.R 3],.r 3 false]⟩],λ k d=>Bq F k d.1.2.2.2.2.1 d.1.2.2.2.2.2.1 d.1.2.2.2.2.2.2.1 d.2.1.1 d.2.1.2.1 d.2.1.2.2.1 d.2.1.2.2.2.1 d.2.1.2.2.2.2.1 d.2.1.2.2.2.2.2.1 d.2.1.2.2.2.2.2.2.1 d.2.2.1.1 d.2.2.1.2.1 d.2.2.1.2.2.1 d.2.2.1.2.2.2.1 d.2.2.1.2.2.2.2.1 d.2.2.2.2.1⟩
theorem auW(F:Nat):(ahZ F).Eq aE (R6 F).t.bt ((R6 F).t.LE 56) (fl aE.P 56) 4 (hg aE.P 56 4):=⟨λ d=>by kernel_rfl,λ k da db=>by kernel_rfl⟩
noncomputable def R7(F:Nat):aP aE:=(R6 F).fR 56 4 F (ahZ F) (auW F)
def Bp(F:Nat):Nat->(Int)->(List Int)->(Int)->(Int)->(Int)->(Int)->(List Int)->(Int)->(List ao)->(List Int)->(List (List I.Field))->(List (List (List UInt8)))->(List (List I.Target))->(List Int)->Option ((Unit×Unit)×(List Int×Int×Int×Int×Int×List Int×Int×Unit)×(List ao×List Int×List (List I.Field)×List (List (List UInt8))×List (List I.Target)×Unit)×(Unit×Unit)×List Int×Unit)
 |0,_,_,_,_,_,_,_,_,_,_,_,_,_,_=>none
 |aQ+1,b,c,d,e,f,g,h,i,j,k,l,m,o,n=>
  cond (decide (b<(↑n.length:Int))) ((idx n b).bind λ p=>
(oU F (aU.mk c d e f g h i) (aR.mk j k l m o) p).bind λ q=>
(Bq F F b q 0 c d e f g h i j k l m o n).bind λ a=>
Bp F aQ (ax (a.fst.snd.snd.snd.snd.fst+1)) (a.snd.fst.fst) (a.snd.fst.snd.fst) (a.snd.fst.snd.snd.fst) (a.snd.fst.snd.snd.snd.fst) (a.snd.fst.snd.snd.snd.snd.fst) (a.snd.fst.snd.snd.snd.snd.snd.fst) (a.snd.fst.snd.snd.snd.snd.snd.snd.fst) (a.snd.snd.fst.fst) (a.snd.snd.fst.snd.fst) (a.snd.snd.fst.snd.snd.fst) (a.snd.snd.fst.snd.snd.snd.fst) (a.snd.snd.fst.snd.snd.snd.snd.fst) (a.snd.snd.snd.snd.fst)) (
some (((),()),(((c),((d),((e),((f),((g),((h),((i),()))))))),(((j),((k),((l),((m),((o),()))))),(((),()),((n),()))))))
def ahY(F:Nat):fo bq:=⟨[3,4,7,8,10],[.p (.B 0),.p (.B 1),.p (.B 2),.f 91 [.B 2],.p (.i .i64)],[.c 24 [.l 3,.i .i64,.i .i64,.i .i64,.i .i64,.l 3,.i .i64],.c 30 [.l 134,.l 3,.l 124,.l 120,.l 121],.c 22 [.R 3],.r 3 false],[⟨.nm,[7],[.p (.B 2)],[.c 24 [.l 3,.i .i64,.i .i64,.i .i64,.i .i64,.l 3,.i .i64],.c 30 [.l 134,.l 3,.l 124,.l 120,.l 121],.c 22 [.R 3],.r 3 false]⟩],λ k d=>Bp F k d.1.2.2.2.2.1 d.2.1.1 d.2.1.2.1 d.2.1.2.2.1 d.2.1.2.2.2.1 d.2.1.2.2.2.2.1 d.2.1.2.2.2.2.2.1 d.2.1.2.2.2.2.2.2.1 d.2.2.1.1 d.2.2.1.2.1 d.2.2.1.2.2.1 d.2.2.1.2.2.2.1 d.2.2.1.2.2.2.2.1 d.2.2.2.2.1⟩
theorem auV(F:Nat):(ahY F).Eq aE (R7 F).t.bt ((R7 F).t.LE 56) (fl aE.P 56) 2 (hg aE.P 56 2):=⟨λ d=>by kernel_rfl,λ k da db=>by kernel_rfl⟩
noncomputable def R8(F:Nat):aP aE:=(R7 F).fR 56 2 F (ahY F) (auV F)
def L2(F:Nat)(b:List Int)(c:Int)(d:Int)(e:Int)(f:Int)(g:List Int)(h:Int)(i:List ao)(j:List Int)(DL:List (List I.Field))(k:List (List (List UInt8)))(l:List (List I.Target))(m:List Int):Option ((List Int×Unit)×Unit):=
 (Bo F F m 0 b c d e f g h i j DL k l []).bind λ a=>
(Bp F F 0 a.snd.fst.fst a.snd.fst.snd.fst a.snd.fst.snd.snd.fst a.snd.fst.snd.snd.snd.fst a.snd.fst.snd.snd.snd.snd.fst a.snd.fst.snd.snd.snd.snd.snd.fst a.snd.fst.snd.snd.snd.snd.snd.snd.fst
 a.snd.snd.fst.fst a.snd.snd.fst.snd.fst a.snd.snd.fst.snd.snd.fst a.snd.snd.fst.snd.snd.snd.fst a.snd.snd.fst.snd.snd.snd.snd.fst a.snd.snd.snd.snd.fst).bind λ n=>
some (((n.snd.snd.snd.snd.fst),()),())
def ahs(F:Nat):ej bq:=⟨[.a [.l 3,.i .i64,.i .i64,.i .i64,.i .i64,.l 3,.i .i64],.a [.l 134,.l 3,.l 124,.l 120,.l 121],.p (.l 3)],[],[.p (.l 3)],[],λ d=>L2 F d.1.1.1 d.1.1.2.1 d.1.1.2.2.1 d.1.1.2.2.2.1 d.1.1.2.2.2.2.1 d.1.1.2.2.2.2.2.1 d.1.1.2.2.2.2.2.2.1 d.1.2.1.1 d.1.2.1.2.1 d.1.2.1.2.2.1 d.1.2.1.2.2.2.1 d.1.2.1.2.2.2.2.1 d.1.2.2.1⟩
theorem auS(F:Nat):(ahs F).Eq aE (R8 F).t.bt (R8 F).t.LE 56:=λ da db=>by kernel_rfl
noncomputable def R9(F:Nat):aP aE:=(R8 F).fn 56 (ahs F) (auS F)
def Bl(F:Nat):Nat->(List Int)->(Int)->(Int)->(List Int)->(Int)->(Int)->(Int)->(Int)->(List Int)->(Int)->Option ((Int×Unit)×(List Int×Int×Int×Int×Int×List Int×Int×Unit)×Unit)
 |0,_,_,_,_,_,_,_,_,_,_=>none
 |aQ+1,a,c,b,kR,d,e,f,g,h,i=>
  cond (decide (b<(↑a.length:Int))) ((idx a b).bind λ j=>
(idx kR (ax (j+1))).bind λ k=>
Bl F aQ (a) (ax (c+ax (3+k))) (ax (b+1)) (kR) (d) (e) (f) (g) (h) (i)) (
some (((c),()),(((kR),((d),((e),((f),((g),((h),((i),()))))))),())))
def ahW(F:Nat):fo bq:=⟨[3,7,8,9],[.p (.B 0),.p (.l 3),.p (.i .i64),.p (.i .i64)],[.c 24 [.l 3,.i .i64,.i .i64,.i .i64,.i .i64,.l 3,.i .i64]],[⟨.nm,[8],[.p (.i .i64)],[.c 24 [.l 3,.i .i64,.i .i64,.i .i64,.i .i64,.l 3,.i .i64]]⟩],λ k d=>Bl F k d.1.2.1 d.1.2.2.1 d.1.2.2.2.1 d.2.1.1 d.2.1.2.1 d.2.1.2.2.1 d.2.1.2.2.2.1 d.2.1.2.2.2.2.1 d.2.1.2.2.2.2.2.1 d.2.1.2.2.2.2.2.2.1⟩
theorem auR(F:Nat):(ahW F).Eq aE (R9 F).t.bt ((R9 F).t.LE 23) (fl aE.P 23) 0 (hg aE.P 23 0):=⟨λ d=>by kernel_rfl,λ k da db=>by kernel_rfl⟩
noncomputable def R_(F:Nat):aP aE:=(R9 F).fR 23 0 F (ahW F) (auR F)
def L1(F:Nat)(a:List Int)(b:Int)(c:Int)(d:Int)(e:Int)(f:List Int)(g:Int)(nn:List ao)(h:List Int)(i:List (List I.Field))(j:List (List (List UInt8)))(k:List (List I.Target))(l:List Int):Option ((Int×Unit)×Unit):=
 (L2 F a b c d e f g nn h i j k l).bind λ m=>
(Bl F F m.fst.fst 0 0 a b c d e f g).bind λ n=>
some (((n.fst.fst),()),())
def ahr(F:Nat):ej bq:=⟨[.a [.l 3,.i .i64,.i .i64,.i .i64,.i .i64,.l 3,.i .i64],.a [.l 134,.l 3,.l 124,.l 120,.l 121],.p (.l 3)],[],[.p (.i .i64)],[],λ d=>L1 F d.1.1.1 d.1.1.2.1 d.1.1.2.2.1 d.1.1.2.2.2.1 d.1.1.2.2.2.2.1 d.1.1.2.2.2.2.2.1 d.1.1.2.2.2.2.2.2.1 d.1.2.1.1 d.1.2.1.2.1 d.1.2.1.2.2.1 d.1.2.1.2.2.2.1 d.1.2.1.2.2.2.2.1 d.1.2.2.1⟩
theorem auQ(F:Nat):(ahr F).Eq aE (R_ F).t.bt (R_ F).t.LE 23:=λ da db=>by kernel_rfl
noncomputable def aqY(F:Nat):aP aE:=(R_ F).fn 23 (ahr F) (auQ F)
end Go.Proofs.YteeliipnilghaaaGreat
namespace Go.Proofs.YteeliipnilghaaaGreat
open Go Go.RowKit aw I bc
set_option maxHeartbeats 4000000
set_option maxRecDepth 20000
theorem afn{o:Oper}{a:Act}{w:World}{x:Operand}{b:Nat}(c:o.op= .fieldAddr 24 x 1)(d:a.eval x= .pointer (some ⟨b,0,none⟩)):bg Tryz.prog o a w (.pointer (some ⟨b,1,none⟩)) w:=
 RC (P:=Tryz.prog) (p:=0) (j:=1) Tryz.underlying24 (f:=_) (by rfl) Tryz.sizeOf3 rfl c d
theorem av0{o:Oper}{a:Act}{w:World}{x:Operand}{b:Nat}(c:o.op= .fieldAddr 24 x 2)(d:a.eval x= .pointer (some ⟨b,0,none⟩)):bg Tryz.prog o a w (.pointer (some ⟨b,2,none⟩)) w:=
 RC (P:=Tryz.prog) (p:=0) (j:=2) Tryz.underlying24 (f:=_) (by rfl) Tryz.sizeOf3 rfl c d
def wY(Y O x:Int):Int:=cond (decide (Y<x)) x (ax (ax (x+Y)+O))
theorem ati{W:World}{gb gh:Nat}{Y O x:Int}(c:W.cell? ⟨gb,0,none⟩=some (.pointer (some ⟨gh,0,none⟩)))(J:W.cell? ⟨gh,1,none⟩=some (.int .i64 Y))(ap:W.cell? ⟨gh,2,none⟩=some (.int .i64 O)) :
 Calls Tryz.prog 98 [.int .i64 x,.pointer (some ⟨gb,0,none⟩)].toArray W λ e w'=>e= .returned (.int .i64 (wY Y O x))/\(w'=W\/w'=W.drew):=by
 refine enter Tryz.func98 rfl Tryz.ntmps98 rfl λ a ad=>?_
 refine wp_seq_k λ K d=>wp_region_list (fG wn (xC rfl rfl) ad rfl rfl λ a ad=>wpList_nil (d _ _ ?_))
 refine wp_seq_k λ K d=>wp_seq_k λ h i=>wp_region_list (fG wn (uU rfl (ad.g rfl)) ad rfl rfl λ a ad=>fG wn (xD Tryz.isAgg67 rfl (ad.g rfl) c) ad rfl rfl λ a ad=>fG wn (Lz rfl (ad.g rfl)) ad rfl rfl λ a ad=>
  fG wn (afn rfl (ad.g rfl)) ad rfl rfl λ a ad=>fG wn (xD Tryz.isAgg3 rfl (ad.g rfl) J) ad rfl rfl λ a ad=>fG wn (an6 rfl (ad.g rfl) (ad.g rfl)) ad rfl rfl λ a ad=>wpList_nil (i _ _ ?_))
 refine wp_cond_split (ad.g rfl) (λ af=>?_) λ af=>?_
 ·refine wp_seq_k λ f g=>wp_region_list (fG wn (uU rfl (ad.g rfl)) ad rfl rfl λ a ad=>fG wn (xC rfl (ad.g rfl)) ad rfl rfl λ a ad=>wpList_nil (g _ _ ?_))
  refine wp_ret ?_
  show bodyPost Tryz.prog Tryz.f98 (λ e w'=>e= .returned (.int .i64 (wY Y O x))/\(w'=W\/w'=W.drew)) .ret a W
  refine zG Tryz.results98 ad rfl ?_
  exact⟨by unfold wY;rw[af];rfl,.inl rfl⟩
 ·refine wp_skip (d _ _ ?_)
  refine wp_seq_k λ f g=>wp_region_quiet (C:=λ w'=>w'=W.drew) (by kernel_rfl) (by kernel_rfl) rfl ?_
  refine qE wn (λ w b=>uU rfl (ad.g rfl)) ad rfl rfl λ a ad=>qE wn (λ w b=>xD Tryz.isAgg67 rfl (ad.g rfl) (by subst b;exact c)) ad rfl rfl λ a ad=>qE wn (λ w b=>Lz rfl (ad.g rfl)) ad rfl rfl λ a ad=>
   qE wn (λ w b=>afn rfl (ad.g rfl)) ad rfl rfl λ a ad=>qE wn (λ w b=>xD Tryz.isAgg3 rfl (ad.g rfl) (by subst b;exact J)) ad rfl rfl λ a ad=>qE wn (λ w b=>ab4 rfl (ad.g rfl) (ad.g rfl)) ad rfl rfl λ a ad=>
   qE wn (λ w b=>xD Tryz.isAgg67 rfl (ad.g rfl) (by subst b;exact c)) ad rfl rfl λ a ad=>qE wn (λ w b=>Lz rfl (ad.g rfl)) ad rfl rfl λ a ad=>
   qE wn (λ w b=>av0 rfl (ad.g rfl)) ad rfl rfl λ a ad=>qE wn (λ w b=>xD Tryz.isAgg3 rfl (ad.g rfl) (by subst b;exact ap)) ad rfl rfl λ a ad=>qE wn (λ w b=>ab4 rfl (ad.g rfl) (ad.g rfl)) ad rfl rfl λ a ad=>
   qE wn (λ w b=>xC rfl (ad.g rfl)) ad rfl rfl λ a ad=>?_
  show∀w',w'=W.drew->_
  intro w' b
  subst b
  refine g _ _ (wp_ret ?_)
  refine zG Tryz.results98 ad rfl ?_
  exact⟨by unfold wY;rw[af];rfl,.inr rfl⟩
theorem agm:∀args w,(callFunc 98 args).run Tryz.prog w= .ok (.enter 98 args) w:=jG.call 98 (rV (by kernel_rfl))
theorem adr{W:World}{gb gh:Nat}{Y O z:Int}(b:W.cell? ⟨gb,0,none⟩=some (.pointer (some ⟨gh,0,none⟩)))(J:W.cell? ⟨gh,1,none⟩=some (.int .i64 Y))(ap:W.cell? ⟨gh,2,none⟩=some (.int .i64 O))(q:Nat) :
 Calls Tryz.prog 98 [.int .i64 z,.pointer (some ⟨gb,0,none⟩)].toArray (W.drewN q) λ e w'=>e= .returned (.int .i64 (wY Y O z))/\ ∃c,w'=W.drewN c:=by
 have d:(W.drewN q).cell? ⟨gb,0,none⟩=some (.pointer (some ⟨gh,0,none⟩)):=by rw[World.cell?_drewN];exact b
 have f:(W.drewN q).cell? ⟨gh,1,none⟩=some (.int .i64 Y):=by rw[World.cell?_drewN];exact J
 have g:(W.drewN q).cell? ⟨gh,2,none⟩=some (.int .i64 O):=by rw[World.cell?_drewN];exact ap
 have aL:(W.drewN q).drew=W.drewN (q+1):=rfl
 have h:=ati (x:=z) d f g
 rw[aL]at h
 exact Calls.mono h λ e w' a=>⟨a.1,a.2.elim (λ e=>⟨q,e⟩) λ e=>⟨q+1,e⟩⟩
theorem atf{W:World}{gb gh:Nat}{Y O x y:Int}(d:W.cell? ⟨gb,0,none⟩=some (.pointer (some ⟨gh,0,none⟩)))(J:W.cell? ⟨gh,1,none⟩=some (.int .i64 Y))(ap:W.cell? ⟨gh,2,none⟩=some (.int .i64 O)) :
 Calls Tryz.prog 97 [.int .i64 x,.int .i64 y,.pointer (some ⟨gb,0,none⟩)].toArray W λ e w'=>e= .returned (.int .i64 (ax (wY Y O x-wY Y O y)))/\ ∃q,w'=W.drewN q:=by
 refine enter Tryz.func97 rfl Tryz.ntmps97 rfl λ a ad=>?_
 refine wp_seq_k λ K b=>wp_region_list (fG wn (xC rfl rfl) ad rfl rfl λ a ad=>wpList_nil (b _ _ ?_))
 refine wp_seq_k λ K b=>wp_region_list (fG wn (an_ (xs:=[.tmp 2]) (vs:=[.pointer (some ⟨gb,0,none⟩)]) rfl (by simp only[eu,hS];rw[show a.eval (.tmp 2)=_ from ad.g rfl])) ad rfl rfl λ a ad=>fG wn (xC rfl (ad.g rfl)) ad rfl rfl λ a ad=>wpList_nil (b _ _ ?_))
 refine wp_seq_k λ K b=>wp_region_list (fG wn (uU rfl (ad.g rfl)) ad rfl rfl λ a ad=>fG wn (uU rfl (ad.g rfl)) ad rfl rfl λ a ad=>ZP (xs:=[.tmp 9]) (vs:=[.int .i64 x]) (cs:=[.pointer (some ⟨gb,0,none⟩)]) wn rfl agm (ad.g rfl) ⟨ad.g rfl,trivial⟩ (adr (z:=x) d J ap 0) ad rfl rfl λ e w' c=>?_)
 obtain⟨rfl,q,rfl⟩:=c
 refine⟨_,rfl,λ a ad=>fG wn (uU rfl (ad.g rfl)) ad rfl rfl λ a ad=>fG wn (uU rfl (ad.g rfl)) ad rfl rfl λ a ad=>ZP (xs:=[.tmp 12]) (vs:=[.int .i64 y]) (cs:=[.pointer (some ⟨gb,0,none⟩)]) wn rfl agm (ad.g rfl) ⟨ad.g rfl,trivial⟩ (adr (z:=y) d J ap q) ad rfl rfl λ e w' c=>?_⟩
 obtain⟨rfl,f,rfl⟩:=c
 refine⟨_,rfl,λ a ad=>fG wn (aod rfl (ad.g rfl) (ad.g rfl)) ad rfl rfl λ a ad=>fG wn (xC rfl (ad.g rfl)) ad rfl rfl λ a ad=>wpList_nil (b _ _ ?_)⟩
 refine wp_ret ?_
 refine zG Tryz.results97 ad rfl ?_
 exact⟨rfl,f,rfl⟩
end Go.Proofs.YteeliipnilghaaaGreat
namespace Go.Proofs.YteeliipnilghaaaGreat
open Go Go.Shelf
def akN:Ren:=⟨λ f=>match f with|6=>96 |15=>125 |14=>124 |28=>157 |29=>158 |20=>149 |21=>150 |22=>151 |23=>152 |24=>153 |25=>154 |26=>155 |27=>156 |46=>167 |47=>168 |48=>169 |49=>170 |50=>171 |57=>173 |f=>f,
 λ t=>match t with|22=>22 |24=>3 |25=>147 |3=>3 |39=>175 |0=>0 |53=>199 |55=>201 |4=>4 |46=>193 |45=>192 |50=>94 |5=>5 |9=>9 |66=>205 |70=>109 |76=>210 |77=>211 |t=>t,λ g=>g⟩
theorem akM:SlLaysF.n6 Tryz.prog akN:={
 mixed:=by kernel_rfl
 f6:=⟨Tryz.f96.name,by kernel_rfl,by kernel_rfl⟩
 f14:=⟨Tryz.f124.name,by kernel_rfl,by kernel_rfl⟩
 f15:=by kernel_rfl
 f20:=⟨Tryz.f149.name,by kernel_rfl,by kernel_rfl⟩
 f21:=⟨Tryz.f150.name,by kernel_rfl,by kernel_rfl⟩
 f22:=⟨Tryz.f151.name,by kernel_rfl,by kernel_rfl⟩
 f23:=⟨Tryz.f152.name,by kernel_rfl,by kernel_rfl⟩
 f24:=⟨Tryz.f153.name,by kernel_rfl,by kernel_rfl⟩
 f25:=⟨Tryz.f154.name,by kernel_rfl,by kernel_rfl⟩
 f26:=⟨Tryz.f155.name,by kernel_rfl,by kernel_rfl⟩
 f27:=⟨Tryz.f156.name,by kernel_rfl,by kernel_rfl⟩
 f28:=by kernel_rfl
 f29:=by kernel_rfl
 f46:=⟨Tryz.f167.name,by kernel_rfl,by kernel_rfl⟩
 f47:=by kernel_rfl
 f48:=by kernel_rfl
 f49:=⟨Tryz.f170.name,by kernel_rfl,by kernel_rfl⟩
 f50:=⟨Tryz.f171.name,by kernel_rfl,by kernel_rfl⟩
 f57:=⟨Tryz.f173.name,by kernel_rfl,by kernel_rfl⟩
 t0:=by kernel_rfl
 a0:=λ w=>by kernel_rfl
 z0:=λ w=>by kernel_rfl
 v0:=λ w=>by kernel_rfl
 t3:=by kernel_rfl
 a3:=λ w=>by kernel_rfl
 z3:=λ w=>by kernel_rfl
 v3:=λ w=>by kernel_rfl
 t4:=by kernel_rfl
 a4:=λ w=>by kernel_rfl
 z4:=λ w=>by kernel_rfl
 v4:=λ w=>by kernel_rfl
 t5:=by kernel_rfl
 a5:=λ w=>by kernel_rfl
 z5:=λ w=>by kernel_rfl
 v5:=λ w=>by kernel_rfl
 t9:=by kernel_rfl
 a9:=λ w=>by kernel_rfl
 z9:=λ w=>by kernel_rfl
 v9:=λ w=>by kernel_rfl
 t22:=by kernel_rfl
 a22:=λ w=>by kernel_rfl
 z22:=λ w=>by kernel_rfl
 v22:=λ w=>by kernel_rfl
 a24:=λ w=>by kernel_rfl
 z24:=λ w=>by kernel_rfl
 t25:=by kernel_rfl
 a25:=λ w=>by kernel_rfl
 z25:=λ w=>by kernel_rfl
 v25:=λ w=>by kernel_rfl
 t39:=by kernel_rfl
 a39:=λ w=>by kernel_rfl
 z39:=λ w=>by kernel_rfl
 v39:=λ w=>by kernel_rfl
 t45:=by kernel_rfl
 a45:=λ w=>by kernel_rfl
 z45:=λ w=>by kernel_rfl
 v45:=λ w=>by kernel_rfl
 t46:=by kernel_rfl
 a46:=λ w=>by kernel_rfl
 z46:=λ w=>by kernel_rfl
 v46:=λ w=>by kernel_rfl
 t50:=by kernel_rfl
 a50:=λ w=>by kernel_rfl
 z50:=λ w=>by kernel_rfl
 v50:=λ w=>by kernel_rfl
 t53:=by kernel_rfl
 a53:=λ w=>by kernel_rfl
 z53:=λ w=>by kernel_rfl
 v53:=λ w=>by kernel_rfl
 t55:=by kernel_rfl
 a55:=λ w=>by kernel_rfl
 z55:=λ w=>by kernel_rfl
 v55:=λ w=>by kernel_rfl
 t66:=by kernel_rfl
 a66:=λ w=>by kernel_rfl
 z66:=λ w=>by kernel_rfl
 v66:=λ w=>by kernel_rfl
 t70:=by kernel_rfl
 a70:=λ w=>by kernel_rfl
 z70:=λ w=>by kernel_rfl
 v70:=λ w=>by kernel_rfl
 t76:=by kernel_rfl
 a76:=λ w=>by kernel_rfl
 z76:=λ w=>by kernel_rfl
 v76:=λ w=>by kernel_rfl
 t77:=by kernel_rfl
 a77:=λ w=>by kernel_rfl
 z77:=λ w=>by kernel_rfl
 v77:=λ w=>by kernel_rfl }
end Go.Proofs.YteeliipnilghaaaGreat
namespace Go.Proofs.YteeliipnilghaaaGreat
open Go Go.RowKit aw I bc Go.Sort Go.Proofs
def eX(Y O x:Int):Int:=if Y<x then x else x+Y+O
def kH(Y O:Int)(x y:Int):Bool:=decide (eX Y O x<=eX Y O y)
def kK(Y O:Int)(l:List Int):List Int:=l.mergeSort (kH Y O)
abbrev Em(Y O:Int):Type:={ x:Int // 1<=x/\x<=Y+O }
def o0(Y O:Int)(x y:Em Y O):Int:=eX Y O x.1-eX Y O y.1
def vu{Y O:Int}(x:Em Y O):Value:=.int .i64 x.1
theorem ai0{Y O x:Int}(a:0<=Y/\Y<=100000)(b:0<=O/\O<=100000)(c:1<=x/\x<=Y+O):wY Y O x=eX Y O x:=by
 unfold wY eX;by_cases h:Y<x
 ·rw[decide_eq_true h,if_pos h];rfl
 ·rw[decide_eq_false h,if_neg h,cond_false]
  unfold ax
  omega
theorem aHk(Y O:Int):SWO (ltOf (o0 Y O)) where
 irrefl x:=by simp[ltOf,o0]
 trans x y z a J:=by
  have a:eX Y O x.1-eX Y O y.1<0:=of_decide_eq_true a;have J:eX Y O y.1-eX Y O z.1<0:=of_decide_eq_true J;exact decide_eq_true (show eX Y O x.1-eX Y O z.1<0 by omega)
 ntrans x y z a J:=by
  have a: ¬eX Y O x.1-eX Y O y.1<0:=of_decide_eq_false a;have J: ¬eX Y O y.1-eX Y O z.1<0:=of_decide_eq_false J;exact decide_eq_false (show¬eX Y O x.1-eX Y O z.1<0 by omega)
theorem aHA{Y O:Int}(b:0<=Y)(c:0<=O)(x y:Em Y O)(a:ltOf (o0 Y O) x y=false)(J:ltOf (o0 Y O) y x=false):x=y:=by
 obtain⟨x,d⟩:=x;obtain⟨y,hy⟩:=y;simp only[ltOf,o0,decide_eq_false_iff_not,eX]at a J;apply Subtype.ext;show x=y
 split at a<;>split at a<;>simp_all<;>omega
theorem aHc{Y O:Int}(l:List (Em Y O)):(l.mergeSort λ x y=>!(ltOf (o0 Y O)) y x).map Subtype.val=kK Y O (l.map Subtype.val):=by
 unfold kK;refine List.map_mergeSort λ a _ b _=>?_;unfold ltOf o0 kH;by_cases h:eX Y O a.1<=eX Y O b.1
 ·rw[decide_eq_true h,decide_eq_false (by omega)];rfl
 ·rw[decide_eq_false h,decide_eq_true (by omega)];rfl
theorem P5{α:Type} [Inhabited α]{enc:α->Value}{w:World}{cg off m:Nat}{dk:Array α}{os:Array Obj}{k:Nat}(a:k≠cg)(b:k<w.heap.size):(sortWorld enc w cg off m dk os).heap[k]? =w.heap[k]? :=by
 unfold sortWorld grow putRow mapBlock Sort.ahead;simp only;rw[Array.getElem?_append_left (by simpa using b),jO,if_neg (λ e=>a e.symm)]
theorem aHj{α:Type} [Inhabited α]{enc:α->Value}{w:World}{cg m:Nat}{dk:Array α}{os:Array Obj}{cur:Array Value}{e:TypeId}(h:w.heap[cg]? =some (.cells cur e (0,0))):(sortWorld enc w cg 0 m dk os).heap[cg]? =some (.cells (putCells enc 0 dk cur) e (0,0)):=by
 have a:cg<w.heap.size:=by
  rcases gg cg w.heap.size with h1 |h1
  ·exact h1
  ·rw[hJ h1]at h;cases h
 unfold sortWorld grow putRow mapBlock Sort.ahead;simp only;rw[Array.getElem?_append_left (by simpa using a),jO,if_pos rfl,h];rfl
theorem cell_of{w:World}{cg k:Nat}{cur:Array Value}{e:TypeId}(h:w.heap[cg]? =some (.cells cur e (0,0))):w.cell? ⟨cg,k,none⟩=cur[k]? /\w.frozen? ⟨cg,k,none⟩=false:=by
 constructor
 ·simp[World.cell?,h]
 ·simp[World.frozen?,h]
theorem SX{w w':World}{b o:Nat}{v:Value}(h:w'.heap[b]? =w.heap[b]?)(hc:w.cell? ⟨b,o,none⟩=some v):w'.cell? ⟨b,o,none⟩=some v:=by
 unfold World.cell? at hc⊢;rw[h];exact hc
theorem Any.aHa{P:Program}{ρ:Go.Shelf.Ren}{α:Type} [Inhabited α](L:SlLaysF.n6 P ρ)(enc:α->Value)(h:OneCell enc)(a:α->α->Int)(f:SWO (ltOf a))(g:Nat)(c:Array Value)(cg off cap:Nat)(d:Array α)(w:World)
 (Mx:∀args w,(callFunc g args).run P w= .ok (.enter g args) w)(i:CmpLays1 P g c enc a cg off d.size w)(j:Holds enc w cg off d)(b:cg<w.heap.size)(k:d.size<4611686018427387904)(l:∀x y,(ltOf a) x y=false->(ltOf a) y x=false->x=y) :
 Calls P (ρ.f 6) #[.slice (some ⟨cg,off,none⟩) d.size cap,.func (.func g) #[] c] w λ e w'=>
  e= .returned (.tuple #[])/\ ∃n os,w'=sortWorld enc w cg off n (d.toList.mergeSort λ x y=>!(ltOf a) y x).toArray os:=
 (Any.slices_SortFunc L enc h a f g c cg off cap d w Mx i j b k).mono λ _ _ ⟨m,d',n,os,o,aj,p⟩=>
  ⟨m,n,os,by rw[p,<-sorted_unique_holds f l d d' o aj]⟩
set_option maxHeartbeats 1000000
theorem aHg{W:World}{gb gh cg cap:Nat}{Y O:Int}(p:0<=Y/\Y<=100000)(r:0<=O/\O<=100000){L:List Int}(B:∀x∈L,1<=x/\x<=Y+O)(D:L≠[])(a:L.length<4611686018427387904)
 (h1:W.cell? ⟨gb,0,none⟩=some (.pointer (some ⟨gh,0,none⟩)))(J:W.cell? ⟨gh,1,none⟩=some (.int .i64 Y))(ap:W.cell? ⟨gh,2,none⟩=some (.int .i64 O))(af:gb≠cg)(C:gh≠cg)
 {cur:Array Value}(f:W.heap[cg]? =some (.cells cur 3 (0,0)))(g:cur.toList.take L.length=L.map (Value.int .i64)) :
 Calls Tryz.prog 96 [.slice (some ⟨cg,0,none⟩) L.length cap,.func (.func 97) #[] #[.pointer (some ⟨gb,0,none⟩)]].toArray W λ e w'=>e= .returned (.tuple #[])/\bp [cg] W w'/\ ∃s:Array Value,w'.heap[cg]? =some (.cells s 3 (0,0))/\s.size=cur.size/\s.toList.take L.length=(kK Y O L).map (Value.int .i64):=by
 obtain⟨i,L',rfl⟩:=List.exists_cons_of_ne_nil D
 haveI:Inhabited (Em Y O):=⟨⟨i,B i (by simp)⟩⟩
 obtain⟨d,aL⟩:∃d:List (Em Y O),d.map Subtype.val=i::L':=⟨(i::L').attachWith _ B,by simp⟩
 rw[<-aL]at g a⊢
 rw[fW]at g a⊢
 have t:∀ {k:Nat}{o:Obj},W.heap[k]? =some o->k<W.heap.size:=λ{k o} h=>by
  rcases gg k W.heap.size with h1 |h1
  ·exact h1
  ·rw[hJ h1]at h;cases h
 have u:∀ {b o:Nat}{v:Value},W.cell? ⟨b,o,none⟩=some v->b<W.heap.size:=λ{b o v} h=>World.block_lt_of_cell? W ⟨b,o,none⟩ h
 have w:∀j (aA:j<d.length),cur[j]? =some (vu d[j]):=λ j aA=>by
  have:=congrArg (λ l=>l[j]?) g;simp only[gT,if_pos aA,jb,aJ aA,fm,ht]at this;exact this
 have E:Holds (vu (Y:=Y) (O:=O)) W cg 0 d.toArray:=λ j aA=>by
  have aA:j<d.length:=by simpa using aA
  have:=cell_of (k:=j) f;rw[jx,this.1,w j aA];refine⟨?_,this.2⟩;rw[getElem!_pos d.toArray j (by simpa using aA)];simp
 have F:CmpLays1 Tryz.prog 97 #[.pointer (some ⟨gb,0,none⟩)] (vu (Y:=Y) (O:=O)) (o0 Y O) cg 0 d.toArray.size W:=λ m os dk _ x y=>by
  have G:=SX (P5 (enc:=vu (Y:=Y) (O:=O)) (off:=0) (m:=m) (dk:=dk) (os:=os) af (u h1)) h1;have ak:=SX (P5 (enc:=vu (Y:=Y) (O:=O)) (off:=0) (m:=m) (dk:=dk) (os:=os) C (u J)) J;have aS:=SX (P5 (enc:=vu (Y:=Y) (O:=O)) (off:=0) (m:=m) (dk:=dk) (os:=os) C (u ap)) ap;refine Calls.mono (atf (x:=x.1) (y:=y.1) G ak aS) λ e w' f=>⟨?_,?_⟩
  ·rw[f.1,ai0 p r x.2,ai0 p r y.2]
   have N:=x.2;have hy:=y.2
   have:ax (eX Y O x.1-eX Y O y.1)=o0 Y O x y:=by
    unfold o0 ax eX;split<;>split<;>omega
   rw[this]
  ·obtain⟨q,H⟩:=f.2
   exact⟨q,#[],by rw[H,grow_empty]⟩
 have z:=Any.aHa akM (vu (Y:=Y) (O:=O)) (λ _=>rfl) (o0 Y O) (aHk Y O) 97 #[.pointer (some ⟨gb,0,none⟩)] cg 0 cap d.toArray W (jG.call 97 (rV (by kernel_rfl))) F E (t f) (by simpa using a) (aHA p.1 r.1)
 refine Calls.mono (show Calls Tryz.prog 96 _ W _ from z) λ e w' c=>?_
 obtain⟨I,n,os,c⟩:=c
 obtain⟨S,A⟩:∃S,S=d.toArray.toList.mergeSort λ x y=>!(ltOf (o0 Y O)) y x:=⟨_,rfl⟩
 rw[<-A]at c
 have P:S.length=d.length:=by rw[A,mg]
 refine⟨I,⟨by rw[c];rfl,by rw[c];rfl,by rw[c];rfl,?_,λ k K M=>by rw[c];exact P5 (by simpa using M) K⟩,putCells vu 0 S.toArray cur,by rw[c];exact aHj f,by simp[putCells],?_⟩
 ·rw[c]
  unfold sortWorld grow putRow mapBlock Sort.ahead
  simp
 ·rw[<-aHc,List.map_map]
  have hcs:d.length<=cur.size:=by
   have:=congrArg iv g;simp at this;omega
  rw[show(d.mergeSort λ x y=>!(ltOf (o0 Y O)) y x)=S from A.symm]
  refine kL λ j=>?_
  rw[gT]
  by_cases aA:j<d.length
  ·rw[if_pos aA,jb,aJ (by omega:j<S.length),ht]
   unfold putCells
   rw[Array.getElem?_mapIdx,jh (by omega)]
   simp only[fm]
   rw[if_pos ⟨gK _,by simp;omega⟩,Nat.sub_zero,getElem!_pos S.toArray j (by simp;omega)]
   simp[vu]
  ·rw[if_neg aA,jb,gH (by omega)]
   rfl
end Go.Proofs.YteeliipnilghaaaGreat
namespace Go.Proofs.YteeliipnilghaaaGreat
open Go Go.RowKit aw I bc
@[reducible] def N_:List cL:=[.p (.P 5 1),.p (.B 0),.p (.B 1),.p (.B 2),.p (.R 6)]
@[reducible] def Jt:List cL:=[.p (.P 5 1),.p (.B 0),.p (.B 1),.p (.R 6)]
@[reducible] def lV:List bI:=[.c 67 [.B 3],.c 69 [.l 134,.l 3,.l 124,.l 120,.l 121],.c 140 [.B 3,.l 134,.l 3,.l 124,.l 120,.l 121,.M 4],.c 24 [.l 3,.i .i64,.i .i64,.i .i64,.i .i64,.l 3,.i .i64],.m 3 4,.r 3 true,.r 3 false]
noncomputable def rW:Code×Code:=((Dd Tryz.prog 63 0).getD (.skip,.skip))
noncomputable def fv:xT:=(Gb rW.1 rW.2).getD ⟨0,#[],0,0,0,0,0,default,default,default,default,default,0,#[],0,#[]⟩
theorem az9:Dd Tryz.prog 63 0=some rW:=by kernel_rfl
theorem az_:Gb rW.1 rW.2=some fv:=by kernel_rfl
def CG(Y O:Int)(a e3:List Int):Option (List Int):=match decide (0<=Y)&&decide (Y<=100000)&&decide (0<=O)&&decide (O<=100000)&&decide (a.length<=200000)&&e3.isEmpty&&a.all (λ x=>decide (1<=x)&&decide (x<=Y+O))with
 |true=>some (kK Y O a)
 |false=>none
theorem aAa{Y O:Int}{a e3 S:List Int}(h:CG Y O a e3=some S):(0<=Y/\Y<=100000)/\(0<=O/\O<=100000)/\a.length<=200000/\e3=[]/\(∀x∈a,1<=x/\x<=Y+O)/\S=kK Y O a:=by
 unfold CG at h;split at h
 ·rename_i af
  simp only[bH,decide_eq_true_eq,kh,List.isEmpty_iff]at af
  obtain⟨⟨⟨⟨⟨⟨b,J⟩,ap⟩,c⟩,d⟩,e⟩,f⟩:=af
  exact⟨⟨b,J⟩,⟨ap,c⟩,d,e,f,(ei h).symm⟩
 ·cases h
def Js(d:dn bq.El N_×cF bq.El lV):Option (xL bq.El ⟨.nm,[2,3,4,8],Jt,lV⟩):=
 (CG d.2.2.2.2.1.2.1 d.2.2.2.2.1.2.2.1 (List.map (α:=Int×Bool) kQ d.2.2.2.2.2.1) d.2.2.2.2.2.2.2.1).map λ S=>((d.1.1,(),(),(),()),(d.2.1,d.2.2.1,d.2.2.2.1,d.2.2.2.2.1,d.2.2.2.2.2.1,d.2.2.2.2.2.2.1,S,()))
theorem aAi:fv.h5.op= .next (.tmp 36) false/\fv.h5.dst=some 37/\fv.h5.guard=none:=by refine⟨?_,?_,?_⟩<;>kernel_rfl
theorem aAf:fv.l3.op= .extract (.tmp 37) 0/\fv.l3.dst=some 38/\fv.l3.guard=none:=by refine⟨?_,?_,?_⟩<;>kernel_rfl
theorem aAg:fv.lm.op= .entry (.tmp 36)/\fv.lm.dst=some 39/\fv.lm.guard=none:=by refine⟨?_,?_,?_⟩<;>kernel_rfl
theorem aAh:fv.ki.op= .extract (.tmp 39) 0/\fv.ki.dst=some 40/\fv.ki.guard=none:=by refine⟨?_,?_,?_⟩<;>kernel_rfl
theorem aAj:fv.l4.op= .assign (.tmp 40)/\fv.l4.dst=some 9/\fv.l4.guard=none:=by refine⟨?_,?_,?_⟩<;>kernel_rfl
noncomputable def aAm:List Oper:=fv.ops.toList.take 4
noncomputable def Ju:Oper:=(fv.ops.toList.drop 4).headD fv.h5
theorem aAk:fv.ops.toList=aAm++[Ju]:=by kernel_rfl
theorem WQ:Ju.op= .range 70 (.tmp 35)/\Ju.dst=some 36/\Ju.guard=none:=by refine⟨?_,?_,?_⟩<;>kernel_rfl
noncomputable def N7:Oper:=fv.w6.toList.headD fv.h5
noncomputable def N8:Oper:=(fv.w6.toList.drop 1).headD fv.h5
noncomputable def N9:Oper:=(fv.w6.toList.drop 2).headD fv.h5
theorem aAn:fv.w6.toList=[N7,N8,N9]:=by kernel_rfl
theorem aho:N7.op= .move (.tmp 8)/\N7.dst=some 45:=by refine⟨?_,?_⟩<;>kernel_rfl
theorem ahp:N8.op= .makeFunc (.func 97) #[] #[.tmp 3]/\N8.dst=some 46:=by refine⟨?_,?_⟩<;>kernel_rfl
theorem ahq:N9.op= .call { callee:=.value (.func 96),args:=[.tmp 45,.tmp 46].toArray,argTypes:=#[22,147] }/\N9.dst=some 47:=by refine⟨?_,?_⟩<;>kernel_rfl
theorem aFP{F:Nat->Prop}{w:World}{cs:List Value}{d:Int}(h:(bq.ty 3).rd F w cs d):cs=[.int .i64 d]:=by
 change e4 (λ t=>(fC E1 t).ty) F w [.i .i64] _ (d,())at h;obtain⟨u,us,rfl,rfl,rfl⟩:=h;rfl
theorem aFQ{F:Nat->Prop}{w:World}(d:Int):(bq.ty 3).rd F w [.int .i64 d] d:=by
 change e4 (λ t=>(fC E1 t).ty) F w [.i .i64] _ (d,());exact⟨_,_,rfl,rfl,rfl⟩
theorem Zt{F:Nat->Prop}{w:World}:∀ {l:List (bq.El 3)}{xs:List Value},dE (bq.ty 3) F w xs l->xs=List.map (α:=Int) (Value.int .i64) l
 |[],xs,h=>h
 |d::r,xs,h=>by
  obtain⟨cs,ys,rfl,a,J⟩:=h;rw[aFP a,Zt J];rfl
theorem Zu{F:Nat->Prop}{w:World}:∀(l:List (bq.El 3)),dE (bq.ty 3) F w (List.map (α:=Int) (Value.int .i64) l) l
 |[]=>rfl
 |d::r=>⟨[.int .i64 d],_,rfl,aFQ d,Zu r⟩
theorem aHb{Y O:Int}(k:0<=Y)(m:0<=O){l l':List Int}(f:l.Perm l')(g:∀x∈l,1<=x/\x<=Y+O):kK Y O l=kK Y O l':=by
 unfold kK;have h:∀a b c:Int,kH Y O a b=true->kH Y O b c=true->kH Y O a c=true:=λ a b c d J=>by
  simp only[kH,decide_eq_true_eq]at *;omega
 have i:∀a b:Int,(kH Y O a b||kH Y O b a)=true:=λ a b=>by
  simp only[kH,hV,decide_eq_true_eq];omega
 refine List.Perm.eq_of_pairwise (le:=λ a b=>kH Y O a b=true) (λ a b j af d J=>?_) (l6 h i l) (l6 h i l') (((kO l _).trans f).trans (kO l' _).symm);have j:=g a ((kO l _).mem_iff.1 j);have af:=g b (f.mem_iff.2 ((kO l' _).mem_iff.1 af));have d:eX Y O a<=eX Y O b:=of_decide_eq_true d;have J:eX Y O b<=eX Y O a:=of_decide_eq_true J;unfold eX at d J;by_cases ap:Y<a<;>by_cases e:Y<b
 ·rw[if_pos ap,if_pos e]at d J;omega
 ·rw[if_pos ap,if_neg e]at d;omega
 ·rw[if_neg ap,if_pos e]at d J;omega
 ·rw[if_neg ap,if_neg e]at d J;omega
theorem aHf(p:Option Addr)(cap:Nat)(a:Value)(w:World):Calls Tryz.prog 96 #[.slice p 0 cap,a] w λ e w'=>e= .returned (.tuple #[])/\w'=w:=
 Go.Proofs.AnyF.slices_SortFunc_none (ρ:=akN) { akM with } p cap a w
theorem axz:∀args w,(callFunc 96 args).run Tryz.prog w= .ok (.enter 96 args) w:=jG.call 96 (rV (by kernel_rfl))
end Go.Proofs.YteeliipnilghaaaGreat
namespace Go.Proofs.YteeliipnilghaaaGreat
open Go Go.RowKit aw I bc
theorem aAc:N7.guard=none:=by kernel_rfl
theorem aAd:N8.guard=none:=by kernel_rfl
theorem aAe:N9.guard=none:=by kernel_rfl
theorem aib:∀ {fr:List (Nat×Value)}{t:Nat}{y:Value},eh fr t=some y->(t,y)∈fr
 |[],t,y,h=>by simp[eh]at h
 |p::r,t,y,h=>by
  unfold eh at h;split at h
  ·rename_i af
   simp only[aF]at h
   have:=bd af
   subst this;subst h
   exact iD
  ·exact dX _ (aib h)
def WN(t:b6 bq.El):Option (Nat×List Value):=match fX t,cD t.s.f.fr 35 with
 |true,some (.m j)=>(vC t.s.f [2,3,4,8]).map λ vs=>(j,vs)
 |_,_=>none
theorem ahn{t:b6 bq.El}{j:Nat}{vs:List Value}(h:WN t=some (j,vs)):fX t=true/\cD t.s.f.fr 35=some (.m j)/\vC t.s.f [2,3,4,8]=some vs:=by
 unfold WN at h;split at h
 ·rename_i b J
  obtain⟨us,ap,a⟩:=cu.1 h
  simp only[ca]at a
  obtain⟨rfl,rfl⟩:=a
  exact⟨b,J,ap⟩
 ·cases h
def fY{T:bR}(t:b6 T.El):Bool:=match t.x with
 | .nm=>true
 |_=>false
theorem azT{T:bR}{t:b6 T.El}(h:fY t=true):t.x= .nm:=by
 unfold fY at h;split at h
 ·rename_i e;exact e
 ·cases h
def N6(t:b6 bq.El):Option ((Nat×Nat)×(Nat× Σ u,List (bq.El u))×List Nat×List Value):=match fY t,cD t.s.f.fr 8,bc.rowAt t.s.bl 6 with
 |true,some (.r i g),some p=>(vC t.s.f [2,3,4,36]).map λ vs=>((i,g),p,t.s.ws,vs)
 |_,_,_=>none
theorem aAb{t:b6 bq.El}{i g:Nat}{p:Nat× Σ u,List (bq.El u)}{ws:List Nat}{vs:List Value}(h:N6 t=some ((i,g),p,ws,vs)):t.x= .nm/\cD t.s.f.fr 8=some (.r i g)/\bc.rowAt t.s.bl 6=some p/\t.s.ws=ws/\vC t.s.f [2,3,4,36]=some vs:=by
 unfold N6 at h;split at h
 ·rename_i b J ap
  obtain⟨us,c,a⟩:=cu.1 h
  simp only[ca]at a
  obtain⟨⟨rfl,rfl⟩,rfl,rfl,rfl⟩:=a
  exact⟨azT b,J,ap,rfl,c⟩
 ·cases h
theorem axo{cg n c:Nat}(h:0<c):bc.af (.slice (some ⟨cg,0,none⟩) n c)=[cg]:=by
 cases c with
 |zero=>omega
 |succ c=>rfl
theorem aHd{W:World}{gb gh cap:Nat}{A:Option Addr}{Y O:Int}(j:0<=Y/\Y<=100000)(k:0<=O/\O<=100000){L:List Int}(l:∀x∈L,1<=x/\x<=Y+O)(b:L.length<4611686018427387904)
 (m:W.cell? ⟨gb,0,none⟩=some (.pointer (some ⟨gh,0,none⟩)))(J:W.cell? ⟨gh,1,none⟩=some (.int .i64 Y))(ap:W.cell? ⟨gh,2,none⟩=some (.int .i64 O))
 (c:rowIs W 3 (bq.ty 3).size (.slice A L.length cap) L.length (L.map (Value.int .i64)))(af:gb∉bc.af (.slice A L.length cap))(g:gh∉bc.af (.slice A L.length cap)) :
 Calls Tryz.prog 96 [.slice A L.length cap,.func (.func 97) #[] #[.pointer (some ⟨gb,0,none⟩)]].toArray W λ e w'=>e= .returned (.tuple #[])/\bp (bc.af (.slice A L.length cap)) W w'/\rowIs w' 3 (bq.ty 3).size (.slice A L.length cap) L.length ((kK Y O L).map (Value.int .i64)):=by
 have n:(bq.ty 3).size=1:=rfl
 rw[n]at c⊢
 by_cases d:L=[]
 ·subst d
  refine Calls.mono (aHf A cap _ W) λ e w' a=>?_
  obtain⟨f,a⟩:=a
  refine⟨f,a▸bp.refl _ _,?_⟩
  rw[a,show kK Y O []=[] from by simp[kK]]
  exact c
 ·have o:0<L.length:=lD.2 d
  obtain⟨w,p⟩:=c.own o
  rcases p with⟨_,e⟩|⟨cg,q,cur,h,ak,aS,bN,dq,eH,i⟩
  ·omega
  ·simp only[Value.slice.injEq,true_and]at h
   obtain⟨rfl,rfl⟩:=h
   rw[axo (by omega)]at af g⊢
   rw[jB]at i
   refine Calls.mono (aHg j k l d b m J ap (by simpa using af) (by simpa using g) aS i) λ e w' a=>?_
   obtain⟨f,r,s,t,u,v⟩:=a
   refine⟨f,r,.inl ⟨?_,.inr ⟨cg,cap,s,rfl,ak,t,bN,dq,u.trans eH,by rw[jB];exact v⟩⟩⟩
   rw[fW,kK,mg,jB]
theorem Kq{T:bR}{F:Nat->Prop}{w:World}{ρ:List Value}{bl:List (aD T.El)}{y:aH T.El}{r:List (aH T.El)}{v:Value}{vs:List Value}(h:a7 T F w ρ bl (y::r) (v::vs)):ar T F w ρ bl y v/\a7 T F w ρ bl r vs:=by
 simp only[a7]at h;obtain⟨u,us,e,a,J⟩:=h;simp only[hA]at e;obtain⟨rfl,rfl⟩:=e;exact⟨a,J⟩
theorem PP{T:bR}{F:Nat->Prop}{w:World}{ρ:List Value}{bl:List (aD T.El)}{y:aH T.El}{r:List (aH T.El)}{vs:List Value}(h:a7 T F w ρ bl (y::r) vs):∃u us,vs=u::us/\ar T F w ρ bl y u/\a7 T F w ρ bl r us:=by
 simpa only[a7]using h
set_option maxRecDepth 100000
set_option maxHeartbeats 4000000
theorem aAs:acM aE ⟨165,[]⟩ [2,3,4,7,8] N_ lV ⟨.nm,[2,3,4,8],Jt,lV⟩ Js rW.1 rW.2:=by
 intro da db eS fj W M0 X ρ a w c' rL dj rest Q k;obtain⟨aa,az⟩:=aje az_;rw[aa,az];obtain⟨(dY:List Int),KR,Qc,aM8,u8,aNb⟩:=da;obtain⟨E,G,j,⟨(nF:List Int),(Y:Int),(O:Int),ta⟩,(I:List (Int×Bool)),(uq:List Int),(e3:List Int),vr⟩:=db;obtain⟨(S:List Int),dF,H⟩:=cu.1 fj;obtain⟨lM,hO,M,V9,I1,Vf⟩:=aAa (show CG Y O (I.map kQ) e3=some S from dF);subst V9;subst H;obtain⟨p,u⟩:=dj;have u:a7 bq _ w ρ _ [.pp 5 0 1 dY,.b 0 0,.b 1 0,.b 2 0,.r 6 0] [a.tmps.getD 2 undef,a.tmps.getD 3 undef,a.tmps.getD 4 undef,a.tmps.getD 7 undef,a.tmps.getD 8 undef]:=u;obtain⟨J,u⟩:=Kq u;obtain⟨ap,u⟩:=Kq u;obtain⟨a',u⟩:=Kq u;obtain⟨hj,u⟩:=Kq u;obtain⟨lL,u⟩:=Kq u;obtain⟨rO,bN⟩:=p.rY (i:=4) (B:=.m 3 4 I) rfl;obtain⟨bm,Cc,Sf,Vd,es,clock,tF,IH,V8,Fg⟩:=p.ok 4 (.m 3 4 I) _ rfl bN;subst Cc;obtain rfl:Sf=(tQ:hX (aE.T.El 3)):=by
  have U8:(aE.T.e 3).key=some (tQ:hX (aE.T.El 3)):=by kernel_rfl
  exact ei (Vd.symm.trans U8)
 have IZ:=Tj IH;have ka:(es.toList.map (·.born)).Nodup:=lx.2 (V8.imp λ h=>Nat.ne_of_lt h);obtain⟨C,eH⟩:=p.rY (i:=6) (B:=.r 3 0 0 ([]:List (bq.El 3))) rfl;obtain⟨nz,eB,aNn,Nv,ayX,ayS⟩:=p.ZI (i:=6) (t:=3) (g:=0) (k:=0) (l0:=([]:List (bq.El 3))) rfl eH;have aHQ:a.tmps.getD 8 undef=C:=by
  simp only[ar]at lL;obtain⟨_,h',br,_,bU⟩:=lL;rw[eH]at br;cases br;exact bU rfl
 have X0:∀q∈bc.af C,q<w.heap.size:=λ q b=>(p.lt q ⟨6,_,_,rfl,eH,b⟩).1;have H:∀ {k:Nat}{o:Obj}{w:World},w.heap[k]? =some o->k<w.heap.size:=λ{k o w} h=>by
  rcases gg k w.heap.size with h1 |h1
  ·exact h1
  ·rw[hJ h1]at h;cases h
 have axp:bm∉bc.af C:=p.bz 4 6 _ _ _ _ rfl bN rfl eH (by decide) bm (dR.2 rfl);refine wp_seq (wp_seq (wp_region_list ?_));rw[aAk];refine PD (n:=⟨165,[]⟩) (K:=WN) (z:=(4,[a.tmps.getD 2 undef,a.tmps.getD 3 undef,a.tmps.getD 4 undef,a.tmps.getD 8 undef])) jG rfl p c' rL (fr:=[(7,.b 2 0),(2,.p (a.tmps.getD 2 undef)),(3,.p (a.tmps.getD 3 undef)),(4,.p (a.tmps.getD 4 undef)),(8,.p (a.tmps.getD 8 undef))]) (λ t y hy=>?_) (by kernel_rfl) (λ t h=>N1 (ahn h).1) λ t ev cm L Vb eb rH jH=>?_
 ·have:=JG hy
  simp only[cR,ca,h4,or_false]at this
  rcases this with⟨rfl,rfl⟩|⟨rfl,rfl⟩|⟨rfl,rfl⟩|⟨rfl,rfl⟩|⟨rfl,rfl⟩
  ·exact hj
  ·simp only[ar]
  ·simp only[ar]
  ·simp only[ar]
  ·simp only[ar]
 obtain⟨br,bA,bU⟩:=ahn Vb;have N:=Nc eb.dT.ef bU;simp only[eu,hS,hA,and_true]at N;obtain⟨g2,g3,g4,g8⟩:=N;have f35:=eb.dT.ef.get 35 _ bA;simp only[ar]at f35;obtain⟨asO,cW,eF⟩:=f35;obtain⟨mb,bk,bh,_⟩:=rH.L.at_ 4 _ bN;have bh:=bh (by simp[kE]);rw[bk,bh]at cW;cases cW;have vW:L.heap[bm]? =some (.map es clock):=(jH.block bm (H tF) (by simp)).trans tF;have avw:cm.eval (.tmp 35)= .map (some bm):=eF;obtain⟨r,fD⟩:∃r,r=L.heap.size:=⟨_,rfl⟩
 have aMH:w.heap.size<=r:=by rw[fD];exact jH.size
 have cK:bg aE.P Ju cm L (.pointer (some ⟨r,0,none⟩)) (L.alloc (.mapIter (some bm) clock #[] clock)):=by
  rw[fD];simp only[bg,execOp,WQ.1,avw];rw[Sem.run_bind,run_range_map (P:=aE.P) L 70 3 4 bm es clock Tryz.underlying70 vW];rfl
 refine fz WQ.2.2 cK ?_;rw[WQ.2.1];refine wpList_nil ?_;obtain⟨cS,kB⟩:∃cS,cS=L.alloc (.mapIter (some bm) clock #[] clock):=⟨_,rfl⟩
 rw[<-kB];have Fb:bp [] L cS:=by rw[kB];exact bp.alloc [] L _
 have Jj:cS.heap[r]? =some (.mapIter (some bm) clock #[] clock):=by rw[kB,fD];exact heap_alloc_new L _
 have n2:r<cS.heap.size:=H Jj;have HN:cm.tmps.size=165:=eb.dT.ef.size;have SA:cm.defers=[]:=eb.dT.ef.defers
 refine ahi (n:=165) (r:=r) (bm:=bm) (since:=clock) (clock:=clock) (ti:=36) (tn:=37) (tok:=38) (te:=39) (tk:=40) (tv:=9) (es:=es)
  (λ acc T w'=>T.tmps.size=165/\T.defers=[]/\T.tmps.getD 2 undef=a.tmps.getD 2 undef/\T.tmps.getD 3 undef=a.tmps.getD 3 undef/\T.tmps.getD 4 undef=a.tmps.getD 4 undef/\T.tmps.getD 36 undef= .pointer (some ⟨r,0,none⟩)/\Sd w' r bm clock clock es acc/\(acc.map (·.born)).Nodup/\(∀e∈acc,e∈es.toList)/\bp (bc.af C) w w'/\r<w'.heap.size/\
   ∃(l:List Int)(A:Option Addr)(c:Nat),l=acc.map kf/\T.tmps.getD 8 undef= .slice A l.length c/\rowIs w' 3 (bq.ty 3).size (.slice A l.length c) l.length (l.map (Value.int .i64))/\ ∀q∈bc.af (.slice A l.length c),q≠r/\(q∈bc.af C\/(w.heap.size<=q/\q<w'.heap.size)))
  aAi aAf aAg aAh aAj (by decide) (by decide) Fg (cC _) ka (λ acc T w' h=>⟨h.1,h.2.2.2.2.2.1,h.2.2.2.2.2.2.1,h.2.2.2.2.2.2.2.1,h.2.2.2.2.2.2.2.2.1⟩) ?_ ?_ ?_
 ·intro acc e a2 a3 jq qP jI he yL s Ji Nf NK tG
  obtain⟨i1,i2,Wo,Wp,Wq,i4,⟨i5,azy⟩,i6,i7,i8,i9,l,A,c,NR,U,V,f⟩:=jI
  have a6:bp (bc.af C) w qP:=i8.trans Nf λ x aa=>.inr (by simp at aa;omega)
  have ayk:∀q∈bc.af (.slice A l.length c),q<jq.heap.size:=λ q b=>(f q b).2.elim (λ h=>en (X0 q h) i8.size) (·.2)
  have n3:=V.later (w':=qP) λ q b=>Nf.block q (ayk q b) (by simpa using(f q b).1)
  obtain⟨rO,aHq⟩:=p.akg (i:=6) (t:=3) (g:=0) (k:=0) (l0:=([]:List (bq.El 3))) (l:=l) (A:=A) (c:=c) rfl eH a6 (λ q b=>(f q b).2.imp id λ h=>⟨h.1,by rw[NK];exact h.2⟩) n3 (λ F=>Zu l)
  have t9:=Ji (by decide)
  rw[Ti IH e he]at t9
  have ayj:l.length<=200000:=by
   have h1:=XK i6 (Y:=es.toList.map (·.born)) λ x aa=>by
    obtain⟨z,ah,rfl⟩:=hB.1 aa;exact jM (i7 z ah)
   have J:=congrArg iv IZ;simp only[fW]at h1 J M;rw[NR,fW];omega
  have vJ:bF 8 l [kf e]=some (l++[kf e]):=by
   unfold bF;rw[if_pos (by simp only[de,fT];omega)]
  obtain⟨t,gN,dc⟩:=D.sn (d:=opsL aE (Hv aE) fv.om 165 fv.om.toList ⟨⟨[(9,.p (.int .i64 (kf e))),(8,.r 6 1),(2,.p (a.tmps.getD 2 undef)),(3,.p (a.tmps.getD 3 undef)),(4,.p (a.tmps.getD 4 undef)),(36,.p (.pointer (some ⟨r,0,none⟩)))],[],[]⟩,(bM (El:=aE.T.El) id (b' false lV) false lV (E,G,j,(nF,Y,O,ta),I,uq,([]:List Int),vr)).set 6 (.r 3 1 0 l),[]⟩)
   (K:=N6) (r:=((6,2),(2,⟨3,(l++[kf e]:List Int)⟩),[6],[a.tmps.getD 2 undef,a.tmps.getD 3 undef,a.tmps.getD 4 undef,.pointer (some ⟨r,0,none⟩)])) (by
    have ai:(opsL aE (Hv aE) fv.om 165 fv.om.toList ⟨⟨[(9,.p (.int .i64 (kf e))),(8,.r 6 1),(2,.p (a.tmps.getD 2 undef)),(3,.p (a.tmps.getD 3 undef)),(4,.p (a.tmps.getD 4 undef)),(36,.p (.pointer (some ⟨r,0,none⟩)))],[],[]⟩,(bM (El:=aE.T.El) id (b' false lV) false lV (E,G,j,(nF,Y,O,ta),I,uq,([]:List Int),vr)).set 6 (.r 3 1 0 l),[]⟩).run N6=(bF 8 l [kf e]).bind λ m=>some ((6,2),(2,⟨3,m⟩),[6],[a.tmps.getD 2 undef,a.tmps.getD 3 undef,a.tmps.getD 4 undef,.pointer (some ⟨r,0,none⟩)]):=by kernel_rfl
    exact ai.trans (by rw[vJ];rfl))
  obtain⟨dZ,fV,ia,mj,sH⟩:=aAb dc
  refine wp_region_list ?_
  rw[show fv.om.toList=fv.om.toList++[] by simp]
  have H7:(ρ.set 6 (.slice A l.length c))[6]? =some (.slice A l.length c):=fH (aO.1 eH).1
  refine O' jG afp fv.om.toList gN dZ (aip (Xn (n:=⟨165,[]⟩) rfl rO (s.1.trans i1) (s.2.1.trans i2) λ t y hy=>?_)) λ aop a5 xg aj=>?_
  ·have:=JG hy
   simp only[cR,ca,h4,or_false]at this
   rcases this with⟨rfl,rfl⟩|⟨rfl,rfl⟩|⟨rfl,rfl⟩|⟨rfl,rfl⟩|⟨rfl,rfl⟩|⟨rfl,rfl⟩
   ·simp only[ar];exact t9
   ·simp only[ar]
    rw[s.2.2 8 (by decide),U]
    exact⟨trivial,_,H7,cC 1,λ _=>rfl⟩
   ·simp only[ar];rw[s.2.2 2 (by decide)];exact Wo
   ·simp only[ar];rw[s.2.2 3 (by decide)];exact Wp
   ·simp only[ar];rw[s.2.2 4 (by decide)];exact Wq
   ·simp only[ar];rw[s.2.2 36 (by decide)];exact i4
  obtain⟨kk,Ff⟩:=aGt ia
  obtain⟨aMs,H6⟩:=aj.r.mem.rY Ff
  obtain⟨cj,bG,eU,VA,agS,ayR⟩:=aj.r.mem.ZI Ff H6
  have hK:=Zt ayR
  have f8:=aj.r.dT.ef.get 8 _ fV
  simp only[ar]at f8
  obtain⟨_,p_,Z,_,WJ⟩:=f8
  rw[H6]at Z
  cases Z
  have WJ:=WJ (congrArg b1 Ff).symm
  have aza:=aHq.trans aj.to
  have N:=Nc aj.r.dT.ef sH
  simp only[eu,hS,hA,and_true]at N
  have af7:bp (bc.af (.slice A l.length c)) qP xg:=rO.afd aj.r.mem aj.to.sz λ q b aC=>aj.wr q b λ i hi B h f1 f2=>by
   rw[mj]at hi;simp only[dR]at hi;subst hi;obtain rfl:Value.slice A l.length c=h:=ei (H7.symm.trans f2);obtain rfl:aD.r (El:=bq.El) 3 1 0 l=B:=ei f1;exact aC
  have af8:bp (bc.af C) w xg:=a6.trans af7 λ x aa=>(f x aa).2.imp id (·.1)
  subst VA
  rw[hK]at agS
  refine wpList_nil ⟨rfl,aj.r.dT.ef.size,aj.r.dT.ef.defers,N.1,N.2.1,N.2.2.1,N.2.2.2,⟨?_,(af8.block bm (H tF) axp).trans tF⟩,?_,?_,af8,?_,l++[kf e],cj,bG,?_,WJ,agS,?_⟩
  ·obtain⟨c1,Z,pb⟩:=tG
   exact⟨c1,Z,(af7.block r (H pb) λ h=>(f r h).1 rfl).trans pb⟩
  ·rw[kc,ll]
   exact eQ.2 ⟨i6,by simp,λ x aa y hy ai=>by simp at hy;subst hy;subst ai;exact yL aa⟩
  ·intro x aa
   rcases b_.1 aa with aa |aa
   ·exact i7 x aa
   ·simp at aa;subst aa;exact he
  ·exact en (by rw[NK];exact i9) aj.to.sz
  ·rw[NR,kc,ll]
  ·intro q b
   refine⟨λ ai=>?_,?_⟩
   ·subst ai
    obtain⟨B,h,f1,f2,f3⟩:=aj.to.nT 6 _ _ Ff H6 q b (by rw[NK];exact i9)
    obtain rfl:Value.slice A l.length c=h:=ei (H7.symm.trans f2)
    obtain rfl:aD.r (El:=bq.El) 3 1 0 l=B:=ei f1
    exact(f q f3).1 rfl
   ·rcases gg q w.heap.size with h1 |h1
    ·obtain⟨B,h,f1,f2,f3⟩:=aza.nT 6 _ _ Ff H6 q b h1
     rw[eH]at f2
     cases f2
     have f1:some (aD.r (El:=bq.El) 3 0 0 ([]:List (bq.El 3)))=some B:=f1
     cases f1
     exact .inl f3
    ·exact .inr ⟨h1,(aj.r.mem.lt q ⟨6,_,_,Ff,H6,b⟩).1⟩
 ·intro acc a2 a3 jq jI V5 s
  obtain⟨i1,i2,Wo,Wp,Wq,i4,i5,i6,i7,i8,i9,l,A,c,NR,U,V,f⟩:=jI
  have Jc:l.Perm (I.map kQ):=by
   rw[NR,<-IZ];exact V5.map kf
  have aga:∀x∈l,1<=x/\x<=Y+O:=λ x aa=>I1 x (Jc.mem_iff.1 aa)
  have ayj:l.length<=200000:=by rw[Jc.length_eq];exact M
  have NI:kK Y O l=S:=by rw[Vf];exact aHb lM.1 hO.1 Jc aga
  have Fy:(kK Y O l).length=l.length:=by unfold kK;exact mg _
  have Vg:l.length=S.length:=by rw[<-Fy];exact congrArg iv NI
  obtain⟨Ci,cp⟩:=p.rY (i:=0) (B:=.c 67 [.b 3 0]) rfl
  obtain⟨gb,aHV,qa,Vy,azg⟩:=p.ok 0 (.c 67 [.b 3 0]) _ rfl cp
  subst qa
  obtain⟨aM7,aM_,Tt,NN,_⟩:=PP azg
  subst Tt
  simp only[ar]at NN
  obtain⟨gh,aS,NN⟩:=NN
  subst NN
  obtain⟨aMr,aNf,Nk,Vz,azh⟩:=p.ok 3 _ _ rfl aS
  cases Nk
  obtain⟨aNg,aM3,Tt,_,ayG⟩:=PP azh
  subst Tt
  obtain⟨aHX,aM4,ru,J8,la⟩:=PP ayG
  subst ru
  obtain⟨aHY,aM5,avv,aD7,rQ⟩:=PP la
  subst avv
  obtain rfl:aHX= .int .i64 Y:=J8
  obtain rfl:aHY= .int .i64 O:=aD7
  have als:a.tmps.getD 3 undef= .pointer (some ⟨gb,0,none⟩):=by
   have yA:=ap;simp only[ar]at yA;obtain⟨g',Z,pb⟩:=yA;rw[cp]at Z;cases Z;exact pb
  have aiz:gb∉bc.af C:=p.bz 0 6 _ _ _ _ rfl cp rfl eH (by decide) gb (dR.2 rfl)
  have aiD:gh∉bc.af C:=p.bz 3 6 _ _ _ _ rfl aS rfl eH (by decide) gh (dR.2 rfl)
  have axW:=(i8.block gb (H Vy) aiz).trans Vy
  have agy:=(i8.block gh (H Vz) aiD).trans Vz
  have P3:=aHd (W:=jq) (gb:=gb) (gh:=gh) (cap:=c) (A:=A) lM hO aga (by omega) ((cell_of (k:=0) axW).1.trans rfl) ((cell_of (k:=1) agy).1.trans rfl) ((cell_of (k:=2) agy).1.trans rfl) V
   (λ h=>(f gb h).2.elim aiz λ h=>by have:=H Vy;omega) (λ h=>(f gh h).2.elim aiD λ h=>by have:=H Vz;omega)
  refine wp_seq (wp_region_list ?_)
  rw[aAn]
  have ad:Fr ⟨165,[]⟩ [(2,a.tmps.getD 2 undef),(3,.pointer (some ⟨gb,0,none⟩)),(4,a.tmps.getD 4 undef),(8,.slice A l.length c)] a3:=⟨s.1.trans i1,s.2.1.trans i2,λ t v aK=>by
   have:=aib aK;simp only[cR,ca,h4,or_false]at this;rcases this with⟨rfl,rfl⟩|⟨rfl,rfl⟩|⟨rfl,rfl⟩|⟨rfl,rfl⟩
   ·rw[s.2.2 2 (by decide)];exact Wo
   ·rw[s.2.2 3 (by decide)];exact Wp.trans als
   ·rw[s.2.2 4 (by decide)];exact Wq
   ·rw[s.2.2 8 (by decide)];exact U⟩
  refine fG (wn aAc) (uU aho.1 (ad.g rfl)) ad aho.2 rfl λ a4 ad=>fG (wn aAd) (an_ (xs:=[.tmp 3]) (vs:=[.pointer (some ⟨gb,0,none⟩)]) ahp.1 (by simp only[eu,hS];rw[show a4.eval (.tmp 3)=_ from ad.g rfl])) ad ahp.2 rfl λ a5 ad=>
   ZP (xs:=[.tmp 45,.tmp 46]) (vs:=[.slice A l.length c,.func (.func 97) #[] #[.pointer (some ⟨gb,0,none⟩)]]) (cs:=[]) (wn aAe) ahq.1 axz rfl ⟨ad.g rfl,ad.g rfl,trivial⟩ P3 ad ahq.2 rfl λ e w' az=>?_
  obtain⟨he,af9,agT⟩:=az
  refine⟨_,he,λ iy ad=>?_⟩
  have awN:bp (bc.af C) w w':=i8.trans af9 λ x aa=>(f x aa).2.imp id (·.1)
  have agv:∀q∈bc.af (.slice A l.length c),q∈bc.af C\/(w.heap.size<=q/\q<w'.heap.size):=λ q b=>(f q b).2.imp id λ h=>⟨h.1,en h.2 af9.size⟩
  have acS:iy.tmps.getD 8 undef= .slice A l.length c:=ad.get 8 _ rfl
  rw[NI,Vg]at agT
  rw[Vg]at agv acS
  have H7:(ρ.set 6 (.slice A S.length c))[6]? =some (.slice A S.length c):=fH (aO.1 eH).1
  obtain⟨ayp,P'⟩:=p.akg (i:=6) (t:=3) (g:=0) (k:=0) (l0:=([]:List (bq.El 3))) (l:=S) (A:=A) (c:=c) rfl eH awN agv agT (λ F=>Zu S)
  have aw3:R aE W M0 X ⟨165,[]⟩ ⟨[(2,.pp 5 0 1 dY),(3,.b 0 0),(4,.b 1 0),(8,.r 6 1)],[],[]⟩ ((bM (El:=aE.T.El) id (b' false lV) false lV (E,G,j,(nF,Y,O,ta),I,uq,([]:List Int),vr)).set 6 (.r 3 1 0 S)) (ρ.set 6 (.slice A S.length c)) iy w':=Xn rfl ayp ad.size ad.defers λ t y hy=>by
   have:=JG hy;simp only[cR,ca,h4,or_false]at this;rcases this with⟨rfl,rfl⟩|⟨rfl,rfl⟩|⟨rfl,rfl⟩|⟨rfl,rfl⟩
   ·rw[show iy.tmps.getD 2 undef=_ from ad.get 2 _ rfl];exact P'.v J
   ·rw[show iy.tmps.getD 3 undef=_ from ad.get 3 _ rfl,<-als];exact P'.v ap
   ·rw[show iy.tmps.getD 4 undef=_ from ad.get 4 _ rfl];exact P'.v a'
   ·rw[acS]
    simp only[ar]
    exact⟨trivial,_,H7,cC 1,λ _=>rfl⟩
  obtain⟨dK,cW,eF⟩:=Zs (pre:=lV) (dp:=(E,G,j,(nF,Y,O,ta),I,uq,([]:List Int),vr)) (ss:=[2,3,4,8]) (pas:=Jt) (pbs:=lV) (da:=(dY,(),(),(),())) (db:=(E,G,j,(nF,Y,O,ta),I,uq,S,())) aw3 (by rw[p.len,mU]) (by kernel_rfl) P' (by kernel_rfl)
  exact wpList_nil (k iy w' dK ad.size ad.defers (cW true) eF)
 ·refine⟨by rw[um,HN],SA,by rw[vB (by decide),g2],by rw[vB (by decide),g3],by rw[vB (by decide),g4],vA (by rw[HN];decide),⟨⟨clock,cC _,Jj⟩,(Fb.block bm (H vW) (by simp)).trans vW⟩,by simp,by simp,?_,n2,[],nz,eB,rfl,?_,?_,?_⟩
  ·exact(jH.trans Fb (by simp)).mono (by simp)
  ·rw[vB (by decide),g8,aHQ,Nv];rfl
  ·have:=ayX
   rw[Nv,Zt ayS]at this
   refine rowIs.later this λ q b=>?_
   have rP:q<w.heap.size:=X0 q (by rw[Nv];exact b)
   exact(jH.trans Fb (by simp)).block q rP (by simp)
  ·intro q b
   have b:q∈bc.af C:=by rw[Nv];exact b
   exact⟨λ ai=>by have:=X0 q b;omega,.inl b⟩
end Go.Proofs.YteeliipnilghaaaGreat
namespace Go.Proofs.YteeliipnilghaaaGreat
open Go Go.RowKit aw I bc
set_option maxRecDepth 100000
theorem aAl:xS aE ⟨fl aE.P 63,[]⟩ ((J2 [2,3,4,7,8] N_ lV ⟨.nm,[2,3,4,8],Jt,lV⟩ Js).run aE 0) rW.1 rW.2:=by
 have e:fl aE.P 63=165:=by kernel_rfl
 rw[e];exact aDE rfl rfl aAs
noncomputable def aqZ(F:Nat):aP aE:=(aqY F).ajd 63 0 ((J2 [2,3,4,7,8] N_ lV ⟨.nm,[2,3,4,8],Jt,lV⟩ Js).run aE 0) rW.1 rW.2 (λ _ _=>aAl) az9
end Go.Proofs.YteeliipnilghaaaGreat
namespace Go.Proofs.YteeliipnilghaaaGreat
open Go Go.RowKit aw I bc
set_option maxRecDepth 100000
@[reducible] def qC:bI:=.c 24 [.l 3,.i .i64,.i .i64,.i .i64,.i .i64,.l 3,.i .i64]
@[reducible] def ajg:cL:=.a [.l 3,.i .i64,.i .i64,.i .i64,.i .i64,.l 3,.i .i64]
@[reducible] def Gg:bI:=.c 69 [.l 134,.l 3,.l 124,.l 120,.l 121]
@[reducible] def X5:cL:=.a [.l 134,.l 3,.l 124,.l 120,.l 121]
abbrev ab_:=(List ao×List Int×List (List I.Field)×List (List (List UInt8))×List (List I.Target)×Unit)
abbrev Ea:=(List Int×Int×Int×Int×Int×List Int×Int×Unit)
def B3(F:Nat):Nat->(List Int)->(Int)->(Int)->(List Int)->(List Int)->Option ((Unit×Unit)×List Int×List Int×Unit)
 |0,_,_,_,_,_=>none
 |aQ+1,c,d,a,e,b=>
  cond (decide (a<d)) ((idx c a).bind λ f=>
(idx b f).bind λ g=>
(bF 8 e [g]).bind λ h=>
B3 F aQ c d (ax (a+1)) h b) (
some (((),()),e,b,()))
noncomputable def aq0(F:Nat):aP aE:=(aqZ F).Oj 90 0 F ⟨[3,6,7,8],[.p (.R 0),.p (.P 1 1),.p (.i .i64),.p (.i .i64)],[.r 3 false,.r 3 true],[⟨.nm,[3],[.p (.R 0)],[.r 3 false,.r 3 true]⟩],λ k d=>B3 F k d.1.2.1 d.1.2.2.1 d.1.2.2.2.1 d.2.1 d.2.2.1⟩ ⟨λ d=>by kernel_rfl,λ k da db=>by kernel_rfl⟩
def M3(F:Nat)(c:List Int)(b:List Int):Option ((List Int×Unit)×List Int×Unit):=
 (B3 F F c (↑c.length:Int) 0 [] b).bind λ a=>
some ((a.2.1,()),a.2.2.1,())
noncomputable def aq1(F:Nat):aP aE:=(aq0 F).E5 90 ⟨[.p (.P 0 1)],[.r 3 true],[.p (.l 3)],[.r 3 true],λ d=>M3 F d.1.1 d.2.1⟩ λ da db=>by kernel_rfl
def M2(F:Nat)(b:List ao)(c:List Int)(j:List (List I.Field))(k:List (List (List UInt8)))(l:List (List I.Target))(m:List Int)(d:List Int)(e:Int)(n:Int)(f:Int)(g:Int)(h:List Int)(i:Int)(o:List Int):Option ((Unit×Unit)×Ea×List Int×(Unit×List ao×List Int×List (List I.Field)×List (List (List UInt8))×List (List I.Target)×Unit×Unit)×List (Int×Bool)×Unit):=
 (M3 F m o).bind λ Hd=>
(B1 F Hd.1.1 b c j k l d e n f g h i []).bind λ a=>
some (((),()),(a.2.2.1.1,a.2.2.1.2.1,a.2.2.1.2.2.1,a.2.2.1.2.2.2.1,a.2.2.1.2.2.2.2.1,a.2.2.1.2.2.2.2.2.1,a.2.2.1.2.2.2.2.2.2.1,()),Hd.2.1,((),a.2.1.2.1,a.2.1.2.2.1,a.2.1.2.2.2.1,a.2.1.2.2.2.2.1,a.2.1.2.2.2.2.2.1,(),()),a.2.2.2.1,())
noncomputable def aq2(F:Nat):aP aE:=(aq1 F).E5 54 ⟨[.p (.B 0),X5,.p (.P 1 1)],[qC,.r 3 true],[.p (.B 2)],[qC,.r 3 true,.c 140 [.B 0,.l 134,.l 3,.l 124,.l 120,.l 121,.M 3],.m 3 4],λ d=>M2 F d.1.2.1.1 d.1.2.1.2.1 d.1.2.1.2.2.1 d.1.2.1.2.2.2.1 d.1.2.1.2.2.2.2.1 d.1.2.2.1 d.2.1.1 d.2.1.2.1 d.2.1.2.2.1 d.2.1.2.2.2.1 d.2.1.2.2.2.2.1 d.2.1.2.2.2.2.2.1 d.2.1.2.2.2.2.2.2.1 d.2.2.1⟩ λ da db=>by kernel_rfl
end Go.Proofs.YteeliipnilghaaaGreat
namespace Go.Proofs.YteeliipnilghaaaGreat
open Go Go.RowKit aw I bc
set_option maxRecDepth 100000
def BX(F:Nat):Nat->(List Int)->(List Int)->(Int)->(List Int)->(Int)->(Int)->(List Int)->(List Int)->(Int)->(Int)->(Int)->(Int)->(List Int)->(Int)->(List ao)->(List Int)->(List (List I.Field))->(List (List (List UInt8)))->(List (List I.Target))->(List (Int×Int))->Option ((List Int×Unit×Unit×List Int×Unit×Int×Unit)×
 List Int×(Unit×Unit)×Ea×ab_×List (Int×Int)×Unit)
 |0,_,_,_,_,_,_,_,_,_,_,_,_,_,_,_,_,_,_,_,_=>none
 |aQ+1,d,e,a,f,g,b,h,c,i,j,k,l,m,n,o,p,q,r,s,t=>
  cond (decide (b<g)) ((idx f b).bind λ u=>
(idx c (ax (u+1))).bind λ v=>
BX F aQ d e (ax (a+ax (3+v))) f g (ax (b+1)) h c i j k l m n o p q r s (gA t u a)) (
some ((d,(),(),e,(),a,()),h,((),()),(c,i,j,k,l,m,n,()),(o,p,q,r,s,()),t,()))
noncomputable def aq3(F:Nat):aP aE:=(aq2 F).fR 63 2 F ⟨[2,3,4,8,10,11,55,56,57],[.p (.P 0 1),.p (.B 1),.p (.B 3),.p (.l 3),.p (.M 4),.p (.i .i64),.p (.l 3),.p (.i .i64),.p (.i .i64)],[.r 3 true,.c 67 [.B 2],qC,Gg,.m 3 3],[⟨.nm,[2,3,4,8,10,11],[.p (.P 0 1),.p (.B 1),.p (.B 3),.p (.l 3),.p (.M 4),.p (.i .i64)],[.r 3 true,.c 67 [.B 2],qC,Gg,.m 3 3]⟩],λ k d=>BX F k d.1.1 d.1.2.2.2.1 d.1.2.2.2.2.2.1 d.1.2.2.2.2.2.2.1 d.1.2.2.2.2.2.2.2.1 d.1.2.2.2.2.2.2.2.2.1 d.2.1 d.2.2.2.1.1 d.2.2.2.1.2.1 d.2.2.2.1.2.2.1 d.2.2.2.1.2.2.2.1 d.2.2.2.1.2.2.2.2.1 d.2.2.2.1.2.2.2.2.2.1 d.2.2.2.1.2.2.2.2.2.2.1 d.2.2.2.2.1.1 d.2.2.2.2.1.2.1 d.2.2.2.2.1.2.2.1 d.2.2.2.2.1.2.2.2.1 d.2.2.2.2.1.2.2.2.2.1 d.2.2.2.2.2.1⟩ ⟨λ d=>by kernel_rfl,λ k da db=>by kernel_rfl⟩
def tm(F:Nat):Nat->(List Int)->(Int)->(Int)->(List Int)->(Int)->(Int)->(Int)->(Int)->(List Int)->(List Int)->(Int)->(Int)->(Int)->(Int)->(List Int)->(Int)->(List ao)->(List Int)->(List (List I.Field))->(List (List (List UInt8)))->(List (List I.Target))->(List (Int×Int))->(List Int)->Option ((List Int×Unit×Unit×Unit×Int×Unit×List Int×Int×Int×Unit)×
 List Int×(Unit×Unit)×Ea×ab_×List (Int×Int)×List Int×Unit)
 |0,_,_,_,_,_,_,_,_,_,_,_,_,_,_,_,_,_,_,_,_,_,_,_=>none
 |aQ+1,i,j,b,k,l,m,n,a,o,mc,p,q,r,s,t,u,e,kP,f,g,h,c,d=>
  cond (decide (a<n)) ((idx mc (ax (b+a))).bind λ v=>
cond (decide (3<=a)) ((idx mc b).bind λ w=>
(rM (b9.mk (aR.mk e kP f g h)) w (ax (a-3))).bind λ QN=>
cond QN ((idx d (ax ((cJ c b).getD 0+a))).bind λ x=>
tm F aQ i j b k l m n (ax (a+1)) o mc p q r s t u e kP f g h c (d.set (ax ((cJ c b).getD 0+a)).toNat ((cJ c v).getD 0))) (
(idx d (ax ((cJ c b).getD 0+a))).bind λ y=>
tm F aQ i j b k l m n (ax (a+1)) o mc p q r s t u e kP f g h c (d.set (ax ((cJ c b).getD 0+a)).toNat v))) (
(idx d (ax ((cJ c b).getD 0+a))).bind λ z=>
tm F aQ i j b k l m n (ax (a+1)) o mc p q r s t u e kP f g h c (d.set (ax ((cJ c b).getD 0+a)).toNat v))) (
some ((i,(),(),(),j,(),k,l,m,()),o,((),()),(mc,p,q,r,s,t,u,()),(e,kP,f,g,h,()),c,d,()))
noncomputable def aq4(F:Nat):aP aE:=(aq3 F).fR 63 6 F ⟨[2,3,4,10,11,14,16,82,83,84,96,97],[.p (.P 0 1),.p (.B 1),.p (.B 3),.p (.M 4),.p (.i .i64),.p (.R 5),.p (.i .i64),.p (.l 3),.p (.i .i64),.p (.i .i64),.p (.i .i64),.p (.i .i64)],[.r 3 true,.c 67 [.B 2],qC,Gg,.m 3 3,.r 3 false],[⟨.nm,[2,3,4,10,11,14,82,83,84],[.p (.P 0 1),.p (.B 1),.p (.B 3),.p (.M 4),.p (.i .i64),.p (.R 5),.p (.l 3),.p (.i .i64),.p (.i .i64)],[.r 3 true,.c 67 [.B 2],qC,Gg,.m 3 3,.r 3 false]⟩],λ k d=>tm F k d.1.1 d.1.2.2.2.2.1 d.1.2.2.2.2.2.2.1 d.1.2.2.2.2.2.2.2.1 d.1.2.2.2.2.2.2.2.2.1 d.1.2.2.2.2.2.2.2.2.2.1 d.1.2.2.2.2.2.2.2.2.2.2.1 d.1.2.2.2.2.2.2.2.2.2.2.2.1 d.2.1 d.2.2.2.1.1 d.2.2.2.1.2.1 d.2.2.2.1.2.2.1 d.2.2.2.1.2.2.2.1 d.2.2.2.1.2.2.2.2.1 d.2.2.2.1.2.2.2.2.2.1 d.2.2.2.1.2.2.2.2.2.2.1 d.2.2.2.2.1.1 d.2.2.2.2.1.2.1 d.2.2.2.2.1.2.2.1 d.2.2.2.2.1.2.2.2.1 d.2.2.2.2.1.2.2.2.2.1 d.2.2.2.2.2.1 d.2.2.2.2.2.2.1⟩ ⟨λ d=>by kernel_rfl,λ k da db=>by kernel_rfl⟩
def BZ(F:Nat):Nat->(List Int)->(Int)->(List Int)->(Int)->(Int)->(List Int)->(List Int)->(Int)->(Int)->(Int)->(Int)->(List Int)->(Int)->(List ao)->(List Int)->(List (List I.Field))->(List (List (List UInt8)))->(List (List I.Target))->(List (Int×Int))->(List Int)->Option ((List Int×Unit×Unit×Int×Unit×Unit)×
 List Int×(Unit×Unit)×Ea×ab_×List (Int×Int)×List Int×Unit)
 |0,_,_,_,_,_,_,_,_,_,_,_,_,_,_,_,_,_,_,_,_=>none
 |aQ+1,d,e,f,g,b,h,c,i,j,k,l,m,n,o,DL,p,q,r,s,t=>
  cond (decide (b<g)) ((idx f b).bind λ u=>
(idx c (ax (u+1))).bind λ v=>
(tm F F d e u f g b (ax (3+v)) 0 h c i j k l m n o DL p q r s t).bind λ a=>
BZ F aQ a.1.1 a.1.2.2.2.2.1 a.1.2.2.2.2.2.2.1 a.1.2.2.2.2.2.2.2.1 (ax (a.1.2.2.2.2.2.2.2.2.1+1)) a.2.1 a.2.2.2.1.1 a.2.2.2.1.2.1 a.2.2.2.1.2.2.1 a.2.2.2.1.2.2.2.1 a.2.2.2.1.2.2.2.2.1 a.2.2.2.1.2.2.2.2.2.1 a.2.2.2.1.2.2.2.2.2.2.1 a.2.2.2.2.1.1 a.2.2.2.2.1.2.1 a.2.2.2.2.1.2.2.1 a.2.2.2.2.1.2.2.2.1 a.2.2.2.2.1.2.2.2.2.1 a.2.2.2.2.2.1 a.2.2.2.2.2.2.1) (
some ((d,(),(),e,(),()),h,((),()),(c,i,j,k,l,m,n,()),(o,DL,p,q,r,()),s,t,()))
noncomputable def aq5(F:Nat):aP aE:=(aq4 F).fR 63 4 F ⟨[2,3,4,10,11,14,82,83,84],[.p (.P 0 1),.p (.B 1),.p (.B 3),.p (.M 4),.p (.i .i64),.p (.R 5),.p (.l 3),.p (.i .i64),.p (.i .i64)],[.r 3 true,.c 67 [.B 2],qC,Gg,.m 3 3,.r 3 false],[⟨.nm,[2,3,10,11,14],[.p (.P 0 1),.p (.B 1),.p (.M 4),.p (.i .i64),.p (.R 5)],[.r 3 true,.c 67 [.B 2],qC,Gg,.m 3 3,.r 3 false]⟩],λ k d=>BZ F k d.1.1 d.1.2.2.2.2.1 d.1.2.2.2.2.2.2.1 d.1.2.2.2.2.2.2.2.1 d.1.2.2.2.2.2.2.2.2.1 d.2.1 d.2.2.2.1.1 d.2.2.2.1.2.1 d.2.2.2.1.2.2.1 d.2.2.2.1.2.2.2.1 d.2.2.2.1.2.2.2.2.1 d.2.2.2.1.2.2.2.2.2.1 d.2.2.2.1.2.2.2.2.2.2.1 d.2.2.2.2.1.1 d.2.2.2.2.1.2.1 d.2.2.2.2.1.2.2.1 d.2.2.2.2.1.2.2.2.1 d.2.2.2.2.1.2.2.2.2.1 d.2.2.2.2.2.1 d.2.2.2.2.2.2.1⟩ ⟨λ d=>by kernel_rfl,λ k da db=>by kernel_rfl⟩
def B0(F:Nat):Nat->(Int)->(List Int)->(List Int)->(Int)->(Int)->(List Int)->(Int)->(Int)->(Int)->(Int)->(List Int)->(Int)->(List (Int×Int))->(List Int)->Option ((Unit×Int×List Int×Unit)×(Unit×Unit)×Ea×List (Int×Int)×List Int×Unit)
 |0,_,_,_,_,_,_,_,_,_,_,_,_,_,_=>none
 |aQ+1,d,e,f,g,a,h,nn,i,j,k,l,m,b,c=>
  cond (decide (a<g)) ((idx f a).bind λ n=>
(idx c n).bind λ o=>
B0 F aQ d e f g (ax (a+1)) h nn i j k l m b (c.set n.toNat ((cJ b o).getD 0))) (
some (((),d,e,()),((),()),(h,nn,i,j,k,l,m,()),b,c,()))
noncomputable def aq7(F:Nat):aP aE:=(aq5 F).fR 63 8 F ⟨[3,10,11,14,137,138,139],[.p (.B 0),.p (.M 2),.p (.i .i64),.p (.l 3),.p (.P 3 1),.p (.i .i64),.p (.i .i64)],[.c 67 [.B 1],qC,.m 3 3,.r 3 true],[⟨.nm,[3,11,14],[.p (.B 0),.p (.i .i64),.p (.l 3)],[.c 67 [.B 1],qC,.m 3 3,.r 3 true]⟩],λ k d=>B0 F k d.1.2.2.1 d.1.2.2.2.1 d.1.2.2.2.2.1 d.1.2.2.2.2.2.1 d.1.2.2.2.2.2.2.1 d.2.2.1.1 d.2.2.1.2.1 d.2.2.1.2.2.1 d.2.2.1.2.2.2.1 d.2.2.1.2.2.2.2.1 d.2.2.1.2.2.2.2.2.1 d.2.2.1.2.2.2.2.2.2.1 d.2.2.2.1 d.2.2.2.2.1⟩ ⟨λ d=>by kernel_rfl,λ k da db=>by kernel_rfl⟩
def Ih(F:Nat)(j:List ao)(k:List Int)(l:List (List I.Field))(m:List (List (List UInt8)))(n:List (List I.Target))(o:List Int)(p:List Int)(q:Int)(r:Int)(s:Int)(f:Int)(g:List Int)(h:Int)(i:List Int):Option ((Bool×Unit)×Ea×List Int×Unit):=
 (M2 F j k l m n o p q r s f g h i).bind λ a=>
((E8 a.2.1.1 a.2.2.2.2.1).bind λ x=>some x).bind λ t=>
cond (decide (a.2.1.2.2.1<t)) (some ((false,()),(a.2.1.1,a.2.1.2.1,a.2.1.2.2.1,a.2.1.2.2.2.1,a.2.1.2.2.2.2.1,a.2.1.2.2.2.2.2.1,a.2.1.2.2.2.2.2.2.1,()),a.2.2.1,())) (
(Js
 ((o,(),(),(),(),()),((),()),(j,k,l,m,n,()),((),a.2.2.2.1.2.1,a.2.2.2.1.2.2.1,a.2.2.2.1.2.2.2.1,a.2.2.2.1.2.2.2.2.1,a.2.2.2.1.2.2.2.2.2.1,(),()),(a.2.1.1,a.2.1.2.1,a.2.1.2.2.1,a.2.1.2.2.2.1,a.2.1.2.2.2.2.1,a.2.1.2.2.2.2.2.1,a.2.1.2.2.2.2.2.2.1,()),a.2.2.2.2.1,a.2.2.1,[],())).bind λ c=>
(BX F F c.1.1 c.2.2.2.2.2.2.2.1 (ax (c.2.2.2.2.1.2.1+1)) c.2.2.2.2.2.2.2.1 (↑(iv c.2.2.2.2.2.2.2.1):Int) 0
 c.2.2.2.2.2.2.1 c.2.2.2.2.1.1 c.2.2.2.2.1.2.1 c.2.2.2.2.1.2.2.1 c.2.2.2.2.1.2.2.2.1 c.2.2.2.2.1.2.2.2.2.1
 c.2.2.2.2.1.2.2.2.2.2.1 c.2.2.2.2.1.2.2.2.2.2.2.1 c.2.2.1.1 c.2.2.1.2.1 c.2.2.1.2.2.1 c.2.2.1.2.2.2.1
 c.2.2.1.2.2.2.2.1 [(0,0)]).bind λ b=>
(za 0 8 (↑(iv b.2.2.2.1.1):Int)).bind λ u=>
(BZ F F b.1.1 b.1.2.2.2.2.2.1 b.1.2.2.2.1 (↑(iv b.1.2.2.2.1):Int) 0 b.2.1 b.2.2.2.1.1 b.2.2.2.1.2.1 b.2.2.2.1.2.2.1
 b.2.2.2.1.2.2.2.1 b.2.2.2.1.2.2.2.2.1 b.2.2.2.1.2.2.2.2.2.1 b.2.2.2.1.2.2.2.2.2.2.1 b.2.2.2.2.1.1 b.2.2.2.2.1.2.1
 b.2.2.2.2.1.2.2.1 b.2.2.2.2.1.2.2.2.1 b.2.2.2.2.1.2.2.2.2.1 b.2.2.2.2.2.1 u).bind λ d=>
(B0 F F d.1.2.2.2.1 d.2.2.2.2.2.2.1 d.1.1 (↑(iv d.1.1):Int) 0 d.2.2.2.1.1 d.2.2.2.1.2.1 d.2.2.2.1.2.2.1
 d.2.2.2.1.2.2.2.1 d.2.2.2.1.2.2.2.2.1 d.2.2.2.1.2.2.2.2.2.1 d.2.2.2.1.2.2.2.2.2.2.1 d.2.2.2.2.2.1 d.2.1).bind λ e=>
some ((true,()),(e.1.2.2.1,e.2.2.1.2.1,e.2.2.1.2.2.1,1,e.1.2.1,([]),e.2.2.1.2.2.2.2.2.2.1,()),e.2.2.2.2.1,()))
noncomputable def aq8(F:Nat):aP aE:=(aq7 F).fn 63 ⟨[.p (.B 0),X5,.p (.P 1 1)],[qC,.r 3 true],[.p (.b)],[qC,.r 3 true],λ d=>Ih F d.1.2.1.1 d.1.2.1.2.1 d.1.2.1.2.2.1 d.1.2.1.2.2.2.1 d.1.2.1.2.2.2.2.1 d.1.2.2.1 d.2.1.1 d.2.1.2.1 d.2.1.2.2.1 d.2.1.2.2.2.1 d.2.1.2.2.2.2.1 d.2.1.2.2.2.2.2.1 d.2.1.2.2.2.2.2.2.1 d.2.2.1⟩ λ da db=>by kernel_rfl
def rA(F:Nat)(D0:List Int)(d:Int)(e:Int)(f:Int)(g:Int)(h:List Int)(i:Int)(m:List ao)(n:List Int)(o:List (List I.Field))(p:List (List (List UInt8)))(q:List (List I.Target))(j:List Int):Option ((Ea×List Int×Int×Unit)×Unit):=
 di (B2 F D0 d e f g h i m n o p q j) (λ b=>
cond (!decide (b.1.2.1=0)) (some (((([]),0,0,0,0,([]),0,()),([]),b.1.2.1,()),())) (
(nZ (aU.mk D0 d e f g h i)).bind λ c=>
(bF 8 [] j).bind λ k=>
(sN F (↑k.length:Int)).bind λ r=>
(Ih F b.2.1.2.2.2.2.2.2.2.1 b.2.1.2.2.2.2.2.2.2.2.1 b.2.1.2.2.2.2.2.2.2.2.2.1 b.2.1.2.2.2.2.2.2.2.2.2.2.1
 b.2.1.2.2.2.2.2.2.2.2.2.2.2.1 r c.Words c.au c.aN c.aX c.aW c.aV c.Next k).bind λ a=>
cond (!a.1.1) (some (((([]),0,0,0,0,([]),0,()),([]),8,()),())) (
some (((a.2.1.1,a.2.1.2.1,a.2.1.2.2.1,a.2.1.2.2.2.1,a.2.1.2.2.2.2.1,a.2.1.2.2.2.2.2.1,a.2.1.2.2.2.2.2.2.1,()),a.2.2.1,0,()),())))) (λ l=>
cond (!decide (l.1.2.1=0)) (some (((([]),0,0,0,0,([]),0,()),([]),l.1.2.1,()),())) (
(nZ (aU.mk D0 d e f g h i)).bind λ s=>
(bF 8 [] j).bind λ t=>
none))
noncomputable def Ht(F:Nat):aP aE:=(aq8 F).fn 30 ⟨[ajg,X5,.p (.l 3)],[],[ajg,.p (.l 3),.p (.i .i64)],[],λ d=>rA F d.1.1.1 d.1.1.2.1 d.1.1.2.2.1 d.1.1.2.2.2.1 d.1.1.2.2.2.2.1 d.1.1.2.2.2.2.2.1 d.1.1.2.2.2.2.2.2.1 d.1.2.1.1 d.1.2.1.2.1 d.1.2.1.2.2.1 d.1.2.1.2.2.2.1 d.1.2.1.2.2.2.2.1 d.1.2.2.1⟩ λ da db=>by kernel_rfl
end Go.Proofs.YteeliipnilghaaaGreat
namespace Go.Proofs.YteeliipnilghaaaGreat
open Go Go.RowKit aw I bc
set_option maxRecDepth 100000
def LX(F:Nat)(j:List Int)(k:Int)(c:Int)(l:Int)(m:Int)(n:List Int)(o:Int)(d:List ao)(e:List Int)(f:List (List I.Field))(g:List (List (List UInt8)))(h:List (List I.Target))(p:List Int):Option ((Bool×Unit)×Unit):=
 (yw F j k c l m n o d e f g h p).bind λ i=>
(rA F j k c l m n o d e f g h p).bind λ a=>
cond (!decide (i.1.2.1=0)) (some (((decide (a.1.2.2.1=i.1.2.1)),()),())) (
cond (!decide (a.1.2.2.1=0)) (some (((decide (a.1.2.2.1=8)&&decide (c<i.1.1)),()),())) (
(Eo F j k c l m n o d e f g h p a.1.1.1 a.1.1.2.1 a.1.1.2.2.1 a.1.1.2.2.2.1 a.1.1.2.2.2.2.1 a.1.1.2.2.2.2.2.1
 a.1.1.2.2.2.2.2.2.1 a.1.2.1).bind λ q=>
cond (!q.1.1|| !decide (a.1.1.2.2.2.1=1)|| !decide (ax (ax (a.1.1.2.2.2.2.1-a.1.1.2.1)-1)=i.1.1)||decide (0<(↑(iv a.1.1.2.2.2.2.2.1):Int))) (some ((false,()),())) (
(rA F a.1.1.1 a.1.1.2.1 a.1.1.2.2.1 a.1.1.2.2.2.1 a.1.1.2.2.2.2.1 a.1.1.2.2.2.2.2.1 a.1.1.2.2.2.2.2.2.1 d e f g h
 a.1.2.1).bind λ b=>
cond (decide (b.1.2.2.1=0)) ((Bv F (aU.mk a.1.1.1 a.1.1.2.1 a.1.1.2.2.1 a.1.1.2.2.2.1 a.1.1.2.2.2.2.1 a.1.1.2.2.2.2.2.1 a.1.1.2.2.2.2.2.2.1)
 (aU.mk b.1.1.1 b.1.1.2.1 b.1.1.2.2.1 b.1.1.2.2.2.1 b.1.1.2.2.2.2.1 b.1.1.2.2.2.2.2.1 b.1.1.2.2.2.2.2.2.1)).bind λ r=>
cond r ((nE F a.1.2.1 b.1.2.1).bind λ s=>
some ((s,()),())) (
some ((false,()),()))) (
some ((false,()),())))))
@[reducible] noncomputable def WO(F:Nat):ej bq:=⟨[.a [.l 3,.i .i64,.i .i64,.i .i64,.i .i64,.l 3,.i .i64],.a [.l 134,.l 3,.l 124,.l 120,.l 121],.p (.l 3)],[],[.p (.b)],[],λ d=>LX F d.1.1.1 d.1.1.2.1 d.1.1.2.2.1 d.1.1.2.2.2.1 d.1.1.2.2.2.2.1 d.1.1.2.2.2.2.2.1 d.1.1.2.2.2.2.2.2.1 d.1.2.1.1 d.1.2.1.2.1 d.1.2.1.2.2.1 d.1.2.1.2.2.2.1 d.1.2.1.2.2.2.2.1 d.1.2.2.1⟩
theorem auP(F:Nat):(WO F).Eq aE (Ht F).t.bt (Ht F).t.LE 10:=λ da db=>by kernel_rfl
theorem atc(F:Nat):j3 aE 10 ((WO F).run aE):=S5 jG (k1 jG ((Ht F).ok jG).ce ((Ht F).ok jG).le 100) ((Ht F).ok jG).le rfl (auP F)
end Go.Proofs.YteeliipnilghaaaGreat
namespace Go.Proofs.YteeliipnilghaaaGreat
open Go Go.RowKit aw I bc
section
variable{F:Nat->Prop}{w:World}{cs:List Value}
theorem Pz{d:bq.El 3}(h:((aw.e7 .i64)).rd F w cs d):(bq.ty 3).rd F w cs d:=by
 obtain rfl:cs=_:=h;change e4 (λ t=>(fC E1 t).ty) F w [.i .i64] _ (d,());exact⟨_,_,rfl,rfl,rfl⟩
theorem aj4{d:bq.El 136}(h:(I.jo).rd F w cs d):(bq.ty 136).rd F w cs d:=by
 obtain rfl:cs=_:=h;change e4 (λ t=>(fC H_ t).ty) F w [.s,.i .i64,.s] _ (d.Name,d.Kind.Kind,d.Kind.ao,());exact⟨_,_,rfl,rfl,_,_,rfl,rfl,_,_,rfl,rfl,rfl⟩
theorem aFU{d:bq.El 128}(h:(I.Dt).rd F w cs d):(bq.ty 128).rd F w cs d:=by
 obtain rfl:cs=_:=h;change e4 (λ t=>(fC ME t).ty) F w [.i .i64,.s] _ (d.Kind,d.ao,());exact⟨_,_,rfl,rfl,_,_,rfl,rfl,rfl⟩
theorem aFX{d:bq.El 157}(h:(I.Ds).rd F w cs d):(bq.ty 157).rd F w cs d:=by
 obtain rfl:cs=_:=h;change e4 (λ t=>(fC MC t).ty) F w [.i .i64,.i .i64,.i .i64,.s] _ (d.From,d.To,d.At,d.ao,());exact⟨_,_,rfl,rfl,_,_,rfl,rfl,_,_,rfl,rfl,_,_,rfl,rfl,rfl⟩
theorem aFV{d:bq.El 131}(h:(I.qN).rd F w cs d):(bq.ty 131).rd F w cs d:=by
 obtain⟨_,_,_,_,rfl,J,a⟩:=h;change e4 (λ t=>(fC MF t).ty) F w [.s,.b,.l 128,.i .i64,.s,.i .i64,.i .i64,.s,.l 157] _ (d.Name,d.Static,d.cA,d.Returns.Kind,d.Returns.ao,d.hE,d.hC,d.Code,d.cG,());exact⟨_,_,rfl,rfl,_,_,rfl,rfl,_,_,rfl,jl (λ _ _=>aFU) J,_,_,rfl,rfl,_,_,rfl,rfl,_,_,rfl,rfl,_,_,rfl,rfl,_,_,rfl,rfl,_,_,rfl,jl (λ _ _=>aFX) a,rfl⟩
theorem aFW{d:bq.El 134}(h:(I.kl).rd F w cs d):(bq.ty 134).rd F w cs d:=by
 obtain⟨_,_,_,_,rfl,J,ap⟩:=h;change e4 (λ t=>(fC MD t).ty) F w [.s,.s,.l 136,.l 131] _ (d.Name,d.cX,d.Fields,d.bn,());exact⟨_,_,rfl,rfl,_,_,rfl,rfl,_,_,rfl,jl (λ _ _=>aj4) J,_,_,rfl,jl (λ _ _=>aFV) ap,rfl⟩
theorem aFT{d:bq.El 124}(h:((b3 I.jo)).rd F w cs d):(bq.ty 124).rd F w cs d:=by
 obtain⟨A,c,rfl⟩:=mX h;change e4 (λ t=>(fC Tp t).ty) F w [.l 136] _ (d,());exact⟨_,_,rfl,jl (λ _ _=>aj4) h,rfl⟩
theorem aFZ{d:bq.El 9}(h:(jn).rd F w cs d):(bq.ty 9).rd F w cs d:=by
 obtain rfl:cs=_:=h;change e4 (λ t=>(fC MH t).ty) F w [.s] _ (d,());exact⟨_,_,rfl,rfl,rfl⟩
theorem aFR{d:bq.El 120}(h:((b3 jn)).rd F w cs d):(bq.ty 120).rd F w cs d:=by
 obtain⟨A,c,rfl⟩:=mX h;change e4 (λ t=>(fC Tq t).ty) F w [.l 9] _ (d,());exact⟨_,_,rfl,jl (λ _ _=>aFZ) h,rfl⟩
theorem aFY{d:bq.El 166}(h:(I.km).rd F w cs d):(bq.ty 166).rd F w cs d:=by
 obtain rfl:cs=_:=h;change e4 (λ t=>(fC MG t).ty) F w [.i .i64,.i .i64] _ (d.ao,d.Method,());exact⟨_,_,rfl,rfl,_,_,rfl,rfl,rfl⟩
theorem aFS{d:bq.El 121}(h:((b3 I.km)).rd F w cs d):(bq.ty 121).rd F w cs d:=by
 obtain⟨A,c,rfl⟩:=mX h;change e4 (λ t=>(fC Tn t).ty) F w [.l 166] _ (d,());exact⟨_,_,rfl,jl (λ _ _=>aFY) h,rfl⟩
end
end Go.Proofs.YteeliipnilghaaaGreat
namespace I
theorem cT{n:Int}(a: -9223372036854775808<=n)(b:n<=9223372036854775807):ax n=n:=by unfold ax;omega
theorem eA{i n:Nat}(hi:i<n)(a:n<=140737488355328):ax ((i:Int)+1)=((i+1 :Nat):Int):=by
 rw[cT (by omega) (by omega)];omega
theorem bu{α:Type}{l:List α}{i:Nat}{x:α}(h:l[i]? =some x):idx l (i:Int)=some x:=by
 unfold idx;rw[if_pos (by omega)];simpa using h
theorem bK{i n:Nat}(h:i<n):decide ((i:Int)<(n:Int))=true:=decide_eq_true (by omega)
theorem bJ(n:Nat):decide ((n:Int)<(n:Int))=false:=decide_eq_false (by omega)
def cw{ρ:Type}:Option ρ->Way ρ Unit
 |some r=>.out r
 |none=>.go ()
def gR{ρ:Type}(o:Option ρ)(y:Option (Way ρ Unit)):Option (Way ρ Unit):=match o with
 |some r=>some (.out r)
 |none=>y
theorem each{α ρ:Type}{l:List α}{L:Nat->Int->Option (Way ρ Unit)}(g:α->Option ρ)(a:l.length<=140737488355328)
 (aj:∀k (i:Nat) x,l[i]? =some x->L (k+1) (i:Int)=gR (g x) (L k (ax ((i:Int)+1))))
 (b:∀k,L (k+1) (l.length:Int)=some (.go ())){F:Nat}(c:l.length<F):L F 0=some (cw (l.findSome? g)):=by
 have key:∀(d i k:Nat),i+d=l.length->d<k->L k (i:Int)=some (cw ((l.drop i).findSome? g)):=by
  intro d;induction d with
  |zero=>
   intro i k h e
   obtain⟨k,rfl⟩:∃k',k=k'+1:=⟨k-1,by omega⟩
   have hi:i=l.length:=by omega
   subst hi
   rw[b];simp[cw]
  |succ d f=>
   intro i k h e
   obtain⟨k,rfl⟩:∃k',k=k'+1:=⟨k-1,by omega⟩
   have hi:i<l.length:=by omega
   rw[aj k i l[i] (aJ hi),cZ hi,iJ]
   cases j:g l[i]with
   |some r=>rfl
   |none=>
    simp only[gR]
    rw[eA hi a]
    exact f (i+1) k (by omega) (by omega)
 have:=key l.length 0 F (by omega) c
 simpa using this
theorem ku{ρ:Type}{n:Nat}{L:Nat->Int->Option (Way ρ Unit)}(g:Nat->Option ρ)(b:n<=140737488355328)
 (aj:∀k (i:Nat),i<n->L (k+1) (i:Int)=gR (g i) (L k (ax ((i:Int)+1))))
 (c:∀k,L (k+1) (n:Int)=some (.go ())){F:Nat}(d:n<F):L F 0=some (cw ((dM n).findSome? g)):=by
 have h:=each (l:=dM n) (L:=L) g (by simpa using b) (λ k i x a=>by
  have hi:i<n:=by have:=(aO.1 a).1;simpa using this
  rw[lE hi]at a;simp only[aF]at a;subst a;exact aj k i hi) (λ k=>by simpa using c k) (F:=F) (by simpa using d)
 exact h
theorem Ov{σ:Type}{n:Nat}(T:Nat->Nat->Option σ)(fin:σ)(aj:∀k i,i<n->T (k+1) i=T k (i+1))(a:∀k,T (k+1) n=some fin){F:Nat}(b:n<F):T F 0=some fin:=by
 have key:∀(d i k:Nat),i+d=n->d<k->T k i=some fin:=by
  intro d;induction d with
  |zero=>
   intro i k h c
   obtain⟨k,rfl⟩:∃k',k=k'+1:=⟨k-1,by omega⟩
   have hi:i=n:=by omega
   subst hi
   exact a k
  |succ d e=>
   intro i k h c
   obtain⟨k,rfl⟩:∃k',k=k'+1:=⟨k-1,by omega⟩
   rw[aj k i (by omega)]
   exact e (i+1) k (by omega) (by omega)
 exact key n 0 F (by omega) b
abbrev Small(F n:Nat):Prop:=n<=140737488355328/\n<F
end I
namespace I
def s9(b:UInt8):Bool:=((((decide (97<=(b.toNat:Int)))&&(decide ((b.toNat:Int)<=122)))||((decide (65<=(b.toNat:Int)))&&(decide ((b.toNat:Int)<=90))))||((decide (48<=(b.toNat:Int)))&&(decide ((b.toNat:Int)<=57))))||(decide ((b.toNat:Int)=95))
def fY(s:List UInt8):Bool:=(s.findSome? λ b=>if s9 b then none else some ()).isNone&&decide (s≠[])&&decide (s.length<=20)
theorem Bk{F:Nat}{s:List UInt8}(h:Small F s.length):oT F s=some (fY s):=by
 unfold oT;have l1:=each (l:=s) (L:=s4 s) (λ b=>if s9 b then none else some false) h.1 (λ k i x a=>by
  rw[s4,bK (aO.1 a).1,cond_true,bu a,ae];show cond (!s9 x) _ _=_
  cases s9 x<;>rfl) (λ k=>by rw[s4,bJ];rfl) h.2
 rw[l1];unfold fY;have e:∀s:List UInt8,s.findSome? (λ b=>if s9 b then none else some false)=(s.findSome? (λ b=>if s9 b then none else some ())).map (λ _=>false):=by
  intro s;induction s with
  |nil=>rfl
  |cons b r c=>simp only[iJ];cases s9 b<;>simp[c]
 rw[e];cases s.findSome? (λ b=>if s9 b then none else some ())with
 |some _=>rfl
 |none=>
  simp only[iW,cw,qK,Option.isNone_none,j0]
  congr 1
  rw[ie]
  cases s<;>first |(simp;done)|(simp;omega)
theorem FH{F:Nat}{s:List UInt8}(h:Small F s.length):n9 F s=some (fY s):=by
 rw[<-Bk h];unfold n9 oT bytesOf;rw[if_pos h.1,ae];have e:∀k n,Cy s k n=s4 s k n:=by
  intro k;induction k with
  |zero=>intro n;rfl
  |succ k a=>
   intro n
   rw[Cy,s4]
   simp only[a]
   congr 1
   congr 1
   funext b
   have hc:(((((decide ((b.toNat:Int)<97))||(decide (122<(b.toNat:Int))))&&((decide ((b.toNat:Int)<65))||(decide (90<(b.toNat:Int)))))&&((decide ((b.toNat:Int)<48))||(decide (57<(b.toNat:Int)))))&&(!decide ((b.toNat:Int)=95)))= !s9 b:=by
    unfold s9;rw[ie];first |(simp;done)|(simp;omega)
   rw[hc];rfl
 rw[e];cases s4 s F 0 with
 |none=>rfl
 |some w=>
  cases w with
  |out r=>rfl
  |go u=>
   simp only[qK]
   congr 1
   rw[ie]
   cases s<;>first |(simp;done)|(simp;omega)
def kindOk(k:Kind):Bool:=if k.Kind=3\/k.Kind=4 then fY k.ao else(decide (k.Kind=1)||decide (k.Kind=2))&&decide (k.ao=[])
theorem Ws{F:Nat}{k:Kind}(h:Small F k.ao.length):wg F k=some (kindOk k):=by
 unfold wg NS kindOk;simp only[ae,FH h];by_cases ap:k.Kind=3\/k.Kind=4
 ·rw[if_pos ap]
  rcases ap with e |e<;>simp[e]
 ·rw[if_neg ap]
  have aS: ¬k.Kind=3:=λ e=>ap (.inl e)
  have bN: ¬k.Kind=4:=λ e=>ap (.inr e)
  simp[aS,bN]
theorem Sr{F:Nat}{k:Kind}(h:Small F k.ao.length):u9 F k=some (kindOk k):=by
 unfold u9 kindOk;simp only[Bk h,ae];by_cases ap:k.Kind=3\/k.Kind=4
 ·rw[if_pos ap]
  rcases ap with e |e<;>simp[e]
 ·rw[if_neg ap]
  have aS: ¬k.Kind=3:=λ e=>ap (.inl e)
  have bN: ¬k.Kind=4:=λ e=>ap (.inr e)
  by_cases a:k.Kind=1
  ·simp[a]
  ·by_cases J:k.Kind=2
   ·simp[J]
   ·simp[aS,bN,a,J]
def hU(n a b:Int):Bool:=decide (a<=n)&&decide (n<=b)
def ts(h:Handler):Option Int:=if fY h.ao then(if hU h.From 0 200&&hU h.To 0 200&&hU h.At 0 200 then none else some 3)else some 1
def wi(k:Kind):Option Int:=if kindOk k then none else some 7
def CZ(m:Method):Int:=
 if fY m.Name then
  if 4<m.cA.length\/200<m.Code.length\/4<m.cG.length then 2
  else if hU m.hE 0 10&&hU m.hC 0 10 then
   match m.cA.findSome? wi with
   |some e=>e
   |none=>if m.Returns=⟨0,[]⟩\/kindOk m.Returns=true then(m.cG.findSome? ts).getD 0 else 7
  else 3
 else 1
structure Method.Fits (F:Nat) (m:Method):Prop where
 name:Small F m.Name.length
 args:Small F m.cA.length
 arg:∀k∈m.cA,Small F k.ao.length
 ret:Small F m.Returns.ao.length
 yE:Small F m.cG.length
 hand:∀h∈m.cG,Small F h.ao.length
structure ao.Fits (F:Nat) (c:ao):Prop where
 name:Small F c.Name.length
 super:Small F c.cX.length
 fields:Small F c.Fields.length
 field:∀f∈c.Fields,Small F f.Name.length/\Small F f.Kind.ao.length
 methods:Small F c.bn.length
 method:∀m∈c.bn,m.Fits F
def Fits(F:Nat)(l:List ao):Prop:=Small F l.length/\ ∀c∈l,c.Fits F
theorem alE{F:Nat}(o:Option Int)(d:Int):ch (α:=Unit) (some (cw o)) (λ _=>some d)=some (o.getD d):=by cases o<;>rfl
theorem alF{o:Option Int}{k:Option Int}:ch (α:=Unit) (some (cw o)) (λ _=>k)=(match o with|some e=>some e |none=>k):=by cases o<;>rfl
theorem azH{F:Nat}{m:Method}(h:m.Fits F):CB F m=some (CZ m):=by
 have l1:yU F m F 0=some (cw (m.cA.findSome? wi)):=each wi h.args.1 (λ k i x a=>by
  rw[yU,bK (aO.1 a).1,cond_true,bu a,ae,Ws (h.arg x (bE a)),ae];unfold wi;show cond (!kindOk x) _ _=_
  cases kindOk x<;>rfl) (λ k=>by rw[yU,bJ];rfl) h.args.2
 have c:∀ {x:Handler}(_:x∈m.cG)(Y:Option (Way Int Unit)),((n9 F x.ao).bind λ f=>
  cond (!f) (some (.out 1)) ((mI x.From 0 200).bind λ g=>
  cond (!g) (some (.out 3)) ((mI x.To 0 200).bind λ j=>
  cond (!j) (some (.out 3)) ((mI x.At 0 200).bind λ l=>
  cond (!l) (some (.out 3)) Y))))=gR (ts x) Y:=by
  intro x a Y
  rw[FH (h.hand x a)]
  unfold ts mI
  simp only[ae]
  show cond (!fY x.ao) _ (cond (!hU x.From 0 200) _ (cond (!hU x.To 0 200) _ (cond (!hU x.At 0 200) _ _)))=_
  cases fY x.ao<;>cases hU x.From 0 200<;>cases hU x.To 0 200<;>cases hU x.At 0 200<;>rfl
 have n:CC F m F 0=some (cw (m.cG.findSome? ts)):=each ts h.yE.1 (λ k i x a=>by
  rw[CC,bK (aO.1 a).1,cond_true,bu a,ae];exact c (bE a) _) (λ k=>by rw[CC,bJ];rfl) h.yE.2
 have o:rU F m F 0=some (cw (m.cG.findSome? ts)):=each ts h.yE.1 (λ k i x a=>by
  rw[rU,bK (aO.1 a).1,cond_true,bu a,ae];exact c (bE a) _) (λ k=>by rw[rU,bJ];rfl) h.yE.2
 unfold CB mI CZ;rw[FH h.name,l1,n,o];have p:=Ws (F:=F) (k:=(⟨m.Returns.Kind,m.Returns.ao⟩:Kind)) h.ret;simp only[ae,p,alE (F:=F),alF];cases fY m.Name with
 |false=>rfl
 |true=>
  simp only[dC,cond_false,if_true]
  by_cases d:4<m.cA.length\/200<m.Code.length\/4<m.cG.length
  ·rw[if_pos d]
   have:((decide (4<(m.cA.length:Int)))||(decide (200<(m.Code.length:Int)))||(decide (4<(m.cG.length:Int))))=true:=by
    simp;omega
   rw[this];rfl
  ·rw[if_neg d]
   have:((decide (4<(m.cA.length:Int)))||(decide (200<(m.Code.length:Int)))||(decide (4<(m.cG.length:Int))))=false:=by
    simp;omega
   rw[this]
   show cond (!hU m.hE 0 10) _ (cond (!hU m.hC 0 10) _ _)=_
   cases hU m.hE 0 10<;>cases hU m.hC 0 10<;>try rfl
   simp only[dC,cond_false,Bool.and_self,if_true]
   cases m.cA.findSome? wi with
   |some e=>rfl
   |none=>
    simp only
    by_cases b:m.Returns=⟨0,[]⟩
    ·rw[if_pos (.inl b),show(decide ((⟨m.Returns.Kind,m.Returns.ao⟩:Kind)=⟨0,[]⟩))=true from decide_eq_true b]
     rfl
    ·rw[show(decide ((⟨m.Returns.Kind,m.Returns.ao⟩:Kind)=⟨0,[]⟩))=false from decide_eq_false b]
     simp only[hN,cond_true]
     show cond (!kindOk m.Returns) _ _=_
     cases q:kindOk m.Returns with
     |true=>rw[if_pos (.inr rfl)];rfl
     |false=>rw[if_neg (by simp[b])];rfl
theorem asz{F:Nat}{m:Method}(h:m.Fits F):Bf F m=some (CZ m):=by
 have l1:Bg F m F 0=some (cw (m.cA.findSome? wi)):=each wi h.args.1 (λ k i x c=>by
  rw[Bg,bK (aO.1 c).1,cond_true,bu c,ae,Sr (h.arg x (bE c)),ae];unfold wi;cases kindOk x<;>rfl) (λ k=>by rw[Bg,bJ];rfl) h.args.2
 have j:Bh F m F 0=some (cw (m.cG.findSome? ts)):=each ts h.yE.1 (λ k i x c=>by
  rw[Bh,bK (aO.1 c).1,cond_true,bu c,ae,Bk (h.hand x (bE c))];unfold ts fK;simp only[ae];show cond (!fY x.ao) _ (cond (!hU x.From 0 200) _ (cond (!hU x.To 0 200) _ (cond (!hU x.At 0 200) _ _)))=_
  cases fY x.ao<;>cases hU x.From 0 200<;>cases hU x.To 0 200<;>cases hU x.At 0 200<;>rfl) (λ k=>by rw[Bh,bJ];rfl) h.yE.2
 unfold Bf fK CZ;rw[Bk h.name,l1,j];have l:=Sr (F:=F) (k:=(⟨m.Returns.Kind,m.Returns.ao⟩:Kind)) h.ret;simp only[ae,l,alE (F:=F),alF];cases fY m.Name with
 |false=>rfl
 |true=>
  simp only[dC,cond_false,if_true]
  by_cases f:4<m.cA.length\/200<m.Code.length\/4<m.cG.length
  ·rw[if_pos f]
   have:((decide (4<(m.cA.length:Int)))||(decide (200<(m.Code.length:Int)))||(decide (4<(m.cG.length:Int))))=true:=by
    simp;omega
   rw[this];rfl
  ·rw[if_neg f]
   have:((decide (4<(m.cA.length:Int)))||(decide (200<(m.Code.length:Int)))||(decide (4<(m.cG.length:Int))))=false:=by
    simp;omega
   rw[this]
   show cond (!hU m.hE 0 10) _ (cond (!hU m.hC 0 10) _ _)=_
   cases hU m.hE 0 10<;>cases hU m.hC 0 10<;>try rfl
   simp only[dC,cond_false,Bool.and_self,if_true]
   cases m.cA.findSome? wi with
   |some e=>rfl
   |none=>
    simp only
    show cond ((!kindOk m.Returns)&&_) _ _=_
    by_cases d:m.Returns=⟨0,[]⟩
    ·rw[if_pos (.inl d),d]
     simp
    ·have n:((!decide (m.Returns.Kind=0))||(!decide (m.Returns.ao=[])))=true:=by
      rcases o:m.Returns with⟨a,b⟩;rw[o]at d;by_cases g:a=0
      ·by_cases af:b=[]
       ·subst g;subst af;exact absurd rfl d
       ·simp[af]
      ·simp[g]
     rw[n];cases p:kindOk m.Returns with
     |true=>rw[if_pos (.inr rfl)];rfl
     |false=>rw[if_neg (by simp[d])];rfl
end I
namespace I
def ig(f:Field):Option Int:=if fY f.Name then(if kindOk f.Kind then none else some 7)else some 1
def f'(e:Int):Option Int:=if e=0 then none else some e
def gM(m:Method):Option Int:=f' (CZ m)
def EL(c:ao):Int:=
 if fY c.Name&&(decide (c.cX=[])||fY c.cX)then
  if 6<c.Fields.length\/8<c.bn.length then 2
  else(c.Fields.findSome? ig).getD ((c.bn.findSome? gM).getD 0)
 else 1
def rm(c:ao):Option Int:=f' (EL c)
def rn(l:List ao):Int:=if 10<l.length then 2 else(l.findSome? rm).getD 0
def pq{ρ:Type}(o:Option ρ)(y:Option ρ):Option ρ:=match o with
 |some e=>some e
 |none=>y
theorem XQ{e:Int}{Y:Option (Way Int Unit)}:cond (!decide (e=0)) (some (.out e)) Y=gR (f' e) Y:=by
 unfold f' gR;by_cases h:e=0
 ·rw[if_pos h,decide_eq_true h];rfl
 ·rw[if_neg h,decide_eq_false h];rfl
theorem adR{a b:Nat}(x y:Nat):((decide ((x:Int)<(a:Int)))||(decide ((y:Int)<(b:Int))))=decide (x<a\/y<b):=by
 rw[ie];simp
theorem oA{o:Option Int}{k:Unit->Option (Way Int Unit)}:cY (α:=Unit) (some (cw o)) k=gR o (k ()):=by cases o<;>rfl
theorem jW{ρ:Type}{o:Option ρ}{k:Unit->Option ρ}:ch (α:=Unit) (some (cw o)) k=pq o (k ()):=by cases o<;>rfl
theorem qL{o:Option Int}{Y:Option (Way Int Unit)}{k:Unit->Option (Way Int Unit)}:cY (α:=Unit) (gR o Y) k=gR o (cY (α:=Unit) Y k):=by cases o<;>rfl
section
variable{F:Nat}
theorem azG{c:ao}(h:c.Fits F):Jp F c=some (EL c):=by
 have ad:∀ {x:Field}(_:x∈c.Fields)(Y:Option (Way Int Unit)),((n9 F x.Name).bind λ Kd=>
  cond (!Kd) (some (.out 1)) ((wg F (⟨x.Kind.Kind,x.Kind.ao⟩:Kind)).bind λ j=>
  cond (!j) (some (.out 7)) Y))=gR (ig x) Y:=by
  intro x a Y
  rw[FH (h.field x a).1,Ws (k:=(⟨x.Kind.Kind,x.Kind.ao⟩:Kind)) (h.field x a).2]
  unfold ig
  simp only[ae]
  show cond (!fY x.Name) _ (cond (!kindOk x.Kind) _ _)=_
  cases fY x.Name<;>cases kindOk x.Kind<;>rfl
 have d:∀ {x:Method}(_:x∈c.bn)(Y:Option (Way Int Unit)),((CB F (⟨x.Name,x.Static,x.cA,(⟨x.Returns.Kind,x.Returns.ao⟩:Kind),x.hE,x.hC,x.Code,x.cG⟩:Method)).bind λ f=>
  cond (!decide (f=0)) (some (.out f)) Y)=gR (gM x) Y:=by
  intro x a Y
  have:=azH (F:=F) (m:=(⟨x.Name,x.Static,x.cA,(⟨x.Returns.Kind,x.Returns.ao⟩:Kind),x.hE,x.hC,x.Code,x.cG⟩:Method)) (h.method x a)
  rw[this,ae]
  exact XQ
 have l1:Cz F c F 0=some (cw (c.Fields.findSome? ig)):=each ig h.fields.1 (λ k i x a=>by
  rw[Cz,bK (aO.1 a).1,cond_true,bu a,ae];exact ad (bE a) _) (λ k=>by rw[Cz,bJ];rfl) h.fields.2
 have l:wc F c F 0=some (cw (c.Fields.findSome? ig)):=each ig h.fields.1 (λ k i x a=>by
  rw[wc,bK (aO.1 a).1,cond_true,bu a,ae];exact ad (bE a) _) (λ k=>by rw[wc,bJ];rfl) h.fields.2
 have n:CA F c F 0=some (cw (c.bn.findSome? gM)):=each gM h.methods.1 (λ k i x a=>by
  rw[CA,bK (aO.1 a).1,cond_true,bu a,ae];exact d (bE a) _) (λ k=>by rw[CA,bJ];rfl) h.methods.2
 have o:rT F c F 0=some (cw (c.bn.findSome? gM)):=each gM h.methods.1 (λ k i x a=>by
  rw[rT,bK (aO.1 a).1,cond_true,bu a,ae];exact d (bE a) _) (λ k=>by rw[rT,bJ];rfl) h.methods.2
 unfold Jp EL;rw[FH h.name,FH h.super,l1,n,l,o];simp only[ae,jW,show(6 :Int)=((6 :Nat):Int) from rfl,show(8 :Int)=((8 :Nat):Int) from rfl,adR];cases fY c.Name with
 |false=>rfl
 |true=>
  simp only[dC,cond_false,j0]
  have g:∀p:Bool,p=decide (6<c.Fields.length\/8<c.bn.length)->cond p (some (2 :Int)) (pq (c.Fields.findSome? ig) (pq (c.bn.findSome? gM) (some 0)))=
   some (if 6<c.Fields.length\/8<c.bn.length then 2 else(c.Fields.findSome? ig).getD ((c.bn.findSome? gM).getD 0)):=by
   intro p q
   subst q
   by_cases b:6<c.Fields.length\/8<c.bn.length
   ·rw[if_pos b,decide_eq_true b];rfl
   ·rw[if_neg b,decide_eq_false b]
    cases c.Fields.findSome? ig with
    |some e=>rfl
    |none=>cases c.bn.findSome? gM<;>rfl
  by_cases aj:c.cX=[]
  ·rw[decide_eq_true aj]
   simp only[dC,cond_false,Bool.true_or,if_true]
   exact g _ rfl
  ·rw[decide_eq_false aj]
   simp only[hN,cond_true,iu]
   cases fY c.cX with
   |false=>rfl
   |true=>
    simp only[dC,cond_false,if_true]
    exact g _ rfl
theorem azF{l:List ao}(h:Fits F l):Jo F l=some (rn l):=by
 have l1:yT F l F 0=some (cw (l.findSome? rm)):=each rm h.1.1 (λ k i x a=>by
  rw[yT,bK (aO.1 a).1,cond_true,bu a,ae,azG (c:=(⟨x.Name,x.cX,x.Fields,x.bn⟩:ao)) (h.2 x (bE a)),ae];exact XQ) (λ k=>by rw[yT,bJ];rfl) h.1.2
 unfold Jo rn;rw[l1,jW];by_cases b:10<l.length
 ·rw[if_pos b,decide_eq_true (show(10 :Int)<(l.length:Int) by omega)];rfl
 ·rw[if_neg b,decide_eq_false (show¬(10 :Int)<(l.length:Int) by omega)]
  cases l.findSome? rm<;>rfl
theorem asy{l:List ao}(h:Fits F l):HF F l=some (rn l):=by
 have body:∀ {c:ao}(_:c.Fits F),Es F c F 0=some (cw (c.Fields.findSome? ig))/\xU F c F 0=some (cw (c.Fields.findSome? ig))/\Et F c F 0=some (cw (c.bn.findSome? gM))/\xV F c F 0=some (cw (c.bn.findSome? gM)):=by
  intro c hc
  have ad:∀ {x:Field}(_:x∈c.Fields)(i:Int)(_:idx c.Fields i=some x)(Y:Option (Way Int Unit)),((oT F x.Name).bind λ Kd=>
   cond (!Kd) (some (.out 1)) ((idx c.Fields i).bind λ x=>(u9 F (⟨x.Kind.Kind,x.Kind.ao⟩:Kind)).bind λ o=>
   cond (!o) (some (.out 7)) Y))=gR (ig x) Y:=by
   intro x a i hi Y
   rw[Bk (hc.field x a).1,hi]
   unfold ig
   simp only[ae]
   rw[Sr (k:=(⟨x.Kind.Kind,x.Kind.ao⟩:Kind)) (hc.field x a).2,ae]
   show cond (!fY x.Name) _ (cond (!kindOk x.Kind) _ _)=_
   cases fY x.Name<;>cases kindOk x.Kind<;>rfl
  have b:∀ {x:Method}(_:x∈c.bn)(Y:Option (Way Int Unit)),((Bf F x).bind λ j=>
   cond (!decide (j=0)) (some (.out j)) Y)=gR (gM x) Y:=by
   intro x a Y
   rw[asz (hc.method x a),ae]
   exact XQ
  refine⟨each ig hc.fields.1 (λ k i x a=>?_) (λ k=>by rw[Es,bJ];rfl) hc.fields.2,each ig hc.fields.1 (λ k i x a=>?_) (λ k=>by rw[xU,bJ];rfl) hc.fields.2,
   each gM hc.methods.1 (λ k i x a=>?_) (λ k=>by rw[Et,bJ];rfl) hc.methods.2,each gM hc.methods.1 (λ k i x a=>?_) (λ k=>by rw[xV,bJ];rfl) hc.methods.2⟩
  ·rw[Es,bK (aO.1 a).1,cond_true,bu a,ae];rw[<-bu a];exact ad (bE a) _ (bu a) _
  ·rw[xU,bK (aO.1 a).1,cond_true,bu a,ae];rw[<-bu a];exact ad (bE a) _ (bu a) _
  ·rw[Et,bK (aO.1 a).1,cond_true,bu a,ae];exact b (bE a) _
  ·rw[xV,bK (aO.1 a).1,cond_true,bu a,ae];exact b (bE a) _
 have l1:A1 F l F 0=some (cw (l.findSome? rm)):=each rm h.1.1 (λ k i c a=>by
  have hc:=h.2 c (bE a);obtain⟨q,r,s,t⟩:=body hc;rw[A1,bK (aO.1 a).1,cond_true,bu a,ae,Bk hc.name,Bk hc.super,q,s,r,t];simp only[ae,oA,show(6 :Int)=((6 :Nat):Int) from rfl,show(8 :Int)=((8 :Nat):Int) from rfl,adR];unfold rm EL;cases fY c.Name with
  |false=>rfl
  |true=>
   simp only[dC,cond_false,j0]
   have m:∀(p:Bool)(Y:Option (Way Int Unit)),p=decide (6<c.Fields.length\/8<c.bn.length)->cY (α:=Unit) (cond p (some (.out (2 :Int))) (gR (c.Fields.findSome? ig) (gR (c.bn.findSome? gM) (some (.go ()))))) (λ _=>Y)=
    gR (f' (if 6<c.Fields.length\/8<c.bn.length then 2 else(c.Fields.findSome? ig).getD ((c.bn.findSome? gM).getD 0))) Y:=by
    intro p Y u
    subst u
    by_cases d:6<c.Fields.length\/8<c.bn.length
    ·rw[if_pos d,decide_eq_true d];rfl
    ·rw[if_neg d,decide_eq_false d,cond_false]
     have f:∀e,c.Fields.findSome? ig=some e->f' e=some e:=by
      intro e g;obtain⟨x,_,a⟩:=ee g;unfold ig at a;split at a
      ·split at a
       ·cases a
       ·injection a with a;subst a;rfl
      ·injection a with a;subst a;rfl
     have v:∀e,c.bn.findSome? gM=some e->f' e=some e:=by
      intro e g;obtain⟨x,_,a⟩:=ee g;unfold gM at a;unfold f' at a⊢;split at a
      ·cases a
      ·rename_i w;injection a with a;subst a;rw[if_neg w]
     cases ad:c.Fields.findSome? ig with
     |some e=>simp only[iM,f e ad];rfl
     |none=>
      cases b:c.bn.findSome? gM with
      |some e=>simp only[iM,jw,v e b];rfl
      |none=>rfl
   by_cases aj:c.cX=[]
   ·rw[decide_eq_true aj]
    simp only[dC,cond_false,Bool.true_or,if_true]
    exact m _ _ rfl
   ·rw[decide_eq_false aj]
    simp only[hN,cond_true,iu]
    cases fY c.cX with
    |false=>rfl
    |true=>
     simp only[dC,cond_false,if_true]
     exact m _ _ rfl) (λ k=>by rw[A1,bJ];rfl) h.1.2
 unfold HF rn;rw[l1,jW];by_cases n:10<l.length
 ·rw[if_pos n,decide_eq_true (show(10 :Int)<(l.length:Int) by omega)];rfl
 ·rw[if_neg n,decide_eq_false (show¬(10 :Int)<(l.length:Int) by omega)]
  cases l.findSome? rm<;>rfl
end
structure Right (l:List ao):Prop where
 len:l.length<=10
 name:∀c∈l,fY c.Name=true
 fields:∀c∈l,c.Fields.length<=6
 methods:∀c∈l,c.bn.length<=8
 method:∀c∈l,∀m∈c.bn,m.cA.length<=4/\m.cG.length<=4
theorem aCc{m:Method}(h:CZ m=0):m.cA.length<=4/\m.cG.length<=4:=by
 unfold CZ at h;split at h
 ·split at h
  ·exact absurd h (by decide)
  ·rename_i a;exact⟨by omega,by omega⟩
 ·exact absurd h (by decide)
theorem aDj{e:Int}(h:f' e=none):e=0:=by
 unfold f' at h;split at h
 ·assumption
 ·cases h
theorem aDk{e x:Int}(h:f' e=some x):x≠0:=by
 unfold f' at h;split at h
 ·cases h
 ·rename_i a;injection h with h;subst h;exact a
theorem azS{s:List UInt8}(h:fY s=true):s≠[]:=by
 unfold fY at h;simp only[bH,decide_eq_true_eq]at h;exact h.1.2
theorem atr{l:List ao}(h:rn l=0):Right l:=by
 unfold rn at h;by_cases f:10<l.length
 ·rw[if_pos f]at h;exact absurd h (by decide)
 ·rw[if_neg f]at h
  have i:∀c∈l,EL c=0:=by
   intro c hc;cases ad:l.findSome? rm with
   |some e=>
    rw[ad]at h
    simp only[iM]at h
    subst h
    obtain⟨x,_,a⟩:=ee ad
    unfold rm f' at a
    split at a
    ·cases a
    ·rename_i j;injection a with a;exact absurd a j
   |none=>
    have:=gf.1 ad c hc
    unfold rm f' at this
    split at this
    ·assumption
    ·cases this
  have key:∀c∈l,fY c.Name=true/\c.Fields.length<=6/\c.bn.length<=8/\ ∀m∈c.bn,m.cA.length<=4/\m.cG.length<=4:=by
   intro c hc;have b:=i c hc;unfold EL at b;split at b
   ·rename_i g
    simp only[bH]at g
    split at b
    ·exact absurd b (by decide)
    ·rename_i J
     refine⟨g.1,by omega,by omega,λ m k=>?_⟩
     cases ad:c.Fields.findSome? ig with
     |some e=>
      rw[ad]at b
      simp only[iM]at b
      subst b
      obtain⟨x,_,a⟩:=ee ad
      unfold ig at a
      split at a
      ·split at a
       ·cases a
       ·injection a with a;exact absurd a (by decide)
      ·injection a with a;exact absurd a (by decide)
     |none=>
      rw[ad]at b
      simp only[jw]at b
      cases d:c.bn.findSome? gM with
      |some e=>
       rw[d]at b
       simp only[iM]at b
       subst b
       obtain⟨x,_,a⟩:=ee d
       exact absurd rfl (aDk a)
      |none=>exact aCc (aDj (gf.1 d m k))
   ·exact absurd b (by decide)
  exact⟨by omega,λ c hc=>(key c hc).1,λ c hc=>(key c hc).2.1,λ c hc=>(key c hc).2.2.1,λ c hc=>(key c hc).2.2.2⟩
end I
namespace I
def er{α:Type}(p:α->Bool):List α->Option Nat
 |[]=>none
 |x::r=>if p x then some 0 else(er p r).map (·+1)
theorem J6{α:Type}{p:α->Bool}:∀ {l:List α}{i:Nat},er p l=some i-> ∃x,l[i]? =some x/\p x=true/\ ∀j y,j<i->l[j]? =some y->p y=false
 |[],i,h=>by simp[er]at h
 |x::r,i,h=>by
  simp only[er]at h;split at h
  ·rename_i a
   injection h with h
   subst h
   exact⟨x,rfl,a,λ j y aA=>absurd aA (by omega)⟩
  ·rename_i a
   cases b:er p r with
   |none=>rw[b]at h;cases h
   |some k=>
    rw[b]at h
    simp only[fm,aF]at h
    subst h
    obtain⟨y,d,J,ap⟩:=J6 b
    refine⟨y,by simpa using d,J,λ j z aA c=>?_⟩
    cases j with
    |zero=>
     simp only[dG,aF]at c
     subst c
     simpa using a
    |succ j=>exact ap j z (by omega) (by simpa using c)
theorem X_{α:Type}{p:α->Bool}:∀ {l:List α},er p l=none-> ∀x∈l,p x=false
 |[],_,x,a=>by cases a
 |y::r,h,x,a=>by
  simp only[er]at h;split at h
  ·cases h
  ·rename_i b
   have c:er p r=none:=by simpa using h
   rcases cR.1 a with rfl |e
   ·simpa using b
   ·exact X_ c x e
theorem aDP{α:Type}{p:α->Bool}{l:List α}{i:Nat}{x:α}(hi:l[i]? =some x)(a:p x=true)(af:∀j y,j<i->l[j]? =some y->p y=false):er p l=some i:=by
 cases h:er p l with
 |none=>have:=X_ h x (bE hi);rw[a]at this;cases this
 |some j=>
  obtain⟨y,b,J,ap⟩:=J6 h
  rcases Nat.lt_trichotomy i j with e |e |e
  ·have:=ap i x e hi;rw[a]at this;cases this
  ·rw[e]
  ·have:=af j y e b;rw[J]at this;cases this
theorem X9{α:Type}{p:α->Bool}{l:List α}{i:Nat}(h:er p l=some i):i<l.length:=by
 obtain⟨x,a,_⟩:=J6 h;exact(aO.1 a).1
theorem TW{α ρ:Type}{l:List α}{L:Nat->Int->Option (Way ρ Unit)}(p:α->Bool)(f:Nat->ρ)(a:l.length<=140737488355328)
 (aj:∀k (i:Nat) x,l[i]? =some x->L (k+1) (i:Int)=cond (p x) (some (.out (f i))) (L k (ax ((i:Int)+1))))
 (b:∀k,L (k+1) (l.length:Int)=some (.go ())){F:Nat}(c:l.length<F):L F 0=some (cw ((er p l).map f)):=by
 have key:∀(d i k:Nat),i+d=l.length->d<k->L k (i:Int)=some (cw ((er p (l.drop i)).map λ j=>f (i+j))):=by
  intro d;induction d with
  |zero=>
   intro i k h e
   obtain⟨k,rfl⟩:∃k',k=k'+1:=⟨k-1,by omega⟩
   have hi:i=l.length:=by omega
   subst hi
   rw[b];simp[cw,er]
  |succ d g=>
   intro i k h e
   obtain⟨k,rfl⟩:∃k',k=k'+1:=⟨k-1,by omega⟩
   have hi:i<l.length:=by omega
   rw[aj k i l[i] (aJ hi),cZ hi,er]
   cases m:p l[i]with
   |true=>simp[cw]
   |false=>
    simp only[cond_false,hG,if_false]
    rw[eA hi a,g (i+1) k (by omega) (by omega)]
    congr 2
    rw[Option.map_map]
    congr 1
    funext j
    simp only[Function.comp]
    congr 1
    omega
 have:=key l.length 0 F (by omega) c
 simpa using this
def fX(nm:List UInt8)(c:ao):Bool:=decide (c.Name=nm)
def cP(l:List ao)(nm:List UInt8):Int:=((er (fX nm) l).map λ n:Nat=>(n:Int)).getD (-1)
theorem x2{F:Nat}{l:List ao}(h:Small F l.length)(nm:List UInt8):oS F l nm=some (cP l nm):=by
 unfold oS cP;have l1:Bi l nm F 0=some (cw ((er (fX nm) l).map λ n:Nat=>(n:Int))):=TW (fX nm) _ h.1 (λ k i x a=>by
  rw[Bi,bK (aO.1 a).1,cond_true,bu a,ae];rfl) (λ k=>by rw[Bi,bJ];rfl) h.2
 rw[l1,jW];cases er (fX nm) l<;>rfl
theorem SZ{l:List ao}{nm:List UInt8}:cP l nm<l.length:=by
 unfold cP;cases h:er (fX nm) l with
 |none=>simp only[iW,jw];omega
 |some i=>have:=X9 h;simp only[fm,iM];omega
theorem ats{l:List ao}{nm:List UInt8}:cP l nm<0↔er (fX nm) l=none:=by
 unfold cP;cases h:er (fX nm) l with
 |none=>simp
 |some i=>simp only[fm,iM];constructor<;>intro h<;>first |omega |cases h
theorem Gy{α:Type}{l:List α}{i:Nat}{x:α}(h:l[i]? =some x):l.set i x=l:=by
 obtain⟨a,e⟩:=aO.1 h;rw[<-e,me]
theorem Mo{α:Type}{b:Nat}{l:List α}(h:l.length*b<=140737488355328):(bF b ([]:List α) l).bind (λ l=>some l)=some l:=by
 unfold bF;rw[if_pos (by simpa using h)];simp
theorem aDz{F:Nat}{l:List ao}(j:100<F)(h:Right l):JF F l=some l:=by
 have c2:∀(eP:List Method),eP.length<=8 ->(∀m∈eP,m.cA.length<=4/\m.cG.length<=4)->tX F eP (eP.length:Int) 0=some eP:=by
  intro eP f b;refine Ov (n:=eP.length) (λ k i=>tX k eP (eP.length:Int) (i:Int)) eP (λ k i hi=>?_) (λ k=>?_) (F:=F) (by omega)
  ·obtain⟨x,a⟩:∃x,eP[i]? =some x:=⟨eP[i],aJ hi⟩
   have af:=b x (bE a)
   show tX (k+1) eP (eP.length:Int) (i:Int)=_
   rw[tX,bK hi,cond_true,bu a,ae]
   unfold Z0 ZZ
   rw[Mo (by omega),ae,Mo (by omega),ae,ae,ae]
   have g:eP.set (i:Int).toNat (⟨x.Name,x.Static,x.cA,(⟨x.Returns.Kind,x.Returns.ao⟩:Kind),x.hE,x.hC,x.Code,x.cG⟩:Method)=eP:=Gy (i:=i) a
   simp only[g,bu a,ae]
   rw[eA hi (by omega)]
  ·show tX (k+1) eP (eP.length:Int) (eP.length:Int)=_
   rw[tX,bJ];rfl
 unfold JF;have c1:r7 F l F [] 0=some l:=by
  refine Ov (n:=l.length) (λ k i=>r7 F l k (l.take i) (i:Int)) l (λ k i hi=>?_) (λ k=>?_) (F:=F) (by have:=h.len;omega)
  ·obtain⟨x,a⟩:∃x,l[i]? =some x:=⟨l[i],aJ hi⟩
   have c:=bE a
   have ad:=h.fields x c
   have b:=h.methods x c
   have d:=h.len
   show r7 F l (k+1) (l.take i) (i:Int)=_
   rw[r7,bK hi,cond_true,bu a,ae]
   unfold ZY Z1
   rw[Mo (by omega),ae,Mo (by omega),ae,c2 x.bn b (h.method x c),ae]
   unfold bF
   rw[if_pos (by simp only[gw,de,fT];omega)]
   simp only[ae]
   rw[eA hi (by omega)]
   have e:l.take i++[(⟨x.Name,x.cX,x.Fields,x.bn⟩:ao)]=l.take (i+1):=by
    rw[k5,a];rfl
   rw[e]
  ·show r7 F l (k+1) (l.take l.length) (l.length:Int)=_
   rw[r7,bJ,jZ];rfl
 rw[c1];rfl
def eR:Nat->List ao->List (List UInt8×Int)
 |_,[]=>[]
 |k,c::r=>(c.Name,(k:Int))::eR (k+1) r
theorem F2(nm:List UInt8):∀(l:List ao)(k:Nat),cJ (eR k l) nm=(er (fX nm) l).map λ n:Nat=>((n+k:Nat):Int)
 |[],k=>rfl
 |c::r,k=>by
  simp only[eR,cJ,er,fX];by_cases h:c.Name=nm
  ·simp[h]
  ·simp only[h,if_false,decide_false,hG]
   rw[F2 nm r (k+1),Option.map_map]
   congr 1
   funext j
   simp only[Function.comp]
   congr 1
   omega
theorem aiF(c:ao):∀(l:List ao)(k:Nat),eR k (l++[c])=eR k l++[(c.Name,((k+l.length:Nat):Int))]
 |[],k=>by simp[eR]
 |d::r,k=>by
  simp only[jv,eR,de];rw[aiF c r (k+1)];congr 4;omega
theorem FY{cM β:Type} [DecidableEq cM]{k:cM}{v:β}:∀ {m:List (cM×β)},cJ m k=none->gA m k v=m++[(k,v)]
 |[],_=>rfl
 |p::r,h=>by
  simp only[cJ]at h;split at h
  ·cases h
  ·rename_i a
   simp only[gA,if_neg a,jv]
   rw[FY h]
def AZ(l:List ao):Prop:=∀(i j:Nat)(x y:ao),l[i]? =some x->l[j]? =some y->x.Name=y.Name->i=j
theorem aDt{l:List ao}(h:AZ l){i:Nat}{x:ao}(hi:l[i]? =some x):cP l x.Name=(i:Int):=by
 unfold cP;rw[aDP (i:=i) hi (by simp[fX]) (λ j y aA hy=>by
  simp only[fX,decide_eq_false_iff_not];intro e;have:=h j i y x hy hi e;omega)]
 rfl
theorem aCL{F:Nat}{l:List ao}(R:100<F)(h:Right l) :
 (AZ l/\pg ⟨l,[],[]⟩ F [] 0=some (.go (eR 0 l))/\u6 F l F 0=some (.go ()))\/
 (¬AZ l/\(∃m,pg ⟨l,[],[]⟩ F [] 0=some (.out (6,m)))/\u6 F l F 0=some (.out 6)):=by
 have B:=h.len
 have C:u6 F l F 0=some (cw ((dM l.length).findSome? λ i:Nat=>(l[i]?).bind λ x:ao=>if cP l x.Name=(i:Int)then none else some 6)):=ku _ (by omega) (λ k i hi=>by
  obtain⟨x,c⟩:∃x,l[i]? =some x:=⟨l[i],aJ hi⟩
  rw[u6,bK hi,cond_true,bu c,ae,x2 ⟨by omega,by omega⟩,ae,c,ae];by_cases e:cP l x.Name=(i:Int)
  ·rw[if_pos e,decide_eq_true e];rfl
  ·rw[if_neg e,decide_eq_false e];rfl) (λ k=>by rw[u6,bJ];rfl) (by omega)
 have key:∀(d i k:Nat),i+d=l.length->d<k->AZ (l.take i) ->
  (AZ l/\pg ⟨l,[],[]⟩ k (eR 0 (l.take i)) i=some (.go (eR 0 l)))\/(¬AZ l/\ ∃m,pg ⟨l,[],[]⟩ k (eR 0 (l.take i)) i=some (.out (6,m))):=by
  intro d
  induction d with
  |zero=>
   intro i k hi I o
   obtain⟨k,rfl⟩:∃k',k=k'+1:=⟨k-1,by omega⟩
   have e:i=l.length:=by omega
   subst e
   rw[jZ]at o⊢
   left
   refine⟨o,?_⟩
   rw[pg,bJ];rfl
  |succ d K=>
   intro i k hi I o
   obtain⟨k,rfl⟩:∃k',k=k'+1:=⟨k-1,by omega⟩
   have p:i<l.length:=by omega
   obtain⟨x,c⟩:∃x,l[i]? =some x:=⟨l[i],aJ p⟩
   rw[pg,bK p,cond_true,bu c,ae,F2]
   cases r:er (fX x.Name) (l.take i)with
   |some j=>
    right
    obtain⟨y,f,J,_⟩:=J6 r
    refine⟨λ n=>?_,_,rfl⟩
    have L:j<i:=by have:=(aO.1 f).1;simp only[gw]at this;omega
    have hy:l[j]? =some y:=by rw[gT]at f;rw[if_pos L]at f;exact f
    have:=n j i y x hy c (by simpa[fX]using J)
    omega
   |none=>
    simp only[iW,Option.isSome_none,cond_false]
    have s:cJ (eR 0 (l.take i)) x.Name=none:=by rw[F2,r];rfl
    rw[FY s,eA p (by omega)]
    have M:l.take (i+1)=l.take i++[x]:=by rw[k5,c];rfl
    have ak:eR 0 (l.take i)++[(x.Name,(i:Int))]=eR 0 (l.take (i+1)):=by
     rw[M,aiF];congr 4;simp only[gw];omega
    rw[ak]
    refine K (i+1) k (by omega) (by omega) ?_
    intro a b u v g af t
    rw[gT]at g af
    split at g
    ·split at af
     ·rename_i N S
      have w:=X_ r
      have D:∀(q:Nat)(z:ao),q<i->l[q]? =some z->z.Name≠x.Name:=λ q z O P e=>by
       have:=w z (bE (i:=q) (by rw[gT,if_pos O];exact P));simp[fX,e]at this
      by_cases A:a=i
      ·by_cases E:b=i
       ·omega
       ·subst A
        rw[c]at g;injection g with g;subst g
        exact absurd t.symm (D b v (by omega) af)
      ·by_cases E:b=i
       ·subst E
        rw[c]at af;injection af with af;subst af
        exact absurd t (D a u (by omega) g)
       ·exact o a b u v (by rw[gT,if_pos (by omega)];exact g) (by rw[gT,if_pos (by omega)];exact af) t
     ·cases af
    ·cases g
 have G:=key l.length 0 F (by omega) (by omega) (λ i j x y hi=>by simp at hi)
 have Q:eR 0 (l.take 0)=[]:=by simp[eR]
 rw[Q]at G
 rcases G with⟨n,f⟩|⟨n,f⟩
 ·left
  refine⟨n,f,?_⟩
  rw[C]
  have:((dM l.length).findSome? λ i:Nat=>(l[i]?).bind λ x:ao=>if cP l x.Name=(i:Int)then none else some (6 :Int))=none:=by
   rw[gf];intro i hi;obtain⟨x,c⟩:∃x,l[i]? =some x:=⟨l[i]'(by simpa using hi),aJ _⟩
   rw[c,ae,if_pos (aDt n c)]
  rw[this];rfl
 ·right
  refine⟨n,f,?_⟩
  rw[C]
  cases ad:((dM l.length).findSome? λ i:Nat=>(l[i]?).bind λ x:ao=>if cP l x.Name=(i:Int)then none else some (6 :Int))with
  |some e=>
   obtain⟨i,_,hi⟩:=ee ad
   cases c:l[i]? with
   |none=>rw[c]at hi;cases hi
   |some x=>
    rw[c,ae]at hi
    split at hi
    ·cases hi
    ·injection hi with hi;subst hi;rfl
  |none=>
   exfalso
   apply n
   have H:∀(i:Nat)(x:ao),l[i]? =some x->cP l x.Name=(i:Int):=by
    intro i x c;have:=gf.1 ad i (by have:=(aO.1 c).1;simpa using this);rw[c,ae]at this;split at this
    ·assumption
    ·cases this
   intro i j x y c hy e
   have f:=H i x c
   have J:=H j y hy
   rw[e]at f
   omega
end I
namespace I
def Dz{ρ σ:Type}(o:Option ρ)(a:σ):Way ρ σ:=match o with
 |some r=>.out r
 |none=>.go a
def alH{ρ σ:Type}(o:Option ρ)(y:Option (Way ρ σ)):Option (Way ρ σ):=match o with
 |some r=>some (.out r)
 |none=>y
theorem SC{ρ σ:Type}{n:Nat}(T:Nat->Nat->Option (Way ρ σ))(g:Nat->Option ρ)(fin:σ)(aj:∀k i,i<n->T (k+1) i=alH (g i) (T k (i+1)))(a:∀k,T (k+1) n=some (.go fin)){F:Nat}(b:n<F) :
 T F 0=some (Dz ((dM n).findSome? g) fin):=by
 have key:∀(d i k:Nat),i+d=n->d<k->T k i=some (Dz (((dM n).drop i).findSome? g) fin):=by
  intro d;induction d with
  |zero=>
   intro i k h c
   obtain⟨k,rfl⟩:∃k',k=k'+1:=⟨k-1,by omega⟩
   have hi:i=n:=by omega
   subst hi
   rw[a,iQ (by simp)];rfl
  |succ d e=>
   intro i k h c
   obtain⟨k,rfl⟩:∃k',k=k'+1:=⟨k-1,by omega⟩
   have hi:i<n:=by omega
   rw[aj k i hi,cZ (by simpa using hi),iJ]
   simp only[List.getElem_range]
   cases f:g i with
   |some r=>rfl
   |none=>
    simp only[alH]
    exact e (i+1) k (by omega) (by omega)
 have:=key n 0 F (by omega) b
 simpa using this
theorem M1{α β cx:Type}(g:α->Option β)(f:β->cx):∀l:List α,l.findSome? (λ c=>(g c).map f)=(l.findSome? g).map f
 |[]=>rfl
 |c::r=>by
  simp only[iJ];cases g c with
  |some e=>rfl
  |none=>simp only[iW];exact M1 g f r
def dm(l:List ao):List Int:=l.map λ c=>cP l c.cX
theorem Z5{l:List ao}{i:Nat}{x:ao}(h:l[i]? =some x):(dm l)[i]? =some (cP l x.cX):=by simp[dm,h]
def uD(c:ao):Option Int:=if(decide (c.Name=[79,98,106,101,99,116]))==(decide (c.cX=[]))then none else some 4
def qu(l:List ao)(c:ao):Option Int:=if c.cX=[]\/0<=cP l c.cX then none else some 5
section
variable{F:Nat}{l:List ao}
theorem aHx(b:100<F)(h:Right l):A_ l F 0=some (cw (l.findSome? uD)):=each uD (by have:=h.len;omega) (λ k i x a=>by
 rw[A_,bK (aO.1 a).1,cond_true,bu a,ae,ae];unfold uD;cases(decide (x.Name=[79,98,106,101,99,116]))==(decide (x.cX=[]))<;>rfl) (λ k=>by rw[A_,bJ];rfl) (by have:=h.len;omega)
theorem aHw(b:100<F)(h:Right l)(m:List (List UInt8×Int))(s:List Int):wI ⟨l,m,s⟩ F 0=some (cw ((l.findSome? uD).map λ e=>(e,(⟨l,m,s⟩:bs)))):=by
 have:=each (l:=l) (L:=wI ⟨l,m,s⟩) (λ c=>(uD c).map λ e=>(e,(⟨l,m,s⟩:bs))) (by have:=h.len;omega) (λ k i x a=>by
  rw[wI];show cond (decide ((i:Int)<(l.length:Int))) ((idx l (i:Int)).bind _) _=_
  rw[bK (aO.1 a).1,cond_true,bu a,ae];unfold uD;cases(decide (x.Name=[79,98,106,101,99,116]))==(decide (x.cX=[]))<;>rfl) (λ k=>by
   rw[wI];show cond (decide ((l.length:Int)<(l.length:Int))) _ _=_
   rw[bJ];rfl) (F:=F) (by have:=h.len;omega)
 rw[this,M1]
theorem aCm(c:100<F)(h:Right l):xZ F l F 0=some (cw (l.findSome? (qu l))):=each (qu l) (by have:=h.len;omega) (λ k i x a=>by
 have b:=h.len;rw[xZ,bK (aO.1 a).1,cond_true,bu a,ae,ae,x2 ⟨by omega,by omega⟩,ae];unfold qu;by_cases aj:x.cX=[]
 ·rw[if_pos (.inl aj),decide_eq_true aj];rfl
 ·rw[decide_eq_false aj]
  by_cases hc:0<=cP l x.cX
  ·rw[if_pos (.inr hc),decide_eq_false (show¬cP l x.cX<0 by omega)];rfl
  ·rw[if_neg (by simp[aj,hc]),decide_eq_true (show cP l x.cX<0 by omega)];rfl) (λ k=>by rw[xZ,bJ];rfl) (by have:=h.len;omega)
theorem att(h:Right l):cP l []= -1:=by
 unfold cP;cases a:er (fX []) l with
 |none=>rfl
 |some i=>
  obtain⟨x,b,J,_⟩:=J6 a
  have:=azS (h.name x (bE b))
  simp[fX]at J
  exact absurd J this
theorem aCl(u:100<F)(h:Right l):∃o:Option (Int×bs),o.map (·.1)=l.findSome? (qu l)/\mQ ⟨l,eR 0 l,[]⟩ F [] 0=some (Dz o (dm l)):=by
 have d:=h.len;refine⟨(dM l.length).findSome? λ i=>((l[i]?).bind (qu l)).map λ e=>(e,(⟨l,eR 0 l,(dm l).take i⟩:bs)),?_,?_⟩
 ·have g:∀(n:Nat),n<=l.length->((List.range' (l.length-n) n).findSome? λ i=>((l[i]?).bind (qu l)).map λ e=>(e,(⟨l,eR 0 l,(dm l).take i⟩:bs))).map (·.1)=(l.drop (l.length-n)).findSome? (qu l):=by
   intro n;induction n with
   |zero=>intro _;simp
   |succ n m=>
    intro f
    have hi:l.length- (n+1)<l.length:=by omega
    rw[List.range'_succ,iJ,cZ hi,iJ,aJ hi,ae]
    cases qu l l[l.length- (n+1)]with
    |some e=>rfl
    |none=>
     simp only[iW]
     rw[show l.length- (n+1)+1=l.length-n by omega]
     exact m (by omega)
  have:=g l.length (cC _);simpa[List.range_eq_range']using this
 ·refine SC (n:=l.length) (λ k i=>mQ ⟨l,eR 0 l,[]⟩ k ((dm l).take i) (i:Int)) _ (dm l) (λ k i hi=>?_) (λ k=>?_) (F:=F) (by omega)
  ·obtain⟨x,c⟩:∃x,l[i]? =some x:=⟨l[i],aJ hi⟩
   show mQ ⟨l,eR 0 l,[]⟩ (k+1) ((dm l).take i) (i:Int)=_
   rw[mQ]
   show cond (decide ((i:Int)<(l.length:Int))) (cY (α:=List Int) ((idx l (i:Int)).bind _) _) _=_
   rw[bK hi,cond_true,bu c,ae,c,ae]
   have a:cJ (eR 0 l) x.cX=(er (fX x.cX) l).map λ n:Nat=>((n+0 :Nat):Int):=F2 x.cX l 0
   have aS:(dm l).take (i+1)=(dm l).take i++[cP l x.cX]:=by rw[k5,Z5 c];rfl
   have p:bF 8 ((dm l).take i) [cP l x.cX]=some ((dm l).take (i+1)):=by
    unfold bF;rw[if_pos (by simp only[gw,de,fT];omega),aS]
   have fin:∀n:Int,n=cP l x.cX->cY (α:=List Int) (cY (α:=Int) (ρ:=Int×bs) (some (.go n)) λ(q:Int)=>(bF 8 ((dm l).take i) [q]).bind λ r=>some (.go r)) (λ(s:List Int)=>mQ ⟨l,eR 0 l,[]⟩ k s (ax ((i:Int)+1)))=mQ ⟨l,eR 0 l,[]⟩ k ((dm l).take (i+1)) ((i+1 :Nat):Int):=by
    intro n f;subst f;rw[oy,p,ae,oy,eA hi (by omega)]
   unfold qu
   by_cases aj:x.cX=[]
   ·rw[if_pos (.inl aj),decide_eq_true aj,cond_true]
    exact fin (-1) (by rw[aj,att h])
   ·rw[decide_eq_false aj,cond_false]
    cases b:er (fX x.cX) l with
    |none=>
     have v:cP l x.cX<0:=ats.2 b
     rw[if_neg (by simp[aj];omega),a,b]
     rfl
    |some j=>
     have t:cP l x.cX=(j:Int):=by unfold cP;rw[b];rfl
     rw[if_pos (.inr (by omega)),a,b]
     exact fin _ (by rw[t];simp)
  ·show mQ ⟨l,eR 0 l,[]⟩ (k+1) ((dm l).take l.length) (l.length:Int)=_
   rw[mQ]
   show cond (decide ((l.length:Int)<(l.length:Int))) _ _=_
   rw[bJ,cond_false,hQ (by simp[dm])]
def dw(S:List Int):Nat->Int->Option (List Int)
 |0,n=>if n<0 then some []else none
 |k+1,n=>if n<0 then some []else(idx S n).bind λ m=>(dw S k m).map (n:: ·)
theorem alq{S:List Int}:∀ {k:Nat}{n:Int}{c:List Int},dw S k n=some c->dw S (k+1) n=some c
 |0,n,c,h=>by
  simp only[dw]at h⊢;split at h
  ·rename_i a;rw[if_pos a];exact h
  ·cases h
 |k+1,n,c,h=>by
  rw[dw]at h⊢;split at h
  ·rename_i a;rw[if_pos a];exact h
  ·rename_i a
   rw[if_neg a]
   cases hi:idx S n with
   |none=>rw[hi]at h;cases h
   |some m=>
    rw[hi,ae]at h
    rw[ae]
    cases b:dw S k m with
    |none=>rw[b]at h;cases h
    |some d=>rw[b]at h;rw[alq b];exact h
theorem Qh{S:List Int}{k k':Nat}{n:Int}{c:List Int}(h:dw S k n=some c)(a:k<=k'):dw S k' n=some c:=by
 obtain⟨d,rfl⟩:∃d,k'=k+d:=⟨k'-k,by omega⟩
 clear a;induction d with
 |zero=>exact h
 |succ d b=>exact alq b
theorem aHO{S:List Int}{k k':Nat}{n:Int}{c a:List Int}(h:dw S k n=some c)(h':dw S k' n=some a):c=a:=by
 have b:=Qh h (Nat.le_max_left k k');have J:=Qh h' (Nat.le_max_right k k');rw[b]at J;exact ei J
theorem alp{S:List Int}:∀ {k:Nat}{n:Int}{c:List Int},dw S k n=some c->c.length<=k/\dw S c.length n=some c
 |0,n,c,h=>by
  simp only[dw]at h;split at h
  ·rename_i a
   injection h with h
   subst h
   simp[dw,a]
  ·cases h
 |k+1,n,c,h=>by
  have e:=h;rw[dw]at h;split at h
  ·rename_i a
   injection h with h
   subst h
   simp[dw,a]
  ·rename_i a
   cases hi:idx S n with
   |none=>rw[hi]at h;cases h
   |some m=>
    rw[hi,ae]at h
    cases b:dw S k m with
    |none=>rw[b]at h;cases h
    |some f=>
     rw[b]at h
     simp only[fm,aF]at h
     subst h
     obtain⟨d,J⟩:=alp b
     refine⟨by simpa using d,?_⟩
     rw[de,dw,if_neg a,hi,ae,J];rfl
theorem Qi{S:List Int}:∀ {k:Nat}{n:Int}{c:List Int},dw S k n=some c-> ∀x∈c,(0<=x/\x<S.length)/\ ∃k' a,dw S k' x=some a/\a.length<=c.length/\a≠[]
 |0,n,c,h,x,b=>by
  simp only[dw]at h;split at h
  ·injection h with h;subst h;cases b
  ·cases h
 |k+1,n,c,h,x,b=>by
  have f:=h;rw[dw]at h;split at h
  ·injection h with h;subst h;cases b
  ·rename_i j
   cases hi:idx S n with
   |none=>rw[hi]at h;cases h
   |some m=>
    rw[hi,ae]at h
    cases d:dw S k m with
    |none=>rw[d]at h;cases h
    |some a=>
     rw[d]at h
     simp only[fm,aF]at h
     subst h
     obtain⟨o,p,_⟩:=lc hi
     rcases cR.1 b with rfl |e
     ·exact⟨⟨by omega,by omega⟩,k+1,_,f,cC _,by simp⟩
     ·obtain⟨g,k',c2,J,ap,i⟩:=Qi d x e
      exact⟨g,k',c2,J,by simp only[de];omega,i⟩
theorem alo{S:List Int}:∀ {k:Nat}{n:Int}{c:List Int},dw S k n=some c->c.Nodup
 |0,n,c,h=>by
  simp only[dw]at h;split at h
  ·injection h with h;subst h;simp
  ·cases h
 |k+1,n,c,h=>by
  have b:=h;rw[dw]at h;split at h
  ·injection h with h;subst h;simp
  ·cases hi:idx S n with
   |none=>rw[hi]at h;cases h
   |some m=>
    rw[hi,ae]at h
    cases a:dw S k m with
    |none=>rw[a]at h;cases h
    |some e=>
     rw[a]at h
     simp only[fm,aF]at h
     subst h
     refine im.2 ⟨λ d=>?_,alo a⟩
     obtain⟨_,k',c2,J,ap,_⟩:=Qi a n d
     have:=aHO b J
     subst this
     simp only[de]at ap
     omega
theorem X8:∀(n:Nat)(c:List Nat),c.Nodup->(∀x∈c,x<n)->c.length<=n
 |0,c,_,h=>by
  cases c with
  |nil=>simp
  |cons x r=>exact absurd (h x (by simp)) (by omega)
 |n+1,c,aL,h=>by
  by_cases b:n∈c
  ·have d:=X8 n (c.erase n) (aL.erase n) (λ x a=>by
    have J:=(aL.mem_erase_iff).1 a;have:=h x J.2;omega)
   rw[lX b]at d;omega
  ·have:=X8 n c aL (λ x a=>by
    have d:=h x a;have:x≠n:=λ e=>b (e▸a);omega)
   omega
theorem aln{S:List Int}{k:Nat}{n:Int}{c:List Int}(h:dw S k n=some c):c.length<=S.length:=by
 have d:=Qi h;have aL:=alo h;have:=X8 S.length (c.map Int.toNat) (by
  rw[List.Nodup,List.pairwise_map];refine lY ?_ aL;intro a b f af g e;have i:=(d a f).1;have J:=(d b af).1;exact g (by omega)) (λ x j=>by
  obtain⟨y,hy,rfl⟩:=hB.1 j;have i:=(d y hy).1;omega)
 simpa using this
theorem aHN{S:List Int}{k:Nat}{n:Int}(a:S.length<=k):dw S k n=dw S S.length n:=by
 cases h:dw S k n with
 |some c=>
  obtain⟨_,J⟩:=alp h
  exact(Qh J (aln h)).symm
 |none=>
  cases h':dw S S.length n with
  |none=>rfl
  |some c=>rw[Qh h' a]at h;cases h
theorem atn{m:List (List UInt8×Int)}{S:List Int}{k:Nat}{n:Int}{c:List Int}(h:dw S k n=some c)(hc:c.length<=1000)(i:1001<F):r1 F ⟨l,m,S⟩ n=some c:=by
 have key:∀(k:Nat)(n:Int)(c acc:List Int)(f:Nat),dw S k n=some c->c.length<f->acc.length+c.length<=1000 ->r2 ⟨l,m,S⟩ f acc n=some (acc++c):=by
  intro k;induction k with
  |zero=>
   intro n c acc f h ad _
   obtain⟨f,rfl⟩:∃a,f=a+1:=⟨f-1,by omega⟩
   simp only[dw]at h
   split at h
   ·injection h with h
    subst h
    rw[r2,decide_eq_false (by omega)]
    simp
   ·cases h
  |succ k d=>
   intro n c acc f h ad e
   obtain⟨f,rfl⟩:∃a,f=a+1:=⟨f-1,by omega⟩
   rw[dw]at h
   split at h
   ·injection h with h
    subst h
    rw[r2,decide_eq_false (by omega)]
    simp
   ·rename_i j
    cases hi:idx S n with
    |none=>rw[hi]at h;cases h
    |some x=>
     rw[hi,ae]at h
     cases b:dw S k x with
     |none=>rw[b]at h;cases h
     |some g=>
      rw[b]at h
      simp only[fm,aF]at h
      subst h
      simp only[de]at ad e
      rw[r2,decide_eq_true (by omega),cond_true]
      unfold bF
      rw[if_pos (by simp only[de,fT];omega)]
      show((some (acc++[n])).bind λ o=>(idx S n).bind λ p=>_)=_
      rw[ae,hi,ae,d x g (acc++[n]) f b (by omega) (by simp only[dJ,de,fT];omega)]
      simp
 unfold r1;rw[key k n c [] F h (by omega) (by simp;omega)];rfl
end
end I
namespace I
section
variable{F:Nat}{l:List ao}
theorem GC:(dm l).length=l.length:=by simp[dm]
theorem xb{n:Int}(a:0<=n)(c:n<l.length):∃x,idx l n=some x/\idx (dm l) n=some (cP l x.cX):=by
 obtain⟨x,b⟩:∃x,l[n.toNat]? =some x:=⟨l[n.toNat]'(by omega),aJ _⟩
 refine⟨x,?_,?_⟩
 ·unfold idx;rw[if_pos a,b]
 ·unfold idx;rw[if_pos a,Z5 b]
def aah(o:Option (List Int))(acc:List Int):Way (List Int) (List Int):=match o with
 |some c=>.go (c.reverse++acc)
 |none=>.out []
def dy(l:List ao)(n:Int):List Int:=(dw (dm l) l.length n).getD []
theorem Qg(r:1100<F)(h:Right l){n:Int}(i:n<l.length):x7 F l n=some (dy l n).reverse:=by
 have e:=h.len;have key:∀(d:Nat)(acc:List Int)(n:Int)(f:Nat),acc.length+d=l.length+1 ->d+1<f->n<l.length->BE F l f n acc=some (aah (dw (dm l) d n) acc):=by
  intro d;induction d with
  |zero=>
   intro acc n f j ad g
   obtain⟨f,rfl⟩:∃b,f=b+1:=⟨f-1,by omega⟩
   rw[BE,dw]
   by_cases a:n<0
   ·rw[if_pos a,decide_eq_false (by omega)];rfl
   ·rw[if_neg a,decide_eq_true (by omega),cond_true,decide_eq_true (by omega)];rfl
  |succ d m=>
   intro acc n f j ad g
   obtain⟨f,rfl⟩:∃b,f=b+1:=⟨f-1,by omega⟩
   rw[BE,dw]
   by_cases a:n<0
   ·rw[if_pos a,decide_eq_false (by omega)];rfl
   ·obtain⟨x,o,aj⟩:=xb (l:=l) (n:=n) (by omega) g
    rw[if_neg a,decide_eq_true (by omega),cond_true,decide_eq_false (by omega),cond_false]
    unfold bF
    rw[if_pos (by simp only[de,fT];omega)]
    show((some ([n]++acc)).bind λ p=>(idx l n).bind λ q=>_)=_
    rw[ae,o,ae,x2 ⟨by omega,by omega⟩,ae,aj,ae,m ([n]++acc) _ f (by simp only[dJ,de,fT];omega) (by omega) SZ]
    cases dw (dm l) d (cP l x.cX)with
    |none=>rfl
    |some c=>simp[aah]
 unfold x7;rw[key (l.length+1) [] n F (by simp) (by omega) i,aHN (k:=l.length+1) (by rw[GC];omega),GC];unfold dy;cases dw (dm l) l.length n with
 |none=>rfl
 |some c=>simp[aah,ch]
def vp(l:List ao)(i:Nat):Option Int:=if(dw (dm l) l.length (i:Int)).isSome then none else some 4
theorem aag{S:List Int}{k:Nat}{n:Int}{c:List Int}(h:dw S k n=some c)(d:0<=n):∃r,c=n::r:=by
 cases k with
 |zero=>simp only[dw]at h;rw[if_neg (by omega)]at h;cases h
 |succ k=>
  rw[dw,if_neg (by omega)]at h
  cases hi:idx S n with
  |none=>rw[hi]at h;cases h
  |some m=>
   rw[hi,ae]at h
   cases a:dw S k m with
   |none=>rw[a]at h;cases h
   |some b=>rw[a]at h;simp only[fm,aF]at h;exact⟨b,h.symm⟩
theorem atT(a:1100<F)(h:Right l):A' F l F 0=some (cw ((dM l.length).findSome? (vp l))):=ku _ (by have:=h.len;omega) (λ k i hi=>by
 rw[A',bK hi,cond_true,Qg a h (by omega),ae];unfold vp dy;cases b:dw (dm l) l.length (i:Int)with
 |none=>rfl
 |some c=>
  obtain⟨r,rfl⟩:=aag b (by omega)
  rw[decide_eq_false (by simp;omega)]
  rfl) (λ k=>by rw[A',bJ];rfl) (by have:=h.len;omega)
theorem adQ(h:Right l)(m:List (List UInt8×Int))(s:List Int):∀(d i f:Nat)(n:Int),i+d=l.length->d<f->0<=n->n<l.length-> ∃r,tV ⟨l,m,s⟩ (dm l) f n i=some r/\(r<0↔(dw (dm l) d n).isSome=true)
 |0,i,f,n,hi,ad,c,e=>by
  obtain⟨f,rfl⟩:∃b,f=b+1:=⟨f-1,by omega⟩
  have:i=l.length:=by omega
  subst this;refine⟨n,?_,?_⟩
  ·rw[tV]
   show cond (decide ((l.length:Int)<(l.length:Int))) _ _=_
   rw[bJ];rfl
  ·rw[dw,if_neg (by omega)];simp;omega
 |d+1,i,f,n,hi,ad,c,e=>by
  obtain⟨f,rfl⟩:∃b,f=b+1:=⟨f-1,by omega⟩
  obtain⟨x,k,aj⟩:=xb (l:=l) (n:=n) c e;have g:=h.len;rw[tV];have hc:decide ((i:Int)<((⟨l,m,s⟩:bs).l.length:Int))=true:=bK (n:=l.length) (by omega);rw[hc,cond_true,aj,ae,dw,if_neg (by omega),aj,ae];by_cases a:cP l x.cX<0
  ·rw[decide_eq_true a,cond_true]
   refine⟨_,rfl,?_⟩
   have:dw (dm l) d (cP l x.cX)=some []:=by cases d<;>simp[dw,a]
   rw[this];simp[a]
  ·rw[decide_eq_false a,cond_false,eA (n:=l.length) (by omega) (by omega)]
   obtain⟨r,j,J⟩:=adQ h m s d (i+1) f (cP l x.cX) (by omega) (by omega) (by omega) SZ
   refine⟨r,j,J.trans ?_⟩
   simp
theorem atS(d:1100<F)(h:Right l)(m:List (List UInt8×Int))(s:List Int):r0 F ⟨l,m,s⟩ (dm l) F 0=some (cw (((dM l.length).findSome? (vp l)).map λ e=>(e,(⟨l,m,dm l⟩:bs)))):=by
 have a:=h.len;have:=ku (n:=l.length) (L:=r0 F ⟨l,m,s⟩ (dm l)) (λ i=>(vp l i).map λ e=>(e,(⟨l,m,dm l⟩:bs))) (by omega) (λ k i hi=>by
  rw[r0];have hc:decide ((i:Int)<((⟨l,m,s⟩:bs).l.length:Int))=true:=bK (n:=l.length) hi;obtain⟨r,c,J⟩:=adQ h m s l.length 0 F (i:Int) (by omega) (by omega) (by omega) (by omega);rw[hc,cond_true,show(0 :Int)=((0 :Nat):Int) from rfl,c];simp only[ae];unfold vp;cases b:(dw (dm l) l.length (i:Int)).isSome with
  |true=>rw[if_pos rfl,decide_eq_false (show¬((0 :Nat):Int)<=r from λ az=>by have:=J.2 b;omega)];rfl
  |false=>rw[if_neg (by simp),decide_eq_true (show((0 :Nat):Int)<=r from by
   rcases Int.lt_or_le r 0 with az |az
   ·have:=J.1 az;rw[b]at this;cases this
   ·exact az)];rfl) (λ k=>by
    rw[r0];show cond (decide ((l.length:Int)<(l.length:Int))) _ _=_
    rw[bJ];rfl) (F:=F) (by omega)
 rw[this,M1]
structure hW (l:List ao):Prop where
 right:Right l
 aMW:AZ l
 aMT:∀c∈l,c.cX=[]\/0<=cP l c.cX
 up:∀i,i<l.length-> ∃c,dw (dm l) l.length (i:Int)=some c
 top:∀c∈l,uD c=none
 obj:0<=cP l [79,98,106,101,99,116]
theorem hW.chain(h:hW l){n:Int}(b:0<=n)(d:n<l.length):dw (dm l) l.length n=some (dy l n)/\(dy l n).length<=10/\(∀x∈dy l n,0<=x/\x<l.length):=by
 obtain⟨c,hc⟩:=h.up n.toNat (by omega);rw[show((n.toNat:Nat):Int)=n by omega]at hc;have e:dy l n=c:=by unfold dy;rw[hc];rfl
 rw[e];refine⟨hc,?_,λ x a=>?_⟩
 ·have:=aln hc;rw[GC]at this;have:=h.right.len;omega
 ·have:=(Qi hc x a).1;rw[GC]at this;exact this
theorem hW.Xa(h:hW l)(c:1100<F)(m:List (List UInt8×Int)){n:Int}(a:0<=n)(b:n<l.length):r1 F ⟨l,m,dm l⟩ n=some (dy l n):=by
 obtain⟨hc,d,_⟩:=h.chain a b;exact atn (l:=l) hc (by omega) (by omega)
def nP(l:List ao)(i:Int):List Field:=((idx l i).map (·.Fields)).getD []
def fs(l:List ao)(n:Int):List Field:=(dy l n).reverse.flatMap (nP l)
theorem TY(h:Right l)(i:Int):(nP l i).length<=6:=by
 unfold nP;cases a:idx l i with
 |none=>simp
 |some x=>
  obtain⟨_,_,J⟩:=lc a
  exact h.fields x (bE J)
theorem TZ(h:Right l):∀r:List Int,(r.flatMap (nP l)).length<=6*r.length
 |[]=>by simp
 |x::r=>by
  have a:=TY h x;have J:=TZ h r;simp only[iN,dJ,de];omega
theorem afq(h:Right l)(m:List (List UInt8×Int))(s:List Int):∀(rem:List Int)(acc:List Field),(∀x∈rem,0<=x/\x<l.length)->acc.length+6*rem.length<=1000 ->y2 ⟨l,m,s⟩ rem acc=some (acc++rem.flatMap (nP l))
 |[],acc,_,_=>by simp[y2]
 |x::rem,acc,a,b=>by
  obtain⟨c,hc,_⟩:=xb (l:=l) (a x (by simp)).1 (a x (by simp)).2;have ad:nP l x=c.Fields:=by unfold nP;rw[hc];rfl
  have d:=TY h x;rw[ad]at d;simp only[de]at b;rw[y2];show((idx l x).bind λ e=>_)=_
  rw[hc,ae];unfold bF;rw[if_pos (by omega),ae,afq h m s rem _ (λ y hy=>a y (by simp[hy])) (by simp only[dJ];omega),iN,ad];simp
theorem hW.Xb(h:hW l)(c:1100<F)(m:List (List UInt8×Int)){n:Int}(a:0<=n)(b:n<l.length):tW F ⟨l,m,dm l⟩ n=some (fs l n):=by
 obtain⟨_,f,d⟩:=h.chain a b;unfold tW;have:=h.Xa c m a b;simp only at this⊢;rw[this,ae];unfold Ky;rw[ae,afq h.right m (dm l) _ [] (λ x e=>d x (by simpa using e)) (by simp;omega)];simp[fs]
theorem hW.Zw(h:hW l)(d:1100<F){n:Int}(e:0<=n)(b:n<l.length):A0 F l n=some (fs l n):=by
 obtain⟨_,g,f⟩:=h.chain e b;unfold A0;rw[Qg d h.right b,ae];have:sX l (dy l n).reverse F [] 0=some (fs l n):=by
  refine Ov (n:=(dy l n).reverse.length) (λ k i=>sX l (dy l n).reverse k (((dy l n).reverse.take i).flatMap (nP l)) (i:Int)) (fs l n) (λ k i hi=>?_) (λ k=>?_) (F:=F) (by simp;omega)
  ·obtain⟨x,a⟩:∃x,(dy l n).reverse[i]? =some x:=⟨(dy l n).reverse[i],aJ hi⟩
   have af:=f x (by simpa using bE a)
   obtain⟨c,hc,_⟩:=xb (l:=l) af.1 af.2
   have ad:nP l x=c.Fields:=by unfold nP;rw[hc];rfl
   have J:=TY h.right x
   rw[ad]at J
   have ap:=TZ h.right ((dy l n).reverse.take i)
   simp only[gw,lb]at ap hi
   show sX l (dy l n).reverse (k+1) (((dy l n).reverse.take i).flatMap (nP l)) (i:Int)=_
   rw[sX,bK (by simpa using hi),cond_true,bu a,ae,hc,ae]
   unfold bF
   rw[if_pos (by omega),ae,eA (n:=(dy l n).length) hi (by omega),k5,a,List.flatMap_append]
   simp[ad]
  ·show sX l (dy l n).reverse (k+1) (((dy l n).reverse.take (dy l n).reverse.length).flatMap (nP l)) ((dy l n).reverse.length:Int)=_
   rw[sX,bJ,jZ];rfl
 rw[this];rfl
end
end I
namespace I
section
variable{F:Nat}{l:List ao}
abbrev bR:=List (List UInt8)×List Target
def pa(nm:List UInt8)(x:List UInt8):Bool:=decide (nm=x)
def vd(p:bR)(nm:List UInt8)(t:Target):bR:=match er (pa nm) p.1 with
 |some k=>(p.1,p.2.set k t)
 |none=>(p.1++[nm],p.2++[t])
def ri(ci:Int):List Method->Nat->bR->bR
 |[],_,p=>p
 |m::r,k,p=>ri ci r (k+1) (vd p m.Name ⟨ci,k⟩)
def eP(l:List ao)(i:Int):List Method:=((idx l i).map (·.bn)).getD []
def ya(l:List ao):List Int->bR->bR
 |[],p=>p
 |ci::r,p=>ya l r (ri ci (eP l ci) 0 p)
def hb(l:List ao)(n:Int):bR:=ya l (dy l n).reverse ([],[])
theorem SE{p:bR}{nm:List UInt8}{t:Target}(h:p.1.length=p.2.length):(vd p nm t).1.length=(vd p nm t).2.length/\(vd p nm t).1.length<=p.1.length+1:=by
 unfold vd;cases er (pa nm) p.1 with
 |some k=>simp[h]
 |none=>simp[h]
theorem SD{ci:Int}:∀ {r:List Method}{k:Nat}{p:bR},p.1.length=p.2.length->(ri ci r k p).1.length=(ri ci r k p).2.length/\(ri ci r k p).1.length<=p.1.length+r.length
 |[],_,p,h=>⟨h,cC _⟩
 |m::r,k,p,h=>by
  obtain⟨a,J⟩:=SE (nm:=m.Name) (t:=⟨ci,k⟩) h;obtain⟨ap,b⟩:=SD (ci:=ci) (r:=r) (k:=k+1) a;exact⟨ap,by simp only[ri,de];omega⟩
theorem azJ{ns:List (List UInt8)}(h:Small F ns.length)(nm:List UInt8):KI F ns nm=some (((er (pa nm) ns).map λ n:Nat=>(n:Int)).getD (-1)):=by
 unfold KI;have l1:zY ns nm F 0=some (cw ((er (pa nm) ns).map λ n:Nat=>(n:Int))):=TW (pa nm) _ h.1 (λ k i x a=>by
  rw[zY,bK (aO.1 a).1,cond_true,bu a,ae];rfl) (λ k=>by rw[zY,bJ];rfl) h.2
 rw[l1,jW];cases er (pa nm) ns<;>rfl
theorem ak0(g:1100<F)(ci:Int)(c:ao)(hc:c.bn.length<=8):∀(d i f:Nat)(p:bR),i+d=c.bn.length->d<f->p.1.length=p.2.length->p.1.length+d<=1000 ->
 y8 F ci c f p.1 p.2 (i:Int)=some (ri ci (c.bn.drop i) i p)
 |0,i,f,p,hi,ad,e,_=>by
  obtain⟨f,rfl⟩:∃b,f=b+1:=⟨f-1,by omega⟩
  have:i=c.bn.length:=by omega
  subst this;rw[y8,bJ,iQ (cC _)];rfl
 |d+1,i,f,p,hi,ad,e,j=>by
  obtain⟨f,rfl⟩:∃b,f=b+1:=⟨f-1,by omega⟩
  have a:i<c.bn.length:=by omega
  obtain⟨h,J⟩:=SE (nm:=c.bn[i].Name) (t:=⟨ci,i⟩) e;have next:=ak0 g ci c hc d (i+1) f (vd p c.bn[i].Name ⟨ci,i⟩) (by omega) (by omega) h (by omega)
  rw[y8,bK a,cond_true,bu (aJ a),ae,azJ ⟨by omega,by omega⟩,ae,cZ a,ri,<-next];unfold vd;cases Cp:er (pa c.bn[i].Name) p.1 with
  |some k=>
   have m:=X9 Cp
   simp only[fm,iM]
   rw[decide_eq_true (show(0 :Int)<=(k:Int) by omega),cond_true,bu (aJ (show k<p.2.length by omega)),ae,ae,ae,eA a (by omega)]
   simp
  |none=>
   simp only[iW,jw]
   rw[decide_eq_false (show¬(0 :Int)<= -1 by decide),cond_false]
   unfold bF
   rw[if_pos (by simp only[de,fT];omega),ae,if_pos (by simp only[de,fT];omega),ae,ae,eA a (by omega)]
theorem air(h:Right l)(i:Int):(eP l i).length<=8:=by
 unfold eP;cases a:idx l i with
 |none=>simp
 |some x=>
  obtain⟨_,_,J⟩:=lc a
  exact h.methods x (bE J)
theorem akZ(b:1100<F)(h:Right l)(m:List (List UInt8×Int))(s:List Int):∀(rem:List Int)(p:bR),(∀x∈rem,0<=x/\x<l.length)->p.1.length=p.2.length->p.1.length+8*rem.length<=900 ->
 y7 F ⟨l,m,s⟩ rem p.1 p.2=some (ya l rem p)
 |[],p,_,_,_=>by simp[y7,ya]
 |x::rem,p,a,d,g=>by
  obtain⟨c,hc,_⟩:=xb (l:=l) (a x (by simp)).1 (a x (by simp)).2;have e:eP l x=c.bn:=by unfold eP;rw[hc];rfl
  have i:=air h x;have f:=i;rw[e]at f;simp only[de]at g;obtain⟨j,n⟩:=SD (ci:=x) (r:=eP l x) (k:=0) d;rw[y7];show(d_ (α:=(List (List UInt8))×(List Target)) ((idx l x).bind λ o=>_) _)=_
  rw[hc,ae];have:=ak0 b x c f c.bn.length 0 F p (by omega) (by omega) d (by omega);rw[show((0 :Nat):Int)=0 from rfl]at this;rw[this,gS,ae,ae,ya,<-e];exact akZ b h m s rem _ (λ y hy=>a y (by simp[hy])) j (by omega)
theorem hW.aBY(h:hW l)(a:1100<F)(m:List (List UInt8×Int)){n:Int}(b:0<=n)(c:n<l.length):CV F ⟨l,m,dm l⟩ n=some (hb l n):=by
 obtain⟨_,f,d⟩:=h.chain b c;unfold CV;have:=h.Xa a m b c;simp only at this⊢;rw[this,ae];unfold Ky;rw[ae,akZ a h.right m (dm l) _ ([],[]) (λ x e=>d x (by simpa using e)) rfl (by simp;omega)];rfl
theorem aHs(ns:List (List UInt8))(m:Method)(h:Small F ns.length):q_ ns m F 0=some (((er (pa m.Name) ns).getD ns.length:Nat):Int):=by
 have key:∀(d i f:Nat),i+d=ns.length->d<f->q_ ns m f (i:Int)=some ((i+(er (pa m.Name) (ns.drop i)).getD d:Nat):Int):=by
  intro d;induction d with
  |zero=>
   intro i f hi ad
   obtain⟨f,rfl⟩:∃b,f=b+1:=⟨f-1,by omega⟩
   have:i=ns.length:=by omega
   subst this
   rw[q_,bJ,iQ (cC _)];rfl
  |succ d c=>
   intro i f hi ad
   obtain⟨f,rfl⟩:∃b,f=b+1:=⟨f-1,by omega⟩
   have a:i<ns.length:=by omega
   rw[q_,bK a,cond_true,bu (aJ a),ae,cZ a,er]
   by_cases e:ns[i]=m.Name
   ·rw[decide_eq_true e,if_pos (by simp[pa,e])];simp
   ·rw[decide_eq_false e,if_neg (by simp[pa];exact λ h=>e h.symm)]
    simp only[hN,cond_true]
    rw[eA a h.1,c (i+1) f (by omega) (by omega)]
    congr 2
    cases er (pa m.Name) (ns.drop (i+1))with
    |none=>simp;omega
    |some k=>simp;omega
 have:=key ns.length 0 F (by omega) h.2;simpa using this
theorem ak5(j:1100<F)(ha:List Int)(n:Nat)(ci:Int)(c:ao)(a:ha[n]? =some ci)(e:idx l ci=some c)(hc:c.bn.length<=8):∀(d i f:Nat)(p:bR),i+d=c.bn.length->d<f->p.1.length=p.2.length->p.1.length+d<=1000 ->
 BC F l ha (n:Int) f p.2 p.1 (i:Int)=some ((ri ci (c.bn.drop i) i p).2,(ri ci (c.bn.drop i) i p).1)
 |0,i,f,p,hi,ad,g,_=>by
  obtain⟨f,rfl⟩:∃h,f=h+1:=⟨f-1,by omega⟩
  have:i=c.bn.length:=by omega
  subst this;rw[BC,bu a,ae,e,ae,bJ,iQ (cC _)];rfl
 |d+1,i,f,p,hi,ad,g,o=>by
  obtain⟨f,rfl⟩:∃h,f=h+1:=⟨f-1,by omega⟩
  have b:i<c.bn.length:=by omega
  obtain⟨m,J⟩:=SE (nm:=c.bn[i].Name) (t:=⟨ci,i⟩) g;have next:=ak5 j ha n ci c a e hc d (i+1) f (vd p c.bn[i].Name ⟨ci,i⟩) (by omega) (by omega) m (by omega)
  rw[BC,bu a,ae,e,ae,bK b,cond_true,ae,e,ae,bu (aJ b),ae,aHs p.1 _ ⟨by omega,by omega⟩,ae,cZ b,ri,<-next];unfold vd;cases Cp:er (pa c.bn[i].Name) p.1 with
  |some k=>
   have q:=X9 Cp
   simp only[iM]
   rw[decide_eq_false (show¬((k:Nat):Int)=(p.1.length:Int) by omega),cond_false,ae]
   simp only[bu a,ae]
   rw[bu (aJ (show k<p.2.length by omega)),ae,ae,eA b (by omega)]
   simp
  |none=>
   simp only[jw,decide_true,cond_true]
   unfold bF
   rw[if_pos (by simp only[de,fT];omega),ae,if_pos (by simp only[de,fT];omega),ae,ae]
   simp only[bu a,ae]
   rw[bu (i:=p.1.length) (x:=(⟨0,0⟩:Target)) (by rw[g];simp),ae,ae,eA b (by omega)]
   simp[g,List.set_append]
theorem hW.aGj(h:hW l)(m:1100<F){n:Int}(v:0<=n)(o:n<l.length):HK F l n=some (hb l n):=by
 obtain⟨_,B,w⟩:=h.chain v o;unfold HK;rw[Qg m h.right o,ae];have key:∀(d i f:Nat)(p:bR),i+d=(dy l n).reverse.length->d<f->p.1.length=p.2.length->p.1.length+8*d<=900 ->BB F l (dy l n).reverse f p.2 p.1 (i:Int)=some ((ya l ((dy l n).reverse.drop i) p).2,(ya l ((dy l n).reverse.drop i) p).1):=by
  intro d;induction d with
  |zero=>
   intro i f p hi ad _ _
   obtain⟨f,rfl⟩:∃b,f=b+1:=⟨f-1,by omega⟩
   have:i=(dy l n).reverse.length:=by omega
   subst this
   rw[BB,bJ,iQ (cC _)];rfl
  |succ d y=>
   intro i f p hi ad q C
   obtain⟨f,rfl⟩:∃b,f=b+1:=⟨f-1,by omega⟩
   have a:i<(dy l n).reverse.length:=by omega
   obtain⟨ci,e⟩:∃x,(dy l n).reverse[i]? =some x:=⟨(dy l n).reverse[i],aJ a⟩
   have af:=w ci (by simpa using bE e)
   obtain⟨c,hc,_⟩:=xb (l:=l) af.1 af.2
   have g:eP l ci=c.bn:=by unfold eP;rw[hc];rfl
   have z:=air h.right ci
   have s:=z
   rw[g]at s
   obtain⟨t,A⟩:=SD (ci:=ci) (r:=eP l ci) (k:=0) q
   have u:=ak5 (l:=l) m (dy l n).reverse i ci c e hc s c.bn.length 0 F p (by omega) (by omega) q (by omega)
   rw[show((0 :Nat):Int)=0 from rfl]at u
   have j:(dy l n).reverse[i]=ci:=by
    have:=aJ a;rw[e]at this;exact(ei this).symm
   rw[BB,bK a,cond_true,u,gS,ae,ae,eA (n:=(dy l n).length) (by simpa using a) (by omega),cZ a,j,ya,g]
   rw[g]at t A
   exact y (i+1) f _ (by omega) (by omega) t (by omega)
 have:=key (dy l n).reverse.length 0 F ([],[]) (by omega) (by simp;omega) rfl (by simp;omega);rw[show((0 :Nat):Int)=0 from rfl,gS]at this;simp only at this;rw[this];rfl
end
end I
namespace I
theorem vb{α β:Type}{l:List α}(T:Nat->List β->Nat->Option (List β))(g:α->List β)(B M:Nat)(bO:∀x∈l,(g x).length<=B)
 (aj:∀k (i:Nat) x acc,l[i]? =some x->acc.length+B<=M->T (k+1) acc i=T k (acc++g x) (i+1))(a:∀k acc,T (k+1) acc l.length=some acc){F:Nat}(b:l.length<F){acc:List β}(c:acc.length+B*l.length<=M) :
 T F acc 0=some (acc++l.flatMap g):=by
 have key:∀(d i k:Nat)(acc:List β),i+d=l.length->d<k->acc.length+B*d<=M->T k acc i=some (acc++(l.drop i).flatMap g):=by
  intro d;induction d with
  |zero=>
   intro i k acc h e _
   obtain⟨k,rfl⟩:∃k',k=k'+1:=⟨k-1,by omega⟩
   have hi:i=l.length:=by omega
   subst hi
   rw[a,iQ (cC _)];simp
  |succ d f=>
   intro i k acc h e j
   obtain⟨k,rfl⟩:∃k',k=k'+1:=⟨k-1,by omega⟩
   have hi:i<l.length:=by omega
   have af:=bO l[i] (hh hi)
   rw[Nat.mul_succ]at j
   rw[aj k i l[i] acc (aJ hi) (by omega),f (i+1) k _ (by omega) (by omega) (by simp only[dJ];omega),cZ hi,iN,hM]
 have:=key l.length 0 F acc (by omega) b c
 simpa using this
theorem ai2{α β:Type}{g:α->Option β}{a:α}:[a].findSome? g=g a:=by rw[iJ];cases g a<;>rfl
theorem If{α β cx:Type}(f:α->List β)(g:β->Option cx):∀l:List α,(l.flatMap f).findSome? g=l.findSome? λ x=>(f x).findSome? g
 |[]=>rfl
 |x::r=>by
  rw[iN,lq,iJ,If f g r];cases(f x).findSome? g<;>rfl
theorem yv{α β:Type}{g:α->List β}{B:Nat}:∀ {l:List α},(∀x∈l,(g x).length<=B)->(l.flatMap g).length<=B*l.length
 |[],_=>by simp
 |x::r,h=>by
  have a:=h x (by simp);have J:=yv (l:=r) (λ y hy=>h y (by simp[hy]));simp only[iN,dJ,de,Nat.mul_succ];omega
def eg(k:Kind):List (List UInt8):=if k.ao=[]then[]else[k.ao]
def mt(m:Method):List (List UInt8):=m.cA.flatMap eg++eg m.Returns++m.cG.map (·.ao)
def hI(c:ao):List (List UInt8):=c.Fields.flatMap (λ f=>eg f.Kind)++c.bn.flatMap mt
def sv(l:List ao):List (List UInt8):=l.flatMap hI
def jY(l:List ao)(s:List UInt8):Option Int:=if 0<=cP l s then none else some 5
theorem wk(k:Kind):(eg k).length<=1:=by unfold eg;split<;>simp
section
variable{F:Nat}{l:List ao}
theorem ais(h:Right l){c:ao}(hc:c∈l){m:Method}(a:m∈c.bn):(mt m).length<=9:=by
 have b:=h.method c hc m a;have J:=yv (l:=m.cA) (g:=eg) (B:=1) (λ k _=>wk k);have ap:=wk m.Returns;unfold mt;simp only[dJ,fW];omega
theorem adN(h:Right l){c:ao}(hc:c∈l):(hI c).length<=78:=by
 have b:=yv (l:=c.Fields) (g:=λ f=>eg f.Kind) (B:=1) (λ f _=>wk f.Kind);have J:=yv (l:=c.bn) (g:=mt) (B:=9) (λ m a=>ais h hc a);have ap:=h.fields c hc;have d:=h.methods c hc;unfold hI;simp only[dJ];omega
theorem iz{b:Nat}{α:Type}{acc r:List α}(h:(acc.length+r.length)*b<=140737488355328):bF b acc r=some (acc++r):=by unfold bF;rw[if_pos h]
theorem aab{acc:List (List UInt8)}(h:acc.length<=5000)(k:Kind):CW k acc=some (acc++eg k):=by
 unfold CW eg;by_cases e:k.ao=[]
 ·rw[decide_eq_true e,if_pos e];simp
 ·rw[decide_eq_false e,if_neg e]
  simp only[hN,cond_true]
  rw[iz (by simp only[de,fT];omega)];rfl
theorem aHv(A:1100<F)(h:Right l)(m:List (List UInt8×Int))(s:List Int):wK F ⟨l,m,s⟩ F [] 0=some (sv l):=by
 have j:=h.len;have:=vb (l:=l) (λ k acc i=>wK F ⟨l,m,s⟩ k acc (i:Int)) hI 78 2000 (λ c hc=>adN h hc) (λ k i c acc a b=>by
  have hc:=bE a;have C:=h.fields c hc;have D:=h.methods c hc;have hi:=(aO.1 a).1
  have p:∀acc:List (List UInt8),acc.length<=2000 ->wL c F acc 0=some (acc++c.Fields.flatMap λ f=>eg f.Kind):=λ acc o=>
   vb (l:=c.Fields) (λ k acc i=>wL c k acc (i:Int)) (λ f=>eg f.Kind) 1 3000 (λ f _=>wk f.Kind) (λ k i f acc a b=>by
    have hi:=(aO.1 a).1;rw[wL,bK hi,cond_true,bu a,ae,aab (by omega),ae,eA hi (by omega)]) (λ k acc=>by rw[wL,bJ];rfl) (by omega) (by omega)
  have q:∀acc:List (List UInt8),acc.length<=2100 ->r5 F c F acc 0=some (acc++c.bn.flatMap mt):=λ acc o=>
   vb (l:=c.bn) (λ k acc i=>r5 F c k acc (i:Int)) mt 9 3000 (λ m d=>ais h hc d) (λ k i m acc a b=>by
    have d:=bE a;have hi:=(aO.1 a).1;obtain⟨E,G⟩:=h.method c hc m d;have t:wM m F acc 0=some (acc++m.cA.flatMap eg):=vb (l:=m.cA) (λ k acc i=>wM m k acc (i:Int)) eg 1 3100 (λ k _=>wk k) (λ k i x acc a b=>by
     have hi:=(aO.1 a).1;rw[wM,bK hi,cond_true,bu a,ae,aab (by omega),ae,eA hi (by omega)]) (λ k acc=>by rw[wM,bJ];rfl) (by omega) (by omega)
    have u:=yv (l:=m.cA) (g:=eg) (B:=1) (λ k _=>wk k);have v:=wk m.Returns
    have w:∀acc:List (List UInt8),acc.length<=3200 ->r6 m F acc 0=some (acc++m.cG.flatMap λ h=>[h.ao]):=λ acc o=>
     vb (l:=m.cG) (λ k acc i=>r6 m k acc (i:Int)) (λ h=>[h.ao]) 1 3300 (λ k _=>by simp) (λ k i x acc a b=>by
      have hi:=(aO.1 a).1;rw[r6,bK hi,cond_true,bu a,ae,iz (by simp only[de,fT];omega),ae,eA hi (by omega)]) (λ k acc=>by rw[r6,bJ];rfl) (by omega) (by omega)
    rw[r5,bK hi,cond_true,bu a,ae,t,ae,aab (k:=(⟨m.Returns.Kind,m.Returns.ao⟩:Kind)) (by simp only[dJ];omega),ae,
     w _ (by simp only[dJ];have:(eg (⟨m.Returns.Kind,m.Returns.ao⟩:Kind)).length<=1:=wk _;omega),ae,ae,eA hi (by omega)]
    have e:(m.cG.flatMap λ h=>[h.ao])=m.cG.map (·.ao):=by
     induction m.cG with
     |nil=>rfl
     |cons x r y=>rw[iN,y];rfl
    rw[e];unfold mt;simp only[hM]) (λ k acc=>by rw[r5,bJ];rfl) (by omega) (by omega)
  have u:=yv (l:=c.Fields) (g:=λ f=>eg f.Kind) (B:=1) (λ f _=>wk f.Kind);rw[wK];have z:decide ((i:Int)<((⟨l,m,s⟩:bs).l.length:Int))=true:=bK (n:=l.length) hi;rw[z,cond_true];show(d_ (α:=List (List UInt8)) ((idx l (i:Int)).bind λ H=>_) _)=_
  rw[bu a,ae,p acc (by omega),ae,q _ (by simp only[dJ];omega),ae,ae,eA hi (by omega)];unfold hI;simp only[hM]) (λ k acc=>by
   rw[wK];show cond (decide ((l.length:Int)<(l.length:Int))) _ _=_
   rw[bJ];rfl) (F:=F) (by omega) (acc:=[]) (by simp;omega)
 simpa[sv]using this
theorem XN(s:List UInt8):(cJ (eR 0 l) s).isSome=decide (0<=cP l s):=by
 rw[F2];unfold cP;cases er (fX s) l with
 |none=>simp
 |some i=>simp
theorem aHt(d:1100<F)(h:Right l)(s:List Int):JE F ⟨l,eR 0 l,s⟩=some (((sv l).findSome? (jY l)).getD 0):=by
 have a:=h.len;unfold JE;have f:=aHv d h (eR 0 l) s;have m:(sv l).length<=780:=by
  have:=yv (l:=l) (g:=hI) (B:=78) (λ c hc=>adN h hc);unfold sv;omega
 rw[f,ae];have j:y9 ⟨l,eR 0 l,s⟩ (sv l) F 0=some (cw ((sv l).findSome? (jY l))):=each (jY l) (by omega) (λ k i x b=>by
  rw[y9,bK (aO.1 b).1,cond_true,bu b,ae];show cond (!(cJ (eR 0 l) x).isSome) _ _=_
  rw[XN];unfold jY;by_cases e:0<=cP l x
  ·rw[decide_eq_true e,if_pos e];rfl
  ·rw[decide_eq_false e,if_neg e];rfl) (λ k=>by rw[y9,bJ];rfl) (by omega)
 rw[j];cases(sv l).findSome? (jY l)<;>rfl
def n_(l:List ao)(k:Kind):Option Int:=(eg k).findSome? (jY l)
theorem ak6{s:List UInt8}:jY l s=none\/jY l s=some 5:=by unfold jY;split<;>simp
theorem tl{α:Type}{g:α->Option Int}{e:Int}(a:∀x,g x=none\/g x=some e):∀r:List α,r.findSome? g=none\/r.findSome? g=some e
 |[]=>.inl rfl
 |x::r=>by
  rw[iJ];rcases a x with h |h
  ·rw[h];exact tl a r
  ·rw[h];exact .inr rfl
theorem az'(k:Kind):n_ l k=if k.ao=[]\/0<=cP l k.ao then none else some 5:=by
 unfold n_ eg jY;by_cases e:k.ao=[]
 ·simp[e]
 ·by_cases ak:0<=cP l k.ao<;>simp[e,ak]
theorem Sz(h:Small F l.length){a:List Kind}(b:Small F a.length):BD F l a=some (a.findSome? (n_ l)).isNone:=by
 unfold BD;have l1:=each (l:=a) (L:=x6 F a l) (λ k=>(n_ l k).map λ _=>false) b.1 (λ k i x c=>by
  rw[x6,bK (aO.1 c).1,cond_true,bu c,ae,ae,x2 h,ae,az'];by_cases e:x.ao=[]
  ·rw[if_pos (.inl e),decide_eq_true e];rfl
  ·rw[decide_eq_false e]
   by_cases ak:0<=cP l x.ao
   ·rw[if_pos (.inr ak),decide_eq_false (show¬cP l x.ao<0 by omega)];rfl
   ·rw[if_neg (by simp[e,ak]),decide_eq_true (show cP l x.ao<0 by omega)];rfl) (λ k=>by rw[x6,bJ];rfl) b.2
 rw[l1,M1];cases a.findSome? (n_ l)<;>rfl
theorem Wz{o:Option Int}(h:o=none\/o=some 5)(Y:Option (Way Int Unit)):cond (!o.isNone) (some (.out 5)) Y=gR o Y:=by rcases h with h |h<;>rw[h]<;>rfl
theorem WM(k:Kind):n_ l k=none\/n_ l k=some 5:=tl (λ _=>ak6) _
theorem KV{o a:Option Int}{Y:Option (Way Int Unit)}:gR o (gR a Y)=gR (o.or a) Y:=by cases o<;>rfl
theorem aHu(s:1100<F)(h:Right l):x0 F l F 0=some (cw ((sv l).findSome? (jY l))):=by
 have d:=h.len;have:=each (l:=l) (L:=x0 F l) (λ c=>(hI c).findSome? (jY l)) (by omega) (λ k n c b=>by
  have hc:=bE b;have t:=h.fields c hc;have u:=h.methods c hc;have o:Ba F l (n:Int) F 0=some (cw (c.Fields.findSome? λ f=>n_ l f.Kind)):=each (l:=c.Fields) (λ f=>n_ l f.Kind) (by omega) (λ k i f hy=>by
   rw[Ba,bu b,ae,bK (aO.1 hy).1,cond_true,ae,bu hy,ae,Sz ⟨by omega,by omega⟩ ⟨by simp,by simp;omega⟩,ae];have e:[(⟨f.Kind.Kind,f.Kind.ao⟩:Kind)].findSome? (n_ l)=n_ l f.Kind:=ai2;rw[e];exact Wz (WM _) _) (λ k=>by rw[Ba,bu b,ae,bJ];rfl) (by omega)
  have p:Bb F l (n:Int) F 0=some (cw (c.bn.findSome? λ m=>(mt m).findSome? (jY l))):=each (l:=c.bn) (λ m=>(mt m).findSome? (jY l)) (by omega) (λ k i m hy=>by
   have q:=bE hy;obtain⟨v,w⟩:=h.method c hc m q;have r:Bc F l m F 0=some (cw (m.cG.findSome? λ x=>jY l x.ao)):=each (l:=m.cG) (λ x=>jY l x.ao) (by omega) (λ k i x g=>by
    rw[Bc,bK (aO.1 g).1,cond_true,bu g,ae,x2 ⟨by omega,by omega⟩,ae];unfold jY;by_cases ak:0<=cP l x.ao
    ·rw[if_pos ak,decide_eq_false (show¬cP l x.ao<0 by omega)];rfl
    ·rw[if_neg ak,decide_eq_true (show cP l x.ao<0 by omega)];rfl) (λ k=>by rw[Bc,bJ];rfl) (by omega)
   have e:[(⟨m.Returns.Kind,m.Returns.ao⟩:Kind)].findSome? (n_ l)=n_ l m.Returns:=ai2;rw[Bb,bu b,ae,bK (aO.1 hy).1,cond_true,ae,bu hy,ae,Sz ⟨by omega,by omega⟩ ⟨by omega,by omega⟩,ae,Sz ⟨by omega,by omega⟩ ⟨by simp,by simp;omega⟩,ae,r,e,oA];rw[Wz (WM _),Wz (tl (λ k=>WM k) _),KV,KV,qL,oy];congr 1;unfold mt;rw[lq,lq,If,List.findSome?_map];cases j:m.cA.findSome? (n_ l)with
   |some a=>
    have:(m.cA.findSome? λ x=>(eg x).findSome? (jY l))=some a:=j
    rw[this];rfl
   |none=>
    have:(m.cA.findSome? λ x=>(eg x).findSome? (jY l))=none:=j
    rw[this];rfl) (λ k=>by rw[Bb,bu b,ae,bJ];rfl) (by omega)
  rw[x0,bK (aO.1 b).1,cond_true,o,p,oA,oA,KV,qL,oy];congr 1;unfold hI;rw[lq,If,If];rfl) (λ k=>by rw[x0,bJ];rfl) (F:=F) (by omega)
 rw[this,sv,If]
end
end I
namespace I
theorem OD{cM β:Type} [DecidableEq cM]{k:cM}{v:β}:∀m:List (cM×β),(gA m k v).length=if(cJ m k).isSome then m.length else m.length+1
 |[]=>rfl
 |p::r=>by
  simp only[gA,cJ];by_cases h:p.1=k
  ·simp[h]
  ·simp only[if_neg h,de,OD r]
   split<;>rfl
theorem JM{cM β:Type} [DecidableEq cM]{k s:cM}{v:β}:∀m:List (cM×β),(cJ (gA m k v) s).isSome=true↔s=k\/(cJ m s).isSome=true
 |[]=>by
  simp only[gA,cJ];by_cases h:k=s
  ·simp[h]
  ·simp[h];exact λ e=>h e.symm
 |p::r=>by
  have a:=JM (k:=k) (s:=s) (v:=v) r;simp only[gA];by_cases h:p.1=k
  ·rw[if_pos h]
   simp only[cJ]
   by_cases e:k=s
   ·simp[e]
   ·have ak: ¬p.1=s:=λ x=>e (h.symm.trans x)
    rw[if_neg e,if_neg ak]
    constructor
    ·exact λ x=>.inr x
    ·rintro(x |x)
     ·exact absurd x.symm e
     ·exact x
  ·rw[if_neg h]
   simp only[cJ]
   by_cases e:p.1=s
   ·simp[e]
   ·rw[if_neg e,if_neg e];exact a
def vq(ns:List (List UInt8)):Option Int:=if ns.Nodup then none else some 6
section
variable{F:Nat}{l:List ao}
theorem ala(r:1100<F){ns:List (List UInt8)}(t:ns.length<=1000):FQ F ns=some (decide (¬ns.Nodup)):=by
 have key:∀(d i k:Nat)(m:List (List UInt8×Bool)),i+d=ns.length->d<k->(∀s,(cJ m s).isSome=true↔s∈ns.take i)->m.length<=i->(m.length=i↔(ns.take i).Nodup) ->
  ∃f,y_ ns k m (i:Int)=some f/\f.length<=ns.length/\(f.length=ns.length↔ns.Nodup):=by
  intro d
  induction d with
  |zero=>
   intro i k m hi o c J ap
   obtain⟨k,rfl⟩:∃k',k=k'+1:=⟨k-1,by omega⟩
   have:i=ns.length:=by omega
   subst this
   rw[jZ]at ap
   exact⟨m,by rw[y_,bJ];rfl,J,ap⟩
  |succ d p=>
   intro i k m hi o c J ap
   obtain⟨k,rfl⟩:∃k',k=k'+1:=⟨k-1,by omega⟩
   have g:i<ns.length:=by omega
   have n:ns.take (i+1)=ns.take i++[ns[i]]:=by rw[k5,aJ g];rfl
   rw[y_,bK g,cond_true,bu (aJ g),ae,eA g (by omega)]
   refine p (i+1) k _ (by omega) (by omega) (λ s=>?_) ?_ ?_
   ·rw[JM,c,n,b_,dR]
    constructor
    ·rintro(h |h)
     ·exact .inr h
     ·exact .inl h
    ·rintro(h |h)
     ·exact .inr h
     ·exact .inl h
   ·rw[OD];split<;>omega
   ·rw[OD,n,eQ]
    by_cases j:(cJ m ns[i]).isSome=true
    ·rw[if_pos j]
     have:=(c ns[i]).1 j
     constructor
     ·intro h;omega
     ·rintro⟨_,_,h⟩;exact absurd rfl (h _ this _ (by simp))
    ·rw[if_neg j]
     have:ns[i]∉ns.take i:=λ h=>j ((c ns[i]).2 h)
     constructor
     ·intro h
      exact⟨ap.1 (by omega),by simp,λ a q b af e=>by
       rw[dR]at af;subst af;exact this (e▸q)⟩
     ·rintro⟨h,_,_⟩
      have:=ap.2 h
      omega
 obtain⟨f,c,J,ap⟩:=key ns.length 0 F [] (by omega) (by omega) (λ s=>by simp[cJ]) (by simp) (by simp);unfold FQ;rw[show(0 :Int)=((0 :Nat):Int) from rfl,c,ae];congr 1;by_cases aL:ns.Nodup
 ·have:=ap.2 aL
  rw[decide_eq_false (by omega),decide_eq_false (by simp[aL])]
 ·have:f.length≠ns.length:=λ e=>aL (ap.1 e)
  rw[decide_eq_true (by omega),decide_eq_true aL]
def S_{α:Type}(nm:α->List UInt8)(r:List α):Option Int:=(dM r.length).findSome? λ k=>(dM k).findSome? λ j=>if(r[j]?).map nm=(r[k]?).map nm then some 6 else none
theorem adY{α:Type}(nm:α->List UInt8)(r:List α):S_ nm r=vq (r.map nm):=by
 have c:S_ nm r=none\/S_ nm r=some 6:=tl (λ k=>tl (λ j=>by split<;>simp) _) _;unfold vq;by_cases aL:(r.map nm).Nodup
 ·rw[if_pos aL]
  rcases c with h |h
  ·exact h
  ·exfalso
   obtain⟨k,a,b⟩:=ee h
   obtain⟨j,aA,J⟩:=ee b
   simp only[kS]at a aA
   split at J
   ·rename_i e
    have:=jr.1 aL j k (by simp;omega) (by simpa using a) aA
    apply this
    rw[aJ (by omega),aJ a]at e
    simpa using e
   ·cases J
 ·rw[if_neg aL]
  rcases c with h |h
  ·exfalso
   apply aL
   refine jr.2 λ j k aA a d e=>?_
   have b:=gf.1 h k (by simpa using a)
   have J:=gf.1 b j (by simpa using d)
   simp only[fW]at aA a
   rw[aJ aA,aJ a]at J
   simp only[kr]at e
   rw[if_pos (by simp[e])]at J
   cases J
  ·exact h
theorem at2(b:1100<F)(r:List Field)(c:r.length<=1000):A5 F r F 0=some (cw (vq (r.map (·.Name)))):=by
 rw[<-adY];exact ku _ (by omega) (λ k i hi=>by
  have a:A6 r (i:Int) F 0=some (cw ((dM i).findSome? λ j=>if(r[j]?).map (·.Name)=(r[i]?).map (·.Name)then some 6 else none)):=ku _ (by omega) (λ k j aA=>by
   rw[A6,bK aA,cond_true,bu (aJ (show j<r.length by omega)),ae,bu (aJ hi),ae,aJ (show j<r.length by omega),aJ hi];simp only[fm,aF];by_cases e:r[j].Name=r[i].Name
   ·rw[decide_eq_true e,if_pos e];rfl
   ·rw[decide_eq_false e,if_neg e];rfl) (λ k=>by rw[A6,bJ];rfl) (by omega)
  rw[A5,bK hi,cond_true,a,oA,qL,oy]) (λ k=>by rw[A5,bJ];rfl) (by omega)
theorem at3(b:1100<F)(c:ao)(d:c.bn.length<=1000):sZ F c F 0=some (cw (vq (c.bn.map (·.Name)))):=by
 rw[<-adY];exact ku _ (by omega) (λ k i hi=>by
  have a:s0 c (i:Int) F 0=some (cw ((dM i).findSome? λ j=>if(c.bn[j]?).map (·.Name)=(c.bn[i]?).map (·.Name)then some 6 else none)):=ku _ (by omega) (λ k j aA=>by
   rw[s0,bK aA,cond_true,bu (aJ (show j<c.bn.length by omega)),ae,bu (aJ hi),ae,aJ (show j<c.bn.length by omega),aJ hi];simp only[fm,aF];by_cases e:c.bn[j].Name=c.bn[i].Name
   ·rw[decide_eq_true e,if_pos e];rfl
   ·rw[decide_eq_false e,if_neg e];rfl) (λ k=>by rw[s0,bJ];rfl) (by omega)
  rw[sZ,bK hi,cond_true,a,oA,qL,oy]) (λ k=>by rw[sZ,bJ];rfl) (by omega)
def zA(l:List ao)(i:Nat):Option Int:=(vq ((fs l i).map (·.Name))).or (vq ((eP l i).map (·.Name)))
theorem afy(h:hW l){n:Int}(a:0<=n)(b:n<l.length):(fs l n).length<=60:=by
 obtain⟨_,c,_⟩:=h.chain a b;have:=TZ h.right (dy l n).reverse;unfold fs;simp only[lb]at this;omega
theorem adZ{ns:List (List UInt8)}{Y:Option (Way Int Unit)}:cond (decide (¬ns.Nodup)) (some (.out 6)) Y=gR (vq ns) Y:=by
 unfold vq;by_cases h:ns.Nodup
 ·rw[if_pos h,decide_eq_false (by simp[h])];rfl
 ·rw[if_neg h,decide_eq_true h];rfl
theorem aiq{i:Nat}{c:ao}(h:l[i]? =some c):eP l (i:Int)=c.bn:=by unfold eP;rw[bu h];rfl
theorem aDs(a:1100<F)(h:hW l):Bd F l F 0=some (cw ((dM l.length).findSome? (zA l))):=by
 have d:=h.right.len;exact ku _ (by omega) (λ k i hi=>by
  obtain⟨c,b⟩:∃x,l[i]? =some x:=⟨l[i],aJ hi⟩
  have e:=h.right.methods c (bE b);have f:=afy h (n:=(i:Int)) (by omega) (by omega);rw[Bd,bK hi,cond_true,h.Zw a (by omega) (by omega),ae,at2 a _ (by omega),oA,bu b,ae,at3 a c (by omega),oA,KV,qL,oy];unfold zA;rw[aiq b]) (λ k=>by rw[Bd,bJ];rfl) (by omega)
theorem aDr(b:1100<F)(h:hW l)(m:List (List UInt8×Int)):JD F ⟨l,m,dm l⟩=some (((dM l.length).findSome? (zA l)).getD 0):=by
 have g:=h.right.len;have:=ku (n:=l.length) (L:=y6 F ⟨l,m,dm l⟩) (zA l) (by omega) (λ k i hi=>by
  obtain⟨c,a⟩:∃x,l[i]? =some x:=⟨l[i],aJ hi⟩
  have t:=h.right.methods c (bE a);have u:=afy h (n:=(i:Int)) (by omega) (by omega);have o:wJ (fs l i) F [] 0=some ((fs l i).map (·.Name)):=by
   have:=vb (l:=fs l i) (λ k acc i'=>wJ (fs l i) k acc (i':Int)) (λ f=>[f.Name]) 1 3000 (λ f _=>by simp) (λ k j x acc a p=>by
    have aA:=(aO.1 a).1;rw[wJ,bK aA,cond_true,bu a,ae,iz (by simp only[de,fT];omega),ae,eA aA (by omega)]) (λ k acc=>by rw[wJ,bJ];rfl) (F:=F) (by omega) (acc:=[]) (by simp;omega)
   rw[show(0 :Int)=((0 :Nat):Int) from rfl,this];congr 1;rw[ju];induction fs l i with
   |nil=>rfl
   |cons x r d=>rw[iN,d];rfl
  have q:r4 c F [] 0=some (c.bn.map (·.Name)):=by
   have:=vb (l:=c.bn) (λ k acc i'=>r4 c k acc (i':Int)) (λ f=>[f.Name]) 1 3000 (λ f _=>by simp) (λ k j x acc a p=>by
    have aA:=(aO.1 a).1;rw[r4,bK aA,cond_true,bu a,ae,iz (by simp only[de,fT];omega),ae,eA aA (by omega)]) (λ k acc=>by rw[r4,bJ];rfl) (F:=F) (by omega) (acc:=[]) (by simp;omega)
   rw[show(0 :Int)=((0 :Nat):Int) from rfl,this];congr 1;rw[ju];induction c.bn with
   |nil=>rfl
   |cons x r d=>rw[iN,d];rfl
  rw[y6];have s:decide ((i:Int)<((⟨l,m,dm l⟩:bs).l.length:Int))=true:=bK (n:=l.length) hi;have e:=h.Xb b m (n:=(i:Int)) (by omega) (by omega);rw[s,cond_true];show cY (α:=Unit) ((idx l (i:Int)).bind λ v=>(tW F ⟨l,m,dm l⟩ (i:Int)).bind λ w=>_) _=_
  rw[bu a,ae,e,ae,o,ae,q,ae,ala b (by simp;omega),ae,ala b (by simp;omega),ae,adZ,adZ,KV,qL,oy];unfold zA;rw[aiq a]) (λ k=>by
   rw[y6];show cond (decide ((l.length:Int)<(l.length:Int))) _ _=_
   rw[bJ];rfl) (F:=F) (by omega)
 unfold JD;rw[this];cases(dM l.length).findSome? (zA l)<;>rfl
theorem aks{a b:List Kind}(g:a.length<=1000)(af:b.length<=1000)(h:1100<F):u' F a b=some (decide (a=b)):=by
 unfold u';by_cases d:a.length=b.length
 ·rw[decide_eq_true (show(a.length:Int)=(b.length:Int) by omega)]
  simp only[dC,cond_false]
  have l1:pX a b F 0=some (cw ((dM a.length).findSome? λ i=>if a[i]? =b[i]? then none else some false)):=ku _ (by omega) (λ k i hi=>by
   rw[pX,bK hi,cond_true,bu (aJ hi),ae,bu (aJ (show i<b.length by omega)),ae,aJ hi,aJ (show i<b.length by omega)];simp only[aF];by_cases e:a[i]=b[i]
   ·rw[decide_eq_true e,if_pos e];rfl
   ·rw[decide_eq_false e,if_neg e];rfl) (λ k=>by rw[pX,bJ];rfl) (by omega)
  rw[l1,jW]
  cases ad:(dM a.length).findSome? λ i=>if a[i]? =b[i]? then none else some false with
  |some e=>
   obtain⟨i,hi,c⟩:=ee ad
   split at c
   ·cases c
   ·rename_i f
    injection c with c
    subst c
    rw[decide_eq_false (λ e=>f (by rw[e]))];rfl
  |none=>
   rw[decide_eq_true];rfl
   apply kL
   intro i
   by_cases hi:i<a.length
   ·have:=gf.1 ad i (by simpa using hi)
    split at this
    ·assumption
    ·cases this
   ·rw[gH (by omega),gH (by omega)]
 ·rw[decide_eq_false (show¬(a.length:Int)=(b.length:Int) by omega),decide_eq_false (λ e=>d (by rw[e]))];rfl
theorem avs{a b:List Kind}(c:a.length<=1000)(af:b.length<=1000)(d:1100<F):KE F a b=some (decide (a=b)):=by
 rw[<-aks c af d];unfold KE u';have e:∀k n,Dn a b k n=pX a b k n:=by
  intro k;induction k with
  |zero=>intro n;rfl
  |succ k f=>intro n;rw[Dn,pX];simp only[f]
 rw[e]
def S1(a b:Method):Bool:=decide (a.Name=b.Name)&&(a.Static||b.Static|| !decide (a.cA=b.cA)|| !decide (a.Returns=b.Returns))
def p3(a b:Method):Option Int:=if S1 a b then some 4 else none
def vo(l:List ao)(c:ao)(u:Int):Option Int:=c.bn.findSome? λ a=>(eP l u).findSome? (p3 a)
def FV(l:List ao)(c:ao)(i:Nat):Option Int:=(dy l i).tail.findSome? (vo l c)
theorem atu(a b:Method):p3 a b=none\/p3 a b=some 4:=by unfold p3;split<;>simp
theorem adC(c:ao)(u:Int):vo l c u=none\/vo l c u=some 4:=tl (λ _=>tl (λ _=>atu _ _) _) _
theorem awr{α:Type}{g:α->Option Int}{e:Int}(b:∀x,g x=none\/g x=some e)(r:List α):r.reverse.findSome? g=r.findSome? g:=by
 rcases tl b r with h |h
 ·rw[h,gf]
  intro x a
  exact gf.1 h x (by simpa using a)
 ·rw[h]
  rcases tl b r.reverse with J |J
  ·obtain⟨x,a,ap⟩:=ee h
   have:=gf.1 J x (by simpa using a)
   rw[ap]at this;cases this
  ·exact J
theorem aCj(p:1100<F)(h:hW l)(m:List (List UInt8×Int)):JC F ⟨l,m,dm l⟩=some (((dM l.length).findSome? λ i=>(l[i]?).bind λ c=>FV l c i).getD 0):=by
 have q:=h.right.len;have:=ku (n:=l.length) (L:=y3 F ⟨l,m,dm l⟩) (λ i=>(l[i]?).bind λ c=>FV l c i) (by omega) (λ k i hi=>by
  obtain⟨c,f⟩:∃x,l[i]? =some x:=⟨l[i],aJ hi⟩
  have s:=bE f;have N:=h.right.methods c s;obtain⟨w,O,y⟩:=h.chain (n:=(i:Int)) (by omega) (by omega);obtain⟨r,t⟩:=aag w (by omega);have z:∀(a:Method),a∈c.bn-> ∀(u:ao),u∈l->r3 F a u F 0=some (cw (u.bn.findSome? (p3 a))):=λ a e u d=>each (p3 a) (by have:=h.right.methods u d;omega) (λ k j b af=>by
   have A:=bE af;have B:=h.right.method c s a e;have P:=h.right.method u d b A;rw[r3,bK (aO.1 af).1,cond_true,bu af,ae];unfold Om;simp only;rw[avs (by omega) (by omega) p];unfold p3 S1;show cond _ (d_ (cond _ (d_ _ λ r=>cond r (some (decide (a.Returns=b.Returns))) _) _) _) _=_
   by_cases v:a.Name=b.Name
   ·rw[decide_eq_true v]
    simp only[ae,cond_true,j0]
    cases a.Static<;>cases b.Static<;>cases decide (a.cA=b.cA)<;>cases decide (a.Returns=b.Returns)<;>rfl
   ·rw[decide_eq_false v];rfl) (λ k=>by rw[r3,bJ];rfl) (by have:=h.right.methods u d;omega)
  have C:∀(x:Int),0<=x->x<l.length->y5 F ⟨l,m,dm l⟩ c x F 0=some (cw (vo l c x)):=λ x D E=>each (λ a=>(eP l x).findSome? (p3 a)) (by omega) (λ k j a e=>by
   obtain⟨u,d,_⟩:=xb (l:=l) D E;have G:u∈l:=by obtain⟨_,_,J⟩:=lc d;exact bE J
   have H:eP l x=u.bn:=by unfold eP;rw[d];rfl
   rw[y5,bK (aO.1 e).1,cond_true,bu e,ae];show cY (α:=Unit) ((idx l x).bind λ Q=>_) _=_
   rw[d,ae,z a (bE e) u G,oA,qL,oy,H]) (λ k=>by rw[y5,bJ];rfl) (by omega)
  have I:y4 F ⟨l,m,dm l⟩ c (dy l i).tail F 0=some (cw ((dy l i).tail.findSome? (vo l c))):=each (vo l c) (by simp;omega) (λ k j x g=>by
   have af:=y x (List.mem_of_mem_tail (bE g));rw[y4,bK (aO.1 g).1,cond_true,bu g,ae,C x af.1 af.2,oA,qL,oy]) (λ k=>by rw[y4,bJ];rfl) (by simp;omega)
  rw[y3];have K:decide ((i:Int)<((⟨l,m,dm l⟩:bs).l.length:Int))=true:=bK (n:=l.length) hi;have o:=h.Xa p m (n:=(i:Int)) (by omega) (by omega);rw[K,cond_true];show cY (α:=Unit) ((idx l (i:Int)).bind λ R=>(r1 F ⟨l,m,dm l⟩ (i:Int)).bind λ S=>_) _=_
  have M:cut (dy l i) 1 ((dy l i).length:Int)=some (dy l i).tail:=by
   unfold cut;rw[if_pos (by rw[t];simp only[de];omega)];rw[t];simp
  rw[bu f,ae,o,ae,M,ae,I,oA,qL,oy,f];rfl) (λ k=>by
   rw[y3];show cond (decide ((l.length:Int)<(l.length:Int))) _ _=_
   rw[bJ];rfl) (F:=F) (by omega)
 unfold JC;rw[this];cases(dM l.length).findSome? (λ i=>(l[i]?).bind λ c=>FV l c i)<;>rfl
theorem aCk(z:1100<F)(h:hW l):A7 F l F 0=some (cw ((dM l.length).findSome? λ i=>(l[i]?).bind λ c=>FV l c i)):=by
 have A:=h.right.len;exact ku _ (by omega) (λ k i hi=>by
  obtain⟨c,d⟩:∃x,l[i]? =some x:=⟨l[i],aJ hi⟩
  have B:=bE d;have N:=h.right.methods c B;obtain⟨G,O,H⟩:=h.chain (n:=(i:Int)) (by omega) (by omega);obtain⟨r,C⟩:=aag G (by omega);have g:(dy l i).reverse=(dy l i).tail.reverse++[(i:Int)]:=by rw[C];simp
  have m:A8 F l (i:Int) (dy l i).reverse F 0=some (cw ((dy l i).tail.reverse.findSome? (vo l c))):=each (l:=(dy l i).tail.reverse) (vo l c) (by simp;omega) (λ k u x o=>by
   have D:=(aO.1 o).1;have af:=H x (List.mem_of_mem_tail (by simpa using bE o));obtain⟨w,f,_⟩:=xb (l:=l) af.1 af.2;have Ct:w∈l:=by obtain⟨_,_,J⟩:=lc f;exact bE J
   have I:=h.right.methods w Ct;have K:eP l x=w.bn:=by unfold eP;rw[f];rfl
   have e:(dy l i).reverse[u]? =some x:=by rw[g,fc D];exact o
   have p:A9 F l (i:Int) (dy l i).reverse (u:Int) F 0=some (cw (vo l c x)):=each (l:=c.bn) (λ a=>(eP l x).findSome? (p3 a)) (by omega) (λ k j a s=>by
    have t:=bE s;have v:xY F l (i:Int) (dy l i).reverse (u:Int) (j:Int) F 0=some (cw (w.bn.findSome? (p3 a))):=each (l:=w.bn) (p3 a) (by omega) (λ k q b af=>by
     have L:=bE af;have M:=h.right.method c B a t;have P:=h.right.method w Ct b L;rw[xY];simp only[bu e,ae,f,bK (aO.1 af).1,cond_true,bu d,bu s,bu af];rw[aks (by omega) (by omega) z];unfold p3 S1;show cond _ (cond _ _ (d_ _ λ r=>cond (!r) _ (cond (!decide (a.Returns=b.Returns)) _ _))) _=_
     by_cases E:a.Name=b.Name
     ·rw[decide_eq_true E]
      simp only[ae,cond_true,j0]
      cases a.Static<;>cases b.Static<;>cases decide (a.cA=b.cA)<;>cases decide (a.Returns=b.Returns)<;>rfl
     ·rw[decide_eq_false E];rfl) (λ k=>by rw[xY];simp only[bu e,ae,f,bJ];rfl) (by omega)
    rw[A9,bu d,ae,bK (aO.1 s).1,cond_true,v,oA,qL,oy,K]) (λ k=>by rw[A9,bu d,ae,bJ];rfl) (by omega)
   have y:decide ((u:Int)<ax (((dy l i).reverse.length:Int)-1))=true:=by
    rw[cT (by omega) (by simp;omega)];simp only[lb,List.length_tail]at D;exact decide_eq_true (by simp only[lb];omega)
   rw[A8,y,cond_true,p,oA,qL,oy]) (λ k=>by
    have y:decide (((dy l i).tail.reverse.length:Int)<ax (((dy l i).reverse.length:Int)-1))=false:=by
     rw[cT (by omega) (by simp;omega)];exact decide_eq_false (by rw[C];simp)
    rw[A8,y];rfl) (by simp;omega)
  rw[A7,bK hi,cond_true,Qg z h.right (by omega),ae,m,oA,qL,oy,d,awr (adC c)];rfl) (λ k=>by rw[A7,bJ];rfl) (by omega)
end
end I
