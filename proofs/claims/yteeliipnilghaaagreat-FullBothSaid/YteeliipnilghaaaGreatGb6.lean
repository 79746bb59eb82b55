/- Part 6 of the proof that is ended in the last text: small logic, what the functions compute, walks, plain laws. -/
import Derived.Test.YteeliipnilghaaaGreatGb5
import Derived.Maps.RangeRun
import Derived.KernelRfl
import Derived.Test.YteeliipnilghaaaGreatProg
import Derived.Test.YteeliipnilghaaaGreatChecked
import Derived.Shelf.SlSortCmp.Whole1
import Derived.Sort.LotA
import Derived.Shelf.SlSortCmp.NoneTotal
open Array renaming getD_eq_getD_getElem?->e0,getElem?_eq_getElem->jJ,getElem?_eq_none->ib,getElem?_modify->ke,getElem?_setIfInBounds->f_,getElem?_toList->hT
open Bool renaming and_eq_true->cb,and_self->mG,eq_iff_iff->iT,false_eq_true->hX,false_or->iQ,not_eq_true'->ha,not_false->ja,not_true->eb,or_eq_true->ia,true_and->kz
open Classical renaming byContradiction->lL
open List renaming Pairwise.imp_of_mem->lP,all_eq_true->k_,append_assoc->g_,append_nil->hR,cons.injEq->h3,cons_append->iE,drop_eq_getElem_cons->de,drop_of_length_le->jp,drop_zero->hB,exists_of_findSome?_eq_some->eN,ext_getElem?->lu,findSome?_append->lZ,findSome?_cons->jc,findSome?_eq_none_iff->gS,flatMap_cons->ig,getElem?_append_left->eA,getElem?_cons_zero->dU,getElem?_eq_getElem->aK,getElem?_eq_none->gE,getElem?_eq_some_iff->aP,getElem?_map->jw,getElem?_range->me,getElem?_set_self->gv,getElem?_take->hG,getElem_map->la,getElem_mem->hg,length->jb,length_append->dR,length_cons->dL,length_erase_of_mem->mq,length_map->gC,length_mergeSort->nd,length_nil->gR,length_pos_iff->l8,length_reverse->lQ,length_take->fZ,map_append->jH,map_cons->eB,map_map->nr,map_nil->iD,map_singleton->lT,mem_append->cj,mem_cons->cI,mem_cons_of_mem->dZ,mem_cons_self->il,mem_erase_of_ne->nq,mem_filter->js,mem_iff_getElem->jf,mem_map->hY,mem_map_of_mem->j5,mem_of_getElem?->bG,mem_range->lB,mem_singleton->dT,mergeSort_perm->lx,nil_append->kK,nodup_append->fA,nodup_cons->ie,nodup_iff_pairwise_ne->lJ,nodup_nil->mA,not_mem_nil->iH,pairwise_iff_getElem->jl,pairwise_mergeSort->mD,perm_ext_iff_of_nodup->k7,range->ed,set_getElem_self->mI,take->mV,take_add_one->lK,take_length->jI,take_of_length_le->h0
open Nat renaming beq->cy,blt->fs,eq_of_beq_eq_true->bd,le_of_ble_eq_true->cS,le_refl->cT,lt_of_lt_of_le->fe,lt_or_ge->gL,mul_one->j3,zero_add->jM,zero_le->gT
open Option renaming bind->ew,bind_some->ae,getD_none->jL,getD_some->jd,isSome_none->mo,map_eq_some_iff->cz,map_none->jq,map_some->fU,some.inj->eJ,some.injEq->aH
open Prod renaming fst->lz,mk.injEq->cF
namespace bc
open Go Go.RowKit ay I Go.ChangeMaps
section
variable{P:Program}{ops:Array Oper}{o:Oper}{rest:List Oper}{a:Act}{w w':World}{v:Value}{Q:Exit->Act->World->Prop}
theorem e3(b:o.guard=none)(hy:bh P o a w v w')(k:wpList P ops Q rest (a.put o.dst v) w'):wpList P ops Q (o::rest) a w:=by
 refine wpList_plain b λ c d=>?_;unfold Oper.wp;rw[show(execOp a.eval o).run P w= .ok (.value v) w' from hy];exact d _ _ k
structure S6 (w:World) (r bm since clock:Nat) (es:Array MapEntry) (acc:List MapEntry):Prop where
 it:∃eK,since<=eK/\w.heap[r]? =some (.mapIter (some bm) since ⟨acc.map (·.born)⟩ eK)
 mp:w.heap[bm]? =some (.map es clock)
theorem aE8{l:List MapEntry}(h:(l.map (·.born)).Nodup):∀ {x y:MapEntry},x∈l->y∈l->x.born=y.born->x=y:=by
 induction l with
 |nil=>intro x y b;simp at b
 |cons z r g=>
  intro x y b hy e
  rw[eB]at h
  have c:=ie.1 h
  rcases cI.1 b with ex |Db
  ·rcases cI.1 hy with d |wU
   ·rw[ex,d]
   ·refine absurd ?_ c.1
    rw[<-ex,e]
    exact j5 (f:=(·.born)) wU
  ·rcases cI.1 hy with d |wU
   ·refine absurd ?_ c.1
    rw[<-d,<-e]
    exact j5 (f:=(·.born)) Db
   ·exact g c.2 Db wU e
theorem YL{α β:Type}{f:α->β}:∀ {l:List α},(l.map f).Nodup->l.Nodup
 |[],_=>mA
 |a::r,h=>by
  have b:=ie.1 (show(f a::r.map f).Nodup from h);exact ie.2 ⟨λ c=>b.1 (j5 c),YL b.2⟩
theorem YH:∀ {o Y:List Nat},o.Nodup->(∀a∈o,a∈Y)->o.length<=Y.length
 |[],Y,_,_=>gT _
 |a::r,Y,c,aj=>by
  have c:=ie.1 c;have d:a∈Y:=aj a (by simp);have f:=YH (o:=r) (Y:=Y.erase a) c.2 λ b ag=>(nq λ e=>by subst e;exact c.1 ag).2 (aj b (by simp[ag]));rw[mq d]at f;have:0<Y.length:=List.length_pos_of_mem d;simp only[dL];omega
theorem aBI{es:List MapEntry}{acc:List MapEntry}(c:(es.map (·.born)).Nodup)(g:(acc.map (·.born)).Nodup)(aj:∀e∈acc,e∈es)(h:∀e∈es,e.born∈acc.map (·.born)):acc.Perm es:=by
 have b:acc.Nodup:=YL g;have ne:es.Nodup:=YL c;refine(k7 b ne).2 λ e=>⟨aj e,λ d=>?_⟩
 obtain⟨x,f,i⟩:=hY.1 (h e d);have:=aE8 c (aj x f) d i;exact this▸f
def aaA(vU Cv fR k5:Nat)(tok:Nat)(ih mr lM kF ms:Oper)(c:Code):Code:=
 .block vU (.loop (.seq (.region fR #[ih,mr] false) (.seq (.cond (.tmp tok) .skip (.exit vU)) (.block Cv (.seq (.region k5 #[lM,kF,ms] false) c)))))
theorem uZ{d:Option Nat}{v:Value}:(a.put d v).tmps.size=a.tmps.size:=by
 cases d<;>simp[Act.put]
theorem wk{d t:Nat}{v:Value}(h:d≠t):(a.put (some d) v).tmps.getD t undef=a.tmps.getD t undef:=by
 simp only[Act.put,e0,f_,if_neg h]
theorem wj{d:Nat}{v:Value}(h:d<a.tmps.size):(a.put (some d) v).tmps.getD d undef=v:=by
 rw[zg h,if_pos rfl]
theorem CB{t:Nat}:a.eval (.tmp t)=a.tmps.getD t undef:=rfl
def tF(l:List Nat)(a b:Act):Prop:=b.tmps.size=a.tmps.size/\b.defers=a.defers/\ ∀t,t∉l->b.tmps.getD t undef=a.tmps.getD t undef
theorem tF.refl{l:List Nat}{a:Act}:tF l a a:=⟨rfl,rfl,λ _ _=>rfl⟩
theorem tF.put{l:List Nat}{a b:Act}{d:Nat}{v:Value}(h:tF l a b)(aL:d∈l):tF l a (b.put (some d) v):=
 ⟨uZ.trans h.1,h.2.1,λ t c=>by rw[wk (λ(e:d=t)=>c (by rw[<-e];exact aL))];exact h.2.2 t c⟩
theorem aiy{n vU Cv fR k5 r bm since clock ti tn tok te tk tv:Nat}{ih mr lM kF ms:Oper}{c:Code}{es:Array MapEntry}(j:List MapEntry->Act->World->Prop)
 (mZ:ih.op= .next (.tmp ti) false/\ih.dst=some tn/\ih.guard=none)(a7:mr.op= .extract (.tmp tn) 0/\mr.dst=some tok/\mr.guard=none)
 (M:lM.op= .entry (.tmp ti)/\lM.dst=some te/\lM.guard=none)(b8:kF.op= .extract (.tmp te) 0/\kF.dst=some tk/\kF.guard=none)(qJ:ms.op= .assign (.tmp tk)/\ms.dst=some tv/\ms.guard=none)
 (ag:(fs tn n&&fs tok n&&fs te n&&fs tk n)=true)(b2:(!(cy tn ti)&& !(cy tok ti)&& !(cy te ti)&& !(cy tk ti)&& !(cy tok tn)&& !(cy tk te))=true)
 (q:∀x∈es.toList,x.born<since)(C7:since<=clock)(ix:(es.toList.map (·.born)).Nodup)
 (N:∀acc a w,j acc a w->a.tmps.size=n/\a.tmps.getD ti undef= .pointer (some ⟨r,0,none⟩)/\S6 w r bm since clock es acc/\(acc.map (·.born)).Nodup/\ ∀e∈acc,e∈es.toList)
 (O:∀acc e a d w w',j acc a w->e∈es.toList->e.born∉acc.map (·.born)->tF [tn,tok,te,tk,tv] a d->(tv<n->d.tmps.getD tv undef=e.key)->br [r] w w'->w'.heap.size=w.heap.size->(∃eK,since<=eK/\w'.heap[r]? =some (.mapIter (some bm) since ⟨(acc++[e]).map (·.born)⟩ eK)) ->
  c.wp P (λ x d w'=>x= .normal/\j (acc++[e]) d w') d w')
 (CS:∀acc a d w,j acc a w->acc.Perm es.toList->tF [tn,tok] a d->Q .normal d w)(aE:j [] a w):(aaA vU Cv fR k5 tok ih mr lM kF ms c).wp P Q a w:=by
 simp only[cb,ha]at ag b2
 obtain⟨⟨⟨E,F⟩,R⟩,e6⟩:=ag
 have E:tn<n:=cS E
 have F:tok<n:=cS F
 have R:te<n:=cS R
 have e6:tk<n:=cS e6
 obtain⟨⟨⟨⟨⟨S,T⟩,s⟩,aOP⟩,aOQ⟩,n6⟩:=b2
 have S:tn≠ti:=λ e=>by subst e;simp at S
 have T:tok≠ti:=λ e=>by subst e;simp at T
 have s:te≠ti:=λ e=>by subst e;simp at s
 obtain⟨zj,t,u⟩:=mZ
 obtain⟨y,A,B⟩:=a7
 obtain⟨U,V,W⟩:=M
 obtain⟨wm,sf,mY⟩:=b8
 obtain⟨X,Z,ayL⟩:=qJ
 unfold aaA
 refine wp_block (wp_loop_ghost (λ m a w=>∃acc,j acc a w/\m=es.size-acc.length) _ ⟨[],aE,rfl⟩ λ m a w hm=>?_)
 obtain⟨acc,hi,F9⟩:=hm
 obtain⟨sz,zy,⟨⟨eK,ma,G⟩,H⟩,aB,aj⟩:=N acc a w hi
 refine wp_seq (wp_region_list ?_)
 have jo:a.eval (.tmp ti)= .pointer (some ⟨r,0,none⟩):=zy
 rcases run_next_at (P:=P) w ih.type r bm since eK ⟨acc.map (·.born)⟩ es clock G H q ma with⟨al,I⟩|⟨e,l,dQ,K,I⟩
 ·have cJ:bh P ih a w (.tuple #[.bool false]) w:=by
   simp only[bh,execOp,zj,jo,Sem.run_bind,I,Result.andThen];rfl
  refine e3 u cJ ?_;rw[t];refine e3 B (Mp (vs:=[.bool false]) (i:=0) (v:=.bool false) y (by rw[CB,wj (by rw[sz];exact E)]) rfl) ?_;rw[A];have Wl:(((a.put (some tn) (.tuple #[.bool false])).put (some tok) (.bool false)).eval (.tmp tok))= .bool false:=by rw[CB,wj (by rw[uZ,sz];exact F)]
  refine wp_seq (wp_cond_split Wl (λ h=>by cases h) λ _=>wp_exit ?_);simp only[Exit.then,Exit.inBlock,if_true];refine CS acc a _ w hi (aBI ix aB aj λ e l=>?_) ((tF.refl.put (by simp)).put (by simp));have kv:leftOf es ⟨acc.map (·.born)⟩= #[]:=Array.eq_empty_of_size_eq_zero al;apply lL;intro hc;have:e∈(leftOf es ⟨acc.map (·.born)⟩).toList:=by
   unfold leftOf;simp only[Array.toList_filter,js];exact⟨l,by simpa using hc⟩
  rw[kv]at this;simp at this
 ·have Wh:e∈es.toList/\e.born∉acc.map (·.born):=by
   unfold leftOf at l;simp only[Array.toList_filter,js]at l;exact⟨l.1,by simpa using l.2⟩
  obtain⟨ur,zt⟩:=Wh;obtain⟨b,f⟩:∃b,b=setBlock dQ r (.mapIter (some bm) since ((⟨acc.map (·.born)⟩:Array Nat).push e.born) clock):=⟨_,rfl⟩
  rw[<-f]at I;have F7:dQ.heap=w.heap:=by rcases K with rfl |rfl<;>rfl
  have Gh:r<w.heap.size:=by
   rcases gL r w.heap.size with h |h
   ·exact h
   ·rw[ib h]at G;cases G
  have aAi:((⟨acc.map (·.born)⟩:Array Nat).push e.born)=⟨(acc++[e]).map (·.born)⟩:=by simp
  have ky:b.heap[r]? =some (.mapIter (some bm) since ((⟨acc.map (·.born)⟩:Array Nat).push e.born) clock):=by
   rw[f];simp only[setBlock,F7];rw[f_,if_pos rfl,if_pos Gh]
  have C:∀k,k≠r->b.heap[k]? =w.heap[k]? :=λ k hk=>by
   rw[f];simp only[setBlock,F7];rw[f_,if_neg (λ e=>hk e.symm)]
  have ay4:bm≠r:=λ e=>by rw[e,G]at H;cases H
  have J4:b.heap.size=w.heap.size:=by rw[f];simp[setBlock,F7]
  have jW:br [r] w b:=⟨by rw[f];rcases K with rfl |rfl<;>rfl,by rw[f];rcases K with rfl |rfl<;>rfl,by rw[f];rcases K with rfl |rfl<;>rfl,by rw[J4];exact cT _,λ k _ hk=>C k (by simpa using hk)⟩
  have cJ:bh P ih a w (.tuple #[.bool true,e.key,e.val]) b:=by
   simp only[bh,execOp,zj,jo,Sem.run_bind,I,Result.andThen];rfl
  refine e3 u cJ ?_;rw[t];refine e3 B (Mp (vs:=[.bool true,e.key,e.val]) (i:=0) (v:=.bool true) y (by rw[CB,wj (by rw[sz];exact E)]) rfl) ?_;rw[A];have Wl:(((a.put (some tn) (.tuple #[.bool true,e.key,e.val])).put (some tok) (.bool true)).eval (.tmp tok))= .bool true:=by rw[CB,wj (by rw[uZ,sz];exact F)]
  refine wp_seq (wp_cond_split Wl (λ _=>wp_skip ?_) λ h=>by cases h);refine wp_block (wp_seq (wp_region_list ?_));obtain⟨p,L⟩:∃p,p=(a.put (some tn) (.tuple #[.bool true,e.key,e.val])).put (some tok) (.bool true):=⟨_,rfl⟩
  rw[<-L];have g:p.tmps.size=n:=by rw[L,uZ,uZ,sz]
  have aAR:p.eval (.tmp ti)= .pointer (some ⟨r,0,none⟩):=by rw[L,CB,wk T,wk S];exact zy
  have azq:=run_entry_at (P:=P) b r bm since ⟨acc.map (·.born)⟩ es clock e ky (by rw[C bm ay4];exact H) ur ix;have qh:bh P lM p b (.tuple #[e.key,e.val]) b:=by
   simp only[bh,execOp,U,aAR,Sem.run_bind,azq,Result.andThen];rfl
  refine e3 W qh ?_;rw[V];refine e3 mY (Mp (vs:=[e.key,e.val]) (i:=0) (v:=e.key) wm (by rw[CB,wj (by rw[g];exact R)]) rfl) ?_;rw[sf];refine e3 ayL (yg X (v:=e.key) (by rw[CB,wj (by rw[uZ,g];exact e6)])) ?_;rw[Z];have hj:tF [tn,tok,te,tk,tv] a (((p.put (some te) (.tuple #[e.key,e.val])).put (some tk) e.key).put (some tv) e.key):=by
   rw[L];exact((((tF.refl.put (by simp)).put (by simp)).put (by simp)).put (by simp)).put (by simp)
  have:=O acc e a _ w b hi ur zt hj (λ J5=>wj (by rw[uZ,uZ,g];exact J5)) jW J4 ⟨clock,C7,by rw[ky,aAi]⟩;refine Code.wp_mono (λ x d w' D=>?_) this;obtain⟨rfl,D⟩:=D;refine⟨es.size- (acc++[e]).length,?_,acc++[e],D,rfl⟩;have bD:acc.length<es.size:=by
   have h1:((acc++[e]).map (·.born)).Nodup:=(N _ _ _ D).2.2.2.1;have J:=YH h1 (Y:=es.toList.map (·.born)) λ x aa=>by
    obtain⟨z,ah,rfl⟩:=hY.1 aa;exact j5 ((N _ _ _ D).2.2.2.2 z ah)
   simp at J;omega
  simp;omega
end
end bc
namespace bc
open Go Go.RowKit ay I
section
variable{E:Env}
def adK(E:Env)(n:cE)(ss:List Nat)(pas:List cN)(pbs:List bK)(b:kn)(fn:dv E.T.El pas×cK E.T.El pbs->Option (yq E.T.El b))(x r:Code):Prop:=
 ∀da db e2,fn (da,db)=some e2-> ∀(W:World)(M0:List Nat)(X:Nat->Prop)(ρ:List Value)(a:Act)(w:World),a.tmps.size=n.n->a.defers=n.ds->Told E W M0 X ss pas pbs da db ρ a w false ->
  ∀(rest:Code)(Q:Exit->Act->World->Prop),(∀(c:Act)(w':World)(d:List Value),c.tmps.size=n.n->c.defers=n.ds->Told E W M0 X b.ss b.eF b.dt e2.1 e2.2 d c w' true ->
   To X (bP id (cd false pbs) false pbs db) (bP id (cd true b.dt) true b.dt e2.2) ρ d w w'->rest.wp E.P Q c w')->(Code.seq x (.seq r rest)).wp E.P Q a w
@[reducible] def KO{T:bT}(ss:List Nat)(pas:List cN)(pbs:List bK)(a:kn)(fn:dv T.El pas×cK T.El pbs->Option (yq T.El a)):fB T:=⟨ss,pas,pbs,[a],λ _ d=>fn d⟩
theorem aFw(F:E.cY=[]){n:cE}{ss:List Nat}{pas:List cN}{pbs:List bK}{b:kn}{fn:dv E.T.El pas×cK E.T.El pbs->Option (yq E.T.El b)}{x r:Code}(G:b.x= .nm)(aL:adK E n ss pas pbs b fn x r):yB E n ((KO ss pas pbs b fn).run E 0) x r:=by
 intro rest s t c W M0 X b0 ρ0 w0 ρ a w Q h k;have H:∀ {I:Nat->Prop}{bl':List (aF E.T.El)}{ρ':List Value}{w':World},∀g y,cG E.cY g=some y->aw E.T (bk I bl' ρ' w') w' ρ' bl' y (.pointer (some ⟨g,0,none⟩)):=λ{_ _ _ _} g y q=>by rw[F]at q;simp[cG]at q
 unfold fB.run at c;split at c
 ·rename_i ys K
  cases u:gH [] (KO ss pas pbs b fn).pas (KO ss pas pbs b fn).pbs s.bl ys with
  |mk bl cJ=>
  rw[u]at c
  simp only at c
  obtain⟨l,m,iC,L⟩:=wg h.r.mem u (Al h.r (cur:=[]) trivial K)
  split at c
  ·rename_i d sel v z
   simp only[cb]at v
   obtain⟨M,V1,N⟩:=v
   obtain⟨da,db⟩:=d
   obtain⟨e2,O,J⟩:=akV c
   obtain⟨d',e,ao⟩:=J
   simp only[aH]at e
   subst e
   obtain⟨aj,_,P⟩:=ub m tP z
   obtain⟨R,f⟩:=CI tP z
   obtain⟨S,T⟩:=P (bk (jS X bl l sel) (bP id (cd false pbs) false pbs db) (gO l sel) w) λ k f=>aj.G_ f
   have U:=aj.enter m T
   have wS:=S _ L
   have A:(⟨H0 b.x,⟨⟨vz b.ss (gu (iW sel bl.length) (fx bl sel b.dt) b.eF e2.1),[],[]⟩,gx bl sel b.dt e2.2,sel++s.ws⟩⟩:b9 E.T.El)=t:=ao
   refine aL da db e2 O w _ _ _ a w h.r.d_.er.size h.r.d_.er.defers ⟨U,wS⟩ rest Q λ V w' Y Z sl C sh=>?_
   obtain⟨b8,dN⟩:=PV M (w:=b) (by simp)
   obtain⟨bN,dF,eY,e6⟩:=back (gq:=cd true b.dt) m aj R (λ j i B p h h' D=>by
    obtain⟨B',e,ao,_⟩:=f j i p h D;rw[h']at e;cases e;exact OY b8 D ao) b8 (λ i hi=>by
     obtain⟨j,aA,rfl⟩:=jf.1 hi;obtain⟨B,e,_⟩:=f j _ _ (aK aA) (aK (by
      have:=aj.len;rw[nu]at this;simp only[gO,gC]at this;omega:j<pbs.length))
     exact(aP.1 e).1) (λ j=>rfl) C.1 sh
   have Gk:=e6 b.eF e2.1 _ C.2
   have pD:hf s.bl ρ w w' sel:=by
    have:=hf.nil.bI iC eY;rwa [hR]at this
   have:=k (gn l sel Y) V w' (by
    subst A;exact⟨⟨bN,⟨⟨Z,sl,λ t y hy=>SA Gk hy⟩,λ p o=>by simp at o,λ p o=>by simp at o⟩,H⟩,h.to.trans (iC.trans dF),h.wr.bI h.to pD⟩)
   rw[<-A]at this
   rw[G]at this
   exact this
  ·exact c.elim
 ·exact c.elim
end
end bc
namespace bc
open Go Go.RowKit ay I
section
variable{E:Env}{bu:fp E}{W:World}{M0:List Nat}{X:Nat->Prop}{n:cE}{b0:List (aF E.T.El)}{ρ0:List Value}{w0:World}{ops:Array Oper}{Q:Exit->Act->World->Prop}
theorem PY(a7:di E)(j:lh E bu){rest:List Oper}:∀(os:List Oper){s:eP E.T.El}{t:b9 E.T.El}{ρ:List Value}{a:Act}{w:World},(opsL E bu ops n.n os s).out t->t.x= .nm->ji E W M0 X n b0 ρ0 w0 s ρ a w->(∀ρ' l w',ji E W M0 X n b0 ρ0 w0 t.s ρ' l w'->wpList E.P ops Q rest l w')->wpList E.P ops Q (os++rest) a w
 |[],s,t,ρ,a,w,c,_,h,k=>by
  have c:(⟨.nm,s⟩:b9 E.T.El)=t:=c;subst c;exact k ρ a w h
 |o::r,s,t,ρ,a,w,c,g,h,k=>by
  simp only[opsL]at c;show wpList E.P ops Q (o::(r++rest)) a w
  split at c
  ·obtain⟨q,m,J⟩:=D.j9 c
   rw[DW]at J
   obtain⟨d,aL,u,p,hy⟩:=Zc (ops:=ops) a7 h.r m
   have next:=PY a7 j r J g (ρ:=ρ) (a:=a.put (some d) u) (w:=w) ⟨p,h.to,h.wr⟩ k
   refine wpList_step λ K b8=>?_
   rcases hy with⟨e,hy⟩|⟨e,hy⟩
   ·rw[if_pos e]
    unfold Oper.wp
    rw[show(execOp a.eval o).run E.P w=_ from hy.now]
    show K (a.put o.dst u) w
    rw[aL]
    exact b8 _ _ next
   ·rw[if_neg (by simp[e]),aL,<-hy]
    exact b8 _ _ next
  ·exact c.elim
  ·obtain⟨b,m,J⟩:=D.j9 c
   have f:=ac4 a7 j h.r m
   have f:=f (wpList E.P ops Q (r++rest)) Q λ ρ' l w' p v e=>by
    have aj:=h.next p v e;cases i:b.x with
    |nm=>
     rw[i]at J
     simp only[DW,PR]at J
     exact PY a7 j r J g aj k
    |ex id=>
     rw[i]at J
     have J:(⟨.ex id,b.s.f,b.s.bl,b.s.ws++s.ws⟩:b9 E.T.El)=t:=J
     subst J
     cases g
    |rt=>
     rw[i]at J
     have J:(⟨.rt,b.s.f,b.s.bl,b.s.ws++s.ws⟩:b9 E.T.El)=t:=J
     subst J
     cases g
    |hZ y=>
     rw[i]at J
     have J:(⟨.hZ y,b.s.f,b.s.bl,b.s.ws++s.ws⟩:b9 E.T.El)=t:=J
     subst J
     cases g
   unfold wpList
   split
   ·rename_i e
    rw[if_pos e]at f
    exact .inl f
   ·rename_i e
    rw[if_neg e]at f
    exact f
def H_(E:Env):fp E:=λ _ _ _=>.no
theorem agv:lh E (H_ E):=⟨λ _ _ _ _ h=>h.elim⟩
theorem ayb(b:E.cY=[]){c:Nat->Prop}{bl':List (aF E.T.El)}{ρ':List Value}{w':World}:∀g y,cG E.cY g=some y->aw E.T (bk c bl' ρ' w') w' ρ' bl' y (.pointer (some ⟨g,0,none⟩)):=λ g y a=>by rw[b]at a;simp[cG]at a
theorem Yj(c:E.cY=[]){bl:List (aF E.T.El)}{ρ:List Value}{a:Act}{w:World}{fr:List (Nat×aI E.T.El)}(d:Mem E.T W M0 X bl ρ w)(e:a.tmps.size=n.n)(J:a.defers=n.ds)(f:∀t y,cG fr t=some y->aw E.T (bk X bl ρ w) w ρ bl y (a.tmps.getD t undef)):R E W M0 X n ⟨fr,[],[]⟩ bl ρ a w:=
 ⟨d,⟨⟨e,J,f⟩,λ p b=>by simp at b,λ p b=>by simp at b⟩,ayb c⟩
theorem ajD{f:cC E.T.El}{bl:List (aF E.T.El)}{ρ:List Value}{a:Act}{w:World}(h:R E W M0 X n f bl ρ a w):ji E W M0 X n bl ρ w ⟨f,bl,[]⟩ ρ a w:=⟨h,.refl,.nil⟩
end
end bc
namespace bc
open Go Go.RowKit ay I Go.ChangeMaps
structure yC where
 aaB:Nat
 ops:Array Oper
 vU:Nat
 Cv:Nat
 fR:Nat
 k5:Nat
 tok:Nat
 ih:Oper
 mr:Oper
 lM:Oper
 kF:Oper
 ms:Oper
 c5:Nat
 oL:Array Oper
 e2:Nat
 xL:Array Oper
def yC.x(d:yC):Code:=.seq (.region d.aaB d.ops false) (aaA d.vU d.Cv d.fR d.k5 d.tok d.ih d.mr d.lM d.kF d.ms (.region d.c5 d.oL false))
def yC.r(d:yC):Code:=.region d.e2 d.xL false
def GX:Code->Code->Option yC
 | .seq (.region aaB ops false) (.block vU (.loop (.seq (.region fR ⟨[ih,mr]⟩ false) (.seq (.cond (.tmp tok) .skip (.exit a)) (.block Cv (.seq (.region k5 ⟨[lM,kF,ms]⟩ false) (.region c5 oL false))))))),.region e2 xL false=>match cy vU a with
   |true=>some ⟨aaB,ops,vU,Cv,fR,k5,tok,ih,mr,lM,kF,ms,c5,oL,e2,xL⟩
   |false=>none
 |_,_=>none
theorem akx{x r:Code}{d:yC}(h:GX x r=some d):x=d.x/\r=d.r:=by
 unfold GX at h;split at h
 ·split at h
  ·rename_i ag
   cases h
   rw[<-bd ag]
   exact⟨rfl,rfl⟩
  ·cases h
 ·cases h
section
variable{E:Env}{bu:fp E}{W:World}{M0:List Nat}{X:Nat->Prop}{n:cE}{ops:Array Oper}{Q:Exit->Act->World->Prop}
theorem Mem.agk{bl bl':List (aF E.T.El)}{ρ ρ':List Value}{w w':World}(h:Mem E.T W M0 X bl ρ w)(h':Mem E.T W M0 X bl' ρ' w')(aj:w.heap.size<=w'.heap.size)(ag:∀k,k<w.heap.size->w'.heap[k]? =w.heap[k]?):br [] w w':=
 ⟨h'.bY.os.trans h.bY.os.symm,h'.bY.tape.trans h.bY.tape.symm,h'.bY.output.trans h.bY.output.symm,aj,λ k a _=>ag k a⟩
theorem Qp(a7:di E)(e:E.cY=[]){bl:List (aF E.T.El)}{ρ:List Value}{a:Act}{w:World}{fr:List (Nat×aI E.T.El)}{os rest:List Oper}{α:Type}{K:b9 E.T.El->Option α}{z:α}
 (c:Mem E.T W M0 X bl ρ w)(f:a.tmps.size=n.n)(J:a.defers=n.ds)(g:∀t y,cG fr t=some y->aw E.T (bk X bl ρ w) w ρ bl y (a.tmps.getD t undef))
 (h:(opsL E (H_ E) ops n.n os ⟨⟨fr,[],[]⟩,bl,[]⟩).run K=some z)(b8:∀t,K t=some z->t.x= .nm/\t.s.ws=[])
 (k:∀t ρ' b w',K t=some z->R E W M0 X n t.s.f t.s.bl ρ' b w'->To X bl t.s.bl ρ ρ' w w'->br [] w w'->wpList E.P ops Q rest b w'):wpList E.P ops Q (os++rest) a w:=by
 obtain⟨t,j,d⟩:=D.s4 h
 obtain⟨l,m⟩:=b8 t d
 refine PY a7 agv os j l (ajD (Yj e c f J g)) λ ρ' b w' aj=>?_
 refine k t ρ' b w' d aj.r aj.to (c.agk aj.r.mem aj.to.sz λ q o=>aj.wr q o λ i hi=>?_)
 rw[m]at hi
 simp at hi
end
def iX(W:List Int):List Int->Int->Option Int
 |[],n=>some n
 |k::r,n=>(idx W (ax (k+1))).bind λ v=>iX W r (ax (n+ax (3+v)))
theorem amn{W:List Int}{x:Int}:∀ {l:List Int}{n:Int},iX W (l++[x]) n=(iX W l n).bind λ m=>(idx W (ax (x+1))).bind λ v=>some (ax (m+ax (3+v)))
 |[],n=>rfl
 |k::r,n=>by
  simp only[iE,iX];cases idx W (ax (k+1))with
  |none=>rfl
  |some v=>exact amn
theorem amm{W:List Int}:∀ {l:List Int}{n m:Int},iX W l n=some m-> ∀x∈l,∃v,idx W (ax (x+1))=some v
 |[],n,m,_,x,aa=>by simp at aa
 |k::r,n,m,h,x,aa=>by
  obtain⟨v,a,J⟩:=fY h;rcases cI.1 aa with rfl |aa
  ·exact⟨v,a⟩
  ·exact amm J x aa
theorem aa2{W:List Int}{l l':List Int}(h:l.Perm l'):∀n,iX W l n=iX W l' n:=by
 induction h with
 |nil=>intro n;rfl
 |cons x _ d=>
  intro n
  simp only[iX]
  cases idx W (ax (x+1))with
  |none=>rfl
  |some v=>exact d _
 |swap x y l=>
  intro n
  simp only[iX]
  cases c:idx W (ax (x+1))with
  |none=>
   cases hy:idx W (ax (y+1))with
   |none=>rfl
   |some v=>simp[c]
  |some u=>
   cases hy:idx W (ax (y+1))with
   |none=>simp[hy]
   |some v=>
    simp only[ae,c,hy]
    congr 1
    unfold ax
    omega
 |trans _ _ a b=>intro n;rw[a,b]
def kC(e:MapEntry):Int:=match e.key with
 | .int _ x=>x
 |_=>0
end bc
namespace bc
open Go Go.RowKit ay I
theorem Kt{α:Type}:∀ {fr:List (Nat×α)}{t:Nat}{y:α},cG fr t=some y->(t,y)∈fr
 |[],t,y,h=>by simp[cG]at h
 |p::r,t,y,h=>by
  unfold cG at h;split at h
  ·rename_i ag
   simp only[aH]at h
   have:=bd ag
   subst this;subst h
   exact il
  ·exact dZ _ (Kt h)
def mX{El:Nat->Type}(f:cC El)(s:Nat):Option Value:=match cG f.fr s with
 |some (.p v)=>some v
 |_=>none
theorem ayc{El:Nat->Type}{f:cC El}{s:Nat}{v:Value}(h:mX f s=some v):cG f.fr s=some (.p v):=by
 unfold mX at h;split at h
 ·rename_i e
  simp only[aH]at h
  rw[e,h]
 ·cases h
def wl{El:Nat->Type}(f:cC El):List Nat->Option (List Value)
 |[]=>some []
 |s::r=>(mX f s).bind λ v=>(wl f r).bind λ vs=>some (v::vs)
theorem N4{T:bT}{F:Nat->Prop}{w:World}{ρ:List Value}{bl:List (aF T.El)}{n:cE}{f:cC T.El}{a:Act}(b:rO T F w ρ bl n f.fr a):∀ {ss:List Nat}{vs:List Value},wl f ss=some vs->ss.map (λ s=>a.tmps.getD s undef)=vs
 |[],vs,h=>by
  simp only[wl,aH]at h;subst h;rfl
 |s::r,vs,h=>by
  obtain⟨v,d,J⟩:=fY h;obtain⟨us,e,c⟩:=fY J;simp only[aH]at c;subst c;have:=b.get s _ (ayc d);simp only[aw]at this;rw[eB,this,N4 b e]
def rowAt{El:Nat->Type}(bl:List (aF El))(i:Nat):Option (Nat× Σ t,List (El t)):=match bl[i]? with
 |some (.r t g _ l)=>some (g,⟨t,l⟩)
 |_=>none
theorem aIk{El:Nat->Type}{bl:List (aF El)}{i t g:Nat}{l:List (El t)}(h:rowAt bl i=some (g,⟨t,l⟩)):∃k,bl[i]? =some (.r t g k l):=by
 unfold rowAt at h;split at h
 ·rename_i e
  simp only[aH,cF,Sigma.mk.injEq]at h
  obtain⟨rfl,rfl,h⟩:=h
  cases h
  exact⟨_,e⟩
 ·cases h
section
variable{T:bT}{W w w':World}{M0:List Nat}{X:Nat->Prop}{bl bl':List (aF T.El)}{ρ ρ':List Value}
theorem Mem.agh{M:List Nat}(h:Mem T W M0 X bl ρ w)(h':Mem T W M0 X bl' ρ' w')(aj:w.heap.size<=w'.heap.size)(ag:∀k,k<w.heap.size->k∉M->w'.heap[k]? =w.heap[k]?):br M w w':=
 ⟨h'.bY.os.trans h.bY.os.symm,h'.bY.tape.trans h.bY.tape.symm,h'.bY.output.trans h.bY.output.symm,aj,ag⟩
theorem Mem.aaG(b:Mem T W M0 X bl ρ w){i t g k:Nat}{l0:List (T.El t)}{a:Value}(hi:bl[i]? =some (.r t g k l0))(d:ρ[i]? =some a):∃A c xs,a= .slice A l0.length c/\rowIs w t (T.ty t).size a l0.length xs/\dM (T.ty t) (bk X bl ρ w) w xs l0:=
 b.ok i _ _ hi d
theorem Mem.alH(b:Mem T W M0 X bl ρ w){i t g k:Nat}{l0 l:List (T.El t)}{a:Value}{A:Option Addr}{c:Nat}{xs:List Value}
 (hi:bl[i]? =some (.r t g k l0))(d:ρ[i]? =some a)(f:br (bc.ag a) w w')(ad:∀k∈bc.ag (.slice A l.length c),k∈bc.ag a\/(w.heap.size<=k/\k<w'.heap.size))
 (j:rowIs w' t (T.ty t).size (.slice A l.length c) l.length xs)(m:∀F,dM (T.ty t) F w' xs l) :
 Mem T W M0 X (bl.set i (.r t (g+1) 0 l)) (ρ.set i (.slice A l.length c)) w'/\To X bl (bl.set i (.r t (g+1) 0 l)) ρ (ρ.set i (.slice A l.length c)) w w':=by
 have n:kZ a:=by
  obtain⟨p,eK,_,e,_⟩:=b.aaG hi d;rw[e];trivial
 have h:=b.D9 (B':=.r t (g+1) 0 l) (h':=.slice A l.length c) hi d f ad ⟨λ o=>absurd n o,by simp[b4],λ e=>by simp[b4]at e⟩
 exact⟨b.dC hi d f ad h ⟨A,c,xs,rfl,j,m _⟩,h⟩
end
end bc
namespace bc
open Go Go.RowKit ay I
section
variable{E:Env}
structure rN (T:bT) where
 pas:List cN
 pbs:List bK
 R:Type
 v:R->Value
 XC:Value->Option R
 fn:dv T.El pas×cK T.El pbs->Option R
def rN.run(E:Env)(c:rN E.T)(ys:List (aI E.T.El))(bl:List (aF E.T.El)):D (fu E.T.El):=match gH [] c.pas c.pbs bl ys with
 |(a,b)=>match iw a [] false c.pas c.pbs b with
  |some (d,_)=>.op (c.fn d) λ x=>.ok ⟨.ret (.p (c.v x)),a,[]⟩
  |none=>.no
def rN.fin{T:bT}(c:rN T)(r:fu T.El):Option c.R:=match r.e,r.ws with
 | .ret (.p u),[]=>c.XC u
 |_,_=>none
def rN.Eq(E:Env)(bu:fp E)(LE:lj E)(f:Nat)(c:rN E.T):Prop:=∀(da:dv E.T.El c.pas)(db:cK E.T.El c.pbs),(og E bu LE f (gu id (cd false c.pbs) c.pas da) (bP id (cd false c.pbs) false c.pbs db)).run c.fin=c.fn (da,db)
theorem avg{f:Nat}{bu:fp E}{LE:lj E}(a7:di E)(q:lh E bu)(s:vF E LE)(t:E.cY=[]){c:rN E.T}(hi:∀u x,c.XC u=some x->u=c.v x)(z:c.Eq E bu LE f):kj E f (c.run E):=by
 intro ys A r a W M0 X ρ0 w vs B _ C;unfold rN.run at a;cases n:gH [] c.pas c.pbs A ys with
 |mk bl V=>
 rw[n]at a;obtain⟨ρ,l,iC,F⟩:=wg B n C;simp only at a;split at a
 ·rename_i d sel G
  obtain⟨da,db⟩:=d
  obtain⟨x,H,J⟩:=a
  have J:(⟨.ret (.p (c.v x)),bl,[]⟩:fu E.T.El)=r:=J
  subst J
  obtain⟨aj,_,I⟩:=ub l tP G
  obtain⟨K,L⟩:=I (bk (jS X bl ρ sel) (bP id (cd false c.pbs) false c.pbs db) (gO ρ sel) w) λ k b=>aj.G_ b
  have o:=aj.enter l L
  obtain⟨Y,M,j⟩:=D.s4 ((z da db).trans H)
  have N:∀ {O bl' ρ' w'},H' E O bl' ρ' w':=λ{_ _ _ _} g y p=>by rw[t]at p;simp[cG]at p
  have hc:=((NI a7 q s).ok _ _ _ _ M).2 _ _ _ _ _ vs o N (K vs F)
  refine hc.mono λ e w' P=>?_
  obtain⟨Z,gW,Q,k9,h⟩:=P
  unfold rN.fin at j
  split at j
  ·rename_i u R S
   have T:=hi _ _ j
   subst T
   have m:br [] w w':=o.agh gW Q.sz λ k b _=>k9 k b λ i hi=>by rw[S]at hi;simp at hi
   refine⟨ρ,l.e8 m,iC.trans (Mem.ta m),λ k b _=>m.block k b (by simp),?_⟩
   rw[R]at h
   cases e with
   |returned v=>
    simp only[Co,aw]at h
    have U:aw E.T (bk X bl ρ w') w' ρ bl (.p (c.v x)) v:=by simp only[aw];exact h
    exact U
   |panicked _=>exact h.elim
   |_=>exact h.elim
  ·cases j
 ·exact a.elim
noncomputable def aQ.rd(s:aQ E)(f:Nat)(c:rN E.T)(a:c.Eq E s.t.bu s.t.LE f)(hi:∀u x,c.XC u=some x->u=c.v x)(ad:ff E.cf f=true:=by kernel_rfl):aQ E:=⟨s.t.f f (c.run E),λ h=>(s.ok h).pd ad (avg h (lr h (s.ok h).ce (s.ok h).le 100) (s.ok h).le s.cY hi a),s.cY⟩
theorem cW.Ok.axO{t:cW E}(a7:di E)(h:t.Ok){f:Nat}(ad:ff E.cf f=true){c:h_ E.T}(hc:kj E f (c.run E)):(t.wh f c).Ok:=by
 refine h.pd ad λ ys bl r a=>?_;split at a
 ·exact hc ys bl r a
 ·exact((lr a7 h.ce h.le 100).ok f ys bl r a).2
noncomputable def aQ.en(s:aQ E)(f:Nat)(c:h_ E.T)(hc:kj E f (c.run E))(ad:ff E.cf f=true:=by kernel_rfl):aQ E:=⟨s.t.wh f c,λ h=>(s.ok h).axO h ad hc,s.cY⟩
structure BB (T:bT) where
 ss:List Nat
 pas:List cN
 pbs:List bK
 out:Nat
 R:Type
 v:R->Value
 fn:dv T.El pas×cK T.El pbs->Option R
def BB.run(E:Env)(c:BB E.T)(s:eP E.T.El):D (b9 E.T.El):=match pR E s.bl s.f [] (c.ss.map .tmp)with
 |some ys=>match gH [] c.pas c.pbs s.bl ys with
  |(a,b)=>match iw a [] false c.pas c.pbs b with
   |some (d,_)=>.op (c.fn d) λ x=>.ok ⟨.nm,⟨⟨[(c.out,.p (c.v x))],[],[]⟩,a,s.ws⟩⟩
   |none=>.no
 |none=>.no
def BB.BC(E:Env)(n:cE)(c:BB E.T)(x r:Code):Prop:=
 ∀da db e2,c.fn (da,db)=some e2-> ∀(W:World)(M0:List Nat)(X:Nat->Prop)(ρ:List Value)(a:Act)(w:World),a.tmps.size=n.n->a.defers=n.ds->Told E W M0 X c.ss c.pas c.pbs da db ρ a w false ->
  ∀(rest:Code)(Q:Exit->Act->World->Prop),(∀(b:Act)(w':World),b.tmps.size=n.n->b.defers=n.ds->b.tmps.getD c.out undef=c.v e2->br [] w w'->rest.wp E.P Q b w')->(Code.seq x (.seq r rest)).wp E.P Q a w
theorem avf(o:E.cY=[]){n:cE}{c:BB E.T}{x r:Code}(aL:c.BC E n x r):yB E n (c.run E) x r:=by
 intro rest s t b W M0 X b0 ρ0 w0 ρ a w Q h k;have u:∀ {v:Nat->Prop}{bl':List (aF E.T.El)}{ρ':List Value}{w':World},∀g y,cG E.cY g=some y->aw E.T (bk v bl' ρ' w') w' ρ' bl' y (.pointer (some ⟨g,0,none⟩)):=λ{_ _ _ _} g y l=>by rw[o]at l;simp[cG]at l
 unfold BB.run at b;split at b
 ·rename_i ys z
  cases m:gH [] c.pas c.pbs s.bl ys with
  |mk bl O=>
  rw[m]at b
  simp only at b
  obtain⟨e,f,iC,A⟩:=wg h.r.mem m (Al h.r (cur:=[]) trivial z)
  split at b
  ·rename_i d sel B
   obtain⟨da,db⟩:=d
   obtain⟨e2,C,J⟩:=b
   have J:(⟨.nm,⟨⟨[(c.out,.p (c.v e2))],[],[]⟩,bl,s.ws⟩⟩:b9 E.T.El)=t:=J
   obtain⟨aj,_,D⟩:=ub f tP B
   obtain⟨F,G⟩:=D (bk (jS X bl e sel) (bP id (cd false c.pbs) false c.pbs db) (gO e sel) w) λ k H=>aj.G_ H
   have I:=aj.enter f G
   have wS:=F _ A
   refine aL da db e2 C w _ _ _ a w h.r.d_.er.size h.r.d_.er.defers ⟨I,wS⟩ rest Q λ K w' L sl M i=>?_
   have:=k e K w' (by
    subst J;refine⟨⟨f.e8 i,⟨⟨L,sl,λ t y hy=>?_⟩,λ p j=>by simp at j,λ p j=>by simp at j⟩,u⟩,h.to.trans (iC.trans (Mem.ta i)),?_⟩
    ·have:=Kt hy
     simp only[dT,cF]at this
     obtain⟨rfl,rfl⟩:=this
     simp only[aw]
     exact M
    ·have:=h.wr.bI h.to (s':=[]) (w'':=w') (bl':=s.bl) (ρ':=ρ) λ q N _=>i.block q N (by simp)
     exact this)
   rw[<-J]at this
   exact this
  ·exact b.elim
 ·exact b.elim
end
end bc
namespace Go.Proofs.YteeliipnilghaaaGreat
open Go Go.RowKit ay I bc
@[reducible] def tf:List bK:=[.c 140 [.B 1,.l 134,.l 3,.l 124,.l 120,.l 121,.M 2],.c 24 [.l 3,.i .i64,.i .i64,.i .i64,.i .i64,.l 3,.i .i64],.m 3 4]
noncomputable def tg:Code×Code:=((DY Tryz.prog 55 0).getD (.skip,.skip))
noncomputable def hJ:yC:=(GX tg.1 tg.2).getD ⟨0,#[],0,0,0,0,0,default,default,default,default,default,0,#[],0,#[]⟩
theorem aJV:DY Tryz.prog 55 0=some tg:=by kernel_rfl
theorem aJX:GX tg.1 tg.2=some hJ:=by kernel_rfl
def aJZ(d:dv bs.El [.p (.B 0),.p (.i .i64)]×cK bs.El tf):List Int:=List.map (α:=Int×Bool) lz d.2.2.2.1
def abl:BB bs:=⟨[0,3],[.p (.B 0),.p (.i .i64)],tf,2,Int,.int .i64,λ d=>iX d.2.2.1.1 (aJZ d) d.1.2.1⟩
theorem aJY:hJ.ih.op= .next (.tmp 9) false/\hJ.ih.dst=some 10/\hJ.ih.guard=none:=by refine⟨?_,?_,?_⟩<;>kernel_rfl
theorem aJ0:hJ.mr.op= .extract (.tmp 10) 0/\hJ.mr.dst=some 11/\hJ.mr.guard=none:=by refine⟨?_,?_,?_⟩<;>kernel_rfl
theorem aJ1:hJ.lM.op= .entry (.tmp 9)/\hJ.lM.dst=some 12/\hJ.lM.guard=none:=by refine⟨?_,?_,?_⟩<;>kernel_rfl
theorem aJ2:hJ.kF.op= .extract (.tmp 12) 0/\hJ.kF.dst=some 13/\hJ.kF.guard=none:=by refine⟨?_,?_,?_⟩<;>kernel_rfl
theorem aJ3:hJ.ms.op= .assign (.tmp 13)/\hJ.ms.dst=some 4/\hJ.ms.guard=none:=by refine⟨?_,?_,?_⟩<;>kernel_rfl
noncomputable def aJ6:List Oper:=hJ.ops.toList.take 4
noncomputable def LJ:Oper:=(hJ.ops.toList.drop 4).headD hJ.ih
theorem aJ4:hJ.ops.toList=aJ6++[LJ]:=by kernel_rfl
theorem abo:LJ.op= .range 70 (.tmp 8)/\LJ.dst=some 9/\LJ.guard=none:=by refine⟨?_,?_,?_⟩<;>kernel_rfl
def gl{T:bT}(t:b9 T.El):Bool:=match t.x,t.s.ws with
 | .nm,[]=>true
 |_,_=>false
theorem OU{T:bT}{t:b9 T.El}(h:gl t=true):t.x= .nm/\t.s.ws=[]:=by
 unfold gl at h;split at h
 ·rename_i a J;exact⟨a,J⟩
 ·cases h
def abm(t:b9 bs.El):Option (Nat×Nat×Nat×Value):=match gl t,cG t.s.f.fr 8,cG t.s.f.fr 0,cG t.s.f.fr 3 with
 |true,some (.m j),some (.b i o),some (.p u)=>some (j,i,o,u)
 |_,_,_,_=>none
theorem amZ{t:b9 bs.El}{j i o:Nat}{u:Value}(h:abm t=some (j,i,o,u)):gl t=true/\cG t.s.f.fr 8=some (.m j)/\cG t.s.f.fr 0=some (.b i o)/\cG t.s.f.fr 3=some (.p u):=by
 unfold abm at h;split at h
 ·rename_i a J b c
  simp only[aH,cF]at h
  obtain⟨rfl,rfl,rfl,rfl⟩:=h
  exact⟨a,J,b,c⟩
 ·cases h
def Q_(t:b9 bs.El):Option (Value×Nat×Nat×Value):=match gl t,cG t.s.f.fr 9,cG t.s.f.fr 0,cG t.s.f.fr 3 with
 |true,some (.p v),some (.b i o),some (.p u)=>some (v,i,o,u)
 |_,_,_,_=>none
theorem am0{t:b9 bs.El}{v:Value}{i o:Nat}{u:Value}(h:Q_ t=some (v,i,o,u)):gl t=true/\cG t.s.f.fr 9=some (.p v)/\cG t.s.f.fr 0=some (.b i o)/\cG t.s.f.fr 3=some (.p u):=by
 unfold Q_ at h;split at h
 ·rename_i a J b c
  simp only[aH,cF]at h
  obtain⟨rfl,rfl,rfl,rfl⟩:=h
  exact⟨a,J,b,c⟩
 ·cases h
theorem ad3{T:bT}{F F':Nat->Prop}{w w':World}{ρ ρ':List Value}{bl bl':List (aF T.El)}{i o:Nat}{v fl:Value}(a:mM T ρ ρ' bl bl')(h:aw T F w ρ bl (.b i o) v)(h':aw T F' w' ρ' bl' (.b i o) fl):fl=v:=by
 simp only[aw]at h h';obtain⟨g,b,ao⟩:=h;obtain⟨g',aT,bQ⟩:=h';obtain⟨u,c,d,_⟩:=a.at_ i _ b;have:=d (by simp[kZ]);rw[c,this]at aT;cases aT;rw[ao,bQ]
theorem Ua{F:Nat->Prop}{w:World}:∀ {es:List MapEntry}{d:List (Int×Bool)},jO (kt:=3) (vt:=4) bs F w uC es d->es.map kC=d.map lz
 |[],[],_=>rfl
 |[],_::_,h=>h.elim
 |_::_,[],h=>h.elim
 |e::es,p::d,h=>by
  obtain⟨a,_,b⟩:=h;rw[eB,eB,Ua b];congr 1;unfold kC;rw[a];rfl
theorem X_{El:Nat->Type}{s t u:Nat}{x y z:aI El}(h:cG [(s,x),(t,y)] u=some z):(u=s/\z=x)\/(u=t/\z=y):=by
 simp only[cG]at h;split at h
 ·rename_i ag
  simp only[aH]at h
  exact .inl ⟨(bd ag).symm,h.symm⟩
 ·split at h
  ·rename_i ag
   simp only[aH]at h
   exact .inr ⟨(bd ag).symm,h.symm⟩
  ·cases h
theorem T'{F:Nat->Prop}{w:World}:∀ {es:List MapEntry}{d:List (Int×Bool)},jO (kt:=3) (vt:=4) bs F w uC es d-> ∀e∈es,e.key= .int .i64 (kC e)
 |[],_,_,e,he=>by simp at he
 |_::_,[],h,_,_=>h.elim
 |x::es,p::d,h,e,he=>by
  obtain⟨a,_,b⟩:=h;rcases cI.1 he with rfl |he
  ·unfold kC
   rw[a]
   rfl
  ·exact T' b e he
theorem aDQ{El:Nat->Type}{b c d a u:Nat}{e f g i z:aI El}(h:cG [(b,e),(c,f),(d,g),(a,i)] u=some z):(u=b/\z=e)\/(u=c/\z=f)\/(u=d/\z=g)\/(u=a/\z=i):=by
 unfold cG at h;split at h
 ·rename_i ag
  simp only[aH]at h
  exact .inl ⟨(bd ag).symm,h.symm⟩
 ·unfold cG at h
  split at h
  ·rename_i ag
   simp only[aH]at h
   exact .inr (.inl ⟨(bd ag).symm,h.symm⟩)
  ·exact .inr (.inr (X_ h))
def abn(t:b9 bs.El):Option (List Value):=match gl t with
 |true=>wl t.s.f [2]
 |false=>none
theorem am1{t:b9 bs.El}{z}(h:abn t=some z):gl t=true/\wl t.s.f [2]=some z:=by
 unfold abn at h;split at h
 ·rename_i a;exact⟨a,h⟩
 ·cases h
set_option maxRecDepth 100000
theorem aKd:abl.BC aG ⟨29,[]⟩ tg.1 tg.2:=by
 intro da db e2 fy W M0 X ρ a w cO sl df rest Q k;obtain⟨aa,av⟩:=akx aJX;rw[aa,av];obtain⟨aO7,(f:Int),aO8⟩:=da;obtain⟨M,⟨(g:List Int),N⟩,(j:List (Int×Bool)),O⟩:=db;obtain⟨S,V6⟩:∃S:Int,S=e2:=⟨e2,rfl⟩
 subst V6;have dN:iX g (j.map lz) f=some S:=fy;obtain⟨A,l⟩:=df;have l:a8 bs _ w ρ _ [.b 0 0,.p (.int .i64 f)] [a.tmps.getD 0 undef,a.tmps.getD 3 undef]:=l;simp only[a8]at l;obtain⟨v0,l0,cr,C,v3,j4,aT,aq,bQ⟩:=l;simp only[h3]at cr;obtain⟨rfl,rfl⟩:=cr;simp only[h3]at aT;obtain⟨rfl,rfl⟩:=aT;obtain⟨ux,ao⟩:=A.sA (i:=2) (B:=.m 3 4 j) rfl;obtain⟨bm,CQ,S7,V5,es,clock,ur,Jw,WZ,FY⟩:=A.ok 2 (.m 3 4 j) _ rfl ao;subst CQ;obtain rfl:S7=(uC:h8 (aG.T.El 3)):=by
  have VY:(aG.T.e 3).key=some (uC:h8 (aG.T.El 3)):=by kernel_rfl
  exact eJ (V5.symm.trans VY)
 have JK:=Ua Jw;have ix:(es.toList.map (·.born)).Nodup:=lJ.2 (WZ.imp λ h=>Nat.ne_of_lt h);refine wp_seq (wp_seq (wp_region_list ?_));rw[aJ4];refine Qp (n:=⟨29,[]⟩) (K:=abm) (z:=(2,0,0,.int .i64 f)) jV rfl A cO sl (fr:=[(0,.b 0 0),(3,.p (.int .i64 f))]) (λ t y hy=>?_) (by kernel_rfl) (λ t h=>OU (amZ h).1) λ t eG q b V3 D sh E=>?_
 ·rcases X_ hy with⟨rfl,rfl⟩|⟨rfl,rfl⟩
  ·exact C
  ·exact aq
 obtain⟨bq,bA,bU,fL⟩:=amZ V3;have s:∀ {k:Nat}{o:Obj}{w:World},w.heap[k]? =some o->k<w.heap.size:=λ{k o w} h=>by
  rcases gL k w.heap.size with h1 |h1
  ·exact h1
  ·rw[ib h1]at h;cases h
 have f8:=D.d_.er.get 8 _ bA;simp only[aw]at f8;obtain⟨auo,g1,g2⟩:=f8;obtain⟨mB,bn,R,_⟩:=sh.L.at_ 2 _ ao;have R:=R (by simp[kZ]);rw[bn,R]at g1;cases g1;have f0:q.tmps.getD 0 undef=a.tmps.getD 0 undef:=ad3 sh.L C (D.d_.er.get 0 _ bU);have f3:q.tmps.getD 3 undef= .int .i64 f:=by simpa only[aw]using D.d_.er.get 3 _ fL
 have F:b.heap[bm]? =some (.map es clock):=(E.block bm (s ur) (by simp)).trans ur;have T:q.eval (.tmp 8)= .map (some bm):=g2;obtain⟨r,fN⟩:∃r,r=b.heap.size:=⟨_,rfl⟩
 have cJ:bh aG.P LJ q b (.pointer (some ⟨r,0,none⟩)) (b.alloc (.mapIter (some bm) clock #[] clock)):=by
  rw[fN];simp only[bh,execOp,abo.1,T];rw[Sem.run_bind,run_range_map (P:=aG.P) b 70 3 4 bm es clock Tryz.underlying70 F];rfl
 refine e3 abo.2.2 cJ ?_;rw[abo.2.1];refine wpList_nil ?_;obtain⟨G,U⟩:∃G,G=b.alloc (.mapIter (some bm) clock #[] clock):=⟨_,rfl⟩
 rw[<-U];have FV:br [] b G:=by rw[U];exact br.alloc [] b _
 have J6:G.heap[r]? =some (.mapIter (some bm) clock #[] clock):=by rw[U,fN];exact heap_alloc_new b _
 have ky:r<G.heap.size:=s J6;have Iu:q.tmps.size=29:=D.d_.er.size;have Ts:q.defers=[]:=D.d_.er.defers
 refine aiy (n:=29) (r:=r) (bm:=bm) (since:=clock) (clock:=clock) (ti:=9) (tn:=10) (tok:=11) (te:=12) (tk:=13) (tv:=4) (es:=es)
  (λ acc u w'=>u.tmps.size=29/\u.defers=[]/\u.tmps.getD 0 undef=a.tmps.getD 0 undef/\u.tmps.getD 9 undef= .pointer (some ⟨r,0,none⟩)/\S6 w' r bm clock clock es acc/\(acc.map (·.born)).Nodup/\(∀e∈acc,e∈es.toList)/\br [] b w'/\ ∃m,u.tmps.getD 3 undef= .int .i64 m/\iX g (acc.map kC) f=some m)
  aJY aJ0 aJ1 aJ2 aJ3 (by decide) (by decide) FY (cT _) ix (λ acc u w' h=>⟨h.1,h.2.2.2.1,h.2.2.2.2.1,h.2.2.2.2.2.1,h.2.2.2.2.2.2.1⟩) ?_ ?_ ?_
 ·intro acc e a2 a3 jE rp V Y zt c J5 N7 OE uu
  obtain⟨Z,i2,i3,i4,⟨i5,aBj⟩,i6,i7,i8,m,i9,p⟩:=V
  have H:br [] b rp:=i8.trans N7 λ x aa=>.inr (by simp at aa;omega)
  have sn:=A.e8 (E.trans H (by simp))
  have t4:=J5 (by decide)
  rw[T' Jw e Y]at t4
  obtain⟨v,l⟩:=amm dN (kC e) (by rw[<-JK];exact j5 Y)
  refine wp_region_list ?_
  rw[show hJ.oL.toList=hJ.oL.toList++[] by simp]
  refine Qp (n:=⟨29,[]⟩) (K:=Q_) (z:=(.pointer (some ⟨r,0,none⟩),0,0,.int .i64 (I.ax (m+I.ax (3+v))))) jV rfl sn (c.1.trans Z) (c.2.1.trans i2) (fr:=[(4,.p (.int .i64 (kC e))),(3,.p (.int .i64 m)),(9,.p (.pointer (some ⟨r,0,none⟩))),(0,.b 0 0)]) (λ t y hy=>?_) ?_ (λ t h=>OU (am0 h).1) λ t' apV a5 xW V4 d J L=>?_
  ·rcases aDQ hy with⟨rfl,rfl⟩|⟨rfl,rfl⟩|⟨rfl,rfl⟩|⟨rfl,rfl⟩
   ·simpa only[aw]using t4
   ·simp only[aw]
    rw[c.2.2 3 (by decide)]
    exact i9
   ·simp only[aw]
    rw[c.2.2 9 (by decide)]
    exact i4
   ·have:=(Mem.ta (X:=X) (bl:=bP (El:=aG.T.El) id (cd false tf) false tf (M,(g,N),j,O)) (ρ:=ρ) (E.trans H (by simp))).v C
    rw[c.2.2 0 (by decide),i3]
    exact this
  ·have e:(opsL aG (H_ aG) hJ.oL 29 hJ.oL.toList ⟨⟨[(4,.p (.int .i64 (kC e))),(3,.p (.int .i64 m)),(9,.p (.pointer (some ⟨r,0,none⟩))),(0,.b 0 0)],[],[]⟩,bP id (cd false tf) false tf (M,(g,N),j,O),[]⟩).run Q_=(idx g (I.ax (kC e+1))).bind λ v=>some (.pointer (some ⟨r,0,none⟩),0,0,.int .i64 (I.ax (m+I.ax (3+v)))):=by kernel_rfl
   exact e.trans (by rw[l];rfl)
  ·obtain⟨c8,eO,fJ,jt⟩:=am0 V4
   refine wpList_nil ⟨rfl,d.d_.er.size,d.d_.er.defers,?_,by simpa only[aw]using d.d_.er.get 9 _ eO,⟨?_,?_⟩,?_,?_,H.trans L (by simp),_,by simpa only[aw]using d.d_.er.get 3 _ jt,?_⟩
   ·have:=(Mem.ta (X:=X) (bl:=bP (El:=aG.T.El) id (cd false tf) false tf (M,(g,N),j,O)) (ρ:=ρ) (E.trans H (by simp))).v C
    exact ad3 J.L this (d.d_.er.get 0 _ fJ)
   ·obtain⟨eK,k0,pI⟩:=uu
    exact⟨eK,k0,(L.block r (s pI) (by simp)).trans pI⟩
   ·have Oc:rp.heap[bm]? =some (.map es clock):=(H.block bm (s F) (by simp)).trans F
    exact(L.block bm (s Oc) (by simp)).trans Oc
   ·rw[jH,lT]
    exact fA.2 ⟨i6,by simp,λ x aa y hy ai=>by simp at hy;subst hy;subst ai;exact zt aa⟩
   ·intro x aa
    rcases cj.1 aa with aa |aa
    ·exact i7 x aa
    ·simp at aa;subst aa;exact Y
   ·rw[jH,lT,amn,p,ae,l,ae]
 ·intro acc a2 a3 jE V WW c
  obtain⟨Z,i2,i3,i4,i5,i6,i7,i8,m,i9,p⟩:=V
  have az5:m=S:=by
   have h1:=aa2 (W:=g) (WW.map kC) f;rw[p,JK,dN]at h1;exact eJ h1
  subst az5
  have VZ:=E.trans i8 (by simp)
  refine wp_seq (wp_region_list ?_)
  rw[show hJ.xL.toList=hJ.xL.toList++[] by simp]
  refine Qp (n:=⟨29,[]⟩) (K:=abn) (z:=[.int .i64 m]) jV rfl (A.e8 VZ) (c.1.trans Z) (c.2.1.trans i2) (fr:=[(3,.p (.int .i64 m)),(0,.b 0 0)]) (λ t y hy=>?_) (by kernel_rfl) (λ t h=>OU (am1 h).1) λ t' apV a5 xW V4 d J L=>?_
  ·rcases X_ hy with⟨rfl,rfl⟩|⟨rfl,rfl⟩
   ·simp only[aw]
    rw[c.2.2 3 (by decide)]
    exact i9
   ·have:=(Mem.ta (X:=X) (bl:=bP (El:=aG.T.El) id (cd false tf) false tf (M,(g,N),j,O)) (ρ:=ρ) VZ).v C
    rw[c.2.2 0 (by decide),i3]
    exact this
  ·have td:=N4 d.d_.er (am1 V4).2
   simp only[eB,iD,h3,and_true]at td
   exact wpList_nil (k a5 xW d.d_.er.size d.d_.er.defers td (VZ.trans L (by simp)))
 ·refine⟨by rw[uZ,Iu],Ts,by rw[wk (by decide),f0],wj (by rw[Iu];decide),⟨⟨clock,cT _,J6⟩,(FV.block bm (s F) (by simp)).trans F⟩,by simp,by simp,FV,f,by rw[wk (by decide),f3],rfl⟩
end Go.Proofs.YteeliipnilghaaaGreat
namespace Go.Proofs.YteeliipnilghaaaGreat
open Go Go.RowKit ay I bc
set_option maxRecDepth 100000
theorem aJ5:yB aG ⟨fz aG.P 55,[]⟩ (abl.run aG) tg.1 tg.2:=by
 have e:fz aG.P 55=29:=by kernel_rfl
 rw[e];exact avf rfl aKd
noncomputable def asr(F:Nat):aQ aG:=(asq F).akw 55 0 (abl.run aG) tg.1 tg.2 (λ _ _=>aJ5) aJV
def XD:Value->Option Int
 | .int .i64 x=>some x
 |_=>none
theorem aBJ(u:Value)(x:Int)(h:XD u=some x):u= .int .i64 x:=by
 unfold XD at h;split at h
 ·cases h;rfl
 ·cases h
def FQ(h:List Int)(m:List (Int×Bool)):Option Int:=iX h (m.map lz) 0
def aJW:rN bs:=⟨[.p (.B 0)],tf,Int,.int .i64,XD,λ d=>(FQ d.2.2.1.1 d.2.2.2.1).bind λ x=>some x⟩
noncomputable def SI(F:Nat):aQ aG:=(asr F).rd 55 aJW (λ da db=>by kernel_rfl) aBJ
end Go.Proofs.YteeliipnilghaaaGreat
namespace Go.Proofs.YteeliipnilghaaaGreat
open Go Go.RowKit ay I bc
def adf(F:Nat):Nat->(List Int)->(Int)->(Int)->(List Int)->Option ((Unit×Unit)×List Int×Unit)
 |0,_,_,_,_=>none
 |aR+1,b,c,a,d=>
  cond (decide (a<c)) ((idx b a).bind λ e=>
(bI 8 d [e]).bind λ f=>
adf F aR (b) (c) (ax (a+1)) (f)) (
some (((),()),((d),())))
def ajv(F:Nat):fB bs:=⟨[0,3,6,7],[.p (.l 3),.p (.R 0),.p (.i .i64),.p (.i .i64)],[.r 109 false],[⟨.nm,[3],[.p (.R 0)],[.r 109 false]⟩],λ k d=>adf F k d.1.1 d.1.2.2.1 d.1.2.2.2.1 d.2.1⟩
theorem axz(F:Nat):(ajv F).Eq aG (SI F).t.bu ((SI F).t.LE 39) (fz aG.P 39) 0 (ht aG.P 39 0):=⟨λ d=>by kernel_rfl,λ k da db=>by kernel_rfl⟩
noncomputable def SJ(F:Nat):aQ aG:=(SI F).gd 39 0 F (ajv F) (axz F)
def apO(F:Nat)(a:List Int):Option ((List Int×Unit)×Unit):=
 (adf F F a (↑a.length:Int) 0 []).bind λ b=>
some (((b.snd.fst),()),())
def aiW(F:Nat):ey bs:=⟨[.p (.l 3)],[],[.p (.l 109)],[],λ d=>apO F d.1.1⟩
theorem axy(F:Nat):(aiW F).Eq aG (SJ F).t.bu (SJ F).t.LE 39:=λ da db=>by kernel_rfl
noncomputable def ass(F:Nat):aQ aG:=(SJ F).FM 39 (aiW F) (axy F)
noncomputable def SK(F:Nat):aQ aG:=(ass F).en 39 (O4 F) (aet F)
end Go.Proofs.YteeliipnilghaaaGreat
namespace Go.Proofs.YteeliipnilghaaaGreat
open Go Go.RowKit ay I bc
def I5(F:Nat)(c:List Int)(d:Int)(e:Int)(f:Int)(g:Int)(h:List Int)(i:Int)(j:List ap)(k:List Int)(l:List (List I.Field))(m:List (List (List UInt8)))(n:List (List I.Target))(o:List Int):Option ((Unit×Int×Unit)×(List Int×Int×Int×Int×Int×List Int×Int×List ap×List Int×List (List I.Field)×List (List (List UInt8))×List (List I.Target)×List Int×List Int×Unit×Unit)×List (Int×Bool)×Unit⊕
 (Unit×Int×Unit)×Unit):=
 dy (iB (jZ F (aV.mk c d e f g h i) (aO.mk j k l m n))) (λ a=>
cond (decide (a.snd=0)) ((vw F
 (bj.mk (aV.mk a.fst.H.Words a.fst.H.ak a.fst.H.aM a.fst.H.aX a.fst.H.aW a.fst.H.aS a.fst.H.Next)
  (b'.mk (aO.mk a.fst.S.K.a6 a.fst.S.K.aY a.fst.S.K.Fields a.fst.S.K.Names a.fst.S.K.aZ)) a.fst.ak a.fst.aM a.fst.dP)
 o).bind λ p=>
some (.inl (((),((p),())),(((a.fst.H.Words),((a.fst.H.ak),((a.fst.H.aM),((a.fst.H.aX),((a.fst.H.aW),((a.fst.H.aS),((a.fst.H.Next),((a.fst.S.K.a6),((a.fst.S.K.aY),((a.fst.S.K.Fields),((a.fst.S.K.Names),((a.fst.S.K.aZ),((a.fst.ak),((a.fst.aM),((),()))))))))))))))),((a.fst.dP),()))))) (
some (.inl (((),((a.snd),())),(((a.fst.H.Words),((a.fst.H.ak),((a.fst.H.aM),((a.fst.H.aX),((a.fst.H.aW),((a.fst.H.aS),((a.fst.H.Next),((a.fst.S.K.a6),((a.fst.S.K.aY),((a.fst.S.K.Fields),((a.fst.S.K.Names),((a.fst.S.K.aZ),((a.fst.ak),((a.fst.aM),((),()))))))))))))))),((a.fst.dP),())))))) (λ b=>
cond (decide (b=0)) (none) (
some (.inr (((),((b),())),()))))
def aiT(F:Nat):kN bs:=⟨[.a [.l 3,.i .i64,.i .i64,.i .i64,.i .i64,.l 3,.i .i64],.a [.l 134,.l 3,.l 124,.l 120,.l 121],.p (.l 3)],[],[⟨[.p (.B 0),.p (.i .i64)],[.c 72 [.l 3,.i .i64,.i .i64,.i .i64,.i .i64,.l 3,.i .i64,.l 134,.l 3,.l 124,.l 120,.l 121,.l 3,.l 3,.M 1],.m 3 4]⟩,⟨[.p .gM,.p (.i .i64)],[]⟩],λ d=>I5 F d.1.1.1 d.1.1.2.1 d.1.1.2.2.1 d.1.1.2.2.2.1 d.1.1.2.2.2.2.1 d.1.1.2.2.2.2.2.1 d.1.1.2.2.2.2.2.2.1 d.1.2.1.1 d.1.2.1.2.1 d.1.2.1.2.2.1 d.1.2.1.2.2.2.1 d.1.2.1.2.2.2.2.1 d.1.2.2.1⟩
theorem awJ(F:Nat):(aiT F).Eq aG (SK F).t.bu (SK F).t.LE 53:=λ da db=>by kernel_rfl
noncomputable def SL(F:Nat):aQ aG:=(SK F).jk 53 (aiT F) (awJ F)
def U0(F:Nat):Nat->(List Int)->(Int)->(Int)->(List Int)->Option ((Unit×Unit)×List Int×Unit)
 |0,_,_,_,_=>none
 |aR+1,d,e,a,f=>
  cond (decide (a<e)) ((idx d a).bind λ b=>
(bI 8 f [b]).bind λ c=>
U0 F aR (d) (e) (ax (a+1)) (c)) (
some (((),()),((f),())))
def ajn(F:Nat):fB bs:=⟨[3,6,7,8],[.p (.R 0),.p (.l 109),.p (.i .i64),.p (.i .i64)],[.r 3 false],[⟨.nm,[3],[.p (.R 0)],[.r 3 false]⟩],λ k d=>U0 F k d.1.2.1 d.1.2.2.1 d.1.2.2.2.1 d.2.1⟩
theorem awL(F:Nat):(ajn F).Eq aG (SL F).t.bu ((SL F).t.LE 90) (fz aG.P 90) 0 (ht aG.P 90 0):=⟨λ d=>by kernel_rfl,λ k da db=>by kernel_rfl⟩
noncomputable def SM(F:Nat):aQ aG:=(SL F).gd 90 0 F (ajn F) (awL F)
def agO(F:Nat)(RS:List Int):Option ((List Int×Unit)×Unit):=
 (U0 F F RS (↑RS.length:Int) 0 []).bind λ a=>
some (((a.snd.fst),()),())
def aiU(F:Nat):ey bs:=⟨[.p (.l 109)],[],[.p (.l 3)],[],λ d=>agO F d.1.1⟩
theorem awK(F:Nat):(aiU F).Eq aG (SM F).t.bu (SM F).t.LE 90:=λ da db=>by kernel_rfl
noncomputable def SN(F:Nat):aQ aG:=(SM F).fn 90 (aiU F) (awK F)
def zd(F:Nat):Nat->(Int)->(Int)->(Int)->(List ap)->(List Int)->(List (List I.Field))->(List (List (List UInt8)))->(List (List I.Target))->(List Int)->(Int)->(Int)->(Int)->(Int)->(List Int)->(Int)->(List (Int×Bool))->(List Int)->Option ((Unit×Unit×Unit)×
 (Unit×List ap×List Int×List (List I.Field)×List (List (List UInt8))×List (List I.Target)×Unit×Unit)×(List Int×Int×Int×Int×Int×List Int×Int×Unit)×List (Int×Bool)×List Int×Unit)
 |0,_,_,_,_,_,_,_,_,_,_,_,_,_,_,_,_,_=>none
 |aR+1,c,i,a,d,e,f,g,h,b,j,k,l,m,n,Mk,o,p=>
  cond (decide (a<i)) ((idx b c).bind λ q=>
(qL (b'.mk (aO.mk d e f g h)) q a).bind λ r=>
cond (r) ((idx b (ax (ax (c+3)+a))).bind λ s=>
(bI 8 p [s]).bind λ t=>
zd F aR (c) (i) (ax (a+1)) (d) (e) (f) (g) (h) (b) (j) (k) (l) (m) (n) (Mk) (o) (t)) (
zd F aR (c) (i) (ax (a+1)) (d) (e) (f) (g) (h) (b) (j) (k) (l) (m) (n) (Mk) (o) (p))) (
some (((),((),())),(((),((d),((e),((f),((g),((h),((),()))))))),(((b),((j),((k),((l),((m),((n),((Mk),()))))))),((o),((p),()))))))
def ajm(F:Nat):fB bs:=⟨[0,4,5,48,49],[.p (.B 0),.p (.R 3),.p (.i .i64),.p (.i .i64),.p (.i .i64)],[.c 140 [.B 1,.l 134,.l 3,.l 124,.l 120,.l 121,.M 2],.c 24 [.l 3,.i .i64,.i .i64,.i .i64,.i .i64,.l 3,.i .i64],.m 3 4,.r 3 false],[⟨.nm,[0,4],[.p (.B 0),.p (.R 3)],[.c 140 [.B 1,.l 134,.l 3,.l 124,.l 120,.l 121,.M 2],.c 24 [.l 3,.i .i64,.i .i64,.i .i64,.i .i64,.l 3,.i .i64],.m 3 4,.r 3 false]⟩],λ k d=>zd F k d.1.2.2.1 d.1.2.2.2.1 d.1.2.2.2.2.1 d.2.1.2.1 d.2.1.2.2.1 d.2.1.2.2.2.1 d.2.1.2.2.2.2.1 d.2.1.2.2.2.2.2.1 d.2.2.1.1 d.2.2.1.2.1 d.2.2.1.2.2.1 d.2.2.1.2.2.2.1 d.2.2.1.2.2.2.2.1 d.2.2.1.2.2.2.2.2.1 d.2.2.1.2.2.2.2.2.2.1 d.2.2.2.1 d.2.2.2.2.1⟩
theorem awI(F:Nat):(ajm F).Eq aG (SN F).t.bu ((SN F).t.LE 89) (fz aG.P 89) 2 (ht aG.P 89 2):=⟨λ d=>by kernel_rfl,λ k da db=>by kernel_rfl⟩
noncomputable def SP(F:Nat):aQ aG:=(SN F).gd 89 2 F (ajm F) (awI F)
def wi(F:Nat):Nat->(List ap)->(List Int)->(List (List I.Field))->(List (List (List UInt8)))->(List (List I.Target))->(List Int)->(Int)->(Int)->(Int)->(Int)->(List Int)->(Int)->(List (Int×Bool))->(List Int)->Option (Unit×(Unit×List ap×List Int×List (List I.Field)×List (List (List UInt8))×List (List I.Target)×Unit×Unit)×(List Int×Int×Int×Int×Int×List Int×Int×Unit)×List (Int×Bool)×List Int×Unit)
 |0,_,_,_,_,_,_,_,_,_,_,_,_,_,_=>none
 |aR+1,c,d,e,h,i,f,j,k,l,m,n,o,g,b=>
  cond (decide (0<(↑b.length:Int))) ((idx b (ax ((↑b.length:Int)-1))).bind λ AV=>
(if(0 :Int)<=0/\0<=ax ((↑b.length:Int)-1)/\ax ((↑b.length:Int)-1)<=(↑b.length:Int)then some ()else none).bind λ q=>
cond (decide (AV=0)||(cH g AV).getD false) (wi F aR (c) (d) (e) (h) (i) (f) (j) (k) (l) (m) (n) (o) (g) (mV (ax ((↑b.length:Int)-1)).toNat b)) (
(idx f (ax (AV+1))).bind λ p=>
(zd F F AV p 0 c d e h i f j k l m n o (gf g AV true) (mV (ax ((↑b.length:Int)-1)).toNat b)).bind λ a=>
wi F aR (a.snd.fst.snd.fst) (a.snd.fst.snd.snd.fst) (a.snd.fst.snd.snd.snd.fst) (a.snd.fst.snd.snd.snd.snd.fst) (a.snd.fst.snd.snd.snd.snd.snd.fst) (a.snd.snd.fst.fst) (a.snd.snd.fst.snd.fst) (a.snd.snd.fst.snd.snd.fst) (a.snd.snd.fst.snd.snd.snd.fst) (a.snd.snd.fst.snd.snd.snd.snd.fst) (a.snd.snd.fst.snd.snd.snd.snd.snd.fst) (a.snd.snd.fst.snd.snd.snd.snd.snd.snd.fst) (a.snd.snd.snd.fst) (a.snd.snd.snd.snd.fst))) (
some ((),(((),((c),((d),((e),((h),((i),((),()))))))),(((f),((j),((k),((l),((m),((n),((o),()))))))),((g),((b),()))))))
def ajl(F:Nat):fB bs:=⟨[0,4],[.p (.B 0),.p (.R 3)],[.c 140 [.B 1,.l 134,.l 3,.l 124,.l 120,.l 121,.M 2],.c 24 [.l 3,.i .i64,.i .i64,.i .i64,.i .i64,.l 3,.i .i64],.m 3 4,.r 3 false],[⟨.nm,[],[],[.c 140 [.B 1,.l 134,.l 3,.l 124,.l 120,.l 121,.M 2],.c 24 [.l 3,.i .i64,.i .i64,.i .i64,.i .i64,.l 3,.i .i64],.m 3 4,.r 3 false]⟩],λ k d=>wi F k d.2.1.2.1 d.2.1.2.2.1 d.2.1.2.2.2.1 d.2.1.2.2.2.2.1 d.2.1.2.2.2.2.2.1 d.2.2.1.1 d.2.2.1.2.1 d.2.2.1.2.2.1 d.2.2.1.2.2.2.1 d.2.2.1.2.2.2.2.1 d.2.2.1.2.2.2.2.2.1 d.2.2.1.2.2.2.2.2.2.1 d.2.2.2.1 d.2.2.2.2.1⟩
theorem awH(F:Nat):(ajl F).Eq aG (SP F).t.bu ((SP F).t.LE 89) (fz aG.P 89) 0 (ht aG.P 89 0):=⟨λ d=>by kernel_rfl,λ k da db=>by kernel_rfl⟩
noncomputable def SQ(F:Nat):aQ aG:=(SP F).gd 89 0 F (ajl F) (awH F)
def CG(F:Nat)(c:List Int)(d:List ap)(e:List Int)(Eo:List (List I.Field))(f:List (List (List UInt8)))(g:List (List I.Target))(Rr:List Int)(h:Int)(Rt:Int)(i:Int)(j:Int)(Rw:List Int)(k:Int)(a:List (Int×Bool)):Option (Unit×(Unit×List ap×List Int×List (List I.Field)×List (List (List UInt8))×List (List I.Target)×Unit×Unit)×(List Int×Int×Int×Int×Int×List Int×Int×Unit)×List (Int×Bool)×Unit):=
 (bI 8 [] c).bind λ b=>
(wi F F d e Eo f g Rr h Rt i j Rw k a b).bind λ nE=>
some ((),(((),((nE.snd.fst.snd.fst),((nE.snd.fst.snd.snd.fst),((nE.snd.fst.snd.snd.snd.fst),((nE.snd.fst.snd.snd.snd.snd.fst),((nE.snd.fst.snd.snd.snd.snd.snd.fst),((),()))))))),(((nE.snd.snd.fst.fst),((nE.snd.snd.fst.snd.fst),((nE.snd.snd.fst.snd.snd.fst),((nE.snd.snd.fst.snd.snd.snd.fst),((nE.snd.snd.fst.snd.snd.snd.snd.fst),((nE.snd.snd.fst.snd.snd.snd.snd.snd.fst),((nE.snd.snd.fst.snd.snd.snd.snd.snd.snd.fst),()))))))),((nE.snd.snd.snd.fst),()))))
def aiS(F:Nat):ey bs:=⟨[.p (.B 0),.p (.l 3)],[.c 140 [.B 1,.l 134,.l 3,.l 124,.l 120,.l 121,.M 2],.c 24 [.l 3,.i .i64,.i .i64,.i .i64,.i .i64,.l 3,.i .i64],.m 3 4],[],[.c 140 [.B 1,.l 134,.l 3,.l 124,.l 120,.l 121,.M 2],.c 24 [.l 3,.i .i64,.i .i64,.i .i64,.i .i64,.l 3,.i .i64],.m 3 4],λ d=>CG F d.1.2.1 d.2.1.2.1 d.2.1.2.2.1 d.2.1.2.2.2.1 d.2.1.2.2.2.2.1 d.2.1.2.2.2.2.2.1 d.2.2.1.1 d.2.2.1.2.1 d.2.2.1.2.2.1 d.2.2.1.2.2.2.1 d.2.2.1.2.2.2.2.1 d.2.2.1.2.2.2.2.2.1 d.2.2.1.2.2.2.2.2.2.1 d.2.2.2.1⟩
theorem awG(F:Nat):(aiS F).Eq aG (SQ F).t.bu (SQ F).t.LE 89:=λ da db=>by kernel_rfl
noncomputable def SR(F:Nat):aQ aG:=(SQ F).fn 89 (aiS F) (awG F)
def agN(F:Nat)(b:List ap)(c:List Int)(d:List (List I.Field))(e:List (List (List UInt8)))(f:List (List I.Target))(g:List Int)(h:List Int)(i:Int)(j:Int)(k:Int)(l:Int)(m:List Int)(n:Int):Option ((Unit×Unit)×(List Int×Int×Int×Int×Int×List Int×Int×Unit)×(Unit×List ap×List Int×List (List I.Field)×List (List (List UInt8))×List (List I.Target)×Unit×Unit)×List (Int×Bool)×Unit):=
 (agO F g).bind λ o=>
(CG F o.fst.fst b c d e f h i j k l m n []).bind λ a=>
some (((),()),(((a.snd.snd.fst.fst),((a.snd.snd.fst.snd.fst),((a.snd.snd.fst.snd.snd.fst),((a.snd.snd.fst.snd.snd.snd.fst),((a.snd.snd.fst.snd.snd.snd.snd.fst),((a.snd.snd.fst.snd.snd.snd.snd.snd.fst),((a.snd.snd.fst.snd.snd.snd.snd.snd.snd.fst),()))))))),(((),((a.snd.fst.snd.fst),((a.snd.fst.snd.snd.fst),((a.snd.fst.snd.snd.snd.fst),((a.snd.fst.snd.snd.snd.snd.fst),((a.snd.fst.snd.snd.snd.snd.snd.fst),((),()))))))),((a.snd.snd.snd.fst),()))))
def aiR(F:Nat):ey bs:=⟨[.p (.B 0),.a [.l 134,.l 3,.l 124,.l 120,.l 121],.p (.l 109)],[.c 24 [.l 3,.i .i64,.i .i64,.i .i64,.i .i64,.l 3,.i .i64]],[.p (.B 1)],[.c 24 [.l 3,.i .i64,.i .i64,.i .i64,.i .i64,.l 3,.i .i64],.c 140 [.B 0,.l 134,.l 3,.l 124,.l 120,.l 121,.M 2],.m 3 4],λ d=>agN F d.1.2.1.1 d.1.2.1.2.1 d.1.2.1.2.2.1 d.1.2.1.2.2.2.1 d.1.2.1.2.2.2.2.1 d.1.2.2.1 d.2.1.1 d.2.1.2.1 d.2.1.2.2.1 d.2.1.2.2.2.1 d.2.1.2.2.2.2.1 d.2.1.2.2.2.2.2.1 d.2.1.2.2.2.2.2.2.1⟩
theorem awF(F:Nat):(aiR F).Eq aG (SR F).t.bu (SR F).t.LE 54:=λ da db=>by kernel_rfl
noncomputable def SS(F:Nat):aQ aG:=(SR F).fn 54 (aiR F) (awF F)
def ax4(F:Nat)(b:List Int)(c:Int)(d:Int)(e:Int)(f:Int)(g:List Int)(h:Int)(k:List ap)(l:List Int)(m:List (List I.Field))(n:List (List (List UInt8)))(o:List (List I.Target))(mE:List Int):Option ((Int×Int×Unit)×Unit):=
 dy (I5 F b c d e f g h k l m n o mE) (λ a=>
cond (!decide (a.fst.snd.fst=0)) (some (((0),((a.fst.snd.fst),())),())) (
(apO F mE).bind λ p=>
(agN F a.snd.fst.snd.snd.snd.snd.snd.snd.snd.fst a.snd.fst.snd.snd.snd.snd.snd.snd.snd.snd.fst a.snd.fst.snd.snd.snd.snd.snd.snd.snd.snd.snd.fst a.snd.fst.snd.snd.snd.snd.snd.snd.snd.snd.snd.snd.fst
 a.snd.fst.snd.snd.snd.snd.snd.snd.snd.snd.snd.snd.snd.fst p.fst.fst b c d e f g h).bind λ i=>
((FQ i.snd.fst.fst i.snd.snd.snd.fst).bind λ x=>some x).bind λ q=>
some (((q),((0),())),()))) (λ j=>
cond (!decide (j.fst.snd.fst=0)) (some (((0),((j.fst.snd.fst),())),())) (
none))
def aiQ(F:Nat):ey bs:=⟨[.a [.l 3,.i .i64,.i .i64,.i .i64,.i .i64,.l 3,.i .i64],.a [.l 134,.l 3,.l 124,.l 120,.l 121],.p (.l 3)],[],[.p (.i .i64),.p (.i .i64)],[],λ d=>ax4 F d.1.1.1 d.1.1.2.1 d.1.1.2.2.1 d.1.1.2.2.2.1 d.1.1.2.2.2.2.1 d.1.1.2.2.2.2.2.1 d.1.1.2.2.2.2.2.2.1 d.1.2.1.1 d.1.2.1.2.1 d.1.2.1.2.2.1 d.1.2.1.2.2.2.1 d.1.2.1.2.2.2.2.1 d.1.2.2.1⟩
theorem awE(F:Nat):(aiQ F).Eq aG (SS F).t.bu (SS F).t.LE 22:=λ da db=>by kernel_rfl
noncomputable def MF(F:Nat):aQ aG:=(SS F).fn 22 (aiQ F) (awE F)
end Go.Proofs.YteeliipnilghaaaGreat
namespace Go.Proofs.YteeliipnilghaaaGreat
open Go Go.RowKit ay I bc
set_option maxRecDepth 100000
@[reducible] def Gq:h_ bs:=⟨[],[],[.p .b],[],Bool,λ _=>some true,λ _ r=>((r,()),())⟩
theorem awB:Gq.Eq lX (FN lX (MF 2000).t.kL (λ _ _=>none) 100) (λ _ _=>none) 24:=λ da db=>by
 kernel_rfl
theorem auQ:kj lX 24 (Gq.run lX):=
 have a:vF lX (λ _ _=>none):=λ g fn c _ _ _=>uG (λ _=>rfl) c
 have hc:=((MF 2000).ok jV).ce
 have b:MG lX (MF 2000).t.kL:=⟨hc.cf,λ g h d=>(Nf g h)▸hc.ok g h d⟩
 λ ys bl r e=>FA Nq (lr Nq b a 100) a rfl (c:=Gq.hS) (ey.Eq.v awB) ys bl r (Ay e)
theorem aIz:Gq.run aG=Gq.run lX:=by kernel_rfl
noncomputable def SU(F:Nat):aQ aG:=(MF F).add 24 (Gq.run aG) (aIz▸(Nf 24 _)▸auQ)
end Go.Proofs.YteeliipnilghaaaGreat
namespace Go.Proofs.YteeliipnilghaaaGreat
open Go Go.RowKit ay I bc
def Ip(F:Nat)(b:Int)(a:List Int):Option (Unit×(Unit×Unit)×List Int×Unit):=
 cond (!decide (b=0)) ((lk F a b).bind λ c=>
cond (!c) ((bI 8 a [b]).bind λ d=>
some ((),(((),()),((d),())))) (
some ((),(((),()),((a),()))))) (
some ((),(((),()),((a),()))))
def aiJ(F:Nat):ey bs:=⟨[.p (.i .i64),.p (.B 0)],[.c 22 [.R 1],.r 3 false],[],[.c 22 [.R 1],.r 3 false],λ d=>Ip F d.1.1 d.2.2.1⟩
theorem aww(F:Nat):(aiJ F).Eq aG (SU F).t.bu (SU F).t.LE 91:=λ da db=>by kernel_rfl
noncomputable def SV(F:Nat):aQ aG:=(SU F).fn 91 (aiJ F) (aww F)
def B8(F:Nat):Nat->(List Int)->(Int)->(List Int)->(Int)->(Int)->(Int)->(Int)->(List Int)->(Int)->(List ap)->(List Int)->(List (List I.Field))->(List (List (List UInt8)))->(List (List I.Target))->(List Int)->Option ((Unit×Unit×Unit×(Unit×Unit)×Unit)×
 (List Int×Int×Int×Int×Int×List Int×Int×Unit)×(List ap×List Int×List (List I.Field)×List (List (List UInt8))×List (List I.Target)×Unit)×(Unit×Unit)×List Int×Unit)
 |0,_,_,_,_,_,_,_,_,_,_,_,_,_,_,_=>none
 |aR+1,a,b,c,d,e,f,g,h,i,j,k,l,m,n,o=>
  cond (decide (b<(↑a.length:Int))) ((idx a b).bind λ p=>
(Ip F p o).bind λ q=>
B8 F aR (a) (ax (b+1)) (c) (d) (e) (f) (g) (h) (i) (j) (k) (l) (m) (n) (q.snd.snd.fst)) (
some (((),((),((),(((),()),())))),(((c),((d),((e),((f),((g),((h),((i),()))))))),(((j),((k),((l),((m),((n),()))))),(((),()),((o),()))))))
def ajc(F:Nat):fB bs:=⟨[2,3,4,7,8,9],[.p (.l 3),.p (.B 0),.p (.B 1),.p (.B 2),.f 91 [.B 2],.p (.i .i64)],[.c 24 [.l 3,.i .i64,.i .i64,.i .i64,.i .i64,.l 3,.i .i64],.c 30 [.l 134,.l 3,.l 124,.l 120,.l 121],.c 22 [.R 3],.r 3 false],[⟨.nm,[3,4,7,8],[.p (.B 0),.p (.B 1),.p (.B 2),.f 91 [.B 2]],[.c 24 [.l 3,.i .i64,.i .i64,.i .i64,.i .i64,.l 3,.i .i64],.c 30 [.l 134,.l 3,.l 124,.l 120,.l 121],.c 22 [.R 3],.r 3 false]⟩],λ k d=>B8 F k d.1.1 d.1.2.2.2.2.2.1 d.2.1.1 d.2.1.2.1 d.2.1.2.2.1 d.2.1.2.2.2.1 d.2.1.2.2.2.2.1 d.2.1.2.2.2.2.2.1 d.2.1.2.2.2.2.2.2.1 d.2.2.1.1 d.2.2.1.2.1 d.2.2.1.2.2.1 d.2.2.1.2.2.2.1 d.2.2.1.2.2.2.2.1 d.2.2.2.2.1⟩
theorem awx(F:Nat):(ajc F).Eq aG (SV F).t.bu ((SV F).t.LE 56) (fz aG.P 56) 0 (ht aG.P 56 0):=⟨λ d=>by kernel_rfl,λ k da db=>by kernel_rfl⟩
noncomputable def SX(F:Nat):aQ aG:=(SV F).gd 56 0 F (ajc F) (awx F)
def B_(F:Nat):Nat->(Int)->(List Int)->(Int)->(List Int)->(Int)->(Int)->(Int)->(Int)->(List Int)->(Int)->(List ap)->(List Int)->(List (List I.Field))->(List (List (List UInt8)))->(List (List I.Target))->(List Int)->Option ((Unit×Unit×Unit×(Unit×Unit)×Int×Unit)×
 (List Int×Int×Int×Int×Int×List Int×Int×Unit)×(List ap×List Int×List (List I.Field)×List (List (List UInt8))×List (List I.Target)×Unit)×(Unit×Unit)×List Int×Unit)
 |0,_,_,_,_,_,_,_,_,_,_,_,_,_,_,_,_=>none
 |aR+1,f,a,b,c,g,h,Eo,i,j,Rr,k,Rt,l,m,Rw,n=>
  cond (decide (b<(↑a.length:Int))) ((idx a b).bind λ d=>
(idx c d).bind λ e=>
(Ip F e n).bind λ nE=>
B_ F aR (f) (a) (ax (b+1)) (c) (g) (h) (Eo) (i) (j) (Rr) (k) (Rt) (l) (m) (Rw) (nE.snd.snd.fst)) (
some (((),((),((),(((),()),((f),()))))),(((c),((g),((h),((Eo),((i),((j),((Rr),()))))))),(((k),((Rt),((l),((m),((Rw),()))))),(((),()),((n),()))))))
def aje(F:Nat):fB bs:=⟨[3,4,7,8,10,11,12],[.p (.B 0),.p (.B 1),.p (.B 2),.f 91 [.B 2],.p (.i .i64),.p (.l 3),.p (.i .i64)],[.c 24 [.l 3,.i .i64,.i .i64,.i .i64,.i .i64,.l 3,.i .i64],.c 30 [.l 134,.l 3,.l 124,.l 120,.l 121],.c 22 [.R 3],.r 3 false],[⟨.nm,[3,4,7,8,10],[.p (.B 0),.p (.B 1),.p (.B 2),.f 91 [.B 2],.p (.i .i64)],[.c 24 [.l 3,.i .i64,.i .i64,.i .i64,.i .i64,.l 3,.i .i64],.c 30 [.l 134,.l 3,.l 124,.l 120,.l 121],.c 22 [.R 3],.r 3 false]⟩],λ k d=>B_ F k d.1.2.2.2.2.1 d.1.2.2.2.2.2.1 d.1.2.2.2.2.2.2.1 d.2.1.1 d.2.1.2.1 d.2.1.2.2.1 d.2.1.2.2.2.1 d.2.1.2.2.2.2.1 d.2.1.2.2.2.2.2.1 d.2.1.2.2.2.2.2.2.1 d.2.2.1.1 d.2.2.1.2.1 d.2.2.1.2.2.1 d.2.2.1.2.2.2.1 d.2.2.1.2.2.2.2.1 d.2.2.2.2.1⟩
theorem awz(F:Nat):(aje F).Eq aG (SX F).t.bu ((SX F).t.LE 56) (fz aG.P 56) 4 (ht aG.P 56 4):=⟨λ d=>by kernel_rfl,λ k da db=>by kernel_rfl⟩
noncomputable def SY(F:Nat):aQ aG:=(SX F).gd 56 4 F (aje F) (awz F)
def B9(F:Nat):Nat->(Int)->(List Int)->(Int)->(Int)->(Int)->(Int)->(List Int)->(Int)->(List ap)->(List Int)->(List (List I.Field))->(List (List (List UInt8)))->(List (List I.Target))->(List Int)->Option ((Unit×Unit)×(List Int×Int×Int×Int×Int×List Int×Int×Unit)×(List ap×List Int×List (List I.Field)×List (List (List UInt8))×List (List I.Target)×Unit)×(Unit×Unit)×List Int×Unit)
 |0,_,_,_,_,_,_,_,_,_,_,_,_,_,_=>none
 |aR+1,b,c,d,e,f,g,h,i,j,k,l,m,o,n=>
  cond (decide (b<(↑n.length:Int))) ((idx n b).bind λ p=>
(pa F (aV.mk c d e f g h i) (aO.mk j k l m o) p).bind λ q=>
(B_ F F b q 0 c d e f g h i j k l m o n).bind λ a=>
B9 F aR (ax (a.fst.snd.snd.snd.snd.fst+1)) (a.snd.fst.fst) (a.snd.fst.snd.fst) (a.snd.fst.snd.snd.fst) (a.snd.fst.snd.snd.snd.fst) (a.snd.fst.snd.snd.snd.snd.fst) (a.snd.fst.snd.snd.snd.snd.snd.fst) (a.snd.fst.snd.snd.snd.snd.snd.snd.fst) (a.snd.snd.fst.fst) (a.snd.snd.fst.snd.fst) (a.snd.snd.fst.snd.snd.fst) (a.snd.snd.fst.snd.snd.snd.fst) (a.snd.snd.fst.snd.snd.snd.snd.fst) (a.snd.snd.snd.snd.fst)) (
some (((),()),(((c),((d),((e),((f),((g),((h),((i),()))))))),(((j),((k),((l),((m),((o),()))))),(((),()),((n),()))))))
def ajd(F:Nat):fB bs:=⟨[3,4,7,8,10],[.p (.B 0),.p (.B 1),.p (.B 2),.f 91 [.B 2],.p (.i .i64)],[.c 24 [.l 3,.i .i64,.i .i64,.i .i64,.i .i64,.l 3,.i .i64],.c 30 [.l 134,.l 3,.l 124,.l 120,.l 121],.c 22 [.R 3],.r 3 false],[⟨.nm,[7],[.p (.B 2)],[.c 24 [.l 3,.i .i64,.i .i64,.i .i64,.i .i64,.l 3,.i .i64],.c 30 [.l 134,.l 3,.l 124,.l 120,.l 121],.c 22 [.R 3],.r 3 false]⟩],λ k d=>B9 F k d.1.2.2.2.2.1 d.2.1.1 d.2.1.2.1 d.2.1.2.2.1 d.2.1.2.2.2.1 d.2.1.2.2.2.2.1 d.2.1.2.2.2.2.2.1 d.2.1.2.2.2.2.2.2.1 d.2.2.1.1 d.2.2.1.2.1 d.2.2.1.2.2.1 d.2.2.1.2.2.2.1 d.2.2.1.2.2.2.2.1 d.2.2.2.2.1⟩
theorem awy(F:Nat):(ajd F).Eq aG (SY F).t.bu ((SY F).t.LE 56) (fz aG.P 56) 2 (ht aG.P 56 2):=⟨λ d=>by kernel_rfl,λ k da db=>by kernel_rfl⟩
noncomputable def SZ(F:Nat):aQ aG:=(SY F).gd 56 2 F (ajd F) (awy F)
def MS(F:Nat)(b:List Int)(c:Int)(d:Int)(e:Int)(f:Int)(g:List Int)(h:Int)(i:List ap)(j:List Int)(k:List (List I.Field))(l:List (List (List UInt8)))(m:List (List I.Target))(n:List Int):Option ((List Int×Unit)×Unit):=
 (B8 F F n 0 b c d e f g h i j k l m []).bind λ a=>
(B9 F F 0 a.snd.fst.fst a.snd.fst.snd.fst a.snd.fst.snd.snd.fst a.snd.fst.snd.snd.snd.fst a.snd.fst.snd.snd.snd.snd.fst a.snd.fst.snd.snd.snd.snd.snd.fst a.snd.fst.snd.snd.snd.snd.snd.snd.fst
 a.snd.snd.fst.fst a.snd.snd.fst.snd.fst a.snd.snd.fst.snd.snd.fst a.snd.snd.fst.snd.snd.snd.fst a.snd.snd.fst.snd.snd.snd.snd.fst a.snd.snd.snd.snd.fst).bind λ o=>
some (((o.snd.snd.snd.snd.fst),()),())
def aiI(F:Nat):ey bs:=⟨[.a [.l 3,.i .i64,.i .i64,.i .i64,.i .i64,.l 3,.i .i64],.a [.l 134,.l 3,.l 124,.l 120,.l 121],.p (.l 3)],[],[.p (.l 3)],[],λ d=>MS F d.1.1.1 d.1.1.2.1 d.1.1.2.2.1 d.1.1.2.2.2.1 d.1.1.2.2.2.2.1 d.1.1.2.2.2.2.2.1 d.1.1.2.2.2.2.2.2.1 d.1.2.1.1 d.1.2.1.2.1 d.1.2.1.2.2.1 d.1.2.1.2.2.2.1 d.1.2.1.2.2.2.2.1 d.1.2.2.1⟩
theorem awv(F:Nat):(aiI F).Eq aG (SZ F).t.bu (SZ F).t.LE 56:=λ da db=>by kernel_rfl
noncomputable def S0(F:Nat):aQ aG:=(SZ F).fn 56 (aiI F) (awv F)
def B5(F:Nat):Nat->(List Int)->(Int)->(Int)->(List Int)->(Int)->(Int)->(Int)->(Int)->(List Int)->(Int)->Option ((Int×Unit)×(List Int×Int×Int×Int×Int×List Int×Int×Unit)×Unit)
 |0,_,_,_,_,_,_,_,_,_,_=>none
 |aR+1,a,d,b,c,e,f,g,h,i,j=>
  cond (decide (b<(↑a.length:Int))) ((idx a b).bind λ k=>
(idx c (ax (k+1))).bind λ l=>
B5 F aR (a) (ax (d+ax (3+l))) (ax (b+1)) (c) (e) (f) (g) (h) (i) (j)) (
some (((d),()),(((c),((e),((f),((g),((h),((i),((j),()))))))),())))
def ajb(F:Nat):fB bs:=⟨[3,7,8,9],[.p (.B 0),.p (.l 3),.p (.i .i64),.p (.i .i64)],[.c 24 [.l 3,.i .i64,.i .i64,.i .i64,.i .i64,.l 3,.i .i64]],[⟨.nm,[8],[.p (.i .i64)],[.c 24 [.l 3,.i .i64,.i .i64,.i .i64,.i .i64,.l 3,.i .i64]]⟩],λ k d=>B5 F k d.1.2.1 d.1.2.2.1 d.1.2.2.2.1 d.2.1.1 d.2.1.2.1 d.2.1.2.2.1 d.2.1.2.2.2.1 d.2.1.2.2.2.2.1 d.2.1.2.2.2.2.2.1 d.2.1.2.2.2.2.2.2.1⟩
theorem awu(F:Nat):(ajb F).Eq aG (S0 F).t.bu ((S0 F).t.LE 23) (fz aG.P 23) 0 (ht aG.P 23 0):=⟨λ d=>by kernel_rfl,λ k da db=>by kernel_rfl⟩
noncomputable def S1(F:Nat):aQ aG:=(S0 F).gd 23 0 F (ajb F) (awu F)
def MR(F:Nat)(a:List Int)(b:Int)(eg:Int)(c:Int)(d:Int)(e:List Int)(f:Int)(g:List ap)(h:List Int)(i:List (List I.Field))(j:List (List (List UInt8)))(k:List (List I.Target))(l:List Int):Option ((Int×Unit)×Unit):=
 (MS F a b eg c d e f g h i j k l).bind λ m=>
(B5 F F m.fst.fst 0 0 a b eg c d e f).bind λ n=>
some (((n.fst.fst),()),())
def aiH(F:Nat):ey bs:=⟨[.a [.l 3,.i .i64,.i .i64,.i .i64,.i .i64,.l 3,.i .i64],.a [.l 134,.l 3,.l 124,.l 120,.l 121],.p (.l 3)],[],[.p (.i .i64)],[],λ d=>MR F d.1.1.1 d.1.1.2.1 d.1.1.2.2.1 d.1.1.2.2.2.1 d.1.1.2.2.2.2.1 d.1.1.2.2.2.2.2.1 d.1.1.2.2.2.2.2.2.1 d.1.2.1.1 d.1.2.1.2.1 d.1.2.1.2.2.1 d.1.2.1.2.2.2.1 d.1.2.1.2.2.2.2.1 d.1.2.2.1⟩
theorem awt(F:Nat):(aiH F).Eq aG (S1 F).t.bu (S1 F).t.LE 23:=λ da db=>by kernel_rfl
noncomputable def asv(F:Nat):aQ aG:=(S1 F).fn 23 (aiH F) (awt F)
end Go.Proofs.YteeliipnilghaaaGreat
namespace Go.Proofs.YteeliipnilghaaaGreat
open Go Go.RowKit ay I bc
set_option maxHeartbeats 4000000
set_option maxRecDepth 20000
theorem agr{o:Oper}{a:Act}{w:World}{x:Operand}{b:Nat}(c:o.op= .fieldAddr 24 x 1)(d:a.eval x= .pointer (some ⟨b,0,none⟩)):bh Tryz.prog o a w (.pointer (some ⟨b,1,none⟩)) w:=
 Ss (P:=Tryz.prog) (p:=0) (j:=1) Tryz.underlying24 (f:=_) (by rfl) Tryz.sizeOf3 rfl c d
theorem axC{o:Oper}{a:Act}{w:World}{x:Operand}{b:Nat}(c:o.op= .fieldAddr 24 x 2)(d:a.eval x= .pointer (some ⟨b,0,none⟩)):bh Tryz.prog o a w (.pointer (some ⟨b,2,none⟩)) w:=
 Ss (P:=Tryz.prog) (p:=0) (j:=2) Tryz.underlying24 (f:=_) (by rfl) Tryz.sizeOf3 rfl c d
def xE(Y O x:Int):Int:=cond (decide (Y<x)) x (ax (ax (x+Y)+O))
theorem auV{W:World}{gb gh:Nat}{Y O x:Int}(c:W.cell? ⟨gb,0,none⟩=some (.pointer (some ⟨gh,0,none⟩)))(J:W.cell? ⟨gh,1,none⟩=some (.int .i64 Y))(g:W.cell? ⟨gh,2,none⟩=some (.int .i64 O)) :
 Calls Tryz.prog 98 [.int .i64 x,.pointer (some ⟨gb,0,none⟩)].toArray W λ e w'=>e= .returned (.int .i64 (xE Y O x))/\(w'=W\/w'=W.drew):=by
 refine enter Tryz.func98 rfl Tryz.ntmps98 rfl λ a ad=>?_
 refine wp_seq_k λ K b8=>wp_region_list (fS wn (yg rfl rfl) ad rfl rfl λ a ad=>wpList_nil (b8 _ _ ?_))
 refine wp_seq_k λ K b8=>wp_seq_k λ h i=>wp_region_list (fS wn (vv rfl (ad.g rfl)) ad rfl rfl λ a ad=>fS wn (yh Tryz.isAgg67 rfl (ad.g rfl) c) ad rfl rfl λ a ad=>fS wn (Mq rfl (ad.g rfl)) ad rfl rfl λ a ad=>
  fS wn (agr rfl (ad.g rfl)) ad rfl rfl λ a ad=>fS wn (yh Tryz.isAgg3 rfl (ad.g rfl) J) ad rfl rfl λ a ad=>fS wn (apy rfl (ad.g rfl) (ad.g rfl)) ad rfl rfl λ a ad=>wpList_nil (i _ _ ?_))
 refine wp_cond_split (ad.g rfl) (λ ag=>?_) λ ag=>?_
 ·refine wp_seq_k λ d f=>wp_region_list (fS wn (vv rfl (ad.g rfl)) ad rfl rfl λ a ad=>fS wn (yg rfl (ad.g rfl)) ad rfl rfl λ a ad=>wpList_nil (f _ _ ?_))
  refine wp_ret ?_
  show bodyPost Tryz.prog Tryz.f98 (λ e w'=>e= .returned (.int .i64 (xE Y O x))/\(w'=W\/w'=W.drew)) .ret a W
  refine Av Tryz.results98 ad rfl ?_
  exact⟨by unfold xE;rw[ag];rfl,.inl rfl⟩
 ·refine wp_skip (b8 _ _ ?_)
  refine wp_seq_k λ d f=>wp_region_quiet (C:=λ w'=>w'=W.drew) (by kernel_rfl) (by kernel_rfl) rfl ?_
  refine q' wn (λ w b=>vv rfl (ad.g rfl)) ad rfl rfl λ a ad=>q' wn (λ w b=>yh Tryz.isAgg67 rfl (ad.g rfl) (by subst b;exact c)) ad rfl rfl λ a ad=>q' wn (λ w b=>Mq rfl (ad.g rfl)) ad rfl rfl λ a ad=>
   q' wn (λ w b=>agr rfl (ad.g rfl)) ad rfl rfl λ a ad=>q' wn (λ w b=>yh Tryz.isAgg3 rfl (ad.g rfl) (by subst b;exact J)) ad rfl rfl λ a ad=>q' wn (λ w b=>ac7 rfl (ad.g rfl) (ad.g rfl)) ad rfl rfl λ a ad=>
   q' wn (λ w b=>yh Tryz.isAgg67 rfl (ad.g rfl) (by subst b;exact c)) ad rfl rfl λ a ad=>q' wn (λ w b=>Mq rfl (ad.g rfl)) ad rfl rfl λ a ad=>
   q' wn (λ w b=>axC rfl (ad.g rfl)) ad rfl rfl λ a ad=>q' wn (λ w b=>yh Tryz.isAgg3 rfl (ad.g rfl) (by subst b;exact g)) ad rfl rfl λ a ad=>q' wn (λ w b=>ac7 rfl (ad.g rfl) (ad.g rfl)) ad rfl rfl λ a ad=>
   q' wn (λ w b=>yg rfl (ad.g rfl)) ad rfl rfl λ a ad=>?_
  show∀w',w'=W.drew->_
  intro w' b
  subst b
  refine f _ _ (wp_ret ?_)
  refine Av Tryz.results98 ad rfl ?_
  exact⟨by unfold xE;rw[ag];rfl,.inr rfl⟩
theorem aht:∀args w,(callFunc 98 args).run Tryz.prog w= .ok (.enter 98 args) w:=jV.call 98 (sw (by kernel_rfl))
theorem aeq{W:World}{gb gh:Nat}{Y O z:Int}(b:W.cell? ⟨gb,0,none⟩=some (.pointer (some ⟨gh,0,none⟩)))(J:W.cell? ⟨gh,1,none⟩=some (.int .i64 Y))(c:W.cell? ⟨gh,2,none⟩=some (.int .i64 O))(q:Nat) :
 Calls Tryz.prog 98 [.int .i64 z,.pointer (some ⟨gb,0,none⟩)].toArray (W.drewN q) λ e w'=>e= .returned (.int .i64 (xE Y O z))/\ ∃D0,w'=W.drewN D0:=by
 have d:(W.drewN q).cell? ⟨gb,0,none⟩=some (.pointer (some ⟨gh,0,none⟩)):=by rw[World.cell?_drewN];exact b
 have sc:(W.drewN q).cell? ⟨gh,1,none⟩=some (.int .i64 Y):=by rw[World.cell?_drewN];exact J
 have f:(W.drewN q).cell? ⟨gh,2,none⟩=some (.int .i64 O):=by rw[World.cell?_drewN];exact c
 have aL:(W.drewN q).drew=W.drewN (q+1):=rfl
 have h:=auV (x:=z) d sc f
 rw[aL]at h
 exact Calls.mono h λ e w' a=>⟨a.1,a.2.elim (λ e=>⟨q,e⟩) λ e=>⟨q+1,e⟩⟩
theorem auS{W:World}{gb gh:Nat}{Y O x y:Int}(c:W.cell? ⟨gb,0,none⟩=some (.pointer (some ⟨gh,0,none⟩)))(J:W.cell? ⟨gh,1,none⟩=some (.int .i64 Y))(d:W.cell? ⟨gh,2,none⟩=some (.int .i64 O)) :
 Calls Tryz.prog 97 [.int .i64 x,.int .i64 y,.pointer (some ⟨gb,0,none⟩)].toArray W λ e w'=>e= .returned (.int .i64 (ax (xE Y O x-xE Y O y)))/\ ∃q,w'=W.drewN q:=by
 refine enter Tryz.func97 rfl Tryz.ntmps97 rfl λ a ad=>?_
 refine wp_seq_k λ K b8=>wp_region_list (fS wn (yg rfl rfl) ad rfl rfl λ a ad=>wpList_nil (b8 _ _ ?_))
 refine wp_seq_k λ K b8=>wp_region_list (fS wn (apC (xs:=[.tmp 2]) (vs:=[.pointer (some ⟨gb,0,none⟩)]) rfl (by simp only[eB,iD];rw[show a.eval (.tmp 2)=_ from ad.g rfl])) ad rfl rfl λ a ad=>fS wn (yg rfl (ad.g rfl)) ad rfl rfl λ a ad=>wpList_nil (b8 _ _ ?_))
 refine wp_seq_k λ K b8=>wp_region_list (fS wn (vv rfl (ad.g rfl)) ad rfl rfl λ a ad=>fS wn (vv rfl (ad.g rfl)) ad rfl rfl λ a ad=>aaN (xs:=[.tmp 9]) (vs:=[.int .i64 x]) (cs:=[.pointer (some ⟨gb,0,none⟩)]) wn rfl aht (ad.g rfl) ⟨ad.g rfl,trivial⟩ (aeq (z:=x) c J d 0) ad rfl rfl λ e w' b=>?_)
 obtain⟨rfl,q,rfl⟩:=b
 refine⟨_,rfl,λ a ad=>fS wn (vv rfl (ad.g rfl)) ad rfl rfl λ a ad=>fS wn (vv rfl (ad.g rfl)) ad rfl rfl λ a ad=>aaN (xs:=[.tmp 12]) (vs:=[.int .i64 y]) (cs:=[.pointer (some ⟨gb,0,none⟩)]) wn rfl aht (ad.g rfl) ⟨ad.g rfl,trivial⟩ (aeq (z:=y) c J d q) ad rfl rfl λ e w' b=>?_⟩
 obtain⟨rfl,f,rfl⟩:=b
 refine⟨_,rfl,λ a ad=>fS wn (apH rfl (ad.g rfl) (ad.g rfl)) ad rfl rfl λ a ad=>fS wn (yg rfl (ad.g rfl)) ad rfl rfl λ a ad=>wpList_nil (b8 _ _ ?_)⟩
 refine wp_ret ?_
 refine Av Tryz.results97 ad rfl ?_
 exact⟨rfl,f,rfl⟩
end Go.Proofs.YteeliipnilghaaaGreat
namespace Go.Proofs.YteeliipnilghaaaGreat
open Go Go.Shelf
def amf:Ren:=⟨λ f=>match f with|6=>96 |15=>125 |14=>124 |28=>157 |29=>158 |20=>149 |21=>150 |22=>151 |23=>152 |24=>153 |25=>154 |26=>155 |27=>156 |46=>167 |47=>168 |48=>169 |49=>170 |50=>171 |57=>173 |f=>f,
 λ t=>match t with|22=>22 |24=>3 |25=>147 |3=>3 |39=>175 |0=>0 |53=>199 |55=>201 |4=>4 |46=>193 |45=>192 |50=>94 |5=>5 |9=>9 |66=>205 |70=>109 |76=>210 |77=>211 |t=>t,λ g=>g⟩
theorem ame:SlLaysF.n6 Tryz.prog amf:={
 mixed:=by kernel_rfl
 f6:=⟨Tryz.f96.name,by kernel_rfl,by kernel_rfl⟩
 f14:=⟨Tryz.f124.name,by kernel_rfl,by kernel_rfl⟩
 f15:=by kernel_rfl
 f20:=⟨Tryz.f149.name,by kernel_rfl,by kernel_rfl⟩
 f21:=⟨Tryz.f150.name,by kernel_rfl,by kernel_rfl⟩
 f22:=⟨Tryz.f151.name,by kernel_rfl,by kernel_rfl⟩
 f23:=⟨Tryz.f152.name,by kernel_rfl,by kernel_rfl⟩
 f24:=⟨Tryz.f153.name,by kernel_rfl,by kernel_rfl⟩
 f25:=⟨Tryz.f154.name,by kernel_rfl,by kernel_rfl⟩
 f26:=⟨Tryz.f155.name,by kernel_rfl,by kernel_rfl⟩
 f27:=⟨Tryz.f156.name,by kernel_rfl,by kernel_rfl⟩
 f28:=by kernel_rfl
 f29:=by kernel_rfl
 f46:=⟨Tryz.f167.name,by kernel_rfl,by kernel_rfl⟩
 f47:=by kernel_rfl
 f48:=by kernel_rfl
 f49:=⟨Tryz.f170.name,by kernel_rfl,by kernel_rfl⟩
 f50:=⟨Tryz.f171.name,by kernel_rfl,by kernel_rfl⟩
 f57:=⟨Tryz.f173.name,by kernel_rfl,by kernel_rfl⟩
 t0:=by kernel_rfl
 a0:=λ w=>by kernel_rfl
 z0:=λ w=>by kernel_rfl
 v0:=λ w=>by kernel_rfl
 t3:=by kernel_rfl
 a3:=λ w=>by kernel_rfl
 z3:=λ w=>by kernel_rfl
 v3:=λ w=>by kernel_rfl
 t4:=by kernel_rfl
 a4:=λ w=>by kernel_rfl
 z4:=λ w=>by kernel_rfl
 v4:=λ w=>by kernel_rfl
 t5:=by kernel_rfl
 a5:=λ w=>by kernel_rfl
 z5:=λ w=>by kernel_rfl
 v5:=λ w=>by kernel_rfl
 t9:=by kernel_rfl
 a9:=λ w=>by kernel_rfl
 z9:=λ w=>by kernel_rfl
 v9:=λ w=>by kernel_rfl
 t22:=by kernel_rfl
 a22:=λ w=>by kernel_rfl
 z22:=λ w=>by kernel_rfl
 v22:=λ w=>by kernel_rfl
 a24:=λ w=>by kernel_rfl
 z24:=λ w=>by kernel_rfl
 t25:=by kernel_rfl
 a25:=λ w=>by kernel_rfl
 z25:=λ w=>by kernel_rfl
 v25:=λ w=>by kernel_rfl
 t39:=by kernel_rfl
 a39:=λ w=>by kernel_rfl
 z39:=λ w=>by kernel_rfl
 v39:=λ w=>by kernel_rfl
 t45:=by kernel_rfl
 a45:=λ w=>by kernel_rfl
 z45:=λ w=>by kernel_rfl
 v45:=λ w=>by kernel_rfl
 t46:=by kernel_rfl
 a46:=λ w=>by kernel_rfl
 z46:=λ w=>by kernel_rfl
 v46:=λ w=>by kernel_rfl
 t50:=by kernel_rfl
 a50:=λ w=>by kernel_rfl
 z50:=λ w=>by kernel_rfl
 v50:=λ w=>by kernel_rfl
 t53:=by kernel_rfl
 a53:=λ w=>by kernel_rfl
 z53:=λ w=>by kernel_rfl
 v53:=λ w=>by kernel_rfl
 t55:=by kernel_rfl
 a55:=λ w=>by kernel_rfl
 z55:=λ w=>by kernel_rfl
 v55:=λ w=>by kernel_rfl
 t66:=by kernel_rfl
 a66:=λ w=>by kernel_rfl
 z66:=λ w=>by kernel_rfl
 v66:=λ w=>by kernel_rfl
 t70:=by kernel_rfl
 a70:=λ w=>by kernel_rfl
 z70:=λ w=>by kernel_rfl
 v70:=λ w=>by kernel_rfl
 t76:=by kernel_rfl
 a76:=λ w=>by kernel_rfl
 z76:=λ w=>by kernel_rfl
 v76:=λ w=>by kernel_rfl
 t77:=by kernel_rfl
 a77:=λ w=>by kernel_rfl
 z77:=λ w=>by kernel_rfl
 v77:=λ w=>by kernel_rfl }
end Go.Proofs.YteeliipnilghaaaGreat
namespace Go.Proofs.YteeliipnilghaaaGreat
open Go Go.RowKit ay I bc Go.Sort Go.Proofs
def fa(Y O x:Int):Int:=if Y<x then x else x+Y+O
def k2(Y O:Int)(x y:Int):Bool:=decide (fa Y O x<=fa Y O y)
def k6(Y O:Int)(l:List Int):List Int:=l.mergeSort (k2 Y O)
abbrev E6(Y O:Int):Type:={ x:Int // 1<=x/\x<=Y+O }
def pn(Y O:Int)(x y:E6 Y O):Int:=fa Y O x.1-fa Y O y.1
def wa{Y O:Int}(x:E6 Y O):Value:=.int .i64 x.1
theorem akf{Y O x:Int}(a:0<=Y/\Y<=100000)(b:0<=O/\O<=100000)(c:1<=x/\x<=Y+O):xE Y O x=fa Y O x:=by
 unfold xE fa;by_cases h:Y<x
 ·rw[decide_eq_true h,if_pos h];rfl
 ·rw[decide_eq_false h,if_neg h,cond_false]
  unfold ax
  omega
theorem aJg(Y O:Int):SWO (ltOf (pn Y O)) where
 irrefl x:=by simp[ltOf,pn]
 trans x y z a J:=by
  have a:fa Y O x.1-fa Y O y.1<0:=of_decide_eq_true a;have J:fa Y O y.1-fa Y O z.1<0:=of_decide_eq_true J;exact decide_eq_true (show fa Y O x.1-fa Y O z.1<0 by omega)
 ntrans x y z a J:=by
  have a: ¬fa Y O x.1-fa Y O y.1<0:=of_decide_eq_false a;have J: ¬fa Y O y.1-fa Y O z.1<0:=of_decide_eq_false J;exact decide_eq_false (show¬fa Y O x.1-fa Y O z.1<0 by omega)
theorem aJv{Y O:Int}(b:0<=Y)(c:0<=O)(x y:E6 Y O)(a:ltOf (pn Y O) x y=false)(J:ltOf (pn Y O) y x=false):x=y:=by
 obtain⟨x,d⟩:=x;obtain⟨y,hy⟩:=y;simp only[ltOf,pn,decide_eq_false_iff_not,fa]at a J;apply Subtype.ext;show x=y
 split at a<;>split at a<;>simp_all<;>omega
theorem aI9{Y O:Int}(l:List (E6 Y O)):(l.mergeSort λ x y=>!(ltOf (pn Y O)) y x).map Subtype.val=k6 Y O (l.map Subtype.val):=by
 unfold k6;refine List.map_mergeSort λ a _ b _=>?_;unfold ltOf pn k2;by_cases h:fa Y O a.1<=fa Y O b.1
 ·rw[decide_eq_true h,decide_eq_false (by omega)];rfl
 ·rw[decide_eq_false h,decide_eq_true (by omega)];rfl
theorem QR{α:Type} [Inhabited α]{enc:α->Value}{w:World}{ck off m:Nat}{dk:Array α}{os:Array Obj}{k:Nat}(a:k≠ck)(b:k<w.heap.size):(sortWorld enc w ck off m dk os).heap[k]? =w.heap[k]? :=by
 unfold sortWorld grow putRow mapBlock Sort.ahead;simp only;rw[Array.getElem?_append_left (by simpa using b),ke,if_neg (λ e=>a e.symm)]
theorem aJf{α:Type} [Inhabited α]{enc:α->Value}{w:World}{ck m:Nat}{dk:Array α}{os:Array Obj}{cur:Array Value}{e:TypeId}(h:w.heap[ck]? =some (.cells cur e (0,0))):(sortWorld enc w ck 0 m dk os).heap[ck]? =some (.cells (putCells enc 0 dk cur) e (0,0)):=by
 have a:ck<w.heap.size:=by
  rcases gL ck w.heap.size with h1 |h1
  ·exact h1
  ·rw[ib h1]at h;cases h
 unfold sortWorld grow putRow mapBlock Sort.ahead;simp only;rw[Array.getElem?_append_left (by simpa using a),ke,if_pos rfl,h];rfl
theorem cell_of{w:World}{ck k:Nat}{cur:Array Value}{e:TypeId}(h:w.heap[ck]? =some (.cells cur e (0,0))):w.cell? ⟨ck,k,none⟩=cur[k]? /\w.frozen? ⟨ck,k,none⟩=false:=by
 constructor
 ·simp[World.cell?,h]
 ·simp[World.frozen?,h]
theorem TM{w w':World}{b o:Nat}{v:Value}(h:w'.heap[b]? =w.heap[b]?)(hc:w.cell? ⟨b,o,none⟩=some v):w'.cell? ⟨b,o,none⟩=some v:=by
 unfold World.cell? at hc⊢;rw[h];exact hc
theorem Any.aI7{P:Program}{ρ:Go.Shelf.Ren}{α:Type} [Inhabited α](L:SlLaysF.n6 P ρ)(enc:α->Value)(h:OneCell enc)(a:α->α->Int)(f:SWO (ltOf a))(g:Nat)(c:Array Value)(ck off cap:Nat)(d:Array α)(w:World)
 (Np:∀args w,(callFunc g args).run P w= .ok (.enter g args) w)(i:CmpLays1 P g c enc a ck off d.size w)(j:Holds enc w ck off d)(b:ck<w.heap.size)(k:d.size<4611686018427387904)(l:∀x y,(ltOf a) x y=false->(ltOf a) y x=false->x=y) :
 Calls P (ρ.f 6) #[.slice (some ⟨ck,off,none⟩) d.size cap,.func (.func g) #[] c] w λ e w'=>
  e= .returned (.tuple #[])/\ ∃n os,w'=sortWorld enc w ck off n (d.toList.mergeSort λ x y=>!(ltOf a) y x).toArray os:=
 (Any.slices_SortFunc L enc h a f g c ck off cap d w Np i j b k).mono λ _ _ ⟨m,d',n,os,o,aj,p⟩=>
  ⟨m,n,os,by rw[p,<-sorted_unique_holds f l d d' o aj]⟩
set_option maxHeartbeats 1000000
theorem aJb{W:World}{gb gh ck cap:Nat}{Y O:Int}(p:0<=Y/\Y<=100000)(r:0<=O/\O<=100000){L:List Int}(B:∀x∈L,1<=x/\x<=Y+O)(E:L≠[])(a:L.length<4611686018427387904)
 (h1:W.cell? ⟨gb,0,none⟩=some (.pointer (some ⟨gh,0,none⟩)))(J:W.cell? ⟨gh,1,none⟩=some (.int .i64 Y))(C:W.cell? ⟨gh,2,none⟩=some (.int .i64 O))(ag:gb≠ck)(D:gh≠ck)
 {cur:Array Value}(f:W.heap[ck]? =some (.cells cur 3 (0,0)))(g:cur.toList.take L.length=L.map (Value.int .i64)) :
 Calls Tryz.prog 96 [.slice (some ⟨ck,0,none⟩) L.length cap,.func (.func 97) #[] #[.pointer (some ⟨gb,0,none⟩)]].toArray W λ e w'=>e= .returned (.tuple #[])/\br [ck] W w'/\ ∃s:Array Value,w'.heap[ck]? =some (.cells s 3 (0,0))/\s.size=cur.size/\s.toList.take L.length=(k6 Y O L).map (Value.int .i64):=by
 obtain⟨i,L',rfl⟩:=List.exists_cons_of_ne_nil E
 haveI:Inhabited (E6 Y O):=⟨⟨i,B i (by simp)⟩⟩
 obtain⟨d,aL⟩:∃d:List (E6 Y O),d.map Subtype.val=i::L':=⟨(i::L').attachWith _ B,by simp⟩
 rw[<-aL]at g a⊢
 rw[gC]at g a⊢
 have t:∀ {k:Nat}{o:Obj},W.heap[k]? =some o->k<W.heap.size:=λ{k o} h=>by
  rcases gL k W.heap.size with h1 |h1
  ·exact h1
  ·rw[ib h1]at h;cases h
 have u:∀ {b o:Nat}{v:Value},W.cell? ⟨b,o,none⟩=some v->b<W.heap.size:=λ{b o v} h=>World.block_lt_of_cell? W ⟨b,o,none⟩ h
 have w:∀j (aA:j<d.length),cur[j]? =some (wa d[j]):=λ j aA=>by
  have:=congrArg (λ l=>l[j]?) g;simp only[hG,if_pos aA,jw,aK aA,fU,hT]at this;exact this
 have F:Holds (wa (Y:=Y) (O:=O)) W ck 0 d.toArray:=λ j aA=>by
  have aA:j<d.length:=by simpa using aA
  have:=cell_of (k:=j) f;rw[jM,this.1,w j aA];refine⟨?_,this.2⟩;rw[getElem!_pos d.toArray j (by simpa using aA)];simp
 have G:CmpLays1 Tryz.prog 97 #[.pointer (some ⟨gb,0,none⟩)] (wa (Y:=Y) (O:=O)) (pn Y O) ck 0 d.toArray.size W:=λ m os dk _ x y=>by
  have H:=TM (QR (enc:=wa (Y:=Y) (O:=O)) (off:=0) (m:=m) (dk:=dk) (os:=os) ag (u h1)) h1;have ao:=TM (QR (enc:=wa (Y:=Y) (O:=O)) (off:=0) (m:=m) (dk:=dk) (os:=os) D (u J)) J;have aT:=TM (QR (enc:=wa (Y:=Y) (O:=O)) (off:=0) (m:=m) (dk:=dk) (os:=os) D (u C)) C;refine Calls.mono (auS (x:=x.1) (y:=y.1) H ao aT) λ e w' f=>⟨?_,?_⟩
  ·rw[f.1,akf p r x.2,akf p r y.2]
   have P:=x.2;have hy:=y.2
   have:ax (fa Y O x.1-fa Y O y.1)=pn Y O x y:=by
    unfold pn ax fa;split<;>split<;>omega
   rw[this]
  ·obtain⟨q,I⟩:=f.2
   exact⟨q,#[],by rw[I,grow_empty]⟩
 have z:=Any.aI7 ame (wa (Y:=Y) (O:=O)) (λ _=>rfl) (pn Y O) (aJg Y O) 97 #[.pointer (some ⟨gb,0,none⟩)] ck 0 cap d.toArray W (jV.call 97 (sw (by kernel_rfl))) G F (t f) (by simpa using a) (aJv p.1 r.1)
 refine Calls.mono (show Calls Tryz.prog 96 _ W _ from z) λ e w' c=>?_
 obtain⟨K,n,os,c⟩:=c
 obtain⟨S,A⟩:∃S,S=d.toArray.toList.mergeSort λ x y=>!(ltOf (pn Y O)) y x:=⟨_,rfl⟩
 rw[<-A]at c
 have Q:S.length=d.length:=by rw[A,nd]
 refine⟨K,⟨by rw[c];rfl,by rw[c];rfl,by rw[c];rfl,?_,λ k M N=>by rw[c];exact QR (by simpa using N) M⟩,putCells wa 0 S.toArray cur,by rw[c];exact aJf f,by simp[putCells],?_⟩
 ·rw[c]
  unfold sortWorld grow putRow mapBlock Sort.ahead
  simp
 ·rw[<-aI9,nr]
  have hcs:d.length<=cur.size:=by
   have:=congrArg jb g;simp at this;omega
  rw[show(d.mergeSort λ x y=>!(ltOf (pn Y O)) y x)=S from A.symm]
  refine lu λ j=>?_
  rw[hG]
  by_cases aA:j<d.length
  ·rw[if_pos aA,jw,aK (by omega:j<S.length),hT]
   unfold putCells
   rw[Array.getElem?_mapIdx,jJ (by omega)]
   simp only[fU]
   rw[if_pos ⟨gT _,by simp;omega⟩,Nat.sub_zero,getElem!_pos S.toArray j (by simp;omega)]
   simp[wa]
  ·rw[if_neg aA,jw,gE (by omega)]
   rfl
end Go.Proofs.YteeliipnilghaaaGreat
namespace Go.Proofs.YteeliipnilghaaaGreat
open Go Go.RowKit ay I bc
@[reducible] def O3:List cN:=[.p (.P 5 1),.p (.B 0),.p (.B 1),.p (.B 2),.p (.R 6)]
@[reducible] def Kg:List cN:=[.p (.P 5 1),.p (.B 0),.p (.B 1),.p (.R 6)]
@[reducible] def mi:List bK:=[.c 67 [.B 3],.c 69 [.l 134,.l 3,.l 124,.l 120,.l 121],.c 140 [.B 3,.l 134,.l 3,.l 124,.l 120,.l 121,.M 4],.c 24 [.l 3,.i .i64,.i .i64,.i .i64,.i .i64,.l 3,.i .i64],.m 3 4,.r 3 true,.r 3 false]
noncomputable def sx:Code×Code:=((DY Tryz.prog 63 0).getD (.skip,.skip))
noncomputable def fI:yC:=(GX sx.1 sx.2).getD ⟨0,#[],0,0,0,0,0,default,default,default,default,default,0,#[],0,#[]⟩
theorem aBU:DY Tryz.prog 63 0=some sx:=by kernel_rfl
theorem aBV:GX sx.1 sx.2=some fI:=by kernel_rfl
def Dp(Y O:Int)(a b:List Int):Option (List Int):=match decide (0<=Y)&&decide (Y<=100000)&&decide (0<=O)&&decide (O<=100000)&&decide (a.length<=200000)&&b.isEmpty&&a.all (λ x=>decide (1<=x)&&decide (x<=Y+O))with
 |true=>some (k6 Y O a)
 |false=>none
theorem aBX{Y O:Int}{a b S:List Int}(h:Dp Y O a b=some S):(0<=Y/\Y<=100000)/\(0<=O/\O<=100000)/\a.length<=200000/\b=[]/\(∀x∈a,1<=x/\x<=Y+O)/\S=k6 Y O a:=by
 unfold Dp at h;split at h
 ·rename_i ag
  simp only[cb,decide_eq_true_eq,k_,List.isEmpty_iff]at ag
  obtain⟨⟨⟨⟨⟨⟨c,J⟩,d⟩,e⟩,f⟩,g⟩,i⟩:=ag
  exact⟨⟨c,J⟩,⟨d,e⟩,f,g,i,(eJ h).symm⟩
 ·cases h
def Kf(d:dv bs.El O3×cK bs.El mi):Option (yq bs.El ⟨.nm,[2,3,4,8],Kg,mi⟩):=
 (Dp d.2.2.2.2.1.2.1 d.2.2.2.2.1.2.2.1 (List.map (α:=Int×Bool) lz d.2.2.2.2.2.1) d.2.2.2.2.2.2.2.1).map λ S=>((d.1.1,(),(),(),()),(d.2.1,d.2.2.1,d.2.2.2.1,d.2.2.2.2.1,d.2.2.2.2.2.1,d.2.2.2.2.2.2.1,S,()))
theorem aB5:fI.ih.op= .next (.tmp 36) false/\fI.ih.dst=some 37/\fI.ih.guard=none:=by refine⟨?_,?_,?_⟩<;>kernel_rfl
theorem aB2:fI.mr.op= .extract (.tmp 37) 0/\fI.mr.dst=some 38/\fI.mr.guard=none:=by refine⟨?_,?_,?_⟩<;>kernel_rfl
theorem aB3:fI.lM.op= .entry (.tmp 36)/\fI.lM.dst=some 39/\fI.lM.guard=none:=by refine⟨?_,?_,?_⟩<;>kernel_rfl
theorem aB4:fI.kF.op= .extract (.tmp 39) 0/\fI.kF.dst=some 40/\fI.kF.guard=none:=by refine⟨?_,?_,?_⟩<;>kernel_rfl
theorem aB6:fI.ms.op= .assign (.tmp 40)/\fI.ms.dst=some 9/\fI.ms.guard=none:=by refine⟨?_,?_,?_⟩<;>kernel_rfl
noncomputable def aB9:List Oper:=fI.ops.toList.take 4
noncomputable def Kh:Oper:=(fI.ops.toList.drop 4).headD fI.ih
theorem aB7:fI.ops.toList=aB9++[Kh]:=by kernel_rfl
theorem XM:Kh.op= .range 70 (.tmp 35)/\Kh.dst=some 36/\Kh.guard=none:=by refine⟨?_,?_,?_⟩<;>kernel_rfl
noncomputable def O0:Oper:=fI.xL.toList.headD fI.ih
noncomputable def O1:Oper:=(fI.xL.toList.drop 1).headD fI.ih
noncomputable def O2:Oper:=(fI.xL.toList.drop 2).headD fI.ih
theorem aB_:fI.xL.toList=[O0,O1,O2]:=by kernel_rfl
theorem aiE:O0.op= .move (.tmp 8)/\O0.dst=some 45:=by refine⟨?_,?_⟩<;>kernel_rfl
theorem aiF:O1.op= .makeFunc (.func 97) #[] #[.tmp 3]/\O1.dst=some 46:=by refine⟨?_,?_⟩<;>kernel_rfl
theorem aiG:O2.op= .call { callee:=.value (.func 96),args:=[.tmp 45,.tmp 46].toArray,argTypes:=#[22,147] }/\O2.dst=some 47:=by refine⟨?_,?_⟩<;>kernel_rfl
theorem aHG{F:Nat->Prop}{w:World}{cs:List Value}{d:Int}(h:(bs.ty 3).rd F w cs d):cs=[.int .i64 d]:=by
 change fh (λ t=>(fM FI t).ty) F w [.i .i64] _ (d,())at h;obtain⟨u,us,rfl,rfl,rfl⟩:=h;rfl
theorem aHH{F:Nat->Prop}{w:World}(d:Int):(bs.ty 3).rd F w [.int .i64 d] d:=by
 change fh (λ t=>(fM FI t).ty) F w [.i .i64] _ (d,());exact⟨_,_,rfl,rfl,rfl⟩
theorem aar{F:Nat->Prop}{w:World}:∀ {l:List (bs.El 3)}{xs:List Value},dM (bs.ty 3) F w xs l->xs=List.map (α:=Int) (Value.int .i64) l
 |[],xs,h=>h
 |d::r,xs,h=>by
  obtain⟨cs,ys,rfl,a,J⟩:=h;rw[aHG a,aar J];rfl
theorem aas{F:Nat->Prop}{w:World}:∀(l:List (bs.El 3)),dM (bs.ty 3) F w (List.map (α:=Int) (Value.int .i64) l) l
 |[]=>rfl
 |d::r=>⟨[.int .i64 d],_,rfl,aHH d,aas r⟩
theorem aI8{Y O:Int}(m:0<=Y)(n:0<=O){l l':List Int}(g:l.Perm l')(h:∀x∈l,1<=x/\x<=Y+O):k6 Y O l=k6 Y O l':=by
 unfold k6;have i:∀a b c:Int,k2 Y O a b=true->k2 Y O b c=true->k2 Y O a c=true:=λ a b c d J=>by
  simp only[k2,decide_eq_true_eq]at *;omega
 have j:∀a b:Int,(k2 Y O a b||k2 Y O b a)=true:=λ a b=>by
  simp only[k2,ia,decide_eq_true_eq];omega
 refine List.Perm.eq_of_pairwise (le:=λ a b=>k2 Y O a b=true) (λ a b k ag d J=>?_) (mD i j l) (mD i j l') (((lx l _).trans g).trans (lx l' _).symm);have k:=h a ((lx l _).mem_iff.1 k);have ag:=h b (g.mem_iff.2 ((lx l' _).mem_iff.1 ag));have d:fa Y O a<=fa Y O b:=of_decide_eq_true d;have J:fa Y O b<=fa Y O a:=of_decide_eq_true J;unfold fa at d J;by_cases e:Y<a<;>by_cases f:Y<b
 ·rw[if_pos e,if_pos f]at d J;omega
 ·rw[if_pos e,if_neg f]at d;omega
 ·rw[if_neg e,if_pos f]at d J;omega
 ·rw[if_neg e,if_neg f]at d J;omega
theorem aJa(p:Option Addr)(cap:Nat)(a:Value)(w:World):Calls Tryz.prog 96 #[.slice p 0 cap,a] w λ e w'=>e= .returned (.tuple #[])/\w'=w:=
 Go.Proofs.AnyF.slices_SortFunc_none (ρ:=amf) { ame with } p cap a w
theorem azb:∀args w,(callFunc 96 args).run Tryz.prog w= .ok (.enter 96 args) w:=jV.call 96 (sw (by kernel_rfl))
end Go.Proofs.YteeliipnilghaaaGreat
namespace Go.Proofs.YteeliipnilghaaaGreat
open Go Go.RowKit ay I bc
theorem aBZ:O0.guard=none:=by kernel_rfl
theorem aB0:O1.guard=none:=by kernel_rfl
theorem aB1:O2.guard=none:=by kernel_rfl
theorem ajr:∀ {fr:List (Nat×Value)}{t:Nat}{y:Value},ev fr t=some y->(t,y)∈fr
 |[],t,y,h=>by simp[ev]at h
 |p::r,t,y,h=>by
  unfold ev at h;split at h
  ·rename_i ag
   simp only[aH]at h
   have:=bd ag
   subst this;subst h
   exact il
  ·exact dZ _ (ajr h)
def XK(t:b9 bs.El):Option (Nat×List Value):=match gl t,cG t.s.f.fr 35 with
 |true,some (.m j)=>(wl t.s.f [2,3,4,8]).map λ vs=>(j,vs)
 |_,_=>none
theorem aiD{t:b9 bs.El}{j:Nat}{vs:List Value}(h:XK t=some (j,vs)):gl t=true/\cG t.s.f.fr 35=some (.m j)/\wl t.s.f [2,3,4,8]=some vs:=by
 unfold XK at h;split at h
 ·rename_i b J
  obtain⟨us,c,a⟩:=cz.1 h
  simp only[cF]at a
  obtain⟨rfl,rfl⟩:=a
  exact⟨b,J,c⟩
 ·cases h
def gm{T:bT}(t:b9 T.El):Bool:=match t.x with
 | .nm=>true
 |_=>false
theorem aBE{T:bT}{t:b9 T.El}(h:gm t=true):t.x= .nm:=by
 unfold gm at h;split at h
 ·rename_i e;exact e
 ·cases h
def OZ(t:b9 bs.El):Option ((Nat×Nat)×(Nat× Σ u,List (bs.El u))×List Nat×List Value):=match gm t,cG t.s.f.fr 8,bc.rowAt t.s.bl 6 with
 |true,some (.r i g),some p=>(wl t.s.f [2,3,4,36]).map λ vs=>((i,g),p,t.s.ws,vs)
 |_,_,_=>none
theorem aBY{t:b9 bs.El}{i g:Nat}{p:Nat× Σ u,List (bs.El u)}{ws:List Nat}{vs:List Value}(h:OZ t=some ((i,g),p,ws,vs)):t.x= .nm/\cG t.s.f.fr 8=some (.r i g)/\bc.rowAt t.s.bl 6=some p/\t.s.ws=ws/\wl t.s.f [2,3,4,36]=some vs:=by
 unfold OZ at h;split at h
 ·rename_i b J c
  obtain⟨us,d,a⟩:=cz.1 h
  simp only[cF]at a
  obtain⟨⟨rfl,rfl⟩,rfl,rfl,rfl⟩:=a
  exact⟨aBE b,J,c,rfl,d⟩
 ·cases h
theorem ay2{ck n c:Nat}(h:0<c):bc.ag (.slice (some ⟨ck,0,none⟩) n c)=[ck]:=by
 cases c with
 |zero=>omega
 |succ c=>rfl
theorem aI_{W:World}{gb gh cap:Nat}{A:Option Addr}{Y O:Int}(j:0<=Y/\Y<=100000)(k:0<=O/\O<=100000){L:List Int}(l:∀x∈L,1<=x/\x<=Y+O)(b:L.length<4611686018427387904)
 (m:W.cell? ⟨gb,0,none⟩=some (.pointer (some ⟨gh,0,none⟩)))(J:W.cell? ⟨gh,1,none⟩=some (.int .i64 Y))(n:W.cell? ⟨gh,2,none⟩=some (.int .i64 O))
 (c:rowIs W 3 (bs.ty 3).size (.slice A L.length cap) L.length (L.map (Value.int .i64)))(ag:gb∉bc.ag (.slice A L.length cap))(g:gh∉bc.ag (.slice A L.length cap)) :
 Calls Tryz.prog 96 [.slice A L.length cap,.func (.func 97) #[] #[.pointer (some ⟨gb,0,none⟩)]].toArray W λ e w'=>e= .returned (.tuple #[])/\br (bc.ag (.slice A L.length cap)) W w'/\rowIs w' 3 (bs.ty 3).size (.slice A L.length cap) L.length ((k6 Y O L).map (Value.int .i64)):=by
 have o:(bs.ty 3).size=1:=rfl
 rw[o]at c⊢
 by_cases d:L=[]
 ·subst d
  refine Calls.mono (aJa A cap _ W) λ e w' a=>?_
  obtain⟨f,a⟩:=a
  refine⟨f,a▸br.refl _ _,?_⟩
  rw[a,show k6 Y O []=[] from by simp[k6]]
  exact c
 ·have p:0<L.length:=l8.2 d
  obtain⟨w,wN⟩:=c.own p
  rcases wN with⟨_,e⟩|⟨ck,q,cur,h,ao,aT,bQ,dw,eR,i⟩
  ·omega
  ·simp only[Value.slice.injEq,true_and]at h
   obtain⟨rfl,rfl⟩:=h
   rw[ay2 (by omega)]at ag g⊢
   rw[j3]at i
   refine Calls.mono (aJb j k l d b m J n (by simpa using ag) (by simpa using g) aT i) λ e w' a=>?_
   obtain⟨f,r,s,t,u,v⟩:=a
   refine⟨f,r,.inl ⟨?_,.inr ⟨ck,cap,s,rfl,ao,t,bQ,dw,u.trans eR,by rw[j3];exact v⟩⟩⟩
   rw[gC,k6,nd,j3]
theorem Lb{T:bT}{F:Nat->Prop}{w:World}{ρ:List Value}{bl:List (aF T.El)}{y:aI T.El}{r:List (aI T.El)}{v:Value}{vs:List Value}(h:a8 T F w ρ bl (y::r) (v::vs)):aw T F w ρ bl y v/\a8 T F w ρ bl r vs:=by
 simp only[a8]at h;obtain⟨u,us,e,a,J⟩:=h;simp only[h3]at e;obtain⟨rfl,rfl⟩:=e;exact⟨a,J⟩
theorem QB{T:bT}{F:Nat->Prop}{w:World}{ρ:List Value}{bl:List (aF T.El)}{y:aI T.El}{r:List (aI T.El)}{vs:List Value}(h:a8 T F w ρ bl (y::r) vs):∃u us,vs=u::us/\aw T F w ρ bl y u/\a8 T F w ρ bl r us:=by
 simpa only[a8]using h
set_option maxRecDepth 100000
set_option maxHeartbeats 4000000
theorem aCe:adK aG ⟨165,[]⟩ [2,3,4,7,8] O3 mi ⟨.nm,[2,3,4,8],Kg,mi⟩ Kf sx.1 sx.2:=by
 intro da db e2 fy W M0 X ρ a w cO sl df rest Q k;obtain⟨aa,av⟩:=akx aBV;rw[aa,av];obtain⟨(ef:List Int),LH,Q2,aO4,u8,aO9⟩:=da;obtain⟨E,G,j,⟨(n1:List Int),(Y:Int),(O:Int),tS⟩,(I:List (Int×Bool)),(rc:List Int),(fg:List Int),v'⟩:=db;obtain⟨(S:List Int),dN,H⟩:=cz.1 fy;obtain⟨iP,hO,M,W0,JM,V6⟩:=aBX (show Dp Y O (I.map lz) fg=some S from dN);subst W0;subst H;obtain⟨p,u⟩:=df;have u:a8 bs _ w ρ _ [.pp 5 0 1 ef,.b 0 0,.b 1 0,.b 2 0,.r 6 0] [a.tmps.getD 2 undef,a.tmps.getD 3 undef,a.tmps.getD 4 undef,a.tmps.getD 7 undef,a.tmps.getD 8 undef]:=u;obtain⟨J,u⟩:=Lb u;obtain⟨aq,u⟩:=Lb u;obtain⟨a_,u⟩:=Lb u;obtain⟨hx,u⟩:=Lb u;obtain⟨l9,u⟩:=Lb u;obtain⟨sn,bQ⟩:=p.sA (i:=4) (B:=.m 3 4 I) rfl;obtain⟨bm,CQ,S7,V5,es,clock,ur,Jw,WZ,FY⟩:=p.ok 4 (.m 3 4 I) _ rfl bQ;subst CQ;obtain rfl:S7=(uC:h8 (aG.T.El 3)):=by
  have VY:(aG.T.e 3).key=some (uC:h8 (aG.T.El 3)):=by kernel_rfl
  exact eJ (V5.symm.trans VY)
 have JK:=Ua Jw;have ix:(es.toList.map (·.born)).Nodup:=lJ.2 (WZ.imp λ h=>Nat.ne_of_lt h);obtain⟨C,eR⟩:=p.sA (i:=6) (B:=.r 3 0 0 ([]:List (bs.El 3))) rfl;obtain⟨nW,eK,aPj,On,aAC,aAx⟩:=p.aaG (i:=6) (t:=3) (g:=0) (k:=0) (l0:=([]:List (bs.El 3))) rfl eR;have aJM:a.tmps.getD 8 undef=C:=by
  simp only[aw]at l9;obtain⟨_,h',bq,_,bU⟩:=l9;rw[eR]at bq;cases bq;exact bU rfl
 have YY:∀q∈bc.ag C,q<w.heap.size:=λ q b=>(p.lt q ⟨6,_,_,rfl,eR,b⟩).1;have H:∀ {k:Nat}{o:Obj}{w:World},w.heap[k]? =some o->k<w.heap.size:=λ{k o w} h=>by
  rcases gL k w.heap.size with h1 |h1
  ·exact h1
  ·rw[ib h1]at h;cases h
 have ay3:bm∉bc.ag C:=p.bC 4 6 _ _ _ _ rfl bQ rfl eR (by decide) bm (dT.2 rfl);refine wp_seq (wp_seq (wp_region_list ?_));rw[aB7];refine Qp (n:=⟨165,[]⟩) (K:=XK) (z:=(4,[a.tmps.getD 2 undef,a.tmps.getD 3 undef,a.tmps.getD 4 undef,a.tmps.getD 8 undef])) jV rfl p cO sl (fr:=[(7,.b 2 0),(2,.p (a.tmps.getD 2 undef)),(3,.p (a.tmps.getD 3 undef)),(4,.p (a.tmps.getD 4 undef)),(8,.p (a.tmps.getD 8 undef))]) (λ t y hy=>?_) (by kernel_rfl) (λ t h=>OU (aiD h).1) λ t eG cq L V3 ei sh jW=>?_
 ·have:=Kt hy
  simp only[cI,cF,iH,or_false]at this
  rcases this with⟨rfl,rfl⟩|⟨rfl,rfl⟩|⟨rfl,rfl⟩|⟨rfl,rfl⟩|⟨rfl,rfl⟩
  ·exact hx
  ·simp only[aw]
  ·simp only[aw]
  ·simp only[aw]
  ·simp only[aw]
 obtain⟨bq,bA,bU⟩:=aiD V3;have N:=N4 ei.d_.er bU;simp only[eB,iD,h3,and_true]at N;obtain⟨g2,g3,g4,g8⟩:=N;have f35:=ei.d_.er.get 35 _ bA;simp only[aw]at f35;obtain⟨auo,c8,eO⟩:=f35;obtain⟨mB,bn,bi,_⟩:=sh.L.at_ 4 _ bQ;have bi:=bi (by simp[kZ]);rw[bn,bi]at c8;cases c8;have wK:L.heap[bm]? =some (.map es clock):=(jW.block bm (H ur) (by simp)).trans ur;have aw9:cq.eval (.tmp 35)= .map (some bm):=eO;obtain⟨r,fN⟩:∃r,r=L.heap.size:=⟨_,rfl⟩
 have aOC:w.heap.size<=r:=by rw[fN];exact jW.size
 have cJ:bh aG.P Kh cq L (.pointer (some ⟨r,0,none⟩)) (L.alloc (.mapIter (some bm) clock #[] clock)):=by
  rw[fN];simp only[bh,execOp,XM.1,aw9];rw[Sem.run_bind,run_range_map (P:=aG.P) L 70 3 4 bm es clock Tryz.underlying70 wK];rfl
 refine e3 XM.2.2 cJ ?_;rw[XM.2.1];refine wpList_nil ?_;obtain⟨c0,kV⟩:∃c0,c0=L.alloc (.mapIter (some bm) clock #[] clock):=⟨_,rfl⟩
 rw[<-kV];have FV:br [] L c0:=by rw[kV];exact br.alloc [] L _
 have J6:c0.heap[r]? =some (.mapIter (some bm) clock #[] clock):=by rw[kV,fN];exact heap_alloc_new L _
 have ky:r<c0.heap.size:=H J6;have Iu:cq.tmps.size=165:=ei.d_.er.size;have Ts:cq.defers=[]:=ei.d_.er.defers
 refine aiy (n:=165) (r:=r) (bm:=bm) (since:=clock) (clock:=clock) (ti:=36) (tn:=37) (tok:=38) (te:=39) (tk:=40) (tv:=9) (es:=es)
  (λ acc T w'=>T.tmps.size=165/\T.defers=[]/\T.tmps.getD 2 undef=a.tmps.getD 2 undef/\T.tmps.getD 3 undef=a.tmps.getD 3 undef/\T.tmps.getD 4 undef=a.tmps.getD 4 undef/\T.tmps.getD 36 undef= .pointer (some ⟨r,0,none⟩)/\S6 w' r bm clock clock es acc/\(acc.map (·.born)).Nodup/\(∀e∈acc,e∈es.toList)/\br (bc.ag C) w w'/\r<w'.heap.size/\
   ∃(l:List Int)(A:Option Addr)(c:Nat),l=acc.map kC/\T.tmps.getD 8 undef= .slice A l.length c/\rowIs w' 3 (bs.ty 3).size (.slice A l.length c) l.length (l.map (Value.int .i64))/\ ∀q∈bc.ag (.slice A l.length c),q≠r/\(q∈bc.ag C\/(w.heap.size<=q/\q<w'.heap.size)))
  aB5 aB2 aB3 aB4 aB6 (by decide) (by decide) FY (cT _) ix (λ acc T w' h=>⟨h.1,h.2.2.2.2.2.1,h.2.2.2.2.2.2.1,h.2.2.2.2.2.2.2.1,h.2.2.2.2.2.2.2.2.1⟩) ?_ ?_ ?_
 ·intro acc e a2 a3 jE rp jX he zt s J5 N7 OE uu
  obtain⟨i1,i2,Xm,Xn,Xo,i4,⟨i5,aBj⟩,i6,i7,i8,i9,l,A,c,OI,U,V,f⟩:=jX
  have a7:br (bc.ag C) w rp:=i8.trans N7 λ x aa=>.inr (by simp at aa;omega)
  have azZ:∀q∈bc.ag (.slice A l.length c),q<jE.heap.size:=λ q b=>(f q b).2.elim (λ h=>fe (YY q h) i8.size) (·.2)
  have oz:=V.later (w':=rp) λ q b=>N7.block q (azZ q b) (by simpa using(f q b).1)
  obtain⟨sn,aJm⟩:=p.alH (i:=6) (t:=3) (g:=0) (k:=0) (l0:=([]:List (bs.El 3))) (l:=l) (A:=A) (c:=c) rfl eR a7 (λ q b=>(f q b).2.imp id λ h=>⟨h.1,by rw[OE];exact h.2⟩) oz (λ F=>aas l)
  have t9:=J5 (by decide)
  rw[T' Jw e he]at t9
  have azX:l.length<=200000:=by
   have h1:=YH i6 (Y:=es.toList.map (·.born)) λ x aa=>by
    obtain⟨z,ah,rfl⟩:=hY.1 aa;exact j5 (i7 z ah)
   have J:=congrArg jb JK;simp only[gC]at h1 J M;rw[OI,gC];omega
  have wx:bI 8 l [kC e]=some (l++[kC e]):=by
   unfold bI;rw[if_pos (by simp only[dL,gR];omega)]
  obtain⟨t,dz,cP⟩:=D.s4 (d:=opsL aG (H_ aG) fI.oL 165 fI.oL.toList ⟨⟨[(9,.p (.int .i64 (kC e))),(8,.r 6 1),(2,.p (a.tmps.getD 2 undef)),(3,.p (a.tmps.getD 3 undef)),(4,.p (a.tmps.getD 4 undef)),(36,.p (.pointer (some ⟨r,0,none⟩)))],[],[]⟩,(bP (El:=aG.T.El) id (cd false mi) false mi (E,G,j,(n1,Y,O,tS),I,rc,([]:List Int),v')).set 6 (.r 3 1 0 l),[]⟩)
   (K:=OZ) (r:=((6,2),(2,⟨3,(l++[kC e]:List Int)⟩),[6],[a.tmps.getD 2 undef,a.tmps.getD 3 undef,a.tmps.getD 4 undef,.pointer (some ⟨r,0,none⟩)])) (by
    have ai:(opsL aG (H_ aG) fI.oL 165 fI.oL.toList ⟨⟨[(9,.p (.int .i64 (kC e))),(8,.r 6 1),(2,.p (a.tmps.getD 2 undef)),(3,.p (a.tmps.getD 3 undef)),(4,.p (a.tmps.getD 4 undef)),(36,.p (.pointer (some ⟨r,0,none⟩)))],[],[]⟩,(bP (El:=aG.T.El) id (cd false mi) false mi (E,G,j,(n1,Y,O,tS),I,rc,([]:List Int),v')).set 6 (.r 3 1 0 l),[]⟩).run OZ=(bI 8 l [kC e]).bind λ m=>some ((6,2),(2,⟨3,m⟩),[6],[a.tmps.getD 2 undef,a.tmps.getD 3 undef,a.tmps.getD 4 undef,.pointer (some ⟨r,0,none⟩)]):=by kernel_rfl
    exact ai.trans (by rw[wx];rfl))
  obtain⟨ek,gD,iG,nR,vm⟩:=aBY cP
  refine wp_region_list ?_
  rw[show fI.oL.toList=fI.oL.toList++[] by simp]
  have IR:(ρ.set 6 (.slice A l.length c))[6]? =some (.slice A l.length c):=gv (aP.1 eR).1
  refine PY jV agv fI.oL.toList dz ek (ajD (Yj (n:=⟨165,[]⟩) rfl sn (s.1.trans i1) (s.2.1.trans i2) λ t y hy=>?_)) λ apV a5 xW aj=>?_
  ·have:=Kt hy
   simp only[cI,cF,iH,or_false]at this
   rcases this with⟨rfl,rfl⟩|⟨rfl,rfl⟩|⟨rfl,rfl⟩|⟨rfl,rfl⟩|⟨rfl,rfl⟩|⟨rfl,rfl⟩
   ·simp only[aw];exact t9
   ·simp only[aw]
    rw[s.2.2 8 (by decide),U]
    exact⟨trivial,_,IR,cT 1,λ _=>rfl⟩
   ·simp only[aw];rw[s.2.2 2 (by decide)];exact Xm
   ·simp only[aw];rw[s.2.2 3 (by decide)];exact Xn
   ·simp only[aw];rw[s.2.2 4 (by decide)];exact Xo
   ·simp only[aw];rw[s.2.2 36 (by decide)];exact i4
  obtain⟨kk,FX⟩:=aIk iG
  obtain⟨aOp,IQ⟩:=aj.r.mem.sA FX
  obtain⟨cn,bJ,e5,Wr,ah6,aAw⟩:=aj.r.mem.aaG FX IQ
  have hV:=aar aAw
  have f8:=aj.r.d_.er.get 8 _ gD
  simp only[aw]at f8
  obtain⟨_,qI,Z,_,XG⟩:=f8
  rw[IQ]at Z
  cases Z
  have XG:=XG (congrArg b4 FX).symm
  have aAT:=aJm.trans aj.to
  have N:=N4 aj.r.d_.er vm
  simp only[eB,iD,h3,and_true]at N
  have ahd:br (bc.ag (.slice A l.length c)) rp xW:=sn.agh aj.r.mem aj.to.sz λ q b aB=>aj.wr q b λ i hi B h f1 f2=>by
   rw[nR]at hi;simp only[dT]at hi;subst hi;obtain rfl:Value.slice A l.length c=h:=eJ (IR.symm.trans f2);obtain rfl:aF.r (El:=bs.El) 3 1 0 l=B:=eJ f1;exact aB
  have ahe:br (bc.ag C) w xW:=a7.trans ahd λ x aa=>(f x aa).2.imp id (·.1)
  subst Wr
  rw[hV]at ah6
  refine wpList_nil ⟨rfl,aj.r.d_.er.size,aj.r.d_.er.defers,N.1,N.2.1,N.2.2.1,N.2.2.2,⟨?_,(ahe.block bm (H ur) ay3).trans ur⟩,?_,?_,ahe,?_,l++[kC e],cn,bJ,?_,XG,ah6,?_⟩
  ·obtain⟨c1,Z,pI⟩:=uu
   exact⟨c1,Z,(ahd.block r (H pI) λ h=>(f r h).1 rfl).trans pI⟩
  ·rw[jH,lT]
   exact fA.2 ⟨i6,by simp,λ x aa y hy ai=>by simp at hy;subst hy;subst ai;exact zt aa⟩
  ·intro x aa
   rcases cj.1 aa with aa |aa
   ·exact i7 x aa
   ·simp at aa;subst aa;exact he
  ·exact fe (by rw[OE];exact i9) aj.to.sz
  ·rw[OI,jH,lT]
  ·intro q b
   refine⟨λ ai=>?_,?_⟩
   ·subst ai
    obtain⟨B,h,f1,f2,f3⟩:=aj.to.om 6 _ _ FX IQ q b (by rw[OE];exact i9)
    obtain rfl:Value.slice A l.length c=h:=eJ (IR.symm.trans f2)
    obtain rfl:aF.r (El:=bs.El) 3 1 0 l=B:=eJ f1
    exact(f q f3).1 rfl
   ·rcases gL q w.heap.size with h1 |h1
    ·obtain⟨B,h,f1,f2,f3⟩:=aAT.om 6 _ _ FX IQ q b h1
     rw[eR]at f2
     cases f2
     have f1:some (aF.r (El:=bs.El) 3 0 0 ([]:List (bs.El 3)))=some B:=f1
     cases f1
     exact .inl f3
    ·exact .inr ⟨h1,(aj.r.mem.lt q ⟨6,_,_,FX,IQ,b⟩).1⟩
 ·intro acc a2 a3 jE jX WW s
  obtain⟨i1,i2,Xm,Xn,Xo,i4,i5,i6,i7,i8,i9,l,A,c,OI,U,V,f⟩:=jX
  have JZ:l.Perm (I.map lz):=by
   rw[OI,<-JK];exact WW.map kC
  have ahi:∀x∈l,1<=x/\x<=Y+O:=λ x aa=>JM x (JZ.mem_iff.1 aa)
  have azX:l.length<=200000:=by rw[JZ.length_eq];exact M
  have ah9:k6 Y O l=S:=by rw[V6];exact aI8 iP.1 hO.1 JZ ahi
  have Gd:(k6 Y O l).length=l.length:=by unfold k6;exact nd _
  have V7:l.length=S.length:=by rw[<-Gd];exact congrArg jb ah9
  obtain⟨CW,cr⟩:=p.sA (i:=0) (B:=.c 67 [.b 3 0]) rfl
  obtain⟨gb,aJP,qK,Wp,aA2⟩:=p.ok 0 (.c 67 [.b 3 0]) _ rfl cr
  subst qK
  obtain⟨aO3,aO6,Uk,Gi,_⟩:=QB aA2
  subst Uk
  simp only[aw]at Gi
  obtain⟨gh,aT,Gi⟩:=Gi
  subst Gi
  obtain⟨aOn,aPb,Ob,Wq,aA3⟩:=p.ok 3 _ _ rfl aT
  cases Ob
  obtain⟨aPc,aOY,Uk,_,aAk⟩:=QB aA3
  subst Uk
  obtain⟨aJR,aOZ,r8,D1,kx⟩:=QB aAk
  subst r8
  obtain⟨aJS,aO0,aw8,aFX,sq⟩:=QB kx
  subst aw8
  obtain rfl:aJR= .int .i64 Y:=D1
  obtain rfl:aJS= .int .i64 O:=aFX
  have amU:a.tmps.getD 3 undef= .pointer (some ⟨gb,0,none⟩):=by
   have zh:=aq;simp only[aw]at zh;obtain⟨g',Z,pI⟩:=zh;rw[cr]at Z;cases Z;exact pI
  have ajP:gb∉bc.ag C:=p.bC 0 6 _ _ _ _ rfl cr rfl eR (by decide) gb (dT.2 rfl)
  have ajV:gh∉bc.ag C:=p.bC 3 6 _ _ _ _ rfl aT rfl eR (by decide) gh (dT.2 rfl)
  have azy:=(i8.block gb (H Wp) ajP).trans Wp
  have ahI:=(i8.block gh (H Wq) ajV).trans Wq
  have LA:=aI_ (W:=jE) (gb:=gb) (gh:=gh) (cap:=c) (A:=A) iP hO ahi (by omega) ((cell_of (k:=0) azy).1.trans rfl) ((cell_of (k:=1) ahI).1.trans rfl) ((cell_of (k:=2) ahI).1.trans rfl) V
   (λ h=>(f gb h).2.elim ajP λ h=>by have:=H Wp;omega) (λ h=>(f gh h).2.elim ajV λ h=>by have:=H Wq;omega)
  refine wp_seq (wp_region_list ?_)
  rw[aB_]
  have ad:Fr ⟨165,[]⟩ [(2,a.tmps.getD 2 undef),(3,.pointer (some ⟨gb,0,none⟩)),(4,a.tmps.getD 4 undef),(8,.slice A l.length c)] a3:=⟨s.1.trans i1,s.2.1.trans i2,λ t v aJ=>by
   have:=ajr aJ;simp only[cI,cF,iH,or_false]at this;rcases this with⟨rfl,rfl⟩|⟨rfl,rfl⟩|⟨rfl,rfl⟩|⟨rfl,rfl⟩
   ·rw[s.2.2 2 (by decide)];exact Xm
   ·rw[s.2.2 3 (by decide)];exact Xn.trans amU
   ·rw[s.2.2 4 (by decide)];exact Xo
   ·rw[s.2.2 8 (by decide)];exact U⟩
  refine fS (wn aBZ) (vv aiE.1 (ad.g rfl)) ad aiE.2 rfl λ a4 ad=>fS (wn aB0) (apC (xs:=[.tmp 3]) (vs:=[.pointer (some ⟨gb,0,none⟩)]) aiF.1 (by simp only[eB,iD];rw[show a4.eval (.tmp 3)=_ from ad.g rfl])) ad aiF.2 rfl λ a5 ad=>
   aaN (xs:=[.tmp 45,.tmp 46]) (vs:=[.slice A l.length c,.func (.func 97) #[] #[.pointer (some ⟨gb,0,none⟩)]]) (cs:=[]) (wn aB1) aiG.1 azb rfl ⟨ad.g rfl,ad.g rfl,trivial⟩ LA ad aiG.2 rfl λ e w' av=>?_
  obtain⟨he,ahf,ah7⟩:=av
  refine⟨_,he,λ iM ad=>?_⟩
  have ayq:br (bc.ag C) w w':=i8.trans ahf λ x aa=>(f x aa).2.imp id (·.1)
  have ahD:∀q∈bc.ag (.slice A l.length c),q∈bc.ag C\/(w.heap.size<=q/\q<w'.heap.size):=λ q b=>(f q b).2.imp id λ h=>⟨h.1,fe h.2 ahf.size⟩
  have adR:iM.tmps.getD 8 undef= .slice A l.length c:=ad.get 8 _ rfl
  rw[ah9,V7]at ah7
  rw[V7]at ahD adR
  have IR:(ρ.set 6 (.slice A S.length c))[6]? =some (.slice A S.length c):=gv (aP.1 eR).1
  obtain⟨az4,QX⟩:=p.alH (i:=6) (t:=3) (g:=0) (k:=0) (l0:=([]:List (bs.El 3))) (l:=S) (A:=A) (c:=c) rfl eR ayq ahD ah7 (λ F=>aas S)
  have ayG:R aG W M0 X ⟨165,[]⟩ ⟨[(2,.pp 5 0 1 ef),(3,.b 0 0),(4,.b 1 0),(8,.r 6 1)],[],[]⟩ ((bP (El:=aG.T.El) id (cd false mi) false mi (E,G,j,(n1,Y,O,tS),I,rc,([]:List Int),v')).set 6 (.r 3 1 0 S)) (ρ.set 6 (.slice A S.length c)) iM w':=Yj rfl az4 ad.size ad.defers λ t y hy=>by
   have:=Kt hy;simp only[cI,cF,iH,or_false]at this;rcases this with⟨rfl,rfl⟩|⟨rfl,rfl⟩|⟨rfl,rfl⟩|⟨rfl,rfl⟩
   ·rw[show iM.tmps.getD 2 undef=_ from ad.get 2 _ rfl];exact QX.v J
   ·rw[show iM.tmps.getD 3 undef=_ from ad.get 3 _ rfl,<-amU];exact QX.v aq
   ·rw[show iM.tmps.getD 4 undef=_ from ad.get 4 _ rfl];exact QX.v a_
   ·rw[adR]
    simp only[aw]
    exact⟨trivial,_,IR,cT 1,λ _=>rfl⟩
  obtain⟨dS,c8,eO⟩:=aaq (pre:=mi) (dp:=(E,G,j,(n1,Y,O,tS),I,rc,([]:List Int),v')) (ss:=[2,3,4,8]) (pas:=Kg) (pbs:=mi) (da:=(ef,(),(),(),())) (db:=(E,G,j,(n1,Y,O,tS),I,rc,S,())) ayG (by rw[p.len,nu]) (by kernel_rfl) QX (by kernel_rfl)
  exact wpList_nil (k iM w' dS ad.size ad.defers (c8 true) eO)
 ·refine⟨by rw[uZ,Iu],Ts,by rw[wk (by decide),g2],by rw[wk (by decide),g3],by rw[wk (by decide),g4],wj (by rw[Iu];decide),⟨⟨clock,cT _,J6⟩,(FV.block bm (H wK) (by simp)).trans wK⟩,by simp,by simp,?_,ky,[],nW,eK,rfl,?_,?_,?_⟩
  ·exact(jW.trans FV (by simp)).mono (by simp)
  ·rw[wk (by decide),g8,aJM,On];rfl
  ·have:=aAC
   rw[On,aar aAx]at this
   refine rowIs.later this λ q b=>?_
   have sp:q<w.heap.size:=YY q (by rw[On];exact b)
   exact(jW.trans FV (by simp)).block q sp (by simp)
  ·intro q b
   have b:q∈bc.ag C:=by rw[On];exact b
   exact⟨λ ai=>by have:=YY q b;omega,.inl b⟩
end Go.Proofs.YteeliipnilghaaaGreat
namespace Go.Proofs.YteeliipnilghaaaGreat
open Go Go.RowKit ay I bc
set_option maxRecDepth 100000
theorem aB8:yB aG ⟨fz aG.P 63,[]⟩ ((KO [2,3,4,7,8] O3 mi ⟨.nm,[2,3,4,8],Kg,mi⟩ Kf).run aG 0) sx.1 sx.2:=by
 have e:fz aG.P 63=165:=by kernel_rfl
 rw[e];exact aFw rfl rfl aCe
noncomputable def asw(F:Nat):aQ aG:=(asv F).akw 63 0 ((KO [2,3,4,7,8] O3 mi ⟨.nm,[2,3,4,8],Kg,mi⟩ Kf).run aG 0) sx.1 sx.2 (λ _ _=>aB8) aBU
end Go.Proofs.YteeliipnilghaaaGreat
namespace Go.Proofs.YteeliipnilghaaaGreat
open Go Go.RowKit ay I bc
set_option maxRecDepth 100000
@[reducible] def q9:bK:=.c 24 [.l 3,.i .i64,.i .i64,.i .i64,.i .i64,.l 3,.i .i64]
@[reducible] def akz:cN:=.a [.l 3,.i .i64,.i .i64,.i .i64,.i .i64,.l 3,.i .i64]
@[reducible] def G1:bK:=.c 69 [.l 134,.l 3,.l 124,.l 120,.l 121]
@[reducible] def Y3:cN:=.a [.l 134,.l 3,.l 124,.l 120,.l 121]
abbrev adb:=(List ap×List Int×List (List I.Field)×List (List (List UInt8))×List (List I.Target)×Unit)
abbrev ET:=(List Int×Int×Int×Int×Int×List Int×Int×Unit)
def CH(F:Nat):Nat->(List Int)->(Int)->(Int)->(List Int)->(List Int)->Option ((Unit×Unit)×List Int×List Int×Unit)
 |0,_,_,_,_,_=>none
 |aR+1,d,e,a,f,b=>
  cond (decide (a<e)) ((idx d a).bind λ g=>
(idx b g).bind λ h=>
(bI 8 f [h]).bind λ c=>
CH F aR d e (ax (a+1)) c b) (
some (((),()),f,b,()))
noncomputable def asx(F:Nat):aQ aG:=(asw F).O' 90 0 F ⟨[3,6,7,8],[.p (.R 0),.p (.P 1 1),.p (.i .i64),.p (.i .i64)],[.r 3 false,.r 3 true],[⟨.nm,[3],[.p (.R 0)],[.r 3 false,.r 3 true]⟩],λ k d=>CH F k d.1.2.1 d.1.2.2.1 d.1.2.2.2.1 d.2.1 d.2.2.1⟩ ⟨λ d=>by kernel_rfl,λ k da db=>by kernel_rfl⟩
def NT(F:Nat)(a:List Int)(c:List Int):Option ((List Int×Unit)×List Int×Unit):=
 (CH F F a (↑a.length:Int) 0 [] c).bind λ b=>
some ((b.2.1,()),b.2.2.1,())
noncomputable def asy(F:Nat):aQ aG:=(asx F).FM 90 ⟨[.p (.P 0 1)],[.r 3 true],[.p (.l 3)],[.r 3 true],λ d=>NT F d.1.1 d.2.1⟩ λ da db=>by kernel_rfl
def NS(F:Nat)(b:List ap)(c:List Int)(k:List (List I.Field))(l:List (List (List UInt8)))(m:List (List I.Target))(n:List Int)(d:List Int)(e:Int)(RS:Int)(f:Int)(g:Int)(h:List Int)(i:Int)(o:List Int):Option ((Unit×Unit)×ET×List Int×(Unit×List ap×List Int×List (List I.Field)×List (List (List UInt8))×List (List I.Target)×Unit×Unit)×List (Int×Bool)×Unit):=
 (NT F n o).bind λ j=>
(CG F j.1.1 b c k l m d e RS f g h i []).bind λ a=>
some (((),()),(a.2.2.1.1,a.2.2.1.2.1,a.2.2.1.2.2.1,a.2.2.1.2.2.2.1,a.2.2.1.2.2.2.2.1,a.2.2.1.2.2.2.2.2.1,a.2.2.1.2.2.2.2.2.2.1,()),j.2.1,((),a.2.1.2.1,a.2.1.2.2.1,a.2.1.2.2.2.1,a.2.1.2.2.2.2.1,a.2.1.2.2.2.2.2.1,(),()),a.2.2.2.1,())
noncomputable def asz(F:Nat):aQ aG:=(asy F).FM 54 ⟨[.p (.B 0),Y3,.p (.P 1 1)],[q9,.r 3 true],[.p (.B 2)],[q9,.r 3 true,.c 140 [.B 0,.l 134,.l 3,.l 124,.l 120,.l 121,.M 3],.m 3 4],λ d=>NS F d.1.2.1.1 d.1.2.1.2.1 d.1.2.1.2.2.1 d.1.2.1.2.2.2.1 d.1.2.1.2.2.2.2.1 d.1.2.2.1 d.2.1.1 d.2.1.2.1 d.2.1.2.2.1 d.2.1.2.2.2.1 d.2.1.2.2.2.2.1 d.2.1.2.2.2.2.2.1 d.2.1.2.2.2.2.2.2.1 d.2.2.1⟩ λ da db=>by kernel_rfl
end Go.Proofs.YteeliipnilghaaaGreat
namespace Go.Proofs.YteeliipnilghaaaGreat
open Go Go.RowKit ay I bc
set_option maxRecDepth 100000
def CD(F:Nat):Nat->(List Int)->(List Int)->(Int)->(List Int)->(Int)->(Int)->(List Int)->(List Int)->(Int)->(Int)->(Int)->(Int)->(List Int)->(Int)->(List ap)->(List Int)->(List (List I.Field))->(List (List (List UInt8)))->(List (List I.Target))->(List (Int×Int))->Option ((List Int×Unit×Unit×List Int×Unit×Int×Unit)×
 List Int×(Unit×Unit)×ET×adb×List (Int×Int)×Unit)
 |0,_,_,_,_,_,_,_,_,_,_,_,_,_,_,_,_,_,_,_,_=>none
 |aR+1,d,e,a,f,g,b,h,c,i,j,k,l,m,n,o,p,q,r,s,t=>
  cond (decide (b<g)) ((idx f b).bind λ u=>
(idx c (ax (u+1))).bind λ v=>
CD F aR d e (ax (a+ax (3+v))) f g (ax (b+1)) h c i j k l m n o p q r s (gf t u a)) (
some ((d,(),(),e,(),a,()),h,((),()),(c,i,j,k,l,m,n,()),(o,p,q,r,s,()),t,()))
noncomputable def asA(F:Nat):aQ aG:=(asz F).gd 63 2 F ⟨[2,3,4,8,10,11,55,56,57],[.p (.P 0 1),.p (.B 1),.p (.B 3),.p (.l 3),.p (.M 4),.p (.i .i64),.p (.l 3),.p (.i .i64),.p (.i .i64)],[.r 3 true,.c 67 [.B 2],q9,G1,.m 3 3],[⟨.nm,[2,3,4,8,10,11],[.p (.P 0 1),.p (.B 1),.p (.B 3),.p (.l 3),.p (.M 4),.p (.i .i64)],[.r 3 true,.c 67 [.B 2],q9,G1,.m 3 3]⟩],λ k d=>CD F k d.1.1 d.1.2.2.2.1 d.1.2.2.2.2.2.1 d.1.2.2.2.2.2.2.1 d.1.2.2.2.2.2.2.2.1 d.1.2.2.2.2.2.2.2.2.1 d.2.1 d.2.2.2.1.1 d.2.2.2.1.2.1 d.2.2.2.1.2.2.1 d.2.2.2.1.2.2.2.1 d.2.2.2.1.2.2.2.2.1 d.2.2.2.1.2.2.2.2.2.1 d.2.2.2.1.2.2.2.2.2.2.1 d.2.2.2.2.1.1 d.2.2.2.2.1.2.1 d.2.2.2.2.1.2.2.1 d.2.2.2.2.1.2.2.2.1 d.2.2.2.2.1.2.2.2.2.1 d.2.2.2.2.2.1⟩ ⟨λ d=>by kernel_rfl,λ k da db=>by kernel_rfl⟩
def ua(F:Nat):Nat->(List Int)->(Int)->(Int)->(List Int)->(Int)->(Int)->(Int)->(Int)->(List Int)->(List Int)->(Int)->(Int)->(Int)->(Int)->(List Int)->(Int)->(List ap)->(List Int)->(List (List I.Field))->(List (List (List UInt8)))->(List (List I.Target))->(List (Int×Int))->(List Int)->Option ((List Int×Unit×Unit×Unit×Int×Unit×List Int×Int×Int×Unit)×
 List Int×(Unit×Unit)×ET×adb×List (Int×Int)×List Int×Unit)
 |0,_,_,_,_,_,_,_,_,_,_,_,_,_,_,_,_,_,_,_,_,_,_,_=>none
 |aR+1,j,k,b,l,m,n,o,a,p,e,q,r,s,t,u,v,mE,f,g,h,i,c,d=>
  cond (decide (a<o)) ((idx e (ax (b+a))).bind λ w=>
cond (decide (3<=a)) ((idx e b).bind λ x=>
(qL (b'.mk (aO.mk mE f g h i)) x (ax (a-3))).bind λ y=>
cond y ((idx d (ax ((cH c b).getD 0+a))).bind λ z=>
ua F aR j k b l m n o (ax (a+1)) p e q r s t u v mE f g h i c (d.set (ax ((cH c b).getD 0+a)).toNat ((cH c w).getD 0))) (
(idx d (ax ((cH c b).getD 0+a))).bind λ A=>
ua F aR j k b l m n o (ax (a+1)) p e q r s t u v mE f g h i c (d.set (ax ((cH c b).getD 0+a)).toNat w))) (
(idx d (ax ((cH c b).getD 0+a))).bind λ B=>
ua F aR j k b l m n o (ax (a+1)) p e q r s t u v mE f g h i c (d.set (ax ((cH c b).getD 0+a)).toNat w))) (
some ((j,(),(),(),k,(),l,m,n,()),p,((),()),(e,q,r,s,t,u,v,()),(mE,f,g,h,i,()),c,d,()))
noncomputable def asB(F:Nat):aQ aG:=(asA F).gd 63 6 F ⟨[2,3,4,10,11,14,16,82,83,84,96,97],[.p (.P 0 1),.p (.B 1),.p (.B 3),.p (.M 4),.p (.i .i64),.p (.R 5),.p (.i .i64),.p (.l 3),.p (.i .i64),.p (.i .i64),.p (.i .i64),.p (.i .i64)],[.r 3 true,.c 67 [.B 2],q9,G1,.m 3 3,.r 3 false],[⟨.nm,[2,3,4,10,11,14,82,83,84],[.p (.P 0 1),.p (.B 1),.p (.B 3),.p (.M 4),.p (.i .i64),.p (.R 5),.p (.l 3),.p (.i .i64),.p (.i .i64)],[.r 3 true,.c 67 [.B 2],q9,G1,.m 3 3,.r 3 false]⟩],λ k d=>ua F k d.1.1 d.1.2.2.2.2.1 d.1.2.2.2.2.2.2.1 d.1.2.2.2.2.2.2.2.1 d.1.2.2.2.2.2.2.2.2.1 d.1.2.2.2.2.2.2.2.2.2.1 d.1.2.2.2.2.2.2.2.2.2.2.1 d.1.2.2.2.2.2.2.2.2.2.2.2.1 d.2.1 d.2.2.2.1.1 d.2.2.2.1.2.1 d.2.2.2.1.2.2.1 d.2.2.2.1.2.2.2.1 d.2.2.2.1.2.2.2.2.1 d.2.2.2.1.2.2.2.2.2.1 d.2.2.2.1.2.2.2.2.2.2.1 d.2.2.2.2.1.1 d.2.2.2.2.1.2.1 d.2.2.2.2.1.2.2.1 d.2.2.2.2.1.2.2.2.1 d.2.2.2.2.1.2.2.2.2.1 d.2.2.2.2.2.1 d.2.2.2.2.2.2.1⟩ ⟨λ d=>by kernel_rfl,λ k da db=>by kernel_rfl⟩
def CE(F:Nat):Nat->(List Int)->(Int)->(List Int)->(Int)->(Int)->(List Int)->(List Int)->(Int)->(Int)->(Int)->(Int)->(List Int)->(Int)->(List ap)->(List Int)->(List (List I.Field))->(List (List (List UInt8)))->(List (List I.Target))->(List (Int×Int))->(List Int)->Option ((List Int×Unit×Unit×Int×Unit×Unit)×
 List Int×(Unit×Unit)×ET×adb×List (Int×Int)×List Int×Unit)
 |0,_,_,_,_,_,_,_,_,_,_,_,_,_,_,_,_,_,_,_,_=>none
 |aR+1,d,e,f,g,b,h,c,i,j,k,l,m,n,o,p,q,r,s,t,u=>
  cond (decide (b<g)) ((idx f b).bind λ v=>
(idx c (ax (v+1))).bind λ w=>
(ua F F d e v f g b (ax (3+w)) 0 h c i j k l m n o p q r s t u).bind λ a=>
CE F aR a.1.1 a.1.2.2.2.2.1 a.1.2.2.2.2.2.2.1 a.1.2.2.2.2.2.2.2.1 (ax (a.1.2.2.2.2.2.2.2.2.1+1)) a.2.1 a.2.2.2.1.1 a.2.2.2.1.2.1 a.2.2.2.1.2.2.1 a.2.2.2.1.2.2.2.1 a.2.2.2.1.2.2.2.2.1 a.2.2.2.1.2.2.2.2.2.1 a.2.2.2.1.2.2.2.2.2.2.1 a.2.2.2.2.1.1 a.2.2.2.2.1.2.1 a.2.2.2.2.1.2.2.1 a.2.2.2.2.1.2.2.2.1 a.2.2.2.2.1.2.2.2.2.1 a.2.2.2.2.2.1 a.2.2.2.2.2.2.1) (
some ((d,(),(),e,(),()),h,((),()),(c,i,j,k,l,m,n,()),(o,p,q,r,s,()),t,u,()))
noncomputable def asC(F:Nat):aQ aG:=(asB F).gd 63 4 F ⟨[2,3,4,10,11,14,82,83,84],[.p (.P 0 1),.p (.B 1),.p (.B 3),.p (.M 4),.p (.i .i64),.p (.R 5),.p (.l 3),.p (.i .i64),.p (.i .i64)],[.r 3 true,.c 67 [.B 2],q9,G1,.m 3 3,.r 3 false],[⟨.nm,[2,3,10,11,14],[.p (.P 0 1),.p (.B 1),.p (.M 4),.p (.i .i64),.p (.R 5)],[.r 3 true,.c 67 [.B 2],q9,G1,.m 3 3,.r 3 false]⟩],λ k d=>CE F k d.1.1 d.1.2.2.2.2.1 d.1.2.2.2.2.2.2.1 d.1.2.2.2.2.2.2.2.1 d.1.2.2.2.2.2.2.2.2.1 d.2.1 d.2.2.2.1.1 d.2.2.2.1.2.1 d.2.2.2.1.2.2.1 d.2.2.2.1.2.2.2.1 d.2.2.2.1.2.2.2.2.1 d.2.2.2.1.2.2.2.2.2.1 d.2.2.2.1.2.2.2.2.2.2.1 d.2.2.2.2.1.1 d.2.2.2.2.1.2.1 d.2.2.2.2.1.2.2.1 d.2.2.2.2.1.2.2.2.1 d.2.2.2.2.1.2.2.2.2.1 d.2.2.2.2.2.1 d.2.2.2.2.2.2.1⟩ ⟨λ d=>by kernel_rfl,λ k da db=>by kernel_rfl⟩
def CF(F:Nat):Nat->(Int)->(List Int)->(List Int)->(Int)->(Int)->(List Int)->(Int)->(Int)->(Int)->(Int)->(List Int)->(Int)->(List (Int×Int))->(List Int)->Option ((Unit×Int×List Int×Unit)×(Unit×Unit)×ET×List (Int×Int)×List Int×Unit)
 |0,_,_,_,_,_,_,_,_,_,_,_,_,_,_=>none
 |aR+1,d,eg,e,f,a,g,h,i,j,k,l,m,b,c=>
  cond (decide (a<f)) ((idx e a).bind λ n=>
(idx c n).bind λ o=>
CF F aR d eg e f (ax (a+1)) g h i j k l m b (c.set n.toNat ((cH b o).getD 0))) (
some (((),d,eg,()),((),()),(g,h,i,j,k,l,m,()),b,c,()))
noncomputable def asE(F:Nat):aQ aG:=(asC F).gd 63 8 F ⟨[3,10,11,14,137,138,139],[.p (.B 0),.p (.M 2),.p (.i .i64),.p (.l 3),.p (.P 3 1),.p (.i .i64),.p (.i .i64)],[.c 67 [.B 1],q9,.m 3 3,.r 3 true],[⟨.nm,[3,11,14],[.p (.B 0),.p (.i .i64),.p (.l 3)],[.c 67 [.B 1],q9,.m 3 3,.r 3 true]⟩],λ k d=>CF F k d.1.2.2.1 d.1.2.2.2.1 d.1.2.2.2.2.1 d.1.2.2.2.2.2.1 d.1.2.2.2.2.2.2.1 d.2.2.1.1 d.2.2.1.2.1 d.2.2.1.2.2.1 d.2.2.1.2.2.2.1 d.2.2.1.2.2.2.2.1 d.2.2.1.2.2.2.2.2.1 d.2.2.1.2.2.2.2.2.2.1 d.2.2.2.1 d.2.2.2.2.1⟩ ⟨λ d=>by kernel_rfl,λ k da db=>by kernel_rfl⟩
def I4(F:Nat)(i:List ap)(j:List Int)(k:List (List I.Field))(qc:List (List (List UInt8)))(l:List (List I.Target))(m:List Int)(n:List Int)(o:Int)(p:Int)(q:Int)(e:Int)(f:List Int)(g:Int)(h:List Int):Option ((Bool×Unit)×ET×List Int×Unit):=
 (NS F i j k qc l m n o p q e f g h).bind λ hs=>
((FQ hs.2.1.1 hs.2.2.2.2.1).bind λ x=>some x).bind λ r=>
cond (decide (hs.2.1.2.2.1<r)) (some ((false,()),(hs.2.1.1,hs.2.1.2.1,hs.2.1.2.2.1,hs.2.1.2.2.2.1,hs.2.1.2.2.2.2.1,hs.2.1.2.2.2.2.2.1,hs.2.1.2.2.2.2.2.2.1,()),hs.2.2.1,())) (
(Kf
 ((m,(),(),(),(),()),((),()),(i,j,k,qc,l,()),((),hs.2.2.2.1.2.1,hs.2.2.2.1.2.2.1,hs.2.2.2.1.2.2.2.1,hs.2.2.2.1.2.2.2.2.1,hs.2.2.2.1.2.2.2.2.2.1,(),()),(hs.2.1.1,hs.2.1.2.1,hs.2.1.2.2.1,hs.2.1.2.2.2.1,hs.2.1.2.2.2.2.1,hs.2.1.2.2.2.2.2.1,hs.2.1.2.2.2.2.2.2.1,()),hs.2.2.2.2.1,hs.2.2.1,[],())).bind λ b=>
(CD F F b.1.1 b.2.2.2.2.2.2.2.1 (ax (b.2.2.2.2.1.2.1+1)) b.2.2.2.2.2.2.2.1 (↑(jb b.2.2.2.2.2.2.2.1):Int) 0
 b.2.2.2.2.2.2.1 b.2.2.2.2.1.1 b.2.2.2.2.1.2.1 b.2.2.2.2.1.2.2.1 b.2.2.2.2.1.2.2.2.1 b.2.2.2.2.1.2.2.2.2.1
 b.2.2.2.2.1.2.2.2.2.2.1 b.2.2.2.2.1.2.2.2.2.2.2.1 b.2.2.1.1 b.2.2.1.2.1 b.2.2.1.2.2.1 b.2.2.1.2.2.2.1
 b.2.2.1.2.2.2.2.1 [(0,0)]).bind λ a=>
(zU 0 8 (↑(jb a.2.2.2.1.1):Int)).bind λ s=>
(CE F F a.1.1 a.1.2.2.2.2.2.1 a.1.2.2.2.1 (↑(jb a.1.2.2.2.1):Int) 0 a.2.1 a.2.2.2.1.1 a.2.2.2.1.2.1 a.2.2.2.1.2.2.1
 a.2.2.2.1.2.2.2.1 a.2.2.2.1.2.2.2.2.1 a.2.2.2.1.2.2.2.2.2.1 a.2.2.2.1.2.2.2.2.2.2.1 a.2.2.2.2.1.1 a.2.2.2.2.1.2.1
 a.2.2.2.2.1.2.2.1 a.2.2.2.2.1.2.2.2.1 a.2.2.2.2.1.2.2.2.2.1 a.2.2.2.2.2.1 s).bind λ c=>
(CF F F c.1.2.2.2.1 c.2.2.2.2.2.2.1 c.1.1 (↑(jb c.1.1):Int) 0 c.2.2.2.1.1 c.2.2.2.1.2.1 c.2.2.2.1.2.2.1
 c.2.2.2.1.2.2.2.1 c.2.2.2.1.2.2.2.2.1 c.2.2.2.1.2.2.2.2.2.1 c.2.2.2.1.2.2.2.2.2.2.1 c.2.2.2.2.2.1 c.2.1).bind λ d=>
some ((true,()),(d.1.2.2.1,d.2.2.1.2.1,d.2.2.1.2.2.1,1,d.1.2.1,([]),d.2.2.1.2.2.2.2.2.2.1,()),d.2.2.2.2.1,()))
noncomputable def asF(F:Nat):aQ aG:=(asE F).fn 63 ⟨[.p (.B 0),Y3,.p (.P 1 1)],[q9,.r 3 true],[.p (.b)],[q9,.r 3 true],λ d=>I4 F d.1.2.1.1 d.1.2.1.2.1 d.1.2.1.2.2.1 d.1.2.1.2.2.2.1 d.1.2.1.2.2.2.2.1 d.1.2.2.1 d.2.1.1 d.2.1.2.1 d.2.1.2.2.1 d.2.1.2.2.2.1 d.2.1.2.2.2.2.1 d.2.1.2.2.2.2.2.1 d.2.1.2.2.2.2.2.2.1 d.2.2.1⟩ λ da db=>by kernel_rfl
def FP(F:Nat)(d:List Int)(e:Int)(f:Int)(g:Int)(h:Int)(i:List Int)(j:Int)(n:List ap)(o:List Int)(p:List (List I.Field))(q:List (List (List UInt8)))(r:List (List I.Target))(k:List Int):Option ((ET×List Int×Int×Unit)×Unit):=
 dy (I5 F d e f g h i j n o p q r k) (λ b=>
cond (!decide (b.1.2.1=0)) (some (((([]),0,0,0,0,([]),0,()),([]),b.1.2.1,()),())) (
(m' (aV.mk d e f g h i j)).bind λ c=>
(bI 8 [] k).bind λ l=>
(rI F (↑l.length:Int)).bind λ s=>
(I4 F b.2.1.2.2.2.2.2.2.2.1 b.2.1.2.2.2.2.2.2.2.2.1 b.2.1.2.2.2.2.2.2.2.2.2.1 b.2.1.2.2.2.2.2.2.2.2.2.2.1
 b.2.1.2.2.2.2.2.2.2.2.2.2.2.1 s c.Words c.ak c.aM c.aX c.aW c.aS c.Next l).bind λ a=>
cond (!a.1.1) (some (((([]),0,0,0,0,([]),0,()),([]),8,()),())) (
some (((a.2.1.1,a.2.1.2.1,a.2.1.2.2.1,a.2.1.2.2.2.1,a.2.1.2.2.2.2.1,a.2.1.2.2.2.2.2.1,a.2.1.2.2.2.2.2.2.1,()),a.2.2.1,0,()),())))) (λ m=>
cond (!decide (m.1.2.1=0)) (some (((([]),0,0,0,0,([]),0,()),([]),m.1.2.1,()),())) (
(m' (aV.mk d e f g h i j)).bind λ t=>
(bI 8 [] k).bind λ u=>
none))
noncomputable def H8(F:Nat):aQ aG:=(asF F).fn 30 ⟨[akz,Y3,.p (.l 3)],[],[akz,.p (.l 3),.p (.i .i64)],[],λ d=>FP F d.1.1.1 d.1.1.2.1 d.1.1.2.2.1 d.1.1.2.2.2.1 d.1.1.2.2.2.2.1 d.1.1.2.2.2.2.2.1 d.1.1.2.2.2.2.2.2.1 d.1.2.1.1 d.1.2.1.2.1 d.1.2.1.2.2.1 d.1.2.1.2.2.2.1 d.1.2.1.2.2.2.2.1 d.1.2.2.1⟩ λ da db=>by kernel_rfl
end Go.Proofs.YteeliipnilghaaaGreat
namespace Go.Proofs.YteeliipnilghaaaGreat
open Go Go.RowKit ay I bc
set_option maxRecDepth 100000
def MN(F:Nat)(i:List Int)(j:Int)(k:Int)(l:Int)(m:Int)(n:List Int)(o:Int)(d:List ap)(e:List Int)(f:List (List I.Field))(g:List (List (List UInt8)))(h:List (List I.Target))(p:List Int):Option ((Bool×Unit)×Unit):=
 (qk F i j k l m n o d e f g h p).bind λ c=>
cond (!decide (c.1.2.2.1=0)) (some ((true,()),())) (
(FP F c.1.1.1 c.1.1.2.1 c.1.1.2.2.1 c.1.1.2.2.2.1 c.1.1.2.2.2.2.1 c.1.1.2.2.2.2.2.1 c.1.1.2.2.2.2.2.2.1 d e f g h
 c.1.2.1).bind λ a=>
(FP F i j k l m n o d e f g h p).bind λ b=>
cond (!decide (a.1.2.2.1=0)|| !decide (b.1.2.2.1=0)) (some ((false,()),())) (
(E8 F a.1.1.1 a.1.1.2.1 a.1.1.2.2.1 a.1.1.2.2.2.1 a.1.1.2.2.2.2.1 a.1.1.2.2.2.2.2.1 a.1.1.2.2.2.2.2.2.1 d e f g h a.1.2.1
 b.1.1.1 b.1.1.2.1 b.1.1.2.2.1 b.1.1.2.2.2.1 b.1.1.2.2.2.2.1 b.1.1.2.2.2.2.2.1 b.1.1.2.2.2.2.2.2.1 b.1.2.1).bind λ q=>
some (((q.1.1&&decide (a.1.1.2.2.2.2.1=b.1.1.2.2.2.2.1)),()),())))
@[reducible] noncomputable def XL(F:Nat):ey bs:=⟨[.a [.l 3,.i .i64,.i .i64,.i .i64,.i .i64,.l 3,.i .i64],.a [.l 134,.l 3,.l 124,.l 120,.l 121],.p (.l 3)],[],[.p (.b)],[],λ d=>MN F d.1.1.1 d.1.1.2.1 d.1.1.2.2.1 d.1.1.2.2.2.1 d.1.1.2.2.2.2.1 d.1.1.2.2.2.2.2.1 d.1.1.2.2.2.2.2.2.1 d.1.2.1.1 d.1.2.1.2.1 d.1.2.1.2.2.1 d.1.2.1.2.2.2.1 d.1.2.1.2.2.2.2.1 d.1.2.2.1⟩
theorem aws(F:Nat):(XL F).Eq aG (H8 F).t.bu (H8 F).t.LE 11:=λ da db=>by kernel_rfl
theorem auP(F:Nat):kj aG 11 ((XL F).run aG):=TV jV (lr jV ((H8 F).ok jV).ce ((H8 F).ok jV).le 100) ((H8 F).ok jV).le rfl (aws F)
end Go.Proofs.YteeliipnilghaaaGreat
namespace Go.Proofs.YteeliipnilghaaaGreat
open Go Go.RowKit ay I bc
section
variable{F:Nat->Prop}{w:World}{cs:List Value}
theorem Ql{d:bs.El 3}(h:((ay.fk .i64)).rd F w cs d):(bs.ty 3).rd F w cs d:=by
 obtain rfl:cs=_:=h;change fh (λ t=>(fM FI t).ty) F w [.i .i64] _ (d,());exact⟨_,_,rfl,rfl,rfl⟩
theorem alq{d:bs.El 136}(h:(I.jC).rd F w cs d):(bs.ty 136).rd F w cs d:=by
 obtain rfl:cs=_:=h;change fh (λ t=>(fM IW t).ty) F w [.s,.i .i64,.s] _ (d.Name,d.Kind.Kind,d.Kind.ap,());exact⟨_,_,rfl,rfl,_,_,rfl,rfl,_,_,rfl,rfl,rfl⟩
theorem aHL{d:bs.El 128}(h:(I.Ea).rd F w cs d):(bs.ty 128).rd F w cs d:=by
 obtain rfl:cs=_:=h;change fh (λ t=>(fM Nw t).ty) F w [.i .i64,.s] _ (d.Kind,d.ap,());exact⟨_,_,rfl,rfl,_,_,rfl,rfl,rfl⟩
theorem aHO{d:bs.El 157}(h:(I.D').rd F w cs d):(bs.ty 157).rd F w cs d:=by
 obtain rfl:cs=_:=h;change fh (λ t=>(fM Nu t).ty) F w [.i .i64,.i .i64,.i .i64,.s] _ (d.From,d.To,d.At,d.ap,());exact⟨_,_,rfl,rfl,_,_,rfl,rfl,_,_,rfl,rfl,_,_,rfl,rfl,rfl⟩
theorem aHM{d:bs.El 131}(h:(I.rn).rd F w cs d):(bs.ty 131).rd F w cs d:=by
 obtain⟨_,_,_,_,rfl,J,a⟩:=h;change fh (λ t=>(fM Nx t).ty) F w [.s,.b,.l 128,.i .i64,.s,.i .i64,.i .i64,.s,.l 157] _ (d.Name,d.Static,d.cD,d.Returns.Kind,d.Returns.ap,d.hQ,d.hN,d.Code,d.cL,());exact⟨_,_,rfl,rfl,_,_,rfl,rfl,_,_,rfl,jz (λ _ _=>aHL) J,_,_,rfl,rfl,_,_,rfl,rfl,_,_,rfl,rfl,_,_,rfl,rfl,_,_,rfl,rfl,_,_,rfl,jz (λ _ _=>aHO) a,rfl⟩
theorem aHN{d:bs.El 134}(h:(I.kI).rd F w cs d):(bs.ty 134).rd F w cs d:=by
 obtain⟨_,_,_,_,rfl,J,a⟩:=h;change fh (λ t=>(fM Nv t).ty) F w [.s,.s,.l 136,.l 131] _ (d.Name,d.c9,d.Fields,d.bp,());exact⟨_,_,rfl,rfl,_,_,rfl,rfl,_,_,rfl,jz (λ _ _=>alq) J,_,_,rfl,jz (λ _ _=>aHM) a,rfl⟩
theorem aHK{d:bs.El 124}(h:((b5 I.jC)).rd F w cs d):(bs.ty 124).rd F w cs d:=by
 obtain⟨A,c,rfl⟩:=ny h;change fh (λ t=>(fM Ug t).ty) F w [.l 136] _ (d,());exact⟨_,_,rfl,jz (λ _ _=>alq) h,rfl⟩
theorem aHQ{d:bs.El 9}(h:(jB).rd F w cs d):(bs.ty 9).rd F w cs d:=by
 obtain rfl:cs=_:=h;change fh (λ t=>(fM Nz t).ty) F w [.s] _ (d,());exact⟨_,_,rfl,rfl,rfl⟩
theorem aHI{d:bs.El 120}(h:((b5 jB)).rd F w cs d):(bs.ty 120).rd F w cs d:=by
 obtain⟨A,c,rfl⟩:=ny h;change fh (λ t=>(fM Uh t).ty) F w [.l 9] _ (d,());exact⟨_,_,rfl,jz (λ _ _=>aHQ) h,rfl⟩
theorem aHP{d:bs.El 166}(h:(I.kJ).rd F w cs d):(bs.ty 166).rd F w cs d:=by
 obtain rfl:cs=_:=h;change fh (λ t=>(fM Ny t).ty) F w [.i .i64,.i .i64] _ (d.ap,d.Method,());exact⟨_,_,rfl,rfl,_,_,rfl,rfl,rfl⟩
theorem aHJ{d:bs.El 121}(h:((b5 I.kJ)).rd F w cs d):(bs.ty 121).rd F w cs d:=by
 obtain⟨A,c,rfl⟩:=ny h;change fh (λ t=>(fM Uf t).ty) F w [.l 166] _ (d,());exact⟨_,_,rfl,jz (λ _ _=>aHP) h,rfl⟩
end
end Go.Proofs.YteeliipnilghaaaGreat
namespace I
theorem cQ{n:Int}(a: -9223372036854775808<=n)(b:n<=9223372036854775807):ax n=n:=by unfold ax;omega
theorem eW{i n:Nat}(hi:i<n)(a:n<=140737488355328):ax ((i:Int)+1)=((i+1 :Nat):Int):=by
 rw[cQ (by omega) (by omega)];omega
theorem bw{α:Type}{l:List α}{i:Nat}{x:α}(h:l[i]? =some x):idx l (i:Int)=some x:=by
 unfold idx;rw[if_pos (by omega)];simpa using h
theorem bM{i n:Nat}(h:i<n):decide ((i:Int)<(n:Int))=true:=decide_eq_true (by omega)
theorem bL(n:Nat):decide ((n:Int)<(n:Int))=false:=decide_eq_false (by omega)
def cA{ρ:Type}:Option ρ->Way ρ Unit
 |some r=>.out r
 |none=>.go ()
def gZ{ρ:Type}(o:Option ρ)(y:Option (Way ρ Unit)):Option (Way ρ Unit):=match o with
 |some r=>some (.out r)
 |none=>y
theorem each{α ρ:Type}{l:List α}{L:Nat->Int->Option (Way ρ Unit)}(g:α->Option ρ)(a:l.length<=140737488355328)
 (aj:∀k (i:Nat) x,l[i]? =some x->L (k+1) (i:Int)=gZ (g x) (L k (ax ((i:Int)+1))))
 (b:∀k,L (k+1) (l.length:Int)=some (.go ())){F:Nat}(c:l.length<F):L F 0=some (cA (l.findSome? g)):=by
 have key:∀(d i k:Nat),i+d=l.length->d<k->L k (i:Int)=some (cA ((l.drop i).findSome? g)):=by
  intro d;induction d with
  |zero=>
   intro i k h e
   obtain⟨k,rfl⟩:∃k',k=k'+1:=⟨k-1,by omega⟩
   have hi:i=l.length:=by omega
   subst hi
   rw[b];simp[cA]
  |succ d f=>
   intro i k h e
   obtain⟨k,rfl⟩:∃k',k=k'+1:=⟨k-1,by omega⟩
   have hi:i<l.length:=by omega
   rw[aj k i l[i] (aK hi),de hi,jc]
   cases j:g l[i]with
   |some r=>rfl
   |none=>
    simp only[gZ]
    rw[eW hi a]
    exact f (i+1) k (by omega) (by omega)
 have:=key l.length 0 F (by omega) c
 simpa using this
theorem kQ{ρ:Type}{n:Nat}{L:Nat->Int->Option (Way ρ Unit)}(g:Nat->Option ρ)(b:n<=140737488355328)
 (aj:∀k (i:Nat),i<n->L (k+1) (i:Int)=gZ (g i) (L k (ax ((i:Int)+1))))
 (c:∀k,L (k+1) (n:Int)=some (.go ())){F:Nat}(d:n<F):L F 0=some (cA ((ed n).findSome? g)):=by
 have h:=each (l:=ed n) (L:=L) g (by simpa using b) (λ k i x a=>by
  have hi:i<n:=by have:=(aP.1 a).1;simpa using this
  rw[me hi]at a;simp only[aH]at a;subst a;exact aj k i hi) (λ k=>by simpa using c k) (F:=F) (by simpa using d)
 exact h
theorem Pj{σ:Type}{n:Nat}(T:Nat->Nat->Option σ)(fin:σ)(aj:∀k i,i<n->T (k+1) i=T k (i+1))(a:∀k,T (k+1) n=some fin){F:Nat}(b:n<F):T F 0=some fin:=by
 have key:∀(d i k:Nat),i+d=n->d<k->T k i=some fin:=by
  intro d;induction d with
  |zero=>
   intro i k h c
   obtain⟨k,rfl⟩:∃k',k=k'+1:=⟨k-1,by omega⟩
   have hi:i=n:=by omega
   subst hi
   exact a k
  |succ d e=>
   intro i k h c
   obtain⟨k,rfl⟩:∃k',k=k'+1:=⟨k-1,by omega⟩
   rw[aj k i (by omega)]
   exact e (i+1) k (by omega) (by omega)
 exact key n 0 F (by omega) b
abbrev Small(F n:Nat):Prop:=n<=140737488355328/\n<F
end I
namespace I
def tR(b:UInt8):Bool:=((((decide (97<=(b.toNat:Int)))&&(decide ((b.toNat:Int)<=122)))||((decide (65<=(b.toNat:Int)))&&(decide ((b.toNat:Int)<=90))))||((decide (48<=(b.toNat:Int)))&&(decide ((b.toNat:Int)<=57))))||(decide ((b.toNat:Int)=95))
def gm(s:List UInt8):Bool:=(s.findSome? λ b=>if tR b then none else some ()).isNone&&decide (s≠[])&&decide (s.length<=20)
theorem B4{F:Nat}{s:List UInt8}(h:Small F s.length):o' F s=some (gm s):=by
 unfold o';have l1:=each (l:=s) (L:=tN s) (λ b=>if tR b then none else some false) h.1 (λ k i x a=>by
  rw[tN,bM (aP.1 a).1,cond_true,bw a,ae];show cond (!tR x) _ _=_
  cases tR x<;>rfl) (λ k=>by rw[tN,bL];rfl) h.2
 rw[l1];unfold gm;have e:∀s:List UInt8,s.findSome? (λ b=>if tR b then none else some false)=(s.findSome? (λ b=>if tR b then none else some ())).map (λ _=>false):=by
  intro s;induction s with
  |nil=>rfl
  |cons b r c=>simp only[jc];cases tR b<;>simp[c]
 rw[e];cases s.findSome? (λ b=>if tR b then none else some ())with
 |some _=>rfl
 |none=>
  simp only[jq,cA,rk,Option.isNone_none,kz]
  congr 1
  rw[iT]
  cases s<;>first |(simp;done)|(simp;omega)
theorem Gm{F:Nat}{s:List UInt8}(h:Small F s.length):oC F s=some (gm s):=by
 rw[<-B4 h];unfold oC o' bytesOf;rw[if_pos h.1,ae];have e:∀k n,Dg s k n=tN s k n:=by
  intro k;induction k with
  |zero=>intro n;rfl
  |succ k a=>
   intro n
   rw[Dg,tN]
   simp only[a]
   congr 1
   congr 1
   funext b
   have hc:(((((decide ((b.toNat:Int)<97))||(decide (122<(b.toNat:Int))))&&((decide ((b.toNat:Int)<65))||(decide (90<(b.toNat:Int)))))&&((decide ((b.toNat:Int)<48))||(decide (57<(b.toNat:Int)))))&&(!decide ((b.toNat:Int)=95)))= !tR b:=by
    unfold tR;rw[iT];first |(simp;done)|(simp;omega)
   rw[hc];rfl
 rw[e];cases tN s F 0 with
 |none=>rfl
 |some w=>
  cases w with
  |out r=>rfl
  |go u=>
   simp only[rk]
   congr 1
   rw[iT]
   cases s<;>first |(simp;done)|(simp;omega)
def kindOk(k:Kind):Bool:=if k.Kind=3\/k.Kind=4 then gm k.ap else(decide (k.Kind=1)||decide (k.Kind=2))&&decide (k.ap=[])
theorem Xq{F:Nat}{k:Kind}(h:Small F k.ap.length):wW F k=some (kindOk k):=by
 unfold wW OJ kindOk;simp only[ae,Gm h];by_cases a:k.Kind=3\/k.Kind=4
 ·rw[if_pos a]
  rcases a with e |e<;>simp[e]
 ·rw[if_neg a]
  have aT: ¬k.Kind=3:=λ e=>a (.inl e)
  have bQ: ¬k.Kind=4:=λ e=>a (.inr e)
  simp[aT,bQ]
theorem Th{F:Nat}{k:Kind}(h:Small F k.ap.length):vL F k=some (kindOk k):=by
 unfold vL kindOk;simp only[B4 h,ae];by_cases a:k.Kind=3\/k.Kind=4
 ·rw[if_pos a]
  rcases a with e |e<;>simp[e]
 ·rw[if_neg a]
  have aT: ¬k.Kind=3:=λ e=>a (.inl e)
  have bQ: ¬k.Kind=4:=λ e=>a (.inr e)
  by_cases b:k.Kind=1
  ·simp[b]
  ·by_cases J:k.Kind=2
   ·simp[J]
   ·simp[aT,bQ,b,J]
def h6(n a b:Int):Bool:=decide (a<=n)&&decide (n<=b)
def ud(h:Handler):Option Int:=if gm h.ap then(if h6 h.From 0 200&&h6 h.To 0 200&&h6 h.At 0 200 then none else some 3)else some 1
def w1(k:Kind):Option Int:=if kindOk k then none else some 7
def DK(m:Method):Int:=
 if gm m.Name then
  if 4<m.cD.length\/200<m.Code.length\/4<m.cL.length then 2
  else if h6 m.hQ 0 10&&h6 m.hN 0 10 then
   match m.cD.findSome? w1 with
   |some e=>e
   |none=>if m.Returns=⟨0,[]⟩\/kindOk m.Returns=true then(m.cL.findSome? ud).getD 0 else 7
  else 3
 else 1
structure Method.Fits (F:Nat) (m:Method):Prop where
 name:Small F m.Name.length
 args:Small F m.cD.length
 arg:∀k∈m.cD,Small F k.ap.length
 ret:Small F m.Returns.ap.length
 zl:Small F m.cL.length
 hand:∀h∈m.cL,Small F h.ap.length
structure ap.Fits (F:Nat) (c:ap):Prop where
 name:Small F c.Name.length
 super:Small F c.c9.length
 fields:Small F c.Fields.length
 field:∀f∈c.Fields,Small F f.Name.length/\Small F f.Kind.ap.length
 methods:Small F c.bp.length
 method:∀m∈c.bp,m.Fits F
def Fits(F:Nat)(l:List ap):Prop:=Small F l.length/\ ∀c∈l,c.Fits F
theorem am5{F:Nat}(o:Option Int)(d:Int):cm (α:=Unit) (some (cA o)) (λ _=>some d)=some (o.getD d):=by cases o<;>rfl
theorem am6{o:Option Int}{k:Option Int}:cm (α:=Unit) (some (cA o)) (λ _=>k)=(match o with|some e=>some e |none=>k):=by cases o<;>rfl
theorem aBs{F:Nat}{m:Method}(h:m.Fits F):Dj F m=some (DK m):=by
 have l1:zC F m F 0=some (cA (m.cD.findSome? w1)):=each w1 h.args.1 (λ k i x a=>by
  rw[zC,bM (aP.1 a).1,cond_true,bw a,ae,Xq (h.arg x (bG a)),ae];unfold w1;show cond (!kindOk x) _ _=_
  cases kindOk x<;>rfl) (λ k=>by rw[zC,bL];rfl) h.args.2
 have f:∀ {x:Handler}(_:x∈m.cL)(Y:Option (Way Int Unit)),((oC F x.ap).bind λ j=>
  cond (!j) (some (.out 1)) ((nf x.From 0 200).bind λ l=>
  cond (!l) (some (.out 3)) ((nf x.To 0 200).bind λ c=>
  cond (!c) (some (.out 3)) ((nf x.At 0 200).bind λ d=>
  cond (!d) (some (.out 3)) Y))))=gZ (ud x) Y:=by
  intro x a Y
  rw[Gm (h.hand x a)]
  unfold ud nf
  simp only[ae]
  show cond (!gm x.ap) _ (cond (!h6 x.From 0 200) _ (cond (!h6 x.To 0 200) _ (cond (!h6 x.At 0 200) _ _)))=_
  cases gm x.ap<;>cases h6 x.From 0 200<;>cases h6 x.To 0 200<;>cases h6 x.At 0 200<;>rfl
 have n:Dk F m F 0=some (cA (m.cL.findSome? ud)):=each ud h.zl.1 (λ k i x a=>by
  rw[Dk,bM (aP.1 a).1,cond_true,bw a,ae];exact f (bG a) _) (λ k=>by rw[Dk,bL];rfl) h.zl.2
 have o:sv F m F 0=some (cA (m.cL.findSome? ud)):=each ud h.zl.1 (λ k i x a=>by
  rw[sv,bM (aP.1 a).1,cond_true,bw a,ae];exact f (bG a) _) (λ k=>by rw[sv,bL];rfl) h.zl.2
 unfold Dj nf DK;rw[Gm h.name,l1,n,o];have p:=Xq (F:=F) (k:=(⟨m.Returns.Kind,m.Returns.ap⟩:Kind)) h.ret;simp only[ae,p,am5 (F:=F),am6];cases gm m.Name with
 |false=>rfl
 |true=>
  simp only[eb,cond_false,if_true]
  by_cases g:4<m.cD.length\/200<m.Code.length\/4<m.cL.length
  ·rw[if_pos g]
   have:((decide (4<(m.cD.length:Int)))||(decide (200<(m.Code.length:Int)))||(decide (4<(m.cL.length:Int))))=true:=by
    simp;omega
   rw[this];rfl
  ·rw[if_neg g]
   have:((decide (4<(m.cD.length:Int)))||(decide (200<(m.Code.length:Int)))||(decide (4<(m.cL.length:Int))))=false:=by
    simp;omega
   rw[this]
   show cond (!h6 m.hQ 0 10) _ (cond (!h6 m.hN 0 10) _ _)=_
   cases h6 m.hQ 0 10<;>cases h6 m.hN 0 10<;>try rfl
   simp only[eb,cond_false,mG,if_true]
   cases m.cD.findSome? w1 with
   |some e=>rfl
   |none=>
    simp only
    by_cases b:m.Returns=⟨0,[]⟩
    ·rw[if_pos (.inl b),show(decide ((⟨m.Returns.Kind,m.Returns.ap⟩:Kind)=⟨0,[]⟩))=true from decide_eq_true b]
     rfl
    ·rw[show(decide ((⟨m.Returns.Kind,m.Returns.ap⟩:Kind)=⟨0,[]⟩))=false from decide_eq_false b]
     simp only[ja,cond_true]
     show cond (!kindOk m.Returns) _ _=_
     cases q:kindOk m.Returns with
     |true=>rw[if_pos (.inr rfl)];rfl
     |false=>rw[if_neg (by simp[b])];rfl
theorem at8{F:Nat}{m:Method}(h:m.Fits F):BZ F m=some (DK m):=by
 have l1:B0 F m F 0=some (cA (m.cD.findSome? w1)):=each w1 h.args.1 (λ k i x c=>by
  rw[B0,bM (aP.1 c).1,cond_true,bw c,ae,Th (h.arg x (bG c)),ae];unfold w1;cases kindOk x<;>rfl) (λ k=>by rw[B0,bL];rfl) h.args.2
 have j:B1 F m F 0=some (cA (m.cL.findSome? ud)):=each ud h.zl.1 (λ k i x c=>by
  rw[B1,bM (aP.1 c).1,cond_true,bw c,ae,B4 (h.hand x (bG c))];unfold ud fX;simp only[ae];show cond (!gm x.ap) _ (cond (!h6 x.From 0 200) _ (cond (!h6 x.To 0 200) _ (cond (!h6 x.At 0 200) _ _)))=_
  cases gm x.ap<;>cases h6 x.From 0 200<;>cases h6 x.To 0 200<;>cases h6 x.At 0 200<;>rfl) (λ k=>by rw[B1,bL];rfl) h.zl.2
 unfold BZ fX DK;rw[B4 h.name,l1,j];have l:=Th (F:=F) (k:=(⟨m.Returns.Kind,m.Returns.ap⟩:Kind)) h.ret;simp only[ae,l,am5 (F:=F),am6];cases gm m.Name with
 |false=>rfl
 |true=>
  simp only[eb,cond_false,if_true]
  by_cases f:4<m.cD.length\/200<m.Code.length\/4<m.cL.length
  ·rw[if_pos f]
   have:((decide (4<(m.cD.length:Int)))||(decide (200<(m.Code.length:Int)))||(decide (4<(m.cL.length:Int))))=true:=by
    simp;omega
   rw[this];rfl
  ·rw[if_neg f]
   have:((decide (4<(m.cD.length:Int)))||(decide (200<(m.Code.length:Int)))||(decide (4<(m.cL.length:Int))))=false:=by
    simp;omega
   rw[this]
   show cond (!h6 m.hQ 0 10) _ (cond (!h6 m.hN 0 10) _ _)=_
   cases h6 m.hQ 0 10<;>cases h6 m.hN 0 10<;>try rfl
   simp only[eb,cond_false,mG,if_true]
   cases m.cD.findSome? w1 with
   |some e=>rfl
   |none=>
    simp only
    show cond ((!kindOk m.Returns)&&_) _ _=_
    by_cases d:m.Returns=⟨0,[]⟩
    ·rw[if_pos (.inl d),d]
     simp
    ·have n:((!decide (m.Returns.Kind=0))||(!decide (m.Returns.ap=[])))=true:=by
      rcases o:m.Returns with⟨a,b⟩;rw[o]at d;by_cases g:a=0
      ·by_cases ag:b=[]
       ·subst g;subst ag;exact absurd rfl d
       ·simp[ag]
      ·simp[g]
     rw[n];cases p:kindOk m.Returns with
     |true=>rw[if_pos (.inr rfl)];rfl
     |false=>rw[if_neg (by simp[d])];rfl
end I
namespace I
def iu(f:Field):Option Int:=if gm f.Name then(if kindOk f.Kind then none else some 7)else some 1
def gr(e:Int):Option Int:=if e=0 then none else some e
def gW(m:Method):Option Int:=gr (DK m)
def Ft(c:ap):Int:=
 if gm c.Name&&(decide (c.c9=[])||gm c.c9)then
  if 6<c.Fields.length\/8<c.bp.length then 2
  else(c.Fields.findSome? iu).getD ((c.bp.findSome? gW).getD 0)
 else 1
def r2(c:ap):Option Int:=gr (Ft c)
def r3(l:List ap):Int:=if 10<l.length then 2 else(l.findSome? r2).getD 0
def pS{ρ:Type}(o:Option ρ)(y:Option ρ):Option ρ:=match o with
 |some e=>some e
 |none=>y
theorem YN{e:Int}{Y:Option (Way Int Unit)}:cond (!decide (e=0)) (some (.out e)) Y=gZ (gr e) Y:=by
 unfold gr gZ;by_cases h:e=0
 ·rw[if_pos h,decide_eq_true h];rfl
 ·rw[if_neg h,decide_eq_false h];rfl
theorem aeS{a b:Nat}(x y:Nat):((decide ((x:Int)<(a:Int)))||(decide ((y:Int)<(b:Int))))=decide (x<a\/y<b):=by
 rw[iT];simp
theorem oT{o:Option Int}{k:Unit->Option (Way Int Unit)}:dd (α:=Unit) (some (cA o)) k=gZ o (k ()):=by cases o<;>rfl
theorem kb{ρ:Type}{o:Option ρ}{k:Unit->Option ρ}:cm (α:=Unit) (some (cA o)) k=pS o (k ()):=by cases o<;>rfl
theorem rl{o:Option Int}{Y:Option (Way Int Unit)}{k:Unit->Option (Way Int Unit)}:dd (α:=Unit) (gZ o Y) k=gZ o (dd (α:=Unit) Y k):=by cases o<;>rfl
section
variable{F:Nat}
theorem aBr{c:ap}(h:c.Fits F):Kb F c=some (Ft c):=by
 have ad:∀ {x:Field}(_:x∈c.Fields)(Y:Option (Way Int Unit)),((oC F x.Name).bind λ j=>
  cond (!j) (some (.out 1)) ((wW F (⟨x.Kind.Kind,x.Kind.ap⟩:Kind)).bind λ l=>
  cond (!l) (some (.out 7)) Y))=gZ (iu x) Y:=by
  intro x a Y
  rw[Gm (h.field x a).1,Xq (k:=(⟨x.Kind.Kind,x.Kind.ap⟩:Kind)) (h.field x a).2]
  unfold iu
  simp only[ae]
  show cond (!gm x.Name) _ (cond (!kindOk x.Kind) _ _)=_
  cases gm x.Name<;>cases kindOk x.Kind<;>rfl
 have d:∀ {x:Method}(_:x∈c.bp)(Y:Option (Way Int Unit)),((Dj F (⟨x.Name,x.Static,x.cD,(⟨x.Returns.Kind,x.Returns.ap⟩:Kind),x.hQ,x.hN,x.Code,x.cL⟩:Method)).bind λ f=>
  cond (!decide (f=0)) (some (.out f)) Y)=gZ (gW x) Y:=by
  intro x a Y
  have:=aBs (F:=F) (m:=(⟨x.Name,x.Static,x.cD,(⟨x.Returns.Kind,x.Returns.ap⟩:Kind),x.hQ,x.hN,x.Code,x.cL⟩:Method)) (h.method x a)
  rw[this,ae]
  exact YN
 have l1:Dh F c F 0=some (cA (c.Fields.findSome? iu)):=each iu h.fields.1 (λ k i x a=>by
  rw[Dh,bM (aP.1 a).1,cond_true,bw a,ae];exact ad (bG a) _) (λ k=>by rw[Dh,bL];rfl) h.fields.2
 have n:wV F c F 0=some (cA (c.Fields.findSome? iu)):=each iu h.fields.1 (λ k i x a=>by
  rw[wV,bM (aP.1 a).1,cond_true,bw a,ae];exact ad (bG a) _) (λ k=>by rw[wV,bL];rfl) h.fields.2
 have o:Di F c F 0=some (cA (c.bp.findSome? gW)):=each gW h.methods.1 (λ k i x a=>by
  rw[Di,bM (aP.1 a).1,cond_true,bw a,ae];exact d (bG a) _) (λ k=>by rw[Di,bL];rfl) h.methods.2
 have q:su F c F 0=some (cA (c.bp.findSome? gW)):=each gW h.methods.1 (λ k i x a=>by
  rw[su,bM (aP.1 a).1,cond_true,bw a,ae];exact d (bG a) _) (λ k=>by rw[su,bL];rfl) h.methods.2
 unfold Kb Ft;rw[Gm h.name,Gm h.super,l1,o,n,q];simp only[ae,kb,show(6 :Int)=((6 :Nat):Int) from rfl,show(8 :Int)=((8 :Nat):Int) from rfl,aeS];cases gm c.Name with
 |false=>rfl
 |true=>
  simp only[eb,cond_false,kz]
  have g:∀p:Bool,p=decide (6<c.Fields.length\/8<c.bp.length)->cond p (some (2 :Int)) (pS (c.Fields.findSome? iu) (pS (c.bp.findSome? gW) (some 0)))=
   some (if 6<c.Fields.length\/8<c.bp.length then 2 else(c.Fields.findSome? iu).getD ((c.bp.findSome? gW).getD 0)):=by
   intro p r
   subst r
   by_cases b:6<c.Fields.length\/8<c.bp.length
   ·rw[if_pos b,decide_eq_true b];rfl
   ·rw[if_neg b,decide_eq_false b]
    cases c.Fields.findSome? iu with
    |some e=>rfl
    |none=>cases c.bp.findSome? gW<;>rfl
  by_cases aj:c.c9=[]
  ·rw[decide_eq_true aj]
   simp only[eb,cond_false,Bool.true_or,if_true]
   exact g _ rfl
  ·rw[decide_eq_false aj]
   simp only[ja,cond_true,iQ]
   cases gm c.c9 with
   |false=>rfl
   |true=>
    simp only[eb,cond_false,if_true]
    exact g _ rfl
theorem aBq{l:List ap}(h:Fits F l):Ka F l=some (r3 l):=by
 have l1:zB F l F 0=some (cA (l.findSome? r2)):=each r2 h.1.1 (λ k i x a=>by
  rw[zB,bM (aP.1 a).1,cond_true,bw a,ae,aBr (c:=(⟨x.Name,x.c9,x.Fields,x.bp⟩:ap)) (h.2 x (bG a)),ae];exact YN) (λ k=>by rw[zB,bL];rfl) h.1.2
 unfold Ka r3;rw[l1,kb];by_cases b:10<l.length
 ·rw[if_pos b,decide_eq_true (show(10 :Int)<(l.length:Int) by omega)];rfl
 ·rw[if_neg b,decide_eq_false (show¬(10 :Int)<(l.length:Int) by omega)]
  cases l.findSome? r2<;>rfl
theorem at7{l:List ap}(h:Fits F l):Ik F l=some (r3 l):=by
 have body:∀ {c:ap}(_:c.Fits F),E' F c F 0=some (cA (c.Fields.findSome? iu))/\yD F c F 0=some (cA (c.Fields.findSome? iu))/\Fa F c F 0=some (cA (c.bp.findSome? gW))/\yE F c F 0=some (cA (c.bp.findSome? gW)):=by
  intro c hc
  have ad:∀ {x:Field}(_:x∈c.Fields)(i:Int)(_:idx c.Fields i=some x)(Y:Option (Way Int Unit)),((o' F x.Name).bind λ o=>
   cond (!o) (some (.out 1)) ((idx c.Fields i).bind λ x=>(vL F (⟨x.Kind.Kind,x.Kind.ap⟩:Kind)).bind λ q=>
   cond (!q) (some (.out 7)) Y))=gZ (iu x) Y:=by
   intro x a i hi Y
   rw[B4 (hc.field x a).1,hi]
   unfold iu
   simp only[ae]
   rw[Th (k:=(⟨x.Kind.Kind,x.Kind.ap⟩:Kind)) (hc.field x a).2,ae]
   show cond (!gm x.Name) _ (cond (!kindOk x.Kind) _ _)=_
   cases gm x.Name<;>cases kindOk x.Kind<;>rfl
  have b:∀ {x:Method}(_:x∈c.bp)(Y:Option (Way Int Unit)),((BZ F x).bind λ j=>
   cond (!decide (j=0)) (some (.out j)) Y)=gZ (gW x) Y:=by
   intro x a Y
   rw[at8 (hc.method x a),ae]
   exact YN
  refine⟨each iu hc.fields.1 (λ k i x a=>?_) (λ k=>by rw[E',bL];rfl) hc.fields.2,each iu hc.fields.1 (λ k i x a=>?_) (λ k=>by rw[yD,bL];rfl) hc.fields.2,
   each gW hc.methods.1 (λ k i x a=>?_) (λ k=>by rw[Fa,bL];rfl) hc.methods.2,each gW hc.methods.1 (λ k i x a=>?_) (λ k=>by rw[yE,bL];rfl) hc.methods.2⟩
  ·rw[E',bM (aP.1 a).1,cond_true,bw a,ae];rw[<-bw a];exact ad (bG a) _ (bw a) _
  ·rw[yD,bM (aP.1 a).1,cond_true,bw a,ae];rw[<-bw a];exact ad (bG a) _ (bw a) _
  ·rw[Fa,bM (aP.1 a).1,cond_true,bw a,ae];exact b (bG a) _
  ·rw[yE,bM (aP.1 a).1,cond_true,bw a,ae];exact b (bG a) _
 have l1:BJ F l F 0=some (cA (l.findSome? r2)):=each r2 h.1.1 (λ k i c a=>by
  have hc:=h.2 c (bG a);obtain⟨r,e6,s,t⟩:=body hc;rw[BJ,bM (aP.1 a).1,cond_true,bw a,ae,B4 hc.name,B4 hc.super,r,s,e6,t];simp only[ae,oT,show(6 :Int)=((6 :Nat):Int) from rfl,show(8 :Int)=((8 :Nat):Int) from rfl,aeS];unfold r2 Ft;cases gm c.Name with
  |false=>rfl
  |true=>
   simp only[eb,cond_false,kz]
   have m:∀(p:Bool)(Y:Option (Way Int Unit)),p=decide (6<c.Fields.length\/8<c.bp.length)->dd (α:=Unit) (cond p (some (.out (2 :Int))) (gZ (c.Fields.findSome? iu) (gZ (c.bp.findSome? gW) (some (.go ()))))) (λ _=>Y)=
    gZ (gr (if 6<c.Fields.length\/8<c.bp.length then 2 else(c.Fields.findSome? iu).getD ((c.bp.findSome? gW).getD 0))) Y:=by
    intro p Y u
    subst u
    by_cases d:6<c.Fields.length\/8<c.bp.length
    ·rw[if_pos d,decide_eq_true d];rfl
    ·rw[if_neg d,decide_eq_false d,cond_false]
     have f:∀e,c.Fields.findSome? iu=some e->gr e=some e:=by
      intro e g;obtain⟨x,_,a⟩:=eN g;unfold iu at a;split at a
      ·split at a
       ·cases a
       ·injection a with a;subst a;rfl
      ·injection a with a;subst a;rfl
     have v:∀e,c.bp.findSome? gW=some e->gr e=some e:=by
      intro e g;obtain⟨x,_,a⟩:=eN g;unfold gW at a;unfold gr at a⊢;split at a
      ·cases a
      ·rename_i w;injection a with a;subst a;rw[if_neg w]
     cases ad:c.Fields.findSome? iu with
     |some e=>simp only[jd,f e ad];rfl
     |none=>
      cases b:c.bp.findSome? gW with
      |some e=>simp only[jd,jL,v e b];rfl
      |none=>rfl
   by_cases aj:c.c9=[]
   ·rw[decide_eq_true aj]
    simp only[eb,cond_false,Bool.true_or,if_true]
    exact m _ _ rfl
   ·rw[decide_eq_false aj]
    simp only[ja,cond_true,iQ]
    cases gm c.c9 with
    |false=>rfl
    |true=>
     simp only[eb,cond_false,if_true]
     exact m _ _ rfl) (λ k=>by rw[BJ,bL];rfl) h.1.2
 unfold Ik r3;rw[l1,kb];by_cases n:10<l.length
 ·rw[if_pos n,decide_eq_true (show(10 :Int)<(l.length:Int) by omega)];rfl
 ·rw[if_neg n,decide_eq_false (show¬(10 :Int)<(l.length:Int) by omega)]
  cases l.findSome? r2<;>rfl
end
structure Right (l:List ap):Prop where
 len:l.length<=10
 name:∀c∈l,gm c.Name=true
 fields:∀c∈l,c.Fields.length<=6
 methods:∀c∈l,c.bp.length<=8
 method:∀c∈l,∀m∈c.bp,m.cD.length<=4/\m.cL.length<=4
theorem aD2{m:Method}(h:DK m=0):m.cD.length<=4/\m.cL.length<=4:=by
 unfold DK at h;split at h
 ·split at h
  ·exact absurd h (by decide)
  ·rename_i a;exact⟨by omega,by omega⟩
 ·exact absurd h (by decide)
theorem aFa{e:Int}(h:gr e=none):e=0:=by
 unfold gr at h;split at h
 ·assumption
 ·cases h
theorem aFb{e x:Int}(h:gr e=some x):x≠0:=by
 unfold gr at h;split at h
 ·cases h
 ·rename_i a;injection h with h;subst h;exact a
theorem aBD{s:List UInt8}(h:gm s=true):s≠[]:=by
 unfold gm at h;simp only[cb,decide_eq_true_eq]at h;exact h.1.2
theorem au4{l:List ap}(h:r3 l=0):Right l:=by
 unfold r3 at h;by_cases f:10<l.length
 ·rw[if_pos f]at h;exact absurd h (by decide)
 ·rw[if_neg f]at h
  have i:∀c∈l,Ft c=0:=by
   intro c hc;cases ad:l.findSome? r2 with
   |some e=>
    rw[ad]at h
    simp only[jd]at h
    subst h
    obtain⟨x,_,a⟩:=eN ad
    unfold r2 gr at a
    split at a
    ·cases a
    ·rename_i j;injection a with a;exact absurd a j
   |none=>
    have:=gS.1 ad c hc
    unfold r2 gr at this
    split at this
    ·assumption
    ·cases this
  have key:∀c∈l,gm c.Name=true/\c.Fields.length<=6/\c.bp.length<=8/\ ∀m∈c.bp,m.cD.length<=4/\m.cL.length<=4:=by
   intro c hc;have b:=i c hc;unfold Ft at b;split at b
   ·rename_i g
    simp only[cb]at g
    split at b
    ·exact absurd b (by decide)
    ·rename_i J
     refine⟨g.1,by omega,by omega,λ m k=>?_⟩
     cases ad:c.Fields.findSome? iu with
     |some e=>
      rw[ad]at b
      simp only[jd]at b
      subst b
      obtain⟨x,_,a⟩:=eN ad
      unfold iu at a
      split at a
      ·split at a
       ·cases a
       ·injection a with a;exact absurd a (by decide)
      ·injection a with a;exact absurd a (by decide)
     |none=>
      rw[ad]at b
      simp only[jL]at b
      cases d:c.bp.findSome? gW with
      |some e=>
       rw[d]at b
       simp only[jd]at b
       subst b
       obtain⟨x,_,a⟩:=eN d
       exact absurd rfl (aFb a)
      |none=>exact aD2 (aFa (gS.1 d m k))
   ·exact absurd b (by decide)
  exact⟨by omega,λ c hc=>(key c hc).1,λ c hc=>(key c hc).2.1,λ c hc=>(key c hc).2.2.1,λ c hc=>(key c hc).2.2.2⟩
end I
namespace I
def eE{α:Type}(p:α->Bool):List α->Option Nat
 |[]=>none
 |x::r=>if p x then some 0 else(eE p r).map (·+1)
theorem KS{α:Type}{p:α->Bool}:∀ {l:List α}{i:Nat},eE p l=some i-> ∃x,l[i]? =some x/\p x=true/\ ∀j y,j<i->l[j]? =some y->p y=false
 |[],i,h=>by simp[eE]at h
 |x::r,i,h=>by
  simp only[eE]at h;split at h
  ·rename_i a
   injection h with h
   subst h
   exact⟨x,rfl,a,λ j y aA=>absurd aA (by omega)⟩
  ·rename_i a
   cases b:eE p r with
   |none=>rw[b]at h;cases h
   |some k=>
    rw[b]at h
    simp only[fU,aH]at h
    subst h
    obtain⟨y,d,J,e⟩:=KS b
    refine⟨y,by simpa using d,J,λ j z aA c=>?_⟩
    cases j with
    |zero=>
     simp only[dU,aH]at c
     subst c
     simpa using a
    |succ j=>exact e j z (by omega) (by simpa using c)
theorem Y8{α:Type}{p:α->Bool}:∀ {l:List α},eE p l=none-> ∀x∈l,p x=false
 |[],_,x,a=>by cases a
 |y::r,h,x,a=>by
  simp only[eE]at h;split at h
  ·cases h
  ·rename_i b
   have c:eE p r=none:=by simpa using h
   rcases cI.1 a with rfl |e
   ·simpa using b
   ·exact Y8 c x e
theorem aFE{α:Type}{p:α->Bool}{l:List α}{i:Nat}{x:α}(hi:l[i]? =some x)(a:p x=true)(ag:∀j y,j<i->l[j]? =some y->p y=false):eE p l=some i:=by
 cases h:eE p l with
 |none=>have:=Y8 h x (bG hi);rw[a]at this;cases this
 |some j=>
  obtain⟨y,b,J,c⟩:=KS h
  rcases Nat.lt_trichotomy i j with e |e |e
  ·have:=c i x e hi;rw[a]at this;cases this
  ·rw[e]
  ·have:=ag j y e b;rw[J]at this;cases this
theorem Y7{α:Type}{p:α->Bool}{l:List α}{i:Nat}(h:eE p l=some i):i<l.length:=by
 obtain⟨x,a,_⟩:=KS h;exact(aP.1 a).1
theorem UM{α ρ:Type}{l:List α}{L:Nat->Int->Option (Way ρ Unit)}(p:α->Bool)(f:Nat->ρ)(a:l.length<=140737488355328)
 (aj:∀k (i:Nat) x,l[i]? =some x->L (k+1) (i:Int)=cond (p x) (some (.out (f i))) (L k (ax ((i:Int)+1))))
 (b:∀k,L (k+1) (l.length:Int)=some (.go ())){F:Nat}(c:l.length<F):L F 0=some (cA ((eE p l).map f)):=by
 have key:∀(d i k:Nat),i+d=l.length->d<k->L k (i:Int)=some (cA ((eE p (l.drop i)).map λ j=>f (i+j))):=by
  intro d;induction d with
  |zero=>
   intro i k h e
   obtain⟨k,rfl⟩:∃k',k=k'+1:=⟨k-1,by omega⟩
   have hi:i=l.length:=by omega
   subst hi
   rw[b];simp[cA,eE]
  |succ d g=>
   intro i k h e
   obtain⟨k,rfl⟩:∃k',k=k'+1:=⟨k-1,by omega⟩
   have hi:i<l.length:=by omega
   rw[aj k i l[i] (aK hi),de hi,eE]
   cases m:p l[i]with
   |true=>simp[cA]
   |false=>
    simp only[cond_false,hX,if_false]
    rw[eW hi a,g (i+1) k (by omega) (by omega)]
    congr 2
    rw[Option.map_map]
    congr 1
    funext j
    simp only[Function.comp]
    congr 1
    omega
 have:=key l.length 0 F (by omega) c
 simpa using this
def gl(nm:List UInt8)(c:ap):Bool:=decide (c.Name=nm)
def cX(l:List ap)(nm:List UInt8):Int:=((eE (gl nm) l).map λ n:Nat=>(n:Int)).getD (-1)
theorem yL{F:Nat}{l:List ap}(h:Small F l.length)(nm:List UInt8):o_ F l nm=some (cX l nm):=by
 unfold o_ cX;have l1:B2 l nm F 0=some (cA ((eE (gl nm) l).map λ n:Nat=>(n:Int))):=UM (gl nm) _ h.1 (λ k i x a=>by
  rw[B2,bM (aP.1 a).1,cond_true,bw a,ae];rfl) (λ k=>by rw[B2,bL];rfl) h.2
 rw[l1,kb];cases eE (gl nm) l<;>rfl
theorem TP{l:List ap}{nm:List UInt8}:cX l nm<l.length:=by
 unfold cX;cases h:eE (gl nm) l with
 |none=>simp only[jq,jL];omega
 |some i=>have:=Y7 h;simp only[fU,jd];omega
theorem au5{l:List ap}{nm:List UInt8}:cX l nm<0↔eE (gl nm) l=none:=by
 unfold cX;cases h:eE (gl nm) l with
 |none=>simp
 |some i=>simp only[fU,jd];constructor<;>intro h<;>first |omega |cases h
theorem Hh{α:Type}{l:List α}{i:Nat}{x:α}(h:l[i]? =some x):l.set i x=l:=by
 obtain⟨a,e⟩:=aP.1 h;rw[<-e,mI]
theorem Nd{α:Type}{b:Nat}{l:List α}(h:l.length*b<=140737488355328):(bI b ([]:List α) l).bind (λ l=>some l)=some l:=by
 unfold bI;rw[if_pos (by simpa using h)];simp
theorem aFr{F:Nat}{l:List ap}(j:100<F)(h:Right l):Ks F l=some l:=by
 have c2:∀(eZ:List Method),eZ.length<=8 ->(∀m∈eZ,m.cD.length<=4/\m.cL.length<=4)->uJ F eZ (eZ.length:Int) 0=some eZ:=by
  intro eZ f b;refine Pj (n:=eZ.length) (λ k i=>uJ k eZ (eZ.length:Int) (i:Int)) eZ (λ k i hi=>?_) (λ k=>?_) (F:=F) (by omega)
  ·obtain⟨x,a⟩:∃x,eZ[i]? =some x:=⟨eZ[i],aK hi⟩
   have ag:=b x (bG a)
   show uJ (k+1) eZ (eZ.length:Int) (i:Int)=_
   rw[uJ,bM hi,cond_true,bw a,ae]
   unfold aaX aaW
   rw[Nd (by omega),ae,Nd (by omega),ae,ae,ae]
   have g:eZ.set (i:Int).toNat (⟨x.Name,x.Static,x.cD,(⟨x.Returns.Kind,x.Returns.ap⟩:Kind),x.hQ,x.hN,x.Code,x.cL⟩:Method)=eZ:=Hh (i:=i) a
   simp only[g,bw a,ae]
   rw[eW hi (by omega)]
  ·show uJ (k+1) eZ (eZ.length:Int) (eZ.length:Int)=_
   rw[uJ,bL];rfl
 unfold Ks;have c1:sJ F l F [] 0=some l:=by
  refine Pj (n:=l.length) (λ k i=>sJ F l k (l.take i) (i:Int)) l (λ k i hi=>?_) (λ k=>?_) (F:=F) (by have:=h.len;omega)
  ·obtain⟨x,a⟩:∃x,l[i]? =some x:=⟨l[i],aK hi⟩
   have c:=bG a
   have ad:=h.fields x c
   have b:=h.methods x c
   have d:=h.len
   show sJ F l (k+1) (l.take i) (i:Int)=_
   rw[sJ,bM hi,cond_true,bw a,ae]
   unfold aaV aaY
   rw[Nd (by omega),ae,Nd (by omega),ae,c2 x.bp b (h.method x c),ae]
   unfold bI
   rw[if_pos (by simp only[fZ,dL,gR];omega)]
   simp only[ae]
   rw[eW hi (by omega)]
   have e:l.take i++[(⟨x.Name,x.c9,x.Fields,x.bp⟩:ap)]=l.take (i+1):=by
    rw[lK,a];rfl
   rw[e]
  ·show sJ F l (k+1) (l.take l.length) (l.length:Int)=_
   rw[sJ,bL,jI];rfl
 rw[c1];rfl
def e1:Nat->List ap->List (List UInt8×Int)
 |_,[]=>[]
 |k,c::r=>(c.Name,(k:Int))::e1 (k+1) r
theorem GI(nm:List UInt8):∀(l:List ap)(k:Nat),cH (e1 k l) nm=(eE (gl nm) l).map λ n:Nat=>((n+k:Nat):Int)
 |[],k=>rfl
 |c::r,k=>by
  simp only[e1,cH,eE,gl];by_cases h:c.Name=nm
  ·simp[h]
  ·simp only[h,if_false,decide_false,hX]
   rw[GI nm r (k+1),Option.map_map]
   congr 1
   funext j
   simp only[Function.comp]
   congr 1
   omega
theorem ajX(c:ap):∀(l:List ap)(k:Nat),e1 k (l++[c])=e1 k l++[(c.Name,((k+l.length:Nat):Int))]
 |[],k=>by simp[e1]
 |d::r,k=>by
  simp only[iE,e1,dL];rw[ajX c r (k+1)];congr 4;omega
theorem GC{cR β:Type} [DecidableEq cR]{k:cR}{v:β}:∀ {m:List (cR×β)},cH m k=none->gf m k v=m++[(k,v)]
 |[],_=>rfl
 |p::r,h=>by
  simp only[cH]at h;split at h
  ·cases h
  ·rename_i a
   simp only[gf,if_neg a,iE]
   rw[GC h]
def BH(l:List ap):Prop:=∀(i j:Nat)(x y:ap),l[i]? =some x->l[j]? =some y->x.Name=y.Name->i=j
theorem aFl{l:List ap}(h:BH l){i:Nat}{x:ap}(hi:l[i]? =some x):cX l x.Name=(i:Int):=by
 unfold cX;rw[aFE (i:=i) hi (by simp[gl]) (λ j y aA hy=>by
  simp only[gl,decide_eq_false_iff_not];intro e;have:=h j i y x hy hi e;omega)]
 rfl
theorem aEC{F:Nat}{l:List ap}(R:100<F)(h:Right l) :
 (BH l/\pM ⟨l,[],[]⟩ F [] 0=some (.go (e1 0 l))/\vJ F l F 0=some (.go ()))\/
 (¬BH l/\(∃m,pM ⟨l,[],[]⟩ F [] 0=some (.out (6,m)))/\vJ F l F 0=some (.out 6)):=by
 have B:=h.len
 have C:vJ F l F 0=some (cA ((ed l.length).findSome? λ i:Nat=>(l[i]?).bind λ x:ap=>if cX l x.Name=(i:Int)then none else some 6)):=kQ _ (by omega) (λ k i hi=>by
  obtain⟨x,c⟩:∃x,l[i]? =some x:=⟨l[i],aK hi⟩
  rw[vJ,bM hi,cond_true,bw c,ae,yL ⟨by omega,by omega⟩,ae,c,ae];by_cases e:cX l x.Name=(i:Int)
  ·rw[if_pos e,decide_eq_true e];rfl
  ·rw[if_neg e,decide_eq_false e];rfl) (λ k=>by rw[vJ,bL];rfl) (by omega)
 have key:∀(d i k:Nat),i+d=l.length->d<k->BH (l.take i) ->
  (BH l/\pM ⟨l,[],[]⟩ k (e1 0 (l.take i)) i=some (.go (e1 0 l)))\/(¬BH l/\ ∃m,pM ⟨l,[],[]⟩ k (e1 0 (l.take i)) i=some (.out (6,m))):=by
  intro d
  induction d with
  |zero=>
   intro i k hi I o
   obtain⟨k,rfl⟩:∃k',k=k'+1:=⟨k-1,by omega⟩
   have e:i=l.length:=by omega
   subst e
   rw[jI]at o⊢
   left
   refine⟨o,?_⟩
   rw[pM,bL];rfl
  |succ d K=>
   intro i k hi I o
   obtain⟨k,rfl⟩:∃k',k=k'+1:=⟨k-1,by omega⟩
   have p:i<l.length:=by omega
   obtain⟨x,c⟩:∃x,l[i]? =some x:=⟨l[i],aK p⟩
   rw[pM,bM p,cond_true,bw c,ae,GI]
   cases r:eE (gl x.Name) (l.take i)with
   |some j=>
    right
    obtain⟨y,f,J,_⟩:=KS r
    refine⟨λ n=>?_,_,rfl⟩
    have L:j<i:=by have:=(aP.1 f).1;simp only[fZ]at this;omega
    have hy:l[j]? =some y:=by rw[hG]at f;rw[if_pos L]at f;exact f
    have:=n j i y x hy c (by simpa[gl]using J)
    omega
   |none=>
    simp only[jq,mo,cond_false]
    have s:cH (e1 0 (l.take i)) x.Name=none:=by rw[GI,r];rfl
    rw[GC s,eW p (by omega)]
    have M:l.take (i+1)=l.take i++[x]:=by rw[lK,c];rfl
    have ao:e1 0 (l.take i)++[(x.Name,(i:Int))]=e1 0 (l.take (i+1)):=by
     rw[M,ajX];congr 4;simp only[fZ];omega
    rw[ao]
    refine K (i+1) k (by omega) (by omega) ?_
    intro a b u v g ag t
    rw[hG]at g ag
    split at g
    ·split at ag
     ·rename_i N S
      have w:=Y8 r
      have D:∀(q:Nat)(z:ap),q<i->l[q]? =some z->z.Name≠x.Name:=λ q z O P e=>by
       have:=w z (bG (i:=q) (by rw[hG,if_pos O];exact P));simp[gl,e]at this
      by_cases A:a=i
      ·by_cases E:b=i
       ·omega
       ·subst A
        rw[c]at g;injection g with g;subst g
        exact absurd t.symm (D b v (by omega) ag)
      ·by_cases E:b=i
       ·subst E
        rw[c]at ag;injection ag with ag;subst ag
        exact absurd t (D a u (by omega) g)
       ·exact o a b u v (by rw[hG,if_pos (by omega)];exact g) (by rw[hG,if_pos (by omega)];exact ag) t
     ·cases ag
    ·cases g
 have G:=key l.length 0 F (by omega) (by omega) (λ i j x y hi=>by simp at hi)
 have Q:e1 0 (l.take 0)=[]:=by simp[e1]
 rw[Q]at G
 rcases G with⟨n,f⟩|⟨n,f⟩
 ·left
  refine⟨n,f,?_⟩
  rw[C]
  have:((ed l.length).findSome? λ i:Nat=>(l[i]?).bind λ x:ap=>if cX l x.Name=(i:Int)then none else some (6 :Int))=none:=by
   rw[gS];intro i hi;obtain⟨x,c⟩:∃x,l[i]? =some x:=⟨l[i]'(by simpa using hi),aK _⟩
   rw[c,ae,if_pos (aFl n c)]
  rw[this];rfl
 ·right
  refine⟨n,f,?_⟩
  rw[C]
  cases ad:((ed l.length).findSome? λ i:Nat=>(l[i]?).bind λ x:ap=>if cX l x.Name=(i:Int)then none else some (6 :Int))with
  |some e=>
   obtain⟨i,_,hi⟩:=eN ad
   cases c:l[i]? with
   |none=>rw[c]at hi;cases hi
   |some x=>
    rw[c,ae]at hi
    split at hi
    ·cases hi
    ·injection hi with hi;subst hi;rfl
  |none=>
   exfalso
   apply n
   have H:∀(i:Nat)(x:ap),l[i]? =some x->cX l x.Name=(i:Int):=by
    intro i x c;have:=gS.1 ad i (by have:=(aP.1 c).1;simpa using this);rw[c,ae]at this;split at this
    ·assumption
    ·cases this
   intro i j x y c hy e
   have f:=H i x c
   have J:=H j y hy
   rw[e]at f
   omega
end I
namespace I
def Eg{ρ σ:Type}(o:Option ρ)(a:σ):Way ρ σ:=match o with
 |some r=>.out r
 |none=>.go a
def am9{ρ σ:Type}(o:Option ρ)(y:Option (Way ρ σ)):Option (Way ρ σ):=match o with
 |some r=>some (.out r)
 |none=>y
theorem Tu{ρ σ:Type}{n:Nat}(T:Nat->Nat->Option (Way ρ σ))(g:Nat->Option ρ)(fin:σ)(aj:∀k i,i<n->T (k+1) i=am9 (g i) (T k (i+1)))(a:∀k,T (k+1) n=some (.go fin)){F:Nat}(b:n<F) :
 T F 0=some (Eg ((ed n).findSome? g) fin):=by
 have key:∀(d i k:Nat),i+d=n->d<k->T k i=some (Eg (((ed n).drop i).findSome? g) fin):=by
  intro d;induction d with
  |zero=>
   intro i k h c
   obtain⟨k,rfl⟩:∃k',k=k'+1:=⟨k-1,by omega⟩
   have hi:i=n:=by omega
   subst hi
   rw[a,jp (by simp)];rfl
  |succ d e=>
   intro i k h c
   obtain⟨k,rfl⟩:∃k',k=k'+1:=⟨k-1,by omega⟩
   have hi:i<n:=by omega
   rw[aj k i hi,de (by simpa using hi),jc]
   simp only[List.getElem_range]
   cases f:g i with
   |some r=>rfl
   |none=>
    simp only[am9]
    exact e (i+1) k (by omega) (by omega)
 have:=key n 0 F (by omega) b
 simpa using this
theorem NR{α β cB:Type}(g:α->Option β)(f:β->cB):∀l:List α,l.findSome? (λ c=>(g c).map f)=(l.findSome? g).map f
 |[]=>rfl
 |c::r=>by
  simp only[jc];cases g c with
  |some e=>rfl
  |none=>simp only[jq];exact NR g f r
def du(l:List ap):List Int:=l.map λ c=>cX l c.c9
theorem aa3{l:List ap}{i:Nat}{x:ap}(h:l[i]? =some x):(du l)[i]? =some (cX l x.c9):=by simp[du,h]
def va(c:ap):Option Int:=if(decide (c.Name=[79,98,106,101,99,116]))==(decide (c.c9=[]))then none else some 4
def q2(l:List ap)(c:ap):Option Int:=if c.c9=[]\/0<=cX l c.c9 then none else some 5
section
variable{F:Nat}{l:List ap}
theorem aJt(b:100<F)(h:Right l):BS l F 0=some (cA (l.findSome? va)):=each va (by have:=h.len;omega) (λ k i x a=>by
 rw[BS,bM (aP.1 a).1,cond_true,bw a,ae,ae];unfold va;cases(decide (x.Name=[79,98,106,101,99,116]))==(decide (x.c9=[]))<;>rfl) (λ k=>by rw[BS,bL];rfl) (by have:=h.len;omega)
theorem aJs(b:100<F)(h:Right l)(m:List (List UInt8×Int))(s:List Int):xm ⟨l,m,s⟩ F 0=some (cA ((l.findSome? va).map λ e=>(e,(⟨l,m,s⟩:bt)))):=by
 have:=each (l:=l) (L:=xm ⟨l,m,s⟩) (λ c=>(va c).map λ e=>(e,(⟨l,m,s⟩:bt))) (by have:=h.len;omega) (λ k i x a=>by
  rw[xm];show cond (decide ((i:Int)<(l.length:Int))) ((idx l (i:Int)).bind _) _=_
  rw[bM (aP.1 a).1,cond_true,bw a,ae];unfold va;cases(decide (x.Name=[79,98,106,101,99,116]))==(decide (x.c9=[]))<;>rfl) (λ k=>by
   rw[xm];show cond (decide ((l.length:Int)<(l.length:Int))) _ _=_
   rw[bL];rfl) (F:=F) (by have:=h.len;omega)
 rw[this,NR]
theorem aEa(c:100<F)(h:Right l):yI F l F 0=some (cA (l.findSome? (q2 l))):=each (q2 l) (by have:=h.len;omega) (λ k i x a=>by
 have b:=h.len;rw[yI,bM (aP.1 a).1,cond_true,bw a,ae,ae,yL ⟨by omega,by omega⟩,ae];unfold q2;by_cases aj:x.c9=[]
 ·rw[if_pos (.inl aj),decide_eq_true aj];rfl
 ·rw[decide_eq_false aj]
  by_cases hc:0<=cX l x.c9
  ·rw[if_pos (.inr hc),decide_eq_false (show¬cX l x.c9<0 by omega)];rfl
  ·rw[if_neg (by simp[aj,hc]),decide_eq_true (show cX l x.c9<0 by omega)];rfl) (λ k=>by rw[yI,bL];rfl) (by have:=h.len;omega)
theorem au6(h:Right l):cX l []= -1:=by
 unfold cX;cases a:eE (gl []) l with
 |none=>rfl
 |some i=>
  obtain⟨x,b,J,_⟩:=KS a
  have:=aBD (h.name x (bG b))
  simp[gl]at J
  exact absurd J this
theorem aD'(u:100<F)(h:Right l):∃o:Option (Int×bt),o.map (·.1)=l.findSome? (q2 l)/\nn ⟨l,e1 0 l,[]⟩ F [] 0=some (Eg o (du l)):=by
 have d:=h.len;refine⟨(ed l.length).findSome? λ i=>((l[i]?).bind (q2 l)).map λ e=>(e,(⟨l,e1 0 l,(du l).take i⟩:bt)),?_,?_⟩
 ·have g:∀(n:Nat),n<=l.length->((List.range' (l.length-n) n).findSome? λ i=>((l[i]?).bind (q2 l)).map λ e=>(e,(⟨l,e1 0 l,(du l).take i⟩:bt))).map (·.1)=(l.drop (l.length-n)).findSome? (q2 l):=by
   intro n;induction n with
   |zero=>intro _;simp
   |succ n m=>
    intro f
    have hi:l.length- (n+1)<l.length:=by omega
    rw[List.range'_succ,jc,de hi,jc,aK hi,ae]
    cases q2 l l[l.length- (n+1)]with
    |some e=>rfl
    |none=>
     simp only[jq]
     rw[show l.length- (n+1)+1=l.length-n by omega]
     exact m (by omega)
  have:=g l.length (cT _);simpa[List.range_eq_range']using this
 ·refine Tu (n:=l.length) (λ k i=>nn ⟨l,e1 0 l,[]⟩ k ((du l).take i) (i:Int)) _ (du l) (λ k i hi=>?_) (λ k=>?_) (F:=F) (by omega)
  ·obtain⟨x,c⟩:∃x,l[i]? =some x:=⟨l[i],aK hi⟩
   show nn ⟨l,e1 0 l,[]⟩ (k+1) ((du l).take i) (i:Int)=_
   rw[nn]
   show cond (decide ((i:Int)<(l.length:Int))) (dd (α:=List Int) ((idx l (i:Int)).bind _) _) _=_
   rw[bM hi,cond_true,bw c,ae,c,ae]
   have a:cH (e1 0 l) x.c9=(eE (gl x.c9) l).map λ n:Nat=>((n+0 :Nat):Int):=GI x.c9 l 0
   have aT:(du l).take (i+1)=(du l).take i++[cX l x.c9]:=by rw[lK,aa3 c];rfl
   have p:bI 8 ((du l).take i) [cX l x.c9]=some ((du l).take (i+1)):=by
    unfold bI;rw[if_pos (by simp only[fZ,dL,gR];omega),aT]
   have fin:∀n:Int,n=cX l x.c9->dd (α:=List Int) (dd (α:=Int) (ρ:=Int×bt) (some (.go n)) λ(q:Int)=>(bI 8 ((du l).take i) [q]).bind λ r=>some (.go r)) (λ(s:List Int)=>nn ⟨l,e1 0 l,[]⟩ k s (ax ((i:Int)+1)))=nn ⟨l,e1 0 l,[]⟩ k ((du l).take (i+1)) ((i+1 :Nat):Int):=by
    intro n f;subst f;rw[oR,p,ae,oR,eW hi (by omega)]
   unfold q2
   by_cases aj:x.c9=[]
   ·rw[if_pos (.inl aj),decide_eq_true aj,cond_true]
    exact fin (-1) (by rw[aj,au6 h])
   ·rw[decide_eq_false aj,cond_false]
    cases b:eE (gl x.c9) l with
    |none=>
     have v:cX l x.c9<0:=au5.2 b
     rw[if_neg (by simp[aj];omega),a,b]
     rfl
    |some j=>
     have t:cX l x.c9=(j:Int):=by unfold cX;rw[b];rfl
     rw[if_pos (.inr (by omega)),a,b]
     exact fin _ (by rw[t];simp)
  ·show nn ⟨l,e1 0 l,[]⟩ (k+1) ((du l).take l.length) (l.length:Int)=_
   rw[nn]
   show cond (decide ((l.length:Int)<(l.length:Int))) _ _=_
   rw[bL,cond_false,h0 (by simp[du])]
def dE(S:List Int):Nat->Int->Option (List Int)
 |0,n=>if n<0 then some []else none
 |k+1,n=>if n<0 then some []else(idx S n).bind λ m=>(dE S k m).map (n:: ·)
theorem amS{S:List Int}:∀ {k:Nat}{n:Int}{c:List Int},dE S k n=some c->dE S (k+1) n=some c
 |0,n,c,h=>by
  simp only[dE]at h⊢;split at h
  ·rename_i a;rw[if_pos a];exact h
  ·cases h
 |k+1,n,c,h=>by
  rw[dE]at h⊢;split at h
  ·rename_i a;rw[if_pos a];exact h
  ·rename_i a
   rw[if_neg a]
   cases hi:idx S n with
   |none=>rw[hi]at h;cases h
   |some m=>
    rw[hi,ae]at h
    rw[ae]
    cases b:dE S k m with
    |none=>rw[b]at h;cases h
    |some d=>rw[b]at h;rw[amS b];exact h
theorem Q7{S:List Int}{k k':Nat}{n:Int}{c:List Int}(h:dE S k n=some c)(a:k<=k'):dE S k' n=some c:=by
 obtain⟨d,rfl⟩:∃d,k'=k+d:=⟨k'-k,by omega⟩
 clear a;induction d with
 |zero=>exact h
 |succ d b=>exact amS b
theorem aJK{S:List Int}{k k':Nat}{n:Int}{c a:List Int}(h:dE S k n=some c)(h':dE S k' n=some a):c=a:=by
 have b:=Q7 h (Nat.le_max_left k k');have J:=Q7 h' (Nat.le_max_right k k');rw[b]at J;exact eJ J
theorem amR{S:List Int}:∀ {k:Nat}{n:Int}{c:List Int},dE S k n=some c->c.length<=k/\dE S c.length n=some c
 |0,n,c,h=>by
  simp only[dE]at h;split at h
  ·rename_i a
   injection h with h
   subst h
   simp[dE,a]
  ·cases h
 |k+1,n,c,h=>by
  have e:=h;rw[dE]at h;split at h
  ·rename_i a
   injection h with h
   subst h
   simp[dE,a]
  ·rename_i a
   cases hi:idx S n with
   |none=>rw[hi]at h;cases h
   |some m=>
    rw[hi,ae]at h
    cases b:dE S k m with
    |none=>rw[b]at h;cases h
    |some f=>
     rw[b]at h
     simp only[fU,aH]at h
     subst h
     obtain⟨d,J⟩:=amR b
     refine⟨by simpa using d,?_⟩
     rw[dL,dE,if_neg a,hi,ae,J];rfl
theorem Q8{S:List Int}:∀ {k:Nat}{n:Int}{c:List Int},dE S k n=some c-> ∀x∈c,(0<=x/\x<S.length)/\ ∃k' a,dE S k' x=some a/\a.length<=c.length/\a≠[]
 |0,n,c,h,x,b=>by
  simp only[dE]at h;split at h
  ·injection h with h;subst h;cases b
  ·cases h
 |k+1,n,c,h,x,b=>by
  have f:=h;rw[dE]at h;split at h
  ·injection h with h;subst h;cases b
  ·rename_i j
   cases hi:idx S n with
   |none=>rw[hi]at h;cases h
   |some m=>
    rw[hi,ae]at h
    cases d:dE S k m with
    |none=>rw[d]at h;cases h
    |some a=>
     rw[d]at h
     simp only[fU,aH]at h
     subst h
     obtain⟨o,p,_⟩:=lF hi
     rcases cI.1 b with rfl |e
     ·exact⟨⟨by omega,by omega⟩,k+1,_,f,cT _,by simp⟩
     ·obtain⟨g,k',c2,J,q,i⟩:=Q8 d x e
      exact⟨g,k',c2,J,by simp only[dL];omega,i⟩
theorem amQ{S:List Int}:∀ {k:Nat}{n:Int}{c:List Int},dE S k n=some c->c.Nodup
 |0,n,c,h=>by
  simp only[dE]at h;split at h
  ·injection h with h;subst h;simp
  ·cases h
 |k+1,n,c,h=>by
  have b:=h;rw[dE]at h;split at h
  ·injection h with h;subst h;simp
  ·cases hi:idx S n with
   |none=>rw[hi]at h;cases h
   |some m=>
    rw[hi,ae]at h
    cases a:dE S k m with
    |none=>rw[a]at h;cases h
    |some f=>
     rw[a]at h
     simp only[fU,aH]at h
     subst h
     refine ie.2 ⟨λ d=>?_,amQ a⟩
     obtain⟨_,k',c2,J,e,_⟩:=Q8 a n d
     have:=aJK b J
     subst this
     simp only[dL]at e
     omega
theorem Y6:∀(n:Nat)(c:List Nat),c.Nodup->(∀x∈c,x<n)->c.length<=n
 |0,c,_,h=>by
  cases c with
  |nil=>simp
  |cons x r=>exact absurd (h x (by simp)) (by omega)
 |n+1,c,aL,h=>by
  by_cases b:n∈c
  ·have d:=Y6 n (c.erase n) (aL.erase n) (λ x a=>by
    have J:=(aL.mem_erase_iff).1 a;have:=h x J.2;omega)
   rw[mq b]at d;omega
  ·have:=Y6 n c aL (λ x a=>by
    have d:=h x a;have:x≠n:=λ e=>b (e▸a);omega)
   omega
theorem amP{S:List Int}{k:Nat}{n:Int}{c:List Int}(h:dE S k n=some c):c.length<=S.length:=by
 have d:=Q8 h;have aL:=amQ h;have:=Y6 S.length (c.map Int.toNat) (by
  rw[List.Nodup,List.pairwise_map];refine lP ?_ aL;intro a b f ag g e;have i:=(d a f).1;have J:=(d b ag).1;exact g (by omega)) (λ x j=>by
  obtain⟨y,hy,rfl⟩:=hY.1 j;have i:=(d y hy).1;omega)
 simpa using this
theorem aJJ{S:List Int}{k:Nat}{n:Int}(a:S.length<=k):dE S k n=dE S S.length n:=by
 cases h:dE S k n with
 |some c=>
  obtain⟨_,J⟩:=amR h
  exact(Q7 J (amP h)).symm
 |none=>
  cases h':dE S S.length n with
  |none=>rfl
  |some c=>rw[Q7 h' a]at h;cases h
theorem au0{m:List (List UInt8×Int)}{S:List Int}{k:Nat}{n:Int}{c:List Int}(h:dE S k n=some c)(hc:c.length<=1000)(i:1001<F):sD F ⟨l,m,S⟩ n=some c:=by
 have key:∀(k:Nat)(n:Int)(c acc:List Int)(f:Nat),dE S k n=some c->c.length<f->acc.length+c.length<=1000 ->sE ⟨l,m,S⟩ f acc n=some (acc++c):=by
  intro k;induction k with
  |zero=>
   intro n c acc f h ad _
   obtain⟨f,rfl⟩:∃a,f=a+1:=⟨f-1,by omega⟩
   simp only[dE]at h
   split at h
   ·injection h with h
    subst h
    rw[sE,decide_eq_false (by omega)]
    simp
   ·cases h
  |succ k d=>
   intro n c acc f h ad e
   obtain⟨f,rfl⟩:∃a,f=a+1:=⟨f-1,by omega⟩
   rw[dE]at h
   split at h
   ·injection h with h
    subst h
    rw[sE,decide_eq_false (by omega)]
    simp
   ·rename_i j
    cases hi:idx S n with
    |none=>rw[hi]at h;cases h
    |some x=>
     rw[hi,ae]at h
     cases b:dE S k x with
     |none=>rw[b]at h;cases h
     |some g=>
      rw[b]at h
      simp only[fU,aH]at h
      subst h
      simp only[dL]at ad e
      rw[sE,decide_eq_true (by omega),cond_true]
      unfold bI
      rw[if_pos (by simp only[dL,gR];omega)]
      show((some (acc++[n])).bind λ o=>(idx S n).bind λ p=>_)=_
      rw[ae,hi,ae,d x g (acc++[n]) f b (by omega) (by simp only[dR,dL,gR];omega)]
      simp
 unfold sD;rw[key k n c [] F h (by omega) (by simp;omega)];rfl
end
end I
namespace I
section
variable{F:Nat}{l:List ap}
theorem Hm:(du l).length=l.length:=by simp[du]
theorem xR{n:Int}(a:0<=n)(c:n<l.length):∃x,idx l n=some x/\idx (du l) n=some (cX l x.c9):=by
 obtain⟨x,b⟩:∃x,l[n.toNat]? =some x:=⟨l[n.toNat]'(by omega),aK _⟩
 refine⟨x,?_,?_⟩
 ·unfold idx;rw[if_pos a,b]
 ·unfold idx;rw[if_pos a,aa3 b]
def abj(o:Option (List Int))(acc:List Int):Way (List Int) (List Int):=match o with
 |some c=>.go (c.reverse++acc)
 |none=>.out []
def dH(l:List ap)(n:Int):List Int:=(dE (du l) l.length n).getD []
theorem Q6(r:1100<F)(h:Right l){n:Int}(i:n<l.length):yQ F l n=some (dH l n).reverse:=by
 have e:=h.len;have key:∀(d:Nat)(acc:List Int)(n:Int)(f:Nat),acc.length+d=l.length+1 ->d+1<f->n<l.length->Cn F l f n acc=some (abj (dE (du l) d n) acc):=by
  intro d;induction d with
  |zero=>
   intro acc n f j ad g
   obtain⟨f,rfl⟩:∃b,f=b+1:=⟨f-1,by omega⟩
   rw[Cn,dE]
   by_cases a:n<0
   ·rw[if_pos a,decide_eq_false (by omega)];rfl
   ·rw[if_neg a,decide_eq_true (by omega),cond_true,decide_eq_true (by omega)];rfl
  |succ d m=>
   intro acc n f j ad g
   obtain⟨f,rfl⟩:∃b,f=b+1:=⟨f-1,by omega⟩
   rw[Cn,dE]
   by_cases a:n<0
   ·rw[if_pos a,decide_eq_false (by omega)];rfl
   ·obtain⟨x,o,aj⟩:=xR (l:=l) (n:=n) (by omega) g
    rw[if_neg a,decide_eq_true (by omega),cond_true,decide_eq_false (by omega),cond_false]
    unfold bI
    rw[if_pos (by simp only[dL,gR];omega)]
    show((some ([n]++acc)).bind λ p=>(idx l n).bind λ q=>_)=_
    rw[ae,o,ae,yL ⟨by omega,by omega⟩,ae,aj,ae,m ([n]++acc) _ f (by simp only[dR,dL,gR];omega) (by omega) TP]
    cases dE (du l) d (cX l x.c9)with
    |none=>rfl
    |some c=>simp[abj]
 unfold yQ;rw[key (l.length+1) [] n F (by simp) (by omega) i,aJJ (k:=l.length+1) (by rw[Hm];omega),Hm];unfold dH;cases dE (du l) l.length n with
 |none=>rfl
 |some c=>simp[abj,cm]
def v8(l:List ap)(i:Nat):Option Int:=if(dE (du l) l.length (i:Int)).isSome then none else some 4
theorem abi{S:List Int}{k:Nat}{n:Int}{c:List Int}(h:dE S k n=some c)(d:0<=n):∃r,c=n::r:=by
 cases k with
 |zero=>simp only[dE]at h;rw[if_neg (by omega)]at h;cases h
 |succ k=>
  rw[dE,if_neg (by omega)]at h
  cases hi:idx S n with
  |none=>rw[hi]at h;cases h
  |some m=>
   rw[hi,ae]at h
   cases a:dE S k m with
   |none=>rw[a]at h;cases h
   |some b=>rw[a]at h;simp only[fU,aH]at h;exact⟨b,h.symm⟩
theorem avy(a:1100<F)(h:Right l):BT F l F 0=some (cA ((ed l.length).findSome? (v8 l))):=kQ _ (by have:=h.len;omega) (λ k i hi=>by
 rw[BT,bM hi,cond_true,Q6 a h (by omega),ae];unfold v8 dH;cases b:dE (du l) l.length (i:Int)with
 |none=>rfl
 |some c=>
  obtain⟨r,rfl⟩:=abi b (by omega)
  rw[decide_eq_false (by simp;omega)]
  rfl) (λ k=>by rw[BT,bL];rfl) (by have:=h.len;omega)
theorem aeR(h:Right l)(m:List (List UInt8×Int))(s:List Int):∀(d i f:Nat)(n:Int),i+d=l.length->d<f->0<=n->n<l.length-> ∃r,uH ⟨l,m,s⟩ (du l) f n i=some r/\(r<0↔(dE (du l) d n).isSome=true)
 |0,i,f,n,hi,ad,c,e=>by
  obtain⟨f,rfl⟩:∃b,f=b+1:=⟨f-1,by omega⟩
  have:i=l.length:=by omega
  subst this;refine⟨n,?_,?_⟩
  ·rw[uH]
   show cond (decide ((l.length:Int)<(l.length:Int))) _ _=_
   rw[bL];rfl
  ·rw[dE,if_neg (by omega)];simp;omega
 |d+1,i,f,n,hi,ad,c,e=>by
  obtain⟨f,rfl⟩:∃b,f=b+1:=⟨f-1,by omega⟩
  obtain⟨x,k,aj⟩:=xR (l:=l) (n:=n) c e;have g:=h.len;rw[uH];have hc:decide ((i:Int)<((⟨l,m,s⟩:bt).l.length:Int))=true:=bM (n:=l.length) (by omega);rw[hc,cond_true,aj,ae,dE,if_neg (by omega),aj,ae];by_cases a:cX l x.c9<0
  ·rw[decide_eq_true a,cond_true]
   refine⟨_,rfl,?_⟩
   have:dE (du l) d (cX l x.c9)=some []:=by cases d<;>simp[dE,a]
   rw[this];simp[a]
  ·rw[decide_eq_false a,cond_false,eW (n:=l.length) (by omega) (by omega)]
   obtain⟨r,j,J⟩:=aeR h m s d (i+1) f (cX l x.c9) (by omega) (by omega) (by omega) TP
   refine⟨r,j,J.trans ?_⟩
   simp
theorem avx(d:1100<F)(h:Right l)(m:List (List UInt8×Int))(s:List Int):sC F ⟨l,m,s⟩ (du l) F 0=some (cA (((ed l.length).findSome? (v8 l)).map λ e=>(e,(⟨l,m,du l⟩:bt)))):=by
 have a:=h.len;have:=kQ (n:=l.length) (L:=sC F ⟨l,m,s⟩ (du l)) (λ i=>(v8 l i).map λ e=>(e,(⟨l,m,du l⟩:bt))) (by omega) (λ k i hi=>by
  rw[sC];have hc:decide ((i:Int)<((⟨l,m,s⟩:bt).l.length:Int))=true:=bM (n:=l.length) hi;obtain⟨r,c,J⟩:=aeR h m s l.length 0 F (i:Int) (by omega) (by omega) (by omega) (by omega);rw[hc,cond_true,show(0 :Int)=((0 :Nat):Int) from rfl,c];simp only[ae];unfold v8;cases b:(dE (du l) l.length (i:Int)).isSome with
  |true=>rw[if_pos rfl,decide_eq_false (show¬((0 :Nat):Int)<=r from λ av=>by have:=J.2 b;omega)];rfl
  |false=>rw[if_neg (by simp),decide_eq_true (show((0 :Nat):Int)<=r from by
   rcases Int.lt_or_le r 0 with av |av
   ·have:=J.1 av;rw[b]at this;cases this
   ·exact av)];rfl) (λ k=>by
    rw[sC];show cond (decide ((l.length:Int)<(l.length:Int))) _ _=_
    rw[bL];rfl) (F:=F) (by omega)
 rw[this,NR]
structure h7 (l:List ap):Prop where
 right:Right l
 aOR:BH l
 aOO:∀c∈l,c.c9=[]\/0<=cX l c.c9
 up:∀i,i<l.length-> ∃c,dE (du l) l.length (i:Int)=some c
 top:∀c∈l,va c=none
 obj:0<=cX l [79,98,106,101,99,116]
theorem h7.chain(h:h7 l){n:Int}(b:0<=n)(d:n<l.length):dE (du l) l.length n=some (dH l n)/\(dH l n).length<=10/\(∀x∈dH l n,0<=x/\x<l.length):=by
 obtain⟨c,hc⟩:=h.up n.toNat (by omega);rw[show((n.toNat:Nat):Int)=n by omega]at hc;have e:dH l n=c:=by unfold dH;rw[hc];rfl
 rw[e];refine⟨hc,?_,λ x a=>?_⟩
 ·have:=amP hc;rw[Hm]at this;have:=h.right.len;omega
 ·have:=(Q8 hc x a).1;rw[Hm]at this;exact this
theorem h7.X8(h:h7 l)(c:1100<F)(m:List (List UInt8×Int)){n:Int}(a:0<=n)(b:n<l.length):sD F ⟨l,m,du l⟩ n=some (dH l n):=by
 obtain⟨hc,d,_⟩:=h.chain a b;exact au0 (l:=l) hc (by omega) (by omega)
def oc(l:List ap)(i:Int):List Field:=((idx l i).map (·.Fields)).getD []
def fF(l:List ap)(n:Int):List Field:=(dH l n).reverse.flatMap (oc l)
theorem UO(h:Right l)(i:Int):(oc l i).length<=6:=by
 unfold oc;cases a:idx l i with
 |none=>simp
 |some x=>
  obtain⟨_,_,J⟩:=lF a
  exact h.fields x (bG J)
theorem UP(h:Right l):∀r:List Int,(r.flatMap (oc l)).length<=6*r.length
 |[]=>by simp
 |x::r=>by
  have a:=UO h x;have J:=UP h r;simp only[ig,dR,dL];omega
theorem agx(h:Right l)(m:List (List UInt8×Int))(s:List Int):∀(rem:List Int)(acc:List Field),(∀x∈rem,0<=x/\x<l.length)->acc.length+6*rem.length<=1000 ->zK ⟨l,m,s⟩ rem acc=some (acc++rem.flatMap (oc l))
 |[],acc,_,_=>by simp[zK]
 |x::rem,acc,a,b=>by
  obtain⟨c,hc,_⟩:=xR (l:=l) (a x (by simp)).1 (a x (by simp)).2;have ad:oc l x=c.Fields:=by unfold oc;rw[hc];rfl
  have d:=UO h x;rw[ad]at d;simp only[dL]at b;rw[zK];show((idx l x).bind λ Bl=>_)=_
  rw[hc,ae];unfold bI;rw[if_pos (by omega),ae,agx h m s rem _ (λ y hy=>a y (by simp[hy])) (by simp only[dR];omega),ig,ad];simp
theorem h7.X9(h:h7 l)(c:1100<F)(m:List (List UInt8×Int)){n:Int}(a:0<=n)(b:n<l.length):uI F ⟨l,m,du l⟩ n=some (fF l n):=by
 obtain⟨_,f,d⟩:=h.chain a b;unfold uI;have:=h.X8 c m a b;simp only at this⊢;rw[this,ae];unfold Ll;rw[ae,agx h.right m (du l) _ [] (λ x e=>d x (by simpa using e)) (by simp;omega)];simp[fF]
theorem h7.aau(h:h7 l)(d:1100<F){n:Int}(e:0<=n)(b:n<l.length):BI F l n=some (fF l n):=by
 obtain⟨_,j,f⟩:=h.chain e b;unfold BI;rw[Q6 d h.right b,ae];have:tI l (dH l n).reverse F [] 0=some (fF l n):=by
  refine Pj (n:=(dH l n).reverse.length) (λ k i=>tI l (dH l n).reverse k (((dH l n).reverse.take i).flatMap (oc l)) (i:Int)) (fF l n) (λ k i hi=>?_) (λ k=>?_) (F:=F) (by simp;omega)
  ·obtain⟨x,a⟩:∃x,(dH l n).reverse[i]? =some x:=⟨(dH l n).reverse[i],aK hi⟩
   have ag:=f x (by simpa using bG a)
   obtain⟨c,hc,_⟩:=xR (l:=l) ag.1 ag.2
   have ad:oc l x=c.Fields:=by unfold oc;rw[hc];rfl
   have J:=UO h.right x
   rw[ad]at J
   have g:=UP h.right ((dH l n).reverse.take i)
   simp only[fZ,lQ]at g hi
   show tI l (dH l n).reverse (k+1) (((dH l n).reverse.take i).flatMap (oc l)) (i:Int)=_
   rw[tI,bM (by simpa using hi),cond_true,bw a,ae,hc,ae]
   unfold bI
   rw[if_pos (by omega),ae,eW (n:=(dH l n).length) hi (by omega),lK,a,List.flatMap_append]
   simp[ad]
  ·show tI l (dH l n).reverse (k+1) (((dH l n).reverse.take (dH l n).reverse.length).flatMap (oc l)) ((dH l n).reverse.length:Int)=_
   rw[tI,bL,jI];rfl
 rw[this];rfl
end
end I
namespace I
section
variable{F:Nat}{l:List ap}
abbrev bT:=List (List UInt8)×List Target
def pH(nm:List UInt8)(x:List UInt8):Bool:=decide (nm=x)
def vP(p:bT)(nm:List UInt8)(t:Target):bT:=match eE (pH nm) p.1 with
 |some k=>(p.1,p.2.set k t)
 |none=>(p.1++[nm],p.2++[t])
def rY(ci:Int):List Method->Nat->bT->bT
 |[],_,p=>p
 |m::r,k,p=>rY ci r (k+1) (vP p m.Name ⟨ci,k⟩)
def eZ(l:List ap)(i:Int):List Method:=((idx l i).map (·.bp)).getD []
def yW(l:List ap):List Int->bT->bT
 |[],p=>p
 |ci::r,p=>yW l r (rY ci (eZ l ci) 0 p)
def hp(l:List ap)(n:Int):bT:=yW l (dH l n).reverse ([],[])
theorem Tw{p:bT}{nm:List UInt8}{t:Target}(h:p.1.length=p.2.length):(vP p nm t).1.length=(vP p nm t).2.length/\(vP p nm t).1.length<=p.1.length+1:=by
 unfold vP;cases eE (pH nm) p.1 with
 |some k=>simp[h]
 |none=>simp[h]
theorem Tv{ci:Int}:∀ {r:List Method}{k:Nat}{p:bT},p.1.length=p.2.length->(rY ci r k p).1.length=(rY ci r k p).2.length/\(rY ci r k p).1.length<=p.1.length+r.length
 |[],_,p,h=>⟨h,cT _⟩
 |m::r,k,p,h=>by
  obtain⟨a,J⟩:=Tw (nm:=m.Name) (t:=⟨ci,k⟩) h;obtain⟨b,c⟩:=Tv (ci:=ci) (r:=r) (k:=k+1) a;exact⟨b,by simp only[rY,dL];omega⟩
theorem aBu{ns:List (List UInt8)}(h:Small F ns.length)(nm:List UInt8):Lw F ns nm=some (((eE (pH nm) ns).map λ n:Nat=>(n:Int)).getD (-1)):=by
 unfold Lw;have l1:AL ns nm F 0=some (cA ((eE (pH nm) ns).map λ n:Nat=>(n:Int))):=UM (pH nm) _ h.1 (λ k i x a=>by
  rw[AL,bM (aP.1 a).1,cond_true,bw a,ae];rfl) (λ k=>by rw[AL,bL];rfl) h.2
 rw[l1,kb];cases eE (pH nm) ns<;>rfl
theorem ams(g:1100<F)(ci:Int)(c:ap)(hc:c.bp.length<=8):∀(d i f:Nat)(p:bT),i+d=c.bp.length->d<f->p.1.length=p.2.length->p.1.length+d<=1000 ->
 zQ F ci c f p.1 p.2 (i:Int)=some (rY ci (c.bp.drop i) i p)
 |0,i,f,p,hi,ad,e,_=>by
  obtain⟨f,rfl⟩:∃b,f=b+1:=⟨f-1,by omega⟩
  have:i=c.bp.length:=by omega
  subst this;rw[zQ,bL,jp (cT _)];rfl
 |d+1,i,f,p,hi,ad,e,j=>by
  obtain⟨f,rfl⟩:∃b,f=b+1:=⟨f-1,by omega⟩
  have a:i<c.bp.length:=by omega
  obtain⟨h,J⟩:=Tw (nm:=c.bp[i].Name) (t:=⟨ci,i⟩) e;have next:=ams g ci c hc d (i+1) f (vP p c.bp[i].Name ⟨ci,i⟩) (by omega) (by omega) h (by omega)
  rw[zQ,bM a,cond_true,bw (aK a),ae,aBu ⟨by omega,by omega⟩,ae,de a,rY,<-next];unfold vP;cases C5:eE (pH c.bp[i].Name) p.1 with
  |some k=>
   have m:=Y7 C5
   simp only[fU,jd]
   rw[decide_eq_true (show(0 :Int)<=(k:Int) by omega),cond_true,bw (aK (show k<p.2.length by omega)),ae,ae,ae,eW a (by omega)]
   simp
  |none=>
   simp only[jq,jL]
   rw[decide_eq_false (show¬(0 :Int)<= -1 by decide),cond_false]
   unfold bI
   rw[if_pos (by simp only[dL,gR];omega),ae,if_pos (by simp only[dL,gR];omega),ae,ae,eW a (by omega)]
theorem ajH(h:Right l)(i:Int):(eZ l i).length<=8:=by
 unfold eZ;cases a:idx l i with
 |none=>simp
 |some x=>
  obtain⟨_,_,J⟩:=lF a
  exact h.methods x (bG J)
theorem amr(b:1100<F)(h:Right l)(m:List (List UInt8×Int))(s:List Int):∀(rem:List Int)(p:bT),(∀x∈rem,0<=x/\x<l.length)->p.1.length=p.2.length->p.1.length+8*rem.length<=900 ->
 zP F ⟨l,m,s⟩ rem p.1 p.2=some (yW l rem p)
 |[],p,_,_,_=>by simp[zP,yW]
 |x::rem,p,a,d,g=>by
  obtain⟨c,hc,_⟩:=xR (l:=l) (a x (by simp)).1 (a x (by simp)).2;have e:eZ l x=c.bp:=by unfold eZ;rw[hc];rfl
  have i:=ajH h x;have f:=i;rw[e]at f;simp only[dL]at g;obtain⟨j,n⟩:=Tv (ci:=x) (r:=eZ l x) (k:=0) d;rw[zP];show(ew (α:=(List (List UInt8))×(List Target)) ((idx l x).bind λ o=>_) _)=_
  rw[hc,ae];have:=ams b x c f c.bp.length 0 F p (by omega) (by omega) d (by omega);rw[show((0 :Nat):Int)=0 from rfl]at this;rw[this,hB,ae,ae,yW,<-e];exact amr b h m s rem _ (λ y hy=>a y (by simp[hy])) j (by omega)
theorem h7.aDK(h:h7 l)(a:1100<F)(m:List (List UInt8×Int)){n:Int}(b:0<=n)(c:n<l.length):DG F ⟨l,m,du l⟩ n=some (hp l n):=by
 obtain⟨_,f,d⟩:=h.chain b c;unfold DG;have:=h.X8 a m b c;simp only at this⊢;rw[this,ae];unfold Ll;rw[ae,amr a h.right m (du l) _ ([],[]) (λ x e=>d x (by simpa using e)) rfl (by simp;omega)];rfl
theorem aJo(ns:List (List UInt8))(m:Method)(h:Small F ns.length):rR ns m F 0=some (((eE (pH m.Name) ns).getD ns.length:Nat):Int):=by
 have key:∀(d i f:Nat),i+d=ns.length->d<f->rR ns m f (i:Int)=some ((i+(eE (pH m.Name) (ns.drop i)).getD d:Nat):Int):=by
  intro d;induction d with
  |zero=>
   intro i f hi ad
   obtain⟨f,rfl⟩:∃b,f=b+1:=⟨f-1,by omega⟩
   have:i=ns.length:=by omega
   subst this
   rw[rR,bL,jp (cT _)];rfl
  |succ d c=>
   intro i f hi ad
   obtain⟨f,rfl⟩:∃b,f=b+1:=⟨f-1,by omega⟩
   have a:i<ns.length:=by omega
   rw[rR,bM a,cond_true,bw (aK a),ae,de a,eE]
   by_cases e:ns[i]=m.Name
   ·rw[decide_eq_true e,if_pos (by simp[pH,e])];simp
   ·rw[decide_eq_false e,if_neg (by simp[pH];exact λ h=>e h.symm)]
    simp only[ja,cond_true]
    rw[eW a h.1,c (i+1) f (by omega) (by omega)]
    congr 2
    cases eE (pH m.Name) (ns.drop (i+1))with
    |none=>simp;omega
    |some k=>simp;omega
 have:=key ns.length 0 F (by omega) h.2;simpa using this
theorem amx(j:1100<F)(fR:List Int)(n:Nat)(ci:Int)(c:ap)(a:fR[n]? =some ci)(e:idx l ci=some c)(hc:c.bp.length<=8):∀(d i f:Nat)(p:bT),i+d=c.bp.length->d<f->p.1.length=p.2.length->p.1.length+d<=1000 ->
 Cl F l fR (n:Int) f p.2 p.1 (i:Int)=some ((rY ci (c.bp.drop i) i p).2,(rY ci (c.bp.drop i) i p).1)
 |0,i,f,p,hi,ad,g,_=>by
  obtain⟨f,rfl⟩:∃h,f=h+1:=⟨f-1,by omega⟩
  have:i=c.bp.length:=by omega
  subst this;rw[Cl,bw a,ae,e,ae,bL,jp (cT _)];rfl
 |d+1,i,f,p,hi,ad,g,o=>by
  obtain⟨f,rfl⟩:∃h,f=h+1:=⟨f-1,by omega⟩
  have b:i<c.bp.length:=by omega
  obtain⟨m,J⟩:=Tw (nm:=c.bp[i].Name) (t:=⟨ci,i⟩) g;have next:=amx j fR n ci c a e hc d (i+1) f (vP p c.bp[i].Name ⟨ci,i⟩) (by omega) (by omega) m (by omega)
  rw[Cl,bw a,ae,e,ae,bM b,cond_true,ae,e,ae,bw (aK b),ae,aJo p.1 _ ⟨by omega,by omega⟩,ae,de b,rY,<-next];unfold vP;cases C5:eE (pH c.bp[i].Name) p.1 with
  |some k=>
   have q:=Y7 C5
   simp only[jd]
   rw[decide_eq_false (show¬((k:Nat):Int)=(p.1.length:Int) by omega),cond_false,ae]
   simp only[bw a,ae]
   rw[bw (aK (show k<p.2.length by omega)),ae,ae,eW b (by omega)]
   simp
  |none=>
   simp only[jL,decide_true,cond_true]
   unfold bI
   rw[if_pos (by simp only[dL,gR];omega),ae,if_pos (by simp only[dL,gR];omega),ae,ae]
   simp only[bw a,ae]
   rw[bw (i:=p.1.length) (x:=(⟨0,0⟩:Target)) (by rw[g];simp),ae,ae,eW b (by omega)]
   simp[g,List.set_append]
theorem h7.aH'(h:h7 l)(m:1100<F){n:Int}(v:0<=n)(o:n<l.length):Iq F l n=some (hp l n):=by
 obtain⟨_,B,w⟩:=h.chain v o;unfold Iq;rw[Q6 m h.right o,ae];have key:∀(d i f:Nat)(p:bT),i+d=(dH l n).reverse.length->d<f->p.1.length=p.2.length->p.1.length+8*d<=900 ->Ck F l (dH l n).reverse f p.2 p.1 (i:Int)=some ((yW l ((dH l n).reverse.drop i) p).2,(yW l ((dH l n).reverse.drop i) p).1):=by
  intro d;induction d with
  |zero=>
   intro i f p hi ad _ _
   obtain⟨f,rfl⟩:∃b,f=b+1:=⟨f-1,by omega⟩
   have:i=(dH l n).reverse.length:=by omega
   subst this
   rw[Ck,bL,jp (cT _)];rfl
  |succ d y=>
   intro i f p hi ad q Gd
   obtain⟨f,rfl⟩:∃b,f=b+1:=⟨f-1,by omega⟩
   have a:i<(dH l n).reverse.length:=by omega
   obtain⟨ci,e⟩:∃x,(dH l n).reverse[i]? =some x:=⟨(dH l n).reverse[i],aK a⟩
   have ag:=w ci (by simpa using bG e)
   obtain⟨c,hc,_⟩:=xR (l:=l) ag.1 ag.2
   have g:eZ l ci=c.bp:=by unfold eZ;rw[hc];rfl
   have z:=ajH h.right ci
   have s:=z
   rw[g]at s
   obtain⟨t,A⟩:=Tv (ci:=ci) (r:=eZ l ci) (k:=0) q
   have u:=amx (l:=l) m (dH l n).reverse i ci c e hc s c.bp.length 0 F p (by omega) (by omega) q (by omega)
   rw[show((0 :Nat):Int)=0 from rfl]at u
   have j:(dH l n).reverse[i]=ci:=by
    have:=aK a;rw[e]at this;exact(eJ this).symm
   rw[Ck,bM a,cond_true,u,hB,ae,ae,eW (n:=(dH l n).length) (by simpa using a) (by omega),de a,j,yW,g]
   rw[g]at t A
   exact y (i+1) f _ (by omega) (by omega) t (by omega)
 have:=key (dH l n).reverse.length 0 F ([],[]) (by omega) (by simp;omega) rfl (by simp;omega);rw[show((0 :Nat):Int)=0 from rfl,hB]at this;simp only at this;rw[this];rfl
end
end I
namespace I
theorem vO{α β:Type}{l:List α}(T:Nat->List β->Nat->Option (List β))(g:α->List β)(B M:Nat)(a:∀x∈l,(g x).length<=B)
 (aj:∀k (i:Nat) x acc,l[i]? =some x->acc.length+B<=M->T (k+1) acc i=T k (acc++g x) (i+1))(b:∀k acc,T (k+1) acc l.length=some acc){F:Nat}(c:l.length<F){acc:List β}(e:acc.length+B*l.length<=M) :
 T F acc 0=some (acc++l.flatMap g):=by
 have key:∀(d i k:Nat)(acc:List β),i+d=l.length->d<k->acc.length+B*d<=M->T k acc i=some (acc++(l.drop i).flatMap g):=by
  intro d;induction d with
  |zero=>
   intro i k acc h f _
   obtain⟨k,rfl⟩:∃k',k=k'+1:=⟨k-1,by omega⟩
   have hi:i=l.length:=by omega
   subst hi
   rw[b,jp (cT _)];simp
  |succ d j=>
   intro i k acc h f m
   obtain⟨k,rfl⟩:∃k',k=k'+1:=⟨k-1,by omega⟩
   have hi:i<l.length:=by omega
   have ag:=a l[i] (hg hi)
   rw[Nat.mul_succ]at m
   rw[aj k i l[i] acc (aK hi) (by omega),j (i+1) k _ (by omega) (by omega) (by simp only[dR];omega),de hi,ig,g_]
 have:=key l.length 0 F acc (by omega) c e
 simpa using this
theorem akh{α β:Type}{g:α->Option β}{a:α}:[a].findSome? g=g a:=by rw[jc];cases g a<;>rfl
theorem I2{α β cB:Type}(f:α->List β)(g:β->Option cB):∀l:List α,(l.flatMap f).findSome? g=l.findSome? λ x=>(f x).findSome? g
 |[]=>rfl
 |x::r=>by
  rw[ig,lZ,jc,I2 f g r];cases(f x).findSome? g<;>rfl
theorem zc{α β:Type}{g:α->List β}{B:Nat}:∀ {l:List α},(∀x∈l,(g x).length<=B)->(l.flatMap g).length<=B*l.length
 |[],_=>by simp
 |x::r,h=>by
  have a:=h x (by simp);have J:=zc (l:=r) (λ y hy=>h y (by simp[hy]));simp only[ig,dR,dL,Nat.mul_succ];omega
def eu(k:Kind):List (List UInt8):=if k.ap=[]then[]else[k.ap]
def mt(m:Method):List (List UInt8):=m.cD.flatMap eu++eu m.Returns++m.cL.map (·.ap)
def hS(c:ap):List (List UInt8):=c.Fields.flatMap (λ f=>eu f.Kind)++c.bp.flatMap mt
def tc(l:List ap):List (List UInt8):=l.flatMap hS
def kd(l:List ap)(s:List UInt8):Option Int:=if 0<=cX l s then none else some 5
theorem w3(k:Kind):(eu k).length<=1:=by unfold eu;split<;>simp
section
variable{F:Nat}{l:List ap}
theorem ajI(h:Right l){c:ap}(hc:c∈l){m:Method}(a:m∈c.bp):(mt m).length<=9:=by
 have b:=h.method c hc m a;have J:=zc (l:=m.cD) (g:=eu) (B:=1) (λ k _=>w3 k);have d:=w3 m.Returns;unfold mt;simp only[dR,gC];omega
theorem aeN(h:Right l){c:ap}(hc:c∈l):(hS c).length<=78:=by
 have b:=zc (l:=c.Fields) (g:=λ f=>eu f.Kind) (B:=1) (λ f _=>w3 f.Kind);have J:=zc (l:=c.bp) (g:=mt) (B:=9) (λ m a=>ajI h hc a);have d:=h.fields c hc;have e:=h.methods c hc;unfold hS;simp only[dR];omega
theorem io{b:Nat}{α:Type}{acc r:List α}(h:(acc.length+r.length)*b<=140737488355328):bI b acc r=some (acc++r):=by unfold bI;rw[if_pos h]
theorem abb{acc:List (List UInt8)}(h:acc.length<=5000)(k:Kind):DH k acc=some (acc++eu k):=by
 unfold DH eu;by_cases e:k.ap=[]
 ·rw[decide_eq_true e,if_pos e];simp
 ·rw[decide_eq_false e,if_neg e]
  simp only[ja,cond_true]
  rw[io (by simp only[dL,gR];omega)];rfl
theorem aJr(A:1100<F)(h:Right l)(m:List (List UInt8×Int))(s:List Int):xo F ⟨l,m,s⟩ F [] 0=some (tc l):=by
 have j:=h.len;have:=vO (l:=l) (λ k acc i=>xo F ⟨l,m,s⟩ k acc (i:Int)) hS 78 2000 (λ c hc=>aeN h hc) (λ k i c acc a b=>by
  have hc:=bG a;have C:=h.fields c hc;have D:=h.methods c hc;have hi:=(aP.1 a).1
  have p:∀acc:List (List UInt8),acc.length<=2000 ->xp c F acc 0=some (acc++c.Fields.flatMap λ f=>eu f.Kind):=λ acc o=>
   vO (l:=c.Fields) (λ k acc i=>xp c k acc (i:Int)) (λ f=>eu f.Kind) 1 3000 (λ f _=>w3 f.Kind) (λ k i f acc a b=>by
    have hi:=(aP.1 a).1;rw[xp,bM hi,cond_true,bw a,ae,abb (by omega),ae,eW hi (by omega)]) (λ k acc=>by rw[xp,bL];rfl) (by omega) (by omega)
  have q:∀acc:List (List UInt8),acc.length<=2100 ->sH F c F acc 0=some (acc++c.bp.flatMap mt):=λ acc o=>
   vO (l:=c.bp) (λ k acc i=>sH F c k acc (i:Int)) mt 9 3000 (λ m d=>ajI h hc d) (λ k i m acc a b=>by
    have d:=bG a;have hi:=(aP.1 a).1;obtain⟨E,G⟩:=h.method c hc m d;have t:xq m F acc 0=some (acc++m.cD.flatMap eu):=vO (l:=m.cD) (λ k acc i=>xq m k acc (i:Int)) eu 1 3100 (λ k _=>w3 k) (λ k i x acc a b=>by
     have hi:=(aP.1 a).1;rw[xq,bM hi,cond_true,bw a,ae,abb (by omega),ae,eW hi (by omega)]) (λ k acc=>by rw[xq,bL];rfl) (by omega) (by omega)
    have u:=zc (l:=m.cD) (g:=eu) (B:=1) (λ k _=>w3 k);have v:=w3 m.Returns
    have w:∀acc:List (List UInt8),acc.length<=3200 ->sI m F acc 0=some (acc++m.cL.flatMap λ h=>[h.ap]):=λ acc o=>
     vO (l:=m.cL) (λ k acc i=>sI m k acc (i:Int)) (λ h=>[h.ap]) 1 3300 (λ k _=>by simp) (λ k i x acc a b=>by
      have hi:=(aP.1 a).1;rw[sI,bM hi,cond_true,bw a,ae,io (by simp only[dL,gR];omega),ae,eW hi (by omega)]) (λ k acc=>by rw[sI,bL];rfl) (by omega) (by omega)
    rw[sH,bM hi,cond_true,bw a,ae,t,ae,abb (k:=(⟨m.Returns.Kind,m.Returns.ap⟩:Kind)) (by simp only[dR];omega),ae,
     w _ (by simp only[dR];have:(eu (⟨m.Returns.Kind,m.Returns.ap⟩:Kind)).length<=1:=w3 _;omega),ae,ae,eW hi (by omega)]
    have e:(m.cL.flatMap λ h=>[h.ap])=m.cL.map (·.ap):=by
     induction m.cL with
     |nil=>rfl
     |cons x r y=>rw[ig,y];rfl
    rw[e];unfold mt;simp only[g_]) (λ k acc=>by rw[sH,bL];rfl) (by omega) (by omega)
  have u:=zc (l:=c.Fields) (g:=λ f=>eu f.Kind) (B:=1) (λ f _=>w3 f.Kind);rw[xo];have z:decide ((i:Int)<((⟨l,m,s⟩:bt).l.length:Int))=true:=bM (n:=l.length) hi;rw[z,cond_true];show(ew (α:=List (List UInt8)) ((idx l (i:Int)).bind λ H=>_) _)=_
  rw[bw a,ae,p acc (by omega),ae,q _ (by simp only[dR];omega),ae,ae,eW hi (by omega)];unfold hS;simp only[g_]) (λ k acc=>by
   rw[xo];show cond (decide ((l.length:Int)<(l.length:Int))) _ _=_
   rw[bL];rfl) (F:=F) (by omega) (acc:=[]) (by simp;omega)
 simpa[tc]using this
theorem YJ(s:List UInt8):(cH (e1 0 l) s).isSome=decide (0<=cX l s):=by
 rw[GI];unfold cX;cases eE (gl s) l with
 |none=>simp
 |some i=>simp
theorem aJp(d:1100<F)(h:Right l)(s:List Int):Kr F ⟨l,e1 0 l,s⟩=some (((tc l).findSome? (kd l)).getD 0):=by
 have a:=h.len;unfold Kr;have f:=aJr d h (e1 0 l) s;have m:(tc l).length<=780:=by
  have:=zc (l:=l) (g:=hS) (B:=78) (λ c hc=>aeN h hc);unfold tc;omega
 rw[f,ae];have j:zR ⟨l,e1 0 l,s⟩ (tc l) F 0=some (cA ((tc l).findSome? (kd l))):=each (kd l) (by omega) (λ k i x b=>by
  rw[zR,bM (aP.1 b).1,cond_true,bw b,ae];show cond (!(cH (e1 0 l) x).isSome) _ _=_
  rw[YJ];unfold kd;by_cases e:0<=cX l x
  ·rw[decide_eq_true e,if_pos e];rfl
  ·rw[decide_eq_false e,if_neg e];rfl) (λ k=>by rw[zR,bL];rfl) (by omega)
 rw[j];cases(tc l).findSome? (kd l)<;>rfl
def oD(l:List ap)(k:Kind):Option Int:=(eu k).findSome? (kd l)
theorem amy{s:List UInt8}:kd l s=none\/kd l s=some 5:=by unfold kd;split<;>simp
theorem t_{α:Type}{g:α->Option Int}{e:Int}(a:∀x,g x=none\/g x=some e):∀r:List α,r.findSome? g=none\/r.findSome? g=some e
 |[]=>.inl rfl
 |x::r=>by
  rw[jc];rcases a x with h |h
  ·rw[h];exact t_ a r
  ·rw[h];exact .inr rfl
theorem aBW(k:Kind):oD l k=if k.ap=[]\/0<=cX l k.ap then none else some 5:=by
 unfold oD eu kd;by_cases e:k.ap=[]
 ·simp[e]
 ·by_cases ao:0<=cX l k.ap<;>simp[e,ao]
theorem Tr(h:Small F l.length){a:List Kind}(b:Small F a.length):Cm F l a=some (a.findSome? (oD l)).isNone:=by
 unfold Cm;have l1:=each (l:=a) (L:=yP F a l) (λ k=>(oD l k).map λ _=>false) b.1 (λ k i x c=>by
  rw[yP,bM (aP.1 c).1,cond_true,bw c,ae,ae,yL h,ae,aBW];by_cases e:x.ap=[]
  ·rw[if_pos (.inl e),decide_eq_true e];rfl
  ·rw[decide_eq_false e]
   by_cases ao:0<=cX l x.ap
   ·rw[if_pos (.inr ao),decide_eq_false (show¬cX l x.ap<0 by omega)];rfl
   ·rw[if_neg (by simp[e,ao]),decide_eq_true (show cX l x.ap<0 by omega)];rfl) (λ k=>by rw[yP,bL];rfl) b.2
 rw[l1,NR];cases a.findSome? (oD l)<;>rfl
theorem Xx{o:Option Int}(h:o=none\/o=some 5)(Y:Option (Way Int Unit)):cond (!o.isNone) (some (.out 5)) Y=gZ o Y:=by rcases h with h |h<;>rw[h]<;>rfl
theorem XJ(k:Kind):oD l k=none\/oD l k=some 5:=t_ (λ _=>amy) _
theorem LL{o a:Option Int}{Y:Option (Way Int Unit)}:gZ o (gZ a Y)=gZ (o.or a) Y:=by cases o<;>rfl
theorem aJq(s:1100<F)(h:Right l):yJ F l F 0=some (cA ((tc l).findSome? (kd l))):=by
 have d:=h.len;have:=each (l:=l) (L:=yJ F l) (λ c=>(hS c).findSome? (kd l)) (by omega) (λ k n c b=>by
  have hc:=bG b;have t:=h.fields c hc;have u:=h.methods c hc;have o:BU F l (n:Int) F 0=some (cA (c.Fields.findSome? λ f=>oD l f.Kind)):=each (l:=c.Fields) (λ f=>oD l f.Kind) (by omega) (λ k i f hy=>by
   rw[BU,bw b,ae,bM (aP.1 hy).1,cond_true,ae,bw hy,ae,Tr ⟨by omega,by omega⟩ ⟨by simp,by simp;omega⟩,ae];have e:[(⟨f.Kind.Kind,f.Kind.ap⟩:Kind)].findSome? (oD l)=oD l f.Kind:=akh;rw[e];exact Xx (XJ _) _) (λ k=>by rw[BU,bw b,ae,bL];rfl) (by omega)
  have p:BV F l (n:Int) F 0=some (cA (c.bp.findSome? λ m=>(mt m).findSome? (kd l))):=each (l:=c.bp) (λ m=>(mt m).findSome? (kd l)) (by omega) (λ k i m hy=>by
   have q:=bG hy;obtain⟨v,w⟩:=h.method c hc m q;have r:BW F l m F 0=some (cA (m.cL.findSome? λ x=>kd l x.ap)):=each (l:=m.cL) (λ x=>kd l x.ap) (by omega) (λ k i x g=>by
    rw[BW,bM (aP.1 g).1,cond_true,bw g,ae,yL ⟨by omega,by omega⟩,ae];unfold kd;by_cases ao:0<=cX l x.ap
    ·rw[if_pos ao,decide_eq_false (show¬cX l x.ap<0 by omega)];rfl
    ·rw[if_neg ao,decide_eq_true (show cX l x.ap<0 by omega)];rfl) (λ k=>by rw[BW,bL];rfl) (by omega)
   have e:[(⟨m.Returns.Kind,m.Returns.ap⟩:Kind)].findSome? (oD l)=oD l m.Returns:=akh;rw[BV,bw b,ae,bM (aP.1 hy).1,cond_true,ae,bw hy,ae,Tr ⟨by omega,by omega⟩ ⟨by omega,by omega⟩,ae,Tr ⟨by omega,by omega⟩ ⟨by simp,by simp;omega⟩,ae,r,e,oT];rw[Xx (XJ _),Xx (t_ (λ k=>XJ k) _),LL,LL,rl,oR];congr 1;unfold mt;rw[lZ,lZ,I2,List.findSome?_map];cases j:m.cD.findSome? (oD l)with
   |some a=>
    have:(m.cD.findSome? λ x=>(eu x).findSome? (kd l))=some a:=j
    rw[this];rfl
   |none=>
    have:(m.cD.findSome? λ x=>(eu x).findSome? (kd l))=none:=j
    rw[this];rfl) (λ k=>by rw[BV,bw b,ae,bL];rfl) (by omega)
  rw[yJ,bM (aP.1 b).1,cond_true,o,p,oT,oT,LL,rl,oR];congr 1;unfold hS;rw[lZ,I2,I2];rfl) (λ k=>by rw[yJ,bL];rfl) (F:=F) (by omega)
 rw[this,tc,I2]
end
end I
namespace I
theorem Ps{cR β:Type} [DecidableEq cR]{k:cR}{v:β}:∀m:List (cR×β),(gf m k v).length=if(cH m k).isSome then m.length else m.length+1
 |[]=>rfl
 |p::r=>by
  simp only[gf,cH];by_cases h:p.1=k
  ·simp[h]
  ·simp only[if_neg h,dL,Ps r]
   split<;>rfl
theorem Kz{cR β:Type} [DecidableEq cR]{k s:cR}{v:β}:∀m:List (cR×β),(cH (gf m k v) s).isSome=true↔s=k\/(cH m s).isSome=true
 |[]=>by
  simp only[gf,cH];by_cases h:k=s
  ·simp[h]
  ·simp[h];exact λ e=>h e.symm
 |p::r=>by
  have a:=Kz (k:=k) (s:=s) (v:=v) r;simp only[gf];by_cases h:p.1=k
  ·rw[if_pos h]
   simp only[cH]
   by_cases e:k=s
   ·simp[e]
   ·have ao: ¬p.1=s:=λ x=>e (h.symm.trans x)
    rw[if_neg e,if_neg ao]
    constructor
    ·exact λ x=>.inr x
    ·rintro(x |x)
     ·exact absurd x.symm e
     ·exact x
  ·rw[if_neg h]
   simp only[cH]
   by_cases e:p.1=s
   ·simp[e]
   ·rw[if_neg e,if_neg e];exact a
def v_(ns:List (List UInt8)):Option Int:=if ns.Nodup then none else some 6
section
variable{F:Nat}{l:List ap}
theorem amE(r:1100<F){ns:List (List UInt8)}(t:ns.length<=1000):Gv F ns=some (decide (¬ns.Nodup)):=by
 have key:∀(d i k:Nat)(m:List (List UInt8×Bool)),i+d=ns.length->d<k->(∀s,(cH m s).isSome=true↔s∈ns.take i)->m.length<=i->(m.length=i↔(ns.take i).Nodup) ->
  ∃e9,zS ns k m (i:Int)=some e9/\e9.length<=ns.length/\(e9.length=ns.length↔ns.Nodup):=by
  intro d
  induction d with
  |zero=>
   intro i k m hi o f J c
   obtain⟨k,rfl⟩:∃k',k=k'+1:=⟨k-1,by omega⟩
   have:i=ns.length:=by omega
   subst this
   rw[jI]at c
   exact⟨m,by rw[zS,bL];rfl,J,c⟩
  |succ d p=>
   intro i k m hi o f J c
   obtain⟨k,rfl⟩:∃k',k=k'+1:=⟨k-1,by omega⟩
   have g:i<ns.length:=by omega
   have n:ns.take (i+1)=ns.take i++[ns[i]]:=by rw[lK,aK g];rfl
   rw[zS,bM g,cond_true,bw (aK g),ae,eW g (by omega)]
   refine p (i+1) k _ (by omega) (by omega) (λ s=>?_) ?_ ?_
   ·rw[Kz,f,n,cj,dT]
    constructor
    ·rintro(h |h)
     ·exact .inr h
     ·exact .inl h
    ·rintro(h |h)
     ·exact .inr h
     ·exact .inl h
   ·rw[Ps];split<;>omega
   ·rw[Ps,n,fA]
    by_cases j:(cH m ns[i]).isSome=true
    ·rw[if_pos j]
     have:=(f ns[i]).1 j
     constructor
     ·intro h;omega
     ·rintro⟨_,_,h⟩;exact absurd rfl (h _ this _ (by simp))
    ·rw[if_neg j]
     have:ns[i]∉ns.take i:=λ h=>j ((f ns[i]).2 h)
     constructor
     ·intro h
      exact⟨c.1 (by omega),by simp,λ a q b ag e=>by
       rw[dT]at ag;subst ag;exact this (e▸q)⟩
     ·rintro⟨h,_,_⟩
      have:=c.2 h
      omega
 obtain⟨e9,f,J,c⟩:=key ns.length 0 F [] (by omega) (by omega) (λ s=>by simp[cH]) (by simp) (by simp);unfold Gv;rw[show(0 :Int)=((0 :Nat):Int) from rfl,f,ae];congr 1;by_cases aL:ns.Nodup
 ·have:=c.2 aL
  rw[decide_eq_false (by omega),decide_eq_false (by simp[aL])]
 ·have:e9.length≠ns.length:=λ e=>aL (c.1 e)
  rw[decide_eq_true (by omega),decide_eq_true aL]
def T1{α:Type}(nm:α->List UInt8)(r:List α):Option Int:=(ed r.length).findSome? λ k=>(ed k).findSome? λ j=>if(r[j]?).map nm=(r[k]?).map nm then some 6 else none
theorem ae_{α:Type}(nm:α->List UInt8)(r:List α):T1 nm r=v_ (r.map nm):=by
 have c:T1 nm r=none\/T1 nm r=some 6:=t_ (λ k=>t_ (λ j=>by split<;>simp) _) _;unfold v_;by_cases aL:(r.map nm).Nodup
 ·rw[if_pos aL]
  rcases c with h |h
  ·exact h
  ·exfalso
   obtain⟨k,a,b⟩:=eN h
   obtain⟨j,aA,J⟩:=eN b
   simp only[lB]at a aA
   split at J
   ·rename_i e
    have:=jl.1 aL j k (by simp;omega) (by simpa using a) aA
    apply this
    rw[aK (by omega),aK a]at e
    simpa using e
   ·cases J
 ·rw[if_neg aL]
  rcases c with h |h
  ·exfalso
   apply aL
   refine jl.2 λ j k aA a d e=>?_
   have b:=gS.1 h k (by simpa using a)
   have J:=gS.1 b j (by simpa using d)
   simp only[gC]at aA a
   rw[aK aA,aK a]at J
   simp only[la]at e
   rw[if_pos (by simp[e])]at J
   cases J
  ·exact h
theorem avH(b:1100<F)(r:List Field)(c:r.length<=1000):BN F r F 0=some (cA (v_ (r.map (·.Name)))):=by
 rw[<-ae_];exact kQ _ (by omega) (λ k i hi=>by
  have a:BO r (i:Int) F 0=some (cA ((ed i).findSome? λ j=>if(r[j]?).map (·.Name)=(r[i]?).map (·.Name)then some 6 else none)):=kQ _ (by omega) (λ k j aA=>by
   rw[BO,bM aA,cond_true,bw (aK (show j<r.length by omega)),ae,bw (aK hi),ae,aK (show j<r.length by omega),aK hi];simp only[fU,aH];by_cases e:r[j].Name=r[i].Name
   ·rw[decide_eq_true e,if_pos e];rfl
   ·rw[decide_eq_false e,if_neg e];rfl) (λ k=>by rw[BO,bL];rfl) (by omega)
  rw[BN,bM hi,cond_true,a,oT,rl,oR]) (λ k=>by rw[BN,bL];rfl) (by omega)
theorem avI(b:1100<F)(c:ap)(d:c.bp.length<=1000):tK F c F 0=some (cA (v_ (c.bp.map (·.Name)))):=by
 rw[<-ae_];exact kQ _ (by omega) (λ k i hi=>by
  have a:tL c (i:Int) F 0=some (cA ((ed i).findSome? λ j=>if(c.bp[j]?).map (·.Name)=(c.bp[i]?).map (·.Name)then some 6 else none)):=kQ _ (by omega) (λ k j aA=>by
   rw[tL,bM aA,cond_true,bw (aK (show j<c.bp.length by omega)),ae,bw (aK hi),ae,aK (show j<c.bp.length by omega),aK hi];simp only[fU,aH];by_cases e:c.bp[j].Name=c.bp[i].Name
   ·rw[decide_eq_true e,if_pos e];rfl
   ·rw[decide_eq_false e,if_neg e];rfl) (λ k=>by rw[tL,bL];rfl) (by omega)
  rw[tK,bM hi,cond_true,a,oT,rl,oR]) (λ k=>by rw[tK,bL];rfl) (by omega)
def Ao(l:List ap)(i:Nat):Option Int:=(v_ ((fF l i).map (·.Name))).or (v_ ((eZ l i).map (·.Name)))
theorem agF(h:h7 l){n:Int}(a:0<=n)(b:n<l.length):(fF l n).length<=60:=by
 obtain⟨_,c,_⟩:=h.chain a b;have:=UP h.right (dH l n).reverse;unfold fF;simp only[lQ]at this;omega
theorem ae'{ns:List (List UInt8)}{Y:Option (Way Int Unit)}:cond (decide (¬ns.Nodup)) (some (.out 6)) Y=gZ (v_ ns) Y:=by
 unfold v_;by_cases h:ns.Nodup
 ·rw[if_pos h,decide_eq_false (by simp[h])];rfl
 ·rw[if_neg h,decide_eq_true h];rfl
theorem ajG{i:Nat}{c:ap}(h:l[i]? =some c):eZ l (i:Int)=c.bp:=by unfold eZ;rw[bw h];rfl
theorem aFk(a:1100<F)(h:h7 l):BX F l F 0=some (cA ((ed l.length).findSome? (Ao l))):=by
 have d:=h.right.len;exact kQ _ (by omega) (λ k i hi=>by
  obtain⟨c,b⟩:∃x,l[i]? =some x:=⟨l[i],aK hi⟩
  have f:=h.right.methods c (bG b);have e:=agF h (n:=(i:Int)) (by omega) (by omega);rw[BX,bM hi,cond_true,h.aau a (by omega) (by omega),ae,avH a _ (by omega),oT,bw b,ae,avI a c (by omega),oT,LL,rl,oR];unfold Ao;rw[ajG b]) (λ k=>by rw[BX,bL];rfl) (by omega)
theorem aFj(b:1100<F)(h:h7 l)(m:List (List UInt8×Int)):Kq F ⟨l,m,du l⟩=some (((ed l.length).findSome? (Ao l)).getD 0):=by
 have g:=h.right.len;have:=kQ (n:=l.length) (L:=zO F ⟨l,m,du l⟩) (Ao l) (by omega) (λ k i hi=>by
  obtain⟨c,a⟩:∃x,l[i]? =some x:=⟨l[i],aK hi⟩
  have u:=h.right.methods c (bG a);have o:=agF h (n:=(i:Int)) (by omega) (by omega);have p:xn (fF l i) F [] 0=some ((fF l i).map (·.Name)):=by
   have:=vO (l:=fF l i) (λ k acc i'=>xn (fF l i) k acc (i':Int)) (λ f=>[f.Name]) 1 3000 (λ f _=>by simp) (λ k j x acc a q=>by
    have aA:=(aP.1 a).1;rw[xn,bM aA,cond_true,bw a,ae,io (by simp only[dL,gR];omega),ae,eW aA (by omega)]) (λ k acc=>by rw[xn,bL];rfl) (F:=F) (by omega) (acc:=[]) (by simp;omega)
   rw[show(0 :Int)=((0 :Nat):Int) from rfl,this];congr 1;rw[kK];induction fF l i with
   |nil=>rfl
   |cons x r d=>rw[ig,d];rfl
  have s:sG c F [] 0=some (c.bp.map (·.Name)):=by
   have:=vO (l:=c.bp) (λ k acc i'=>sG c k acc (i':Int)) (λ f=>[f.Name]) 1 3000 (λ f _=>by simp) (λ k j x acc a q=>by
    have aA:=(aP.1 a).1;rw[sG,bM aA,cond_true,bw a,ae,io (by simp only[dL,gR];omega),ae,eW aA (by omega)]) (λ k acc=>by rw[sG,bL];rfl) (F:=F) (by omega) (acc:=[]) (by simp;omega)
   rw[show(0 :Int)=((0 :Nat):Int) from rfl,this];congr 1;rw[kK];induction c.bp with
   |nil=>rfl
   |cons x r d=>rw[ig,d];rfl
  rw[zO];have t:decide ((i:Int)<((⟨l,m,du l⟩:bt).l.length:Int))=true:=bM (n:=l.length) hi;have e:=h.X9 b m (n:=(i:Int)) (by omega) (by omega);rw[t,cond_true];show dd (α:=Unit) ((idx l (i:Int)).bind λ v=>(uI F ⟨l,m,du l⟩ (i:Int)).bind λ w=>_) _=_
  rw[bw a,ae,e,ae,p,ae,s,ae,amE b (by simp;omega),ae,amE b (by simp;omega),ae,ae',ae',LL,rl,oR];unfold Ao;rw[ajG a]) (λ k=>by
   rw[zO];show cond (decide ((l.length:Int)<(l.length:Int))) _ _=_
   rw[bL];rfl) (F:=F) (by omega)
 unfold Kq;rw[this];cases(ed l.length).findSome? (Ao l)<;>rfl
theorem alT{a b:List Kind}(g:a.length<=1000)(ag:b.length<=1000)(h:1100<F):vN F a b=some (decide (a=b)):=by
 unfold vN;by_cases d:a.length=b.length
 ·rw[decide_eq_true (show(a.length:Int)=(b.length:Int) by omega)]
  simp only[eb,cond_false]
  have l1:qu a b F 0=some (cA ((ed a.length).findSome? λ i=>if a[i]? =b[i]? then none else some false)):=kQ _ (by omega) (λ k i hi=>by
   rw[qu,bM hi,cond_true,bw (aK hi),ae,bw (aK (show i<b.length by omega)),ae,aK hi,aK (show i<b.length by omega)];simp only[aH];by_cases e:a[i]=b[i]
   ·rw[decide_eq_true e,if_pos e];rfl
   ·rw[decide_eq_false e,if_neg e];rfl) (λ k=>by rw[qu,bL];rfl) (by omega)
  rw[l1,kb]
  cases ad:(ed a.length).findSome? λ i=>if a[i]? =b[i]? then none else some false with
  |some e=>
   obtain⟨i,hi,c⟩:=eN ad
   split at c
   ·cases c
   ·rename_i f
    injection c with c
    subst c
    rw[decide_eq_false (λ e=>f (by rw[e]))];rfl
  |none=>
   rw[decide_eq_true];rfl
   apply lu
   intro i
   by_cases hi:i<a.length
   ·have:=gS.1 ad i (by simpa using hi)
    split at this
    ·assumption
    ·cases this
   ·rw[gE (by omega),gE (by omega)]
 ·rw[decide_eq_false (show¬(a.length:Int)=(b.length:Int) by omega),decide_eq_false (λ e=>d (by rw[e]))];rfl
theorem aw5{a b:List Kind}(c:a.length<=1000)(ag:b.length<=1000)(d:1100<F):Ls F a b=some (decide (a=b)):=by
 rw[<-alT c ag d];unfold Ls vN;have e:∀k n,D8 a b k n=qu a b k n:=by
  intro k;induction k with
  |zero=>intro n;rfl
  |succ k f=>intro n;rw[D8,qu];simp only[f]
 rw[e]
def TR(a b:Method):Bool:=decide (a.Name=b.Name)&&(a.Static||b.Static|| !decide (a.cD=b.cD)|| !decide (a.Returns=b.Returns))
def qC(a b:Method):Option Int:=if TR a b then some 4 else none
def v7(l:List ap)(c:ap)(u:Int):Option Int:=c.bp.findSome? λ a=>(eZ l u).findSome? (qC a)
def Gz(l:List ap)(c:ap)(i:Nat):Option Int:=(dH l i).tail.findSome? (v7 l c)
theorem au7(a b:Method):qC a b=none\/qC a b=some 4:=by unfold qC;split<;>simp
theorem aeB(c:ap)(u:Int):v7 l c u=none\/v7 l c u=some 4:=t_ (λ _=>t_ (λ _=>au7 _ _) _) _
theorem ax2{α:Type}{g:α->Option Int}{e:Int}(b:∀x,g x=none\/g x=some e)(r:List α):r.reverse.findSome? g=r.findSome? g:=by
 rcases t_ b r with h |h
 ·rw[h,gS]
  intro x a
  exact gS.1 h x (by simpa using a)
 ·rw[h]
  rcases t_ b r.reverse with J |J
  ·obtain⟨x,a,c⟩:=eN h
   have:=gS.1 J x (by simpa using a)
   rw[c]at this;cases this
  ·exact J
theorem aD9(p:1100<F)(h:h7 l)(m:List (List UInt8×Int)):Kp F ⟨l,m,du l⟩=some (((ed l.length).findSome? λ i=>(l[i]?).bind λ c=>Gz l c i).getD 0):=by
 have q:=h.right.len;have:=kQ (n:=l.length) (L:=zL F ⟨l,m,du l⟩) (λ i=>(l[i]?).bind λ c=>Gz l c i) (by omega) (λ k i hi=>by
  obtain⟨c,f⟩:∃x,l[i]? =some x:=⟨l[i],aK hi⟩
  have s:=bG f;have O:=h.right.methods c s;obtain⟨w,P,y⟩:=h.chain (n:=(i:Int)) (by omega) (by omega);obtain⟨r,t⟩:=abi w (by omega);have z:∀(a:Method),a∈c.bp-> ∀(u:ap),u∈l->sF F a u F 0=some (cA (u.bp.findSome? (qC a))):=λ a e u d=>each (qC a) (by have:=h.right.methods u d;omega) (λ k j b ag=>by
   have A:=bG ag;have B:=h.right.method c s a e;have Q:=h.right.method u d b A;rw[sF,bM (aP.1 ag).1,cond_true,bw ag,ae];unfold Pb;simp only;rw[aw5 (by omega) (by omega) p];unfold qC TR;show cond _ (ew (cond _ (ew _ λ r=>cond r (some (decide (a.Returns=b.Returns))) _) _) _) _=_
   by_cases v:a.Name=b.Name
   ·rw[decide_eq_true v]
    simp only[ae,cond_true,kz]
    cases a.Static<;>cases b.Static<;>cases decide (a.cD=b.cD)<;>cases decide (a.Returns=b.Returns)<;>rfl
   ·rw[decide_eq_false v];rfl) (λ k=>by rw[sF,bL];rfl) (by have:=h.right.methods u d;omega)
  have C:∀(x:Int),0<=x->x<l.length->zN F ⟨l,m,du l⟩ c x F 0=some (cA (v7 l c x)):=λ x D E=>each (λ a=>(eZ l x).findSome? (qC a)) (by omega) (λ k j a e=>by
   obtain⟨u,d,_⟩:=xR (l:=l) D E;have G:u∈l:=by obtain⟨_,_,J⟩:=lF d;exact bG J
   have H:eZ l x=u.bp:=by unfold eZ;rw[d];rfl
   rw[zN,bM (aP.1 e).1,cond_true,bw e,ae];show dd (α:=Unit) ((idx l x).bind λ R=>_) _=_
   rw[d,ae,z a (bG e) u G,oT,rl,oR,H]) (λ k=>by rw[zN,bL];rfl) (by omega)
  have I:zM F ⟨l,m,du l⟩ c (dH l i).tail F 0=some (cA ((dH l i).tail.findSome? (v7 l c))):=each (v7 l c) (by simp;omega) (λ k j x g=>by
   have ag:=y x (List.mem_of_mem_tail (bG g));rw[zM,bM (aP.1 g).1,cond_true,bw g,ae,C x ag.1 ag.2,oT,rl,oR]) (λ k=>by rw[zM,bL];rfl) (by simp;omega)
  rw[zL];have K:decide ((i:Int)<((⟨l,m,du l⟩:bt).l.length:Int))=true:=bM (n:=l.length) hi;have o:=h.X8 p m (n:=(i:Int)) (by omega) (by omega);rw[K,cond_true];show dd (α:=Unit) ((idx l (i:Int)).bind λ S=>(sD F ⟨l,m,du l⟩ (i:Int)).bind λ M=>_) _=_
  have N:cut (dH l i) 1 ((dH l i).length:Int)=some (dH l i).tail:=by
   unfold cut;rw[if_pos (by rw[t];simp only[dL];omega)];rw[t];simp
  rw[bw f,ae,o,ae,N,ae,I,oT,rl,oR,f];rfl) (λ k=>by
   rw[zL];show cond (decide ((l.length:Int)<(l.length:Int))) _ _=_
   rw[bL];rfl) (F:=F) (by omega)
 unfold Kp;rw[this];cases(ed l.length).findSome? (λ i=>(l[i]?).bind λ c=>Gz l c i)<;>rfl
theorem aD_(y:1100<F)(h:h7 l):BP F l F 0=some (cA ((ed l.length).findSome? λ i=>(l[i]?).bind λ c=>Gz l c i)):=by
 have z:=h.right.len;exact kQ _ (by omega) (λ k i hi=>by
  obtain⟨c,d⟩:∃x,l[i]? =some x:=⟨l[i],aK hi⟩
  have A:=bG d;have O:=h.right.methods c A;obtain⟨H,P,I⟩:=h.chain (n:=(i:Int)) (by omega) (by omega);obtain⟨r,B⟩:=abi H (by omega);have f:(dH l i).reverse=(dH l i).tail.reverse++[(i:Int)]:=by rw[B];simp
  have g:BQ F l (i:Int) (dH l i).reverse F 0=some (cA ((dH l i).tail.reverse.findSome? (v7 l c))):=each (l:=(dH l i).tail.reverse) (v7 l c) (by simp;omega) (λ k u x m=>by
   have C:=(aP.1 m).1;have ag:=I x (List.mem_of_mem_tail (by simpa using bG m));obtain⟨w,e,_⟩:=xR (l:=l) ag.1 ag.2;have D:w∈l:=by obtain⟨_,_,J⟩:=lF e;exact bG J
   have K:=h.right.methods w D;have L:eZ l x=w.bp:=by unfold eZ;rw[e];rfl
   have E:(dH l i).reverse[u]? =some x:=by rw[f,eA C];exact m
   have o:BR F l (i:Int) (dH l i).reverse (u:Int) F 0=some (cA (v7 l c x)):=each (l:=c.bp) (λ a=>(eZ l x).findSome? (qC a)) (by omega) (λ k j a p=>by
    have s:=bG p;have t:yH F l (i:Int) (dH l i).reverse (u:Int) (j:Int) F 0=some (cA (w.bp.findSome? (qC a))):=each (l:=w.bp) (qC a) (by omega) (λ k q b ag=>by
     have M:=bG ag;have N:=h.right.method c A a s;have Q:=h.right.method w D b M;rw[yH];simp only[bw E,ae,e,bM (aP.1 ag).1,cond_true,bw d,bw p,bw ag];rw[alT (by omega) (by omega) y];unfold qC TR;show cond _ (cond _ _ (ew _ λ r=>cond (!r) _ (cond (!decide (a.Returns=b.Returns)) _ _))) _=_
     by_cases G:a.Name=b.Name
     ·rw[decide_eq_true G]
      simp only[ae,cond_true,kz]
      cases a.Static<;>cases b.Static<;>cases decide (a.cD=b.cD)<;>cases decide (a.Returns=b.Returns)<;>rfl
     ·rw[decide_eq_false G];rfl) (λ k=>by rw[yH];simp only[bw E,ae,e,bL];rfl) (by omega)
    rw[BR,bw d,ae,bM (aP.1 p).1,cond_true,t,oT,rl,oR,L]) (λ k=>by rw[BR,bw d,ae,bL];rfl) (by omega)
   have v:decide ((u:Int)<ax (((dH l i).reverse.length:Int)-1))=true:=by
    rw[cQ (by omega) (by simp;omega)];simp only[lQ,List.length_tail]at C;exact decide_eq_true (by simp only[lQ];omega)
   rw[BQ,v,cond_true,o,oT,rl,oR]) (λ k=>by
    have v:decide (((dH l i).tail.reverse.length:Int)<ax (((dH l i).reverse.length:Int)-1))=false:=by
     rw[cQ (by omega) (by simp;omega)];exact decide_eq_false (by rw[B];simp)
    rw[BQ,v];rfl) (by simp;omega)
  rw[BP,bM hi,cond_true,Q6 y h.right (by omega),ae,g,oT,rl,oR,d,ax2 (aeB c)];rfl) (λ k=>by rw[BP,bL];rfl) (by omega)
end
end I
