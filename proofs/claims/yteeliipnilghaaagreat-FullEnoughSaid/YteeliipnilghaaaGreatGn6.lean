/- Part 6 of the proof that is ended in the last text: small logic, what the functions compute, walks, plain laws. -/
import Derived.Test.YteeliipnilghaaaGreatGn5
import Derived.Maps.RangeRun
import Derived.KernelRfl
import Derived.Test.YteeliipnilghaaaGreatProg
import Derived.Test.YteeliipnilghaaaGreatChecked
import Derived.Shelf.SlSortCmp.Whole1
import Derived.Sort.LotA
import Derived.Shelf.SlSortCmp.NoneTotal
open Array renaming getD_eq_getD_getElem?->eF,getElem?_eq_getElem->jz,getElem?_eq_none->h6,getElem?_modify->j2,getElem?_setIfInBounds->gm,getElem?_toList->hR
open Bool renaming and_eq_true->cd,eq_iff_iff->iy,false_eq_true->hM,false_or->iu,not_eq_true'->hh,not_false->ib,not_true->dS,or_eq_true->h3,true_and->j7
open Classical renaming byContradiction->lm
open List renaming Pairwise.imp_of_mem->lp,all_eq_true->kp,append_assoc->fA,append_nil->hv,cons.injEq->hU,cons_append->ih,drop_eq_getElem_cons->de,drop_of_length_le->jd,drop_zero->hf,exists_of_findSome?_eq_some->eE,ext_getElem?->kX,findSome?_append->lK,findSome?_cons->iU,findSome?_eq_none_iff->gS,flatMap_cons->h7,getElem?_cons_zero->ee,getElem?_eq_getElem->aN,getElem?_eq_none->gH,getElem?_eq_some_iff->aR,getElem?_map->jv,getElem?_range->lZ,getElem?_set_self->gu,getElem?_take->hx,getElem_mem->hj,length->h8,length_append->dM,length_cons->di,length_erase_of_mem->mb,length_map->hd,length_mergeSort->mC,length_nil->gR,length_pos_iff->lY,length_reverse->lE,length_take->gl,map_append->jM,map_cons->ez,map_map->me,map_nil->ig,map_singleton->lJ,mem_append->cf,mem_cons->cH,mem_cons_of_mem->d_,mem_cons_self->hZ,mem_erase_of_ne->mS,mem_filter->jt,mem_iff_getElem->iZ,mem_map->hQ,mem_map_of_mem->jS,mem_of_getElem?->bH,mem_singleton->dV,mergeSort_perm->k0,nodup_append->fx,nodup_cons->h4,nodup_iff_pairwise_ne->lf,nodup_nil->mg,not_mem_nil->io,pairwise_mergeSort->mo,perm_ext_iff_of_nodup->ke,range->ef,set_getElem_self->mv,take->mB,take_add_one->lg,take_length->jy,take_of_length_le->hS
open Nat renaming beq->cj,blt->fg,eq_of_beq_eq_true->bd,le_of_ble_eq_true->cJ,le_refl->cP,lt_of_lt_of_le->eN,lt_or_ge->gI,mul_one->jR,zero_add->jO,zero_le->gY
open Option renaming bind->ej,bind_some->ae,getD_none->jN,getD_some->iX,isSome_none->l7,map_eq_some_iff->cA,map_none->je,map_some->fY,some.inj->eD,some.injEq->aF
open Prod renaming fst->k1,mk.injEq->cB
noncomputable section
namespace ba
open Go Go.RowKit ay I Go.ChangeMaps
section
variable{P:Program}{ops:Array Oper}{o:Oper}{rest:List Oper}{a:Act}{w w':World}{v:Value}{Q:Exit->Act->World->Prop}
theorem e1(b:o.guard=none)(hy:bh P o a w v w')(k:wpList P ops Q rest (a.put o.dst v) w'):wpList P ops Q (o::rest) a w:=by refine wpList_plain b λ c d=>?_;unfold Oper.wp;rw[show(execOp a.eval o).run P w= .ok (.value v) w' from hy];exact d _ _ k
structure Tx (w:World) (r bm since clock:Nat) (es:Array MapEntry) (acc:List MapEntry):Prop where
 it:∃eP,since<=eP/\w.heap[r]? =some (.mapIter (some bm) since ⟨acc.map (·.born)⟩ eP)
 mp:w.heap[bm]? =some (.map es clock)
theorem aFW{l:List MapEntry}(h:(l.map (·.born)).Nodup):∀ {x y:MapEntry},x∈l->y∈l->x.born=y.born->x=y:=by
 induction l with
 |nil=>intro x y b;simp at b
 |cons z r g=>intro x y b hy e;rw[ez]at h;have c:=h4.1 h;rcases cH.1 b with ex |D8;rcases cH.1 hy with d |xE;rw[ex,d];refine absurd ?_ c.1;rw[<-ex,e];exact jS (f:=(·.born)) xE;rcases cH.1 hy with d |xE;refine absurd ?_ c.1;rw[<-d,<-e];exact jS (f:=(·.born)) D8;exact g c.2 D8 xE e
theorem Y7{α β:Type}{f:α->β}:∀ {l:List α},(l.map f).Nodup->l.Nodup
 |[],_=>mg
 |a::r,h=>by have b:=h4.1 (show(f a::r.map f).Nodup from h);exact h4.2 ⟨λ c=>b.1 (jS c),Y7 b.2⟩
theorem Y3:∀ {o Y:List Nat},o.Nodup->(∀a∈o,a∈Y)->o.length<=Y.length
 |[],Y,_,_=>gY _
 |a::r,Y,c,aj=>by have c:=h4.1 c;have ap:a∈Y:=aj a (by simp);have d:=Y3 (o:=r) (Y:=Y.erase a) c.2 λ b ag=>(mS λ e=>by subst e;exact c.1 ag).2 (aj b (by simp[ag]));rw[mb ap]at d;have:0<Y.length:=List.length_pos_of_mem ap;simp only[di];omega
theorem aCu{es:List MapEntry}{acc:List MapEntry}(c:(es.map (·.born)).Nodup)(ap:(acc.map (·.born)).Nodup)(aj:∀e∈acc,e∈es)(g:∀e∈es,e.born∈acc.map (·.born)):acc.Perm es:=by
 have b:acc.Nodup:=Y7 ap;have ne:es.Nodup:=Y7 c;refine(ke b ne).2 λ e=>⟨aj e,λ d=>?_⟩
 obtain⟨x,f,h⟩:=hQ.1 (g e d);have:=aFW c (aj x f) d h;exact this▸f
def aaV(wR Dl gg lC:Nat)(tok:Nat)(iG mW mh k2 mX:Oper)(c:Code):Code:= .block wR (.loop (.seq (.region gg #[iG,mW] false) (.seq (.cond (.tmp tok) .skip (.exit wR)) (.block Dl (.seq (.region lC #[mh,k2,mX] false) c)))))
theorem vK{d:Option Nat}{v:Value}:(a.put d v).tmps.size=a.tmps.size:=by cases d<;>simp[Act.put]
theorem w_{d t:Nat}{v:Value}(h:d≠t):(a.put (some d) v).tmps.getD t undef=a.tmps.getD t undef:=by simp only[Act.put,eF,gm,nc h]
theorem w9{d:Nat}{v:Value}(h:d<a.tmps.size):(a.put (some d) v).tmps.getD d undef=v:=by rw[Ab h,nf rfl]
theorem Du{t:Nat}:a.eval (.tmp t)=a.tmps.getD t undef:=rfl
def uB(l:List Nat)(a b:Act):Prop:=b.tmps.size=a.tmps.size/\b.defers=a.defers/\∀t,t∉l->b.tmps.getD t undef=a.tmps.getD t undef
theorem uB.refl{l:List Nat}{a:Act}:uB l a a:=⟨rfl,rfl,λ _ _=>rfl⟩
theorem uB.put{l:List Nat}{a b:Act}{d:Nat}{v:Value}(h:uB l a b)(aJ:d∈l):uB l a (b.put (some d) v):=⟨vK.trans h.1,h.2.1,λ t c=>by rw[w_ (λ(e:d=t)=>c (by rw[<-e];exact aJ))];exact h.2.2 t c⟩
theorem aiY{n wR Dl gg lC r bm since clock ti tn tok te tk tv:Nat}{iG mW mh k2 mX:Oper}{c:Code}{es:Array MapEntry}(j:List MapEntry->Act->World->Prop)
 (nH:iG.op= .next (.tmp ti) false/\iG.dst=some tn/\iG.guard=none)(a8:mW.op= .extract (.tmp tn) 0/\mW.dst=some tok/\mW.guard=none)
 (K:mh.op= .entry (.tmp ti)/\mh.dst=some te/\mh.guard=none)(b_:k2.op= .extract (.tmp te) 0/\k2.dst=some tk/\k2.guard=none)(rp:mX.op= .assign (.tmp tk)/\mX.dst=some tv/\mX.guard=none)
 (ag:(fg tn n&&fg tok n&&fg te n&&fg tk n)=true)(b3:(!(cj tn ti)&& !(cj tok ti)&& !(cj te ti)&& !(cj tk ti)&& !(cj tok tn)&& !(cj tk te))=true)
 (q:∀x∈es.toList,x.born<since)(D2:since<=clock)(iR:(es.toList.map (·.born)).Nodup)
 (L:∀acc a w,j acc a w->a.tmps.size=n/\a.tmps.getD ti undef= .pointer (some ⟨r,0,none⟩)/\Tx w r bm since clock es acc/\(acc.map (·.born)).Nodup/\∀e∈acc,e∈es.toList)
 (M:∀acc e a d w w',j acc a w->e∈es.toList->e.born∉acc.map (·.born)->uB [tn,tok,te,tk,tv] a d->(tv<n->d.tmps.getD tv undef=e.key)->br [r] w w'->w'.heap.size=w.heap.size->(∃eP,since<=eP/\w'.heap[r]? =some (.mapIter (some bm) since ⟨(acc++[e]).map (·.born)⟩ eP)) ->
  c.wp P (λ x d w'=>x= .normal/\j (acc++[e]) d w') d w')
 (DN:∀acc a d w,j acc a w->acc.Perm es.toList->uB [tn,tok] a d->Q .normal d w)(aE:j [] a w):(aaV wR Dl gg lC tok iG mW mh k2 mX c).wp P Q a w:=by
 simp only[cd,hh]at ag b3
 obtain⟨⟨⟨bO,D⟩,e5⟩,N⟩:=ag
 have bO:tn<n:=cJ bO
 have D:tok<n:=cJ D
 have e5:te<n:=cJ e5
 have N:tk<n:=cJ N
 obtain⟨⟨⟨⟨⟨O,R⟩,EI⟩,Ll⟩,aPP⟩,n6⟩:=b3
 have O:tn≠ti:=λ e=>by subst e;simp at O
 have R:tok≠ti:=λ e=>by subst e;simp at R
 have EI:te≠ti:=λ e=>by subst e;simp at EI
 obtain⟨Ag,s,t⟩:=nH
 obtain⟨u,y,A⟩:=a8
 obtain⟨S,T,U⟩:=K
 obtain⟨xb,sW,nG⟩:=b_
 obtain⟨V,W,X⟩:=rp
 unfold aaV
 refine wp_block (wp_loop_ghost (λ m a w=>∃acc,j acc a w/\m=es.size-acc.length) _ ⟨[],aE,rfl⟩ λ m a w hm=>?_)
 obtain⟨acc,hi,G4⟩:=hm
 obtain⟨sz,Ax,⟨⟨eP,mK,E⟩,F⟩,aB,aj⟩:=L acc a w hi
 refine wp_seq (wp_region_list ?_)
 have jL:a.eval (.tmp ti)= .pointer (some ⟨r,0,none⟩):=Ax
 rcases run_next_at (P:=P) w iG.type r bm since eP ⟨acc.map (·.born)⟩ es clock E F q mK with⟨al,G⟩|⟨e,l,dR,H,G⟩
 ·have Z:bh P iG a w (.tuple #[.bool false]) w:=by
   simp only[bh,execOp,Ag,jL,Sem.run_bind,G,Result.andThen];rfl
  refine e1 t Z ?_;rw[s];refine e1 A (MW (vs:=[.bool false]) (i:=0) (v:=.bool false) u (by rw[Du,w9 (by rw[sz];exact bO)]) rfl) ?_;rw[y];have WI:(((a.put (some tn) (.tuple #[.bool false])).put (some tok) (.bool false)).eval (.tmp tok))= .bool false:=by rw[Du,w9 (by rw[vK,sz];exact D)]
  refine wp_seq (wp_cond_split WI (λ h=>by cases h) λ _=>wp_exit ?_);simp only[Exit.then,Exit.inBlock,if_true];refine DN acc a _ w hi (aCu iR aB aj λ e l=>?_) ((uB.refl.put (by simp)).put (by simp));have kT:leftOf es ⟨acc.map (·.born)⟩= #[]:=Array.eq_empty_of_size_eq_zero al;apply lm;intro hc;have:e∈(leftOf es ⟨acc.map (·.born)⟩).toList:=by unfold leftOf;simp only[Array.toList_filter,jt];exact⟨l,by simpa using hc⟩
  rw[kT]at this;simp at this
 ·have WG:e∈es.toList/\e.born∉acc.map (·.born):=by
   unfold leftOf at l;simp only[Array.toList_filter,jt]at l;exact⟨l.1,by simpa using l.2⟩
  obtain⟨vb,Ar⟩:=WG;obtain⟨b,f⟩:∃b,b=setBlock dR r (.mapIter (some bm) since ((⟨acc.map (·.born)⟩:Array Nat).push e.born) clock):=⟨_,rfl⟩
  rw[<-f]at G;have G2:dR.heap=w.heap:=by rcases H with rfl |rfl<;>rfl
  have Hc:r<w.heap.size:=by rcases gI r w.heap.size with h |h;exact h;rw[h6 h]at E;cases E
  have aA9:((⟨acc.map (·.born)⟩:Array Nat).push e.born)=⟨(acc++[e]).map (·.born)⟩:=by simp
  have kV:b.heap[r]? =some (.mapIter (some bm) since ((⟨acc.map (·.born)⟩:Array Nat).push e.born) clock):=by rw[f];simp only[setBlock,G2];rw[gm,nf rfl,nf Hc]
  have B:∀k,k≠r->b.heap[k]? =w.heap[k]? :=λ k hk=>by rw[f];simp only[setBlock,G2];rw[gm,nc (λ e=>hk e.symm)]
  have azS:bm≠r:=λ e=>by rw[e,E]at F;cases F
  have KO:b.heap.size=w.heap.size:=by rw[f];simp[setBlock,G2]
  have kh:br [r] w b:=⟨by rw[f];rcases H with rfl |rfl<;>rfl,by rw[f];rcases H with rfl |rfl<;>rfl,by rw[f];rcases H with rfl |rfl<;>rfl,by rw[KO];exact cP _,λ k _ hk=>B k (by simpa using hk)⟩
  have Z:bh P iG a w (.tuple #[.bool true,e.key,e.val]) b:=by simp only[bh,execOp,Ag,jL,Sem.run_bind,G,Result.andThen];rfl
  refine e1 t Z ?_;rw[s];refine e1 A (MW (vs:=[.bool true,e.key,e.val]) (i:=0) (v:=.bool true) u (by rw[Du,w9 (by rw[sz];exact bO)]) rfl) ?_;rw[y];have WI:(((a.put (some tn) (.tuple #[.bool true,e.key,e.val])).put (some tok) (.bool true)).eval (.tmp tok))= .bool true:=by rw[Du,w9 (by rw[vK,sz];exact D)]
  refine wp_seq (wp_cond_split WI (λ _=>wp_skip ?_) λ h=>by cases h);refine wp_block (wp_seq (wp_region_list ?_));obtain⟨p,I⟩:∃p,p=(a.put (some tn) (.tuple #[.bool true,e.key,e.val])).put (some tok) (.bool true):=⟨_,rfl⟩
  rw[<-I];have g:p.tmps.size=n:=by rw[I,vK,vK,sz]
  have aBE:p.eval (.tmp ti)= .pointer (some ⟨r,0,none⟩):=by rw[I,Du,w_ R,w_ O];exact Ax
  have aAf:=run_entry_at (P:=P) b r bm since ⟨acc.map (·.born)⟩ es clock e kV (by rw[B bm azS];exact F) vb iR;have qU:bh P mh p b (.tuple #[e.key,e.val]) b:=by simp only[bh,execOp,S,aBE,Sem.run_bind,aAf,Result.andThen];rfl
  refine e1 U qU ?_;rw[T];refine e1 nG (MW (vs:=[e.key,e.val]) (i:=0) (v:=e.key) xb (by rw[Du,w9 (by rw[g];exact e5)]) rfl) ?_;rw[sW];refine e1 X (y2 V (v:=e.key) (by rw[Du,w9 (by rw[vK,g];exact N)])) ?_;rw[W];have hE:uB [tn,tok,te,tk,tv] a (((p.put (some te) (.tuple #[e.key,e.val])).put (some tk) e.key).put (some tv) e.key):=by rw[I];exact((((uB.refl.put (by simp)).put (by simp)).put (by simp)).put (by simp)).put (by simp)
  have:=M acc e a _ w b hi vb Ar hE (λ KP=>w9 (by rw[vK,vK,g];exact KP)) kh KO ⟨clock,D2,by rw[kV,aA9]⟩;refine Code.wp_mono (λ x d w' C=>?_) this;obtain⟨rfl,C⟩:=C;refine⟨es.size- (acc++[e]).length,?_,acc++[e],C,rfl⟩;have bD:acc.length<es.size:=by
   have h1:((acc++[e]).map (·.born)).Nodup:=(L _ _ _ C).2.2.2.1;have J:=Y3 h1 (Y:=es.toList.map (·.born)) λ x aa=>by obtain⟨z,ah,rfl⟩:=hQ.1 aa;exact jS ((L _ _ _ C).2.2.2.2 z ah)
   simp at J;omega
  simp;omega
end
open Go Go.RowKit ay I
section
variable{E:Env}
def ad1(E:Env)(n:cG)(ss:List Nat)(pas:List cM)(pbs:List bK)(b:kK)(fn:dw E.T.El pas×cK E.T.El pbs->Option (zb E.T.El b))(x r:Code):Prop:=
 ∀da db fa,fn (da,db)=some fa->∀(W:World)(M0:List Nat)(X:Nat->Prop)(ρ:List Value)(a:Act)(w:World),a.tmps.size=n.n->a.defers=n.ds->Told E W M0 X ss pas pbs da db ρ a w false ->
  ∀(rest:Code)(Q:Exit->Act->World->Prop),(∀(c:Act)(w':World)(d:List Value),c.tmps.size=n.n->c.defers=n.ds->Told E W M0 X b.ss b.eJ b.du fa.1 fa.2 d c w' true ->
   To X (bQ id (ck false pbs) false pbs db) (bQ id (ck true b.du) true b.du fa.2) ρ d w w'->rest.wp E.P Q c w')->(Code.seq x (.seq r rest)).wp E.P Q a w
@[reducible] def Lz{T:bU}(ss:List Nat)(pas:List cM)(pbs:List bK)(a:kK)(fn:dw T.El pas×cK T.El pbs->Option (zb T.El a)):fO T:=⟨ss,pas,pbs,[a],λ _ d=>fn d⟩
theorem aGl(G:E.cY=[]){n:cG}{ss:List Nat}{pas:List cM}{pbs:List bK}{b:kK}{fn:dw E.T.El pas×cK E.T.El pbs->Option (zb E.T.El b)}{x r:Code}(H:b.x= .nm)(aJ:ad1 E n ss pas pbs b fn x r):zl E n ((Lz ss pas pbs b fn).run E 0) x r:=by
 intro rest s t c W M0 X b0 ρ0 w0 ρ a w Q h k;have I:∀ {K:Nat->Prop}{bl':List (aH E.T.El)}{ρ':List Value}{w':World},∀g y,cI E.cY g=some y->ax E.T (bj K bl' ρ' w') w' ρ' bl' y (.pointer (some ⟨g,0,none⟩)):=λ{_ _ _ _} g y q=>by rw[G]at q;simp[cI]at q
 unfold fO.run at c;split at c
 ·rename_i ys L;cases u:gW [] (Lz ss pas pbs b fn).pas (Lz ss pas pbs b fn).pbs s.bl ys with
  |mk bl cO=>
  rw[u]at c;simp only at c;obtain⟨l,m,iW,M⟩:=w5 h.r.mem u (Bg h.r (cur:=[]) trivial L);split at c
  ·rename_i d sel v z;simp only[cd]at v;obtain⟨N,Wo,O⟩:=v;obtain⟨da,db⟩:=d;obtain⟨fa,P,J⟩:=alp c;obtain⟨d',e,ao⟩:=J;simp only[aF]at e;subst e;obtain⟨aj,_,R⟩:=u0 m uL z;obtain⟨S,f⟩:=DC uL z;obtain⟨ev,T⟩:=R (bj (kd X bl l sel) (bQ id (ck false pbs) false pbs db) (ha l sel) w) λ k f=>aj.H2 f;have U:=aj.enter m T;have V:=ev _ M;have A:(⟨IQ b.x,⟨⟨wx b.ss (gG (jq sel bl.length) (fH bl sel b.du) b.eJ fa.1),[],[]⟩,gJ bl sel b.du fa.2,sel++s.ws⟩⟩:ca E.T.El)=t:=ao;refine aJ da db fa P w _ _ _ a w h.r.ea.eu.size h.r.ea.eu.defers ⟨U,V⟩ rest Q λ Y w' Z cU s5 C sY=>?_;obtain⟨D,dO⟩:=Qx N (w:=b) (by simp);obtain⟨bO,dF,e5,ff⟩:=back (gq:=ck true b.du) m aj S (λ j i B p h h' F=>by obtain⟨B',e,ao,_⟩:=f j i p h F;rw[h']at e;cases e;exact Pz D F ao) D (λ i hi=>by obtain⟨j,aA,rfl⟩:=iZ.1 hi;obtain⟨B,e,_⟩:=f j _ _ (aN aA) (aN (by have:=aj.len;rw[nZ]at this;simp only[ha,hd]at this;omega:j<pbs.length));exact(aR.1 e).1) (λ j=>rfl) C.1 sY;have Hg:=ff b.eJ fa.1 _ C.2;have p9:hC s.bl ρ w w' sel:=by have:=hC.nil.bI iW e5;rwa [hv]at this
   have:=k (gD l sel Z) Y w' (by subst A;exact⟨⟨bO,⟨⟨cU,s5,λ t y hy=>S4 Hg hy⟩,λ p o=>by simp at o,λ p o=>by simp at o⟩,I⟩,h.to.trans (iW.trans dF),h.wr.bI h.to p9⟩);rw[<-A]at this;rw[H]at this;exact this
  ·exact c.elim
 ·exact c.elim
end
section
variable{E:Env}{bw:fz E}{W:World}{M0:List Nat}{X:Nat->Prop}{n:cG}{b0:List (aH E.T.El)}{ρ0:List Value}{w0:World}{ops:Array Oper}{Q:Exit->Act->World->Prop}
theorem QA(a8:dl E)(j:lO E bw){rest:List Oper}:∀(os:List Oper){s:eU E.T.El}{t:ca E.T.El}{ρ:List Value}{a:Act}{w:World},(opsL E bw ops n.n os s).out t->t.x= .nm->jE E W M0 X n b0 ρ0 w0 s ρ a w->(∀ρ' l w',jE E W M0 X n b0 ρ0 w0 t.s ρ' l w'->wpList E.P ops Q rest l w')->wpList E.P ops Q (os++rest) a w
 |[],s,t,ρ,a,w,c,_,h,k=>by have c:(⟨.nm,s⟩:ca E.T.El)=t:=c;subst c;exact k ρ a w h
 |o::r,s,t,ρ,a,w,c,g,h,k=>by
  simp only[opsL]at c;show wpList E.P ops Q (o::(r++rest)) a w
  split at c
  ·obtain⟨q,m,J⟩:=D.ks c;rw[ER]at J;obtain⟨d,aJ,u,p,hy⟩:=Zy (ops:=ops) a8 h.r m;have next:=QA a8 j r J g (ρ:=ρ) (a:=a.put (some d) u) (w:=w) ⟨p,h.to,h.wr⟩ k
   refine wpList_step λ K v=>?_;rcases hy with⟨e,hy⟩|⟨e,hy⟩
   ·rw[nf e];unfold Oper.wp;rw[show(execOp a.eval o).run E.P w=_ from hy.now];show K (a.put o.dst u) w
    rw[aJ];exact v _ _ next
   ·rw[nc (by simp[e]),aJ,<-hy];exact v _ _ next
  ·exact c.elim
  ·obtain⟨b,m,J⟩:=D.ks c;have f:=adl a8 j h.r m
   have f:=f (wpList E.P ops Q (r++rest)) Q λ ρ' l w' p x e=>by
    have aj:=h.next p x e;cases i:b.x with
    |nm=>rw[i]at J;simp only[ER,Qt]at J;exact QA a8 j r J g aj k
    |ex id=>rw[i]at J;have J:(⟨.ex id,b.s.f,b.s.bl,b.s.ws++s.ws⟩:ca E.T.El)=t:=J;subst J;cases g
    |rt=>rw[i]at J;have J:(⟨.rt,b.s.f,b.s.bl,b.s.ws++s.ws⟩:ca E.T.El)=t:=J;subst J;cases g
    |im y=>rw[i]at J;have J:(⟨.im y,b.s.f,b.s.bl,b.s.ws++s.ws⟩:ca E.T.El)=t:=J;subst J;cases g
   unfold wpList;split;rename_i e;rw[nf e]at f;exact .inl f;rename_i e;rw[nc e]at f;exact f
def I2(E:Env):fz E:=λ _ _ _=>.no
theorem agN:lO E (I2 E):=⟨λ _ _ _ _ h=>h.elim⟩
theorem ayY(b:E.cY=[]){c:Nat->Prop}{bl':List (aH E.T.El)}{ρ':List Value}{w':World}:∀g y,cI E.cY g=some y->ax E.T (bj c bl' ρ' w') w' ρ' bl' y (.pointer (some ⟨g,0,none⟩)):=λ g y a=>by rw[b]at a;simp[cI]at a
theorem YG(c:E.cY=[]){bl:List (aH E.T.El)}{ρ:List Value}{a:Act}{w:World}{fr:List (Nat×aL E.T.El)}(d:Mem E.T W M0 X bl ρ w)(e:a.tmps.size=n.n)(J:a.defers=n.ds)(f:∀t y,cI fr t=some y->ax E.T (bj X bl ρ w) w ρ bl y (a.tmps.getD t undef)):R E W M0 X n ⟨fr,[],[]⟩ bl ρ a w:=⟨d,⟨⟨e,J,f⟩,λ p b=>by simp at b,λ p b=>by simp at b⟩,ayY c⟩
theorem aj6{f:cD E.T.El}{bl:List (aH E.T.El)}{ρ:List Value}{a:Act}{w:World}(h:R E W M0 X n f bl ρ a w):jE E W M0 X n bl ρ w ⟨f,bl,[]⟩ ρ a w:=⟨h,.refl,.nil⟩
end
structure zm where
 aaW:Nat
 ops:Array Oper
 wR:Nat
 Dl:Nat
 gg:Nat
 lC:Nat
 tok:Nat
 iG:Oper
 mW:Oper
 mh:Oper
 k2:Oper
 mX:Oper
 c5:Nat
 pj:Array Oper
 fa:Nat
 yv:Array Oper
def zm.x(d:zm):Code:=.seq (.region d.aaW d.ops false) (aaV d.wR d.Dl d.gg d.lC d.tok d.iG d.mW d.mh d.k2 d.mX (.region d.c5 d.pj false))
def zm.r(d:zm):Code:=.region d.fa d.yv false
def HO:Code->Code->Option zm
 | .seq (.region aaW ops false) (.block wR (.loop (.seq (.region gg ⟨[iG,mW]⟩ false) (.seq (.cond (.tmp tok) .skip (.exit a)) (.block Dl (.seq (.region lC ⟨[mh,k2,mX]⟩ false) (.region c5 pj false))))))),.region fa yv false=>match cj wR a with
   |true=>some ⟨aaW,ops,wR,Dl,gg,lC,tok,iG,mW,mh,k2,mX,c5,pj,fa,yv⟩
   |false=>none
 |_,_=>none
theorem akZ{x r:Code}{d:zm}(h:HO x r=some d):x=d.x/\r=d.r:=by unfold HO at h;split at h;split at h;rename_i ag;cases h;rw[<-bd ag];exact⟨rfl,rfl⟩;cases h;cases h
section
variable{E:Env}{bw:fz E}{W:World}{M0:List Nat}{X:Nat->Prop}{n:cG}{ops:Array Oper}{Q:Exit->Act->World->Prop}
theorem Mem.agD{bl bl':List (aH E.T.El)}{ρ ρ':List Value}{w w':World}(h:Mem E.T W M0 X bl ρ w)(h':Mem E.T W M0 X bl' ρ' w')(aj:w.heap.size<=w'.heap.size)(ag:∀k,k<w.heap.size->w'.heap[k]? =w.heap[k]?):br [] w w':=⟨h'.bZ.os.trans h.bZ.os.symm,h'.bZ.tape.trans h.bZ.tape.symm,h'.bZ.output.trans h.bZ.output.symm,aj,λ k a _=>ag k a⟩
theorem Q3(a8:dl E)(e:E.cY=[]){bl:List (aH E.T.El)}{ρ:List Value}{a:Act}{w:World}{fr:List (Nat×aL E.T.El)}{os rest:List Oper}{α:Type}{K:ca E.T.El->Option α}{z:α}
 (c:Mem E.T W M0 X bl ρ w)(f:a.tmps.size=n.n)(J:a.defers=n.ds)(g:∀t y,cI fr t=some y->ax E.T (bj X bl ρ w) w ρ bl y (a.tmps.getD t undef))
 (h:(opsL E (I2 E) ops n.n os ⟨⟨fr,[],[]⟩,bl,[]⟩).run K=some z)(j:∀t,K t=some z->t.x= .nm/\t.s.ws=[])
 (k:∀t ρ' b w',K t=some z->R E W M0 X n t.s.f t.s.bl ρ' b w'->To X bl t.s.bl ρ ρ' w w'->br [] w w'->wpList E.P ops Q rest b w'):wpList E.P ops Q (os++rest) a w:=by
 obtain⟨t,l,d⟩:=D.tT h
 obtain⟨m,o⟩:=j t d
 refine QA a8 agN os l m (aj6 (YG e c f J g)) λ ρ' b w' aj=>?_
 refine k t ρ' b w' d aj.r aj.to (c.agD aj.r.mem aj.to.sz λ q p=>aj.wr q p λ i hi=>?_)
 rw[o]at hi
 simp at hi
end
def js(W:List Int):List Int->Int->Option Int
 |[],n=>some n
 |k::r,n=>(idx W (aw (k+1))).bind λ v=>js W r (aw (n+aw (3+v)))
theorem amU{W:List Int}{x:Int}:∀ {l:List Int}{n:Int},js W (l++[x]) n=(js W l n).bind λ m=>(idx W (aw (x+1))).bind λ v=>some (aw (m+aw (3+v)))
 |[],n=>rfl
 |k::r,n=>by
  simp only[ih,js];cases idx W (aw (k+1))with
  |none=>rfl
  |some v=>exact amU
theorem amT{W:List Int}:∀ {l:List Int}{n m:Int},js W l n=some m->∀x∈l,∃v,idx W (aw (x+1))=some v
 |[],n,m,_,x,aa=>by simp at aa
 |k::r,n,m,h,x,aa=>by obtain⟨v,a,J⟩:=gr h;rcases cH.1 aa with rfl |aa;exact⟨v,a⟩;exact amT J x aa
theorem abo{W:List Int}{l l':List Int}(h:l.Perm l'):∀n,js W l n=js W l' n:=by
 induction h with
 |nil=>intro n;rfl
 |cons x _ d=>
  intro n;simp only[js];cases idx W (aw (x+1))with
  |none=>rfl
  |some v=>exact d _
 |swap x y l=>
  intro n;simp only[js];cases c:idx W (aw (x+1))with
  |none=>
   cases hy:idx W (aw (y+1))with
   |none=>rfl
   |some v=>simp[c]
  |some u=>
   cases hy:idx W (aw (y+1))with
   |none=>simp[hy]
   |some v=>simp only[ae,c,hy];congr 1;unfold aw;omega
 |trans _ _ a b=>intro n;rw[a,b]
def kZ(e:MapEntry):Int:=match e.key with
 | .int _ x=>x
 |_=>0
theorem La{α:Type}:∀ {fr:List (Nat×α)}{t:Nat}{y:α},cI fr t=some y->(t,y)∈fr
 |[],t,y,h=>by simp[cI]at h
 |p::r,t,y,h=>by unfold cI at h;split at h;rename_i ag;simp only[aF]at h;have:=bd ag;subst this;subst h;exact hZ;exact d_ _ (La h)
def nF{El:Nat->Type}(f:cD El)(s:Nat):Option Value:=match cI f.fr s with
 |some (.p v)=>some v
 |_=>none
theorem ayZ{El:Nat->Type}{f:cD El}{s:Nat}{v:Value}(h:nF f s=some v):cI f.fr s=some (.p v):=by unfold nF at h;split at h;rename_i e;simp only[aF]at h;rw[e,h];cases h
def xa{El:Nat->Type}(f:cD El):List Nat->Option (List Value)
 |[]=>some []
 |s::r=>(nF f s).bind λ v=>(xa f r).bind λ vs=>some (v::vs)
theorem OH{T:bU}{F:Nat->Prop}{w:World}{ρ:List Value}{bl:List (aH T.El)}{n:cG}{f:cD T.El}{a:Act}(b:sw T F w ρ bl n f.fr a):∀ {ss:List Nat}{vs:List Value},xa f ss=some vs->ss.map (λ s=>a.tmps.getD s undef)=vs
 |[],vs,h=>by simp only[xa,aF]at h;subst h;rfl
 |s::r,vs,h=>by obtain⟨v,d,J⟩:=gr h;obtain⟨us,e,c⟩:=gr J;simp only[aF]at c;subst c;have:=b.get s _ (ayZ d);simp only[ax]at this;rw[ez,this,OH b e]
def rowAt{El:Nat->Type}(bl:List (aH El))(i:Nat):Option (Nat× Σ t,List (El t)):=match bl[i]? with
 |some (.r t g _ l)=>some (g,⟨t,l⟩)
 |_=>none
theorem aJe{El:Nat->Type}{bl:List (aH El)}{i t g:Nat}{l:List (El t)}(h:rowAt bl i=some (g,⟨t,l⟩)):∃k,bl[i]? =some (.r t g k l):=by unfold rowAt at h;split at h;rename_i e;simp only[aF,cB,Sigma.mk.injEq]at h;obtain⟨rfl,rfl,h⟩:=h;cases h;exact⟨_,e⟩;cases h
section
variable{T:bU}{W w w':World}{M0:List Nat}{X:Nat->Prop}{bl bl':List (aH T.El)}{ρ ρ':List Value}
theorem Mem.agA{M:List Nat}(h:Mem T W M0 X bl ρ w)(h':Mem T W M0 X bl' ρ' w')(aj:w.heap.size<=w'.heap.size)(ag:∀k,k<w.heap.size->k∉M->w'.heap[k]? =w.heap[k]?):br M w w':=⟨h'.bZ.os.trans h.bZ.os.symm,h'.bZ.tape.trans h.bZ.tape.symm,h'.bZ.output.trans h.bZ.output.symm,aj,ag⟩
theorem Mem.aa1(b:Mem T W M0 X bl ρ w){i t g k:Nat}{l0:List (T.El t)}{a:Value}(hi:bl[i]? =some (.r t g k l0))(d:ρ[i]? =some a):∃A c xs,a= .slice A l0.length c/\rowIs w t (T.ty t).size a l0.length xs/\dN (T.ty t) (bj X bl ρ w) w xs l0:=b.ok i _ _ hi d
theorem Mem.amb(b:Mem T W M0 X bl ρ w){i t g k:Nat}{l0 l:List (T.El t)}{a:Value}{A:Option Addr}{c:Nat}{xs:List Value}
 (hi:bl[i]? =some (.r t g k l0))(d:ρ[i]? =some a)(f:br (ba.ag a) w w')(ad:∀k∈ba.ag (.slice A l.length c),k∈ba.ag a\/(w.heap.size<=k/\k<w'.heap.size))
 (j:rowIs w' t (T.ty t).size (.slice A l.length c) l.length xs)(m:∀F,dN (T.ty t) F w' xs l) :
 Mem T W M0 X (bl.set i (.r t (g+1) 0 l)) (ρ.set i (.slice A l.length c)) w'/\To X bl (bl.set i (.r t (g+1) 0 l)) ρ (ρ.set i (.slice A l.length c)) w w':=by
 have n:lv a:=by obtain⟨p,eP,_,e,_⟩:=b.aa1 hi d;rw[e];trivial
 have h:=b.E5 (B':=.r t (g+1) 0 l) (h':=.slice A l.length c) hi d f ad ⟨λ o=>absurd n o,by simp[b5],λ e=>by simp[b5]at e⟩
 exact⟨b.dD hi d f ad h ⟨A,c,xs,rfl,j,m _⟩,h⟩
end
section
variable{E:Env}
structure sv (T:bU) where
 pas:List cM
 pbs:List bK
 R:Type
 v:R->Value
 XZ:Value->Option R
 fn:dw T.El pas×cK T.El pbs->Option R
def sv.run(E:Env)(c:sv E.T)(ys:List (aL E.T.El))(bl:List (aH E.T.El)):D (fE E.T.El):=match gW [] c.pas c.pbs bl ys with
 |(bO,a)=>match iQ bO [] false c.pas c.pbs a with
  |some (d,_)=>.op (c.fn d) λ x=>.ok ⟨.ret (.p (c.v x)),bO,[]⟩
  |none=>.no
def sv.fin{T:bU}(c:sv T)(r:fE T.El):Option c.R:=match r.e,r.ws with
 | .ret (.p u),[]=>c.XZ u
 |_,_=>none
def sv.Eq(E:Env)(bw:fz E)(LE:lP E)(f:Nat)(c:sv E.T):Prop:=∀(da:dw E.T.El c.pas)(db:cK E.T.El c.pbs),(oV E bw LE f (gG id (ck false c.pbs) c.pas da) (bQ id (ck false c.pbs) false c.pbs db)).run c.fin=c.fn (da,db)
theorem avY{f:Nat}{bw:fz E}{LE:lP E}(a8:dl E)(p:lO E bw)(q:wD E LE)(s:E.cY=[]){c:sv E.T}(hi:∀u x,c.XZ u=some x->u=c.v x)(t:c.Eq E bw LE f):kH E f (c.run E):=by
 intro ys z r a W M0 X ρ0 w vs A _ cc;unfold sv.run at a;cases m:gW [] c.pas c.pbs z ys with
 |mk bl S=>
 rw[m]at a;obtain⟨ρ,j,iW,B⟩:=w5 A m cc;simp only at a;split at a
 ·rename_i d sel C;obtain⟨da,db⟩:=d;obtain⟨x,F,J⟩:=a;have J:(⟨.ret (.p (c.v x)),bl,[]⟩:fE E.T.El)=r:=J;subst J;obtain⟨aj,_,G⟩:=u0 j uL C;obtain⟨ev,H⟩:=G (bj (kd X bl ρ sel) (bQ id (ck false c.pbs) false c.pbs db) (ha ρ sel) w) λ k b=>aj.H2 b;have n:=aj.enter j H;obtain⟨T,I,h⟩:=D.tT ((t da db).trans F);have K:∀ {L bl' ρ' w'},I3 E L bl' ρ' w':=λ{_ _ _ _} g y o=>by rw[s]at o;simp[cI]at o
  have hc:=((Oi a8 p q).ok _ _ _ _ I).2 _ _ _ _ _ vs n K (ev vs B);refine hc.mono λ e w' M=>?_;obtain⟨Cr,hp,N,lG,LV⟩:=M;unfold sv.fin at h;split at h
  ·rename_i u O P;have Q:=hi _ _ h;subst Q;have l:br [] w w':=n.agA hp N.sz λ k b _=>lG k b λ i hi=>by rw[P]at hi;simp at hi
   refine⟨ρ,j.fi l,iW.trans (Mem.tZ l),λ k b _=>l.block k b (by simp),?_⟩;rw[O]at LV;cases e with
   |returned v=>
    simp only[Dd,ax]at LV;have R:ax E.T (bj X bl ρ w') w' ρ bl (.p (c.v x)) v:=by simp only[ax];exact LV
    exact R
   |panicked _=>exact LV.elim
   |_=>exact LV.elim
  ·cases h
 ·exact a.elim
def aS.rd(s:aS E)(f:Nat)(c:sv E.T)(a:c.Eq E s.t.bw s.t.LE f)(hi:∀u x,c.XZ u=some x->u=c.v x)(ad:fp E.cm f=true:=by kernel_rfl):aS E:=⟨s.t.f f (c.run E),λ h=>(s.ok h).pT ad (avY h (lV h (s.ok h).ce (s.ok h).le 100) (s.ok h).le s.cY hi a),s.cY⟩
theorem cW.Ok.ayx{t:cW E}(a8:dl E)(h:t.Ok){f:Nat}(ad:fp E.cm f=true){c:iB E.T}(hc:kH E f (c.run E)):(t.w6 f c).Ok:=by refine h.pT ad λ ys bl r a=>?_;split at a;exact hc ys bl r a;exact((lV a8 h.ce h.le 100).ok f ys bl r a).2
def aS.eo(s:aS E)(f:Nat)(c:iB E.T)(hc:kH E f (c.run E))(ad:fp E.cm f=true:=by kernel_rfl):aS E:=⟨s.t.w6 f c,λ h=>(s.ok h).ayx h ad hc,s.cY⟩
structure Ct (T:bU) where
 ss:List Nat
 pas:List cM
 pbs:List bK
 out:Nat
 R:Type
 v:R->Value
 fn:dw T.El pas×cK T.El pbs->Option R
def Ct.run(E:Env)(c:Ct E.T)(s:eU E.T.El):D (ca E.T.El):=match qm E s.bl s.f [] (c.ss.map .tmp)with
 |some ys=>match gW [] c.pas c.pbs s.bl ys with
  |(bO,a)=>match iQ bO [] false c.pas c.pbs a with
   |some (d,_)=>.op (c.fn d) λ x=>.ok ⟨.nm,⟨⟨[(c.out,.p (c.v x))],[],[]⟩,bO,s.ws⟩⟩
   |none=>.no
 |none=>.no
def Ct.Cu(E:Env)(n:cG)(c:Ct E.T)(x r:Code):Prop:=
 ∀da db fa,c.fn (da,db)=some fa->∀(W:World)(M0:List Nat)(X:Nat->Prop)(ρ:List Value)(a:Act)(w:World),a.tmps.size=n.n->a.defers=n.ds->Told E W M0 X c.ss c.pas c.pbs da db ρ a w false ->
  ∀(rest:Code)(Q:Exit->Act->World->Prop),(∀(b:Act)(w':World),b.tmps.size=n.n->b.defers=n.ds->b.tmps.getD c.out undef=c.v fa->br [] w w'->rest.wp E.P Q b w')->(Code.seq x (.seq r rest)).wp E.P Q a w
theorem avX(o:E.cY=[]){n:cG}{c:Ct E.T}{x r:Code}(aJ:c.Cu E n x r):zl E n (c.run E) x r:=by
 intro rest s t b W M0 X b0 ρ0 w0 ρ a w Q h k;have u:∀ {v:Nat->Prop}{bl':List (aH E.T.El)}{ρ':List Value}{w':World},∀g y,cI E.cY g=some y->ax E.T (bj v bl' ρ' w') w' ρ' bl' y (.pointer (some ⟨g,0,none⟩)):=λ{_ _ _ _} g y l=>by rw[o]at l;simp[cI]at l
 unfold Ct.run at b;split at b
 ·rename_i ys z;cases m:gW [] c.pas c.pbs s.bl ys with
  |mk bl P=>
  rw[m]at b;simp only at b;obtain⟨e,f,iW,A⟩:=w5 h.r.mem m (Bg h.r (cur:=[]) trivial z);split at b
  ·rename_i d sel B;obtain⟨da,db⟩:=d;obtain⟨fa,C,J⟩:=b;have J:(⟨.nm,⟨⟨[(c.out,.p (c.v fa))],[],[]⟩,bl,s.ws⟩⟩:ca E.T.El)=t:=J;obtain⟨aj,_,D⟩:=u0 f uL B;obtain⟨ev,F⟩:=D (bj (kd X bl e sel) (bQ id (ck false c.pbs) false c.pbs db) (ha e sel) w) λ k G=>aj.H2 G;have H:=aj.enter f F;have I:=ev _ A;refine aJ da db fa C w _ _ _ a w h.r.ea.eu.size h.r.ea.eu.defers ⟨H,I⟩ rest Q λ K w' L M N i=>?_
   have:=k e K w' (by
    subst J;refine⟨⟨f.fi i,⟨⟨L,M,λ t y hy=>?_⟩,λ p j=>by simp at j,λ p j=>by simp at j⟩,u⟩,h.to.trans (iW.trans (Mem.tZ i)),?_⟩;have:=La hy;simp only[dV,cB]at this;obtain⟨rfl,rfl⟩:=this;simp only[ax];exact N
    ·have:=h.wr.bI h.to (s':=[]) (w'':=w') (bl':=s.bl) (ρ':=ρ) λ q O _=>i.block q O (by simp)
     exact this)
   rw[<-J]at this;exact this
  ·exact b.elim
 ·exact b.elim
end
end ba
namespace Go.Proofs.YteeliipnilghaaaGreat
open Go Go.RowKit ay I ba
@[reducible] def ub:List bK:=[.c 140 [.B 1,.l 134,.l 3,.l 124,.l 120,.l 121,.M 2],.c 24 [.l 3,nl,nl,nl,nl,.l 3,nl],.m 3 4]
noncomputable def uc:Code×Code:=((ET Tryz.prog 55 0).getD (.skip,.skip))
def h5:zm:=(HO uc.1 uc.2).getD ⟨0,#[],0,0,0,0,0,default,default,default,default,default,0,#[],0,#[]⟩
theorem aKV:ET Tryz.prog 55 0=some uc:=by kernel_rfl
theorem aKX:HO uc.1 uc.2=some h5:=by kernel_rfl
def aKZ(d:dw bs.El [.p (.B 0),ni]×cK bs.El ub):List Int:=List.map (α:=Int×Bool) k1 d.2.2.2.1
def abI:Ct bs:=⟨[0,3],[.p (.B 0),ni],ub,2,Int,.int .i64,λ d=>js d.2.2.1.1 (aKZ d) d.1.2.1⟩
theorem aKY:h5.iG.op= .next (.tmp 9) false/\h5.iG.dst=some 10/\h5.iG.guard=none:=by refine⟨?_,?_,?_⟩<;>kernel_rfl
theorem aK0:h5.mW.op= .extract (.tmp 10) 0/\h5.mW.dst=some 11/\h5.mW.guard=none:=by refine⟨?_,?_,?_⟩<;>kernel_rfl
theorem aK1:h5.mh.op= .entry (.tmp 9)/\h5.mh.dst=some 12/\h5.mh.guard=none:=by refine⟨?_,?_,?_⟩<;>kernel_rfl
theorem aK2:h5.k2.op= .extract (.tmp 12) 0/\h5.k2.dst=some 13/\h5.k2.guard=none:=by refine⟨?_,?_,?_⟩<;>kernel_rfl
theorem aK3:h5.mX.op= .assign (.tmp 13)/\h5.mX.dst=some 4/\h5.mX.guard=none:=by refine⟨?_,?_,?_⟩<;>kernel_rfl
def aK6:List Oper:=h5.ops.toList.take 4
def Mt:Oper:=(h5.ops.toList.drop 4).headD h5.iG
theorem aK4:h5.ops.toList=aK6++[Mt]:=by kernel_rfl
theorem abL:Mt.op= .range 70 (.tmp 8)/\Mt.dst=some 9/\Mt.guard=none:=by refine⟨?_,?_,?_⟩<;>kernel_rfl
def gB{T:bU}(t:ca T.El):Bool:=match t.x,t.s.ws with
 | .nm,[]=>true
 |_,_=>false
theorem Pv{T:bU}{t:ca T.El}(h:gB t=true):t.x= .nm/\t.s.ws=[]:=by unfold gB at h;split at h;rename_i a J;exact⟨a,J⟩;cases h
def abJ(t:ca bs.El):Option (Nat×Nat×Nat×Value):=match gB t,cI t.s.f.fr 8,cI t.s.f.fr 0,cI t.s.f.fr 3 with
 |true,some (.m j),some (.b i o),some (.p u)=>some (j,i,o,u)
 |_,_,_,_=>none
theorem anw{t:ca bs.El}{j i o:Nat}{u:Value}(h:abJ t=some (j,i,o,u)):gB t=true/\cI t.s.f.fr 8=some (.m j)/\cI t.s.f.fr 0=some (.b i o)/\cI t.s.f.fr 3=some (.p u):=by unfold abJ at h;split at h;rename_i a J b c;simp only[aF,cB]at h;obtain⟨rfl,rfl,rfl,rfl⟩:=h;exact⟨a,J,b,c⟩;cases h
def RO(t:ca bs.El):Option (Value×Nat×Nat×Value):=match gB t,cI t.s.f.fr 9,cI t.s.f.fr 0,cI t.s.f.fr 3 with
 |true,some (.p v),some (.b i o),some (.p u)=>some (v,i,o,u)
 |_,_,_,_=>none
theorem anx{t:ca bs.El}{v:Value}{i o:Nat}{u:Value}(h:RO t=some (v,i,o,u)):gB t=true/\cI t.s.f.fr 9=some (.p v)/\cI t.s.f.fr 0=some (.b i o)/\cI t.s.f.fr 3=some (.p u):=by unfold RO at h;split at h;rename_i a J b c;simp only[aF,cB]at h;obtain⟨rfl,rfl,rfl,rfl⟩:=h;exact⟨a,J,b,c⟩;cases h
theorem aek{T:bU}{F F':Nat->Prop}{w w':World}{ρ ρ':List Value}{bl bl':List (aH T.El)}{i o:Nat}{v a:Value}(b:nu T ρ ρ' bl bl')(h:ax T F w ρ bl (.b i o) v)(h':ax T F' w' ρ' bl' (.b i o) a):a=v:=by simp only[ax]at h h';obtain⟨g,c,ao⟩:=h;obtain⟨g',aW,bR⟩:=h';obtain⟨u,d,e,_⟩:=b.at_ i _ c;have:=e (by simp[lv]);rw[d,this]at aW;cases aW;rw[ao,bR]
theorem UB{F:Nat->Prop}{w:World}:∀ {es:List MapEntry}{d:List (Int×Bool)},ka (kt:=3) (vt:=4) bs F w vm es d->es.map kZ=d.map k1
 |[],[],_=>rfl
 |[],_::_,h=>h.elim
 |_::_,[],h=>h.elim
 |e::es,p::d,h=>by obtain⟨a,_,b⟩:=h;rw[ez,ez,UB b];congr 1;unfold kZ;rw[a];rfl
theorem Yw{El:Nat->Type}{s t u:Nat}{x y z:aL El}(h:cI [(s,x),(t,y)] u=some z):(u=s/\z=x)\/(u=t/\z=y):=by simp only[cI]at h;split at h;rename_i ag;simp only[aF]at h;exact .inl ⟨(bd ag).symm,h.symm⟩;split at h;rename_i ag;simp only[aF]at h;exact .inr ⟨(bd ag).symm,h.symm⟩;cases h
theorem UA{F:Nat->Prop}{w:World}:∀ {es:List MapEntry}{d:List (Int×Bool)},ka (kt:=3) (vt:=4) bs F w vm es d->∀e∈es,e.key= .int .i64 (kZ e)
 |[],_,_,e,he=>by simp at he
 |_::_,[],h,_,_=>h.elim
 |x::es,p::d,h,e,he=>by obtain⟨a,_,b⟩:=h;rcases cH.1 he with rfl |he;unfold kZ;rw[a];rfl;exact UA b e he
theorem aEB{El:Nat->Type}{b c d a u:Nat}{e f g i z:aL El}(h:cI [(b,e),(c,f),(d,g),(a,i)] u=some z):(u=b/\z=e)\/(u=c/\z=f)\/(u=d/\z=g)\/(u=a/\z=i):=by unfold cI at h;split at h;rename_i ag;simp only[aF]at h;exact .inl ⟨(bd ag).symm,h.symm⟩;unfold cI at h;split at h;rename_i ag;simp only[aF]at h;exact .inr (.inl ⟨(bd ag).symm,h.symm⟩);exact .inr (.inr (Yw h))
def abK(t:ca bs.El):Option (List Value):=match gB t with
 |true=>xa t.s.f [2]
 |false=>none
theorem anz{t:ca bs.El}{z}(h:abK t=some z):gB t=true/\xa t.s.f [2]=some z:=by unfold abK at h;split at h;rename_i a;exact⟨a,h⟩;cases h
set_option maxRecDepth 100000
theorem aLe:abI.Cu aI ⟨29,[]⟩ uc.1 uc.2:=by
 intro da db fa fI W M0 X ρ a w cU s5 c6 rest Q k;obtain⟨aa,av⟩:=akZ aKX;rw[aa,av];obtain⟨aP7,(d:Int),aP8⟩:=da;obtain⟨L,⟨(f:List Int),M⟩,(g:List (Int×Bool)),N⟩:=db;obtain⟨S,Wt⟩:∃S:Int,S=fa:=⟨fa,rfl⟩
 subst Wt;have dO:js f (g.map k1) d=some S:=fI;obtain⟨u,j⟩:=c6;have j:a_ bs _ w ρ _ [.b 0 0,.p (.int .i64 d)] [a.tmps.getD 0 undef,a.tmps.getD 3 undef]:=j;simp only[a_]at j;obtain⟨v0,l0,cq,A,v3,ko,aW,ar,bR⟩:=j;simp only[hU]at cq;obtain⟨rfl,rfl⟩:=cq;simp only[hU]at aW;obtain⟨rfl,rfl⟩:=aW;obtain⟨vh,ao⟩:=u.tm (i:=2) (B:=.m 3 4 g) rfl;obtain⟨bm,DL,Ty,Ws,es,clock,vb,Kh,Xj,GQ⟩:=u.ok 2 (.m 3 4 g) _ rfl ao;subst DL;obtain rfl:Ty=(vm:iA (aI.T.El 3)):=by
  have Wm:(aI.T.e 3).key=some (vm:iA (aI.T.El 3)):=by kernel_rfl
  exact eD (Ws.symm.trans Wm)
 have Kv:=UB Kh;have iR:(es.toList.map (·.born)).Nodup:=lf.2 (Xj.imp λ h=>Nat.ne_of_lt h);refine wp_seq (wp_seq (wp_region_list ?_));rw[aK4];refine Q3 (n:=⟨29,[]⟩) (K:=abJ) (z:=(2,0,0,.int .i64 d)) kg rfl u cU s5 (fr:=[(0,.b 0 0),(3,.p (.int .i64 d))]) (λ t y hy=>?_) (by kernel_rfl) (λ t h=>Pv (anw h).1) λ t eK p b Wq C sY D=>?_;rcases Yw hy with⟨rfl,rfl⟩|⟨rfl,rfl⟩;exact A;exact ar;obtain⟨bq,bx,bT,fL⟩:=anw Wq;have q:∀ {k:Nat}{o:Obj}{w:World},w.heap[k]? =some o->k<w.heap.size:=λ{k o w} h=>by rcases gI k w.heap.size with h1 |h1;exact h1;rw[h6 h1]at h;cases h
 have f8:=C.ea.eu.get 8 _ bx;simp only[ax]at f8;obtain⟨au_,g1,g2⟩:=f8;obtain⟨nd,bn,O,_⟩:=sY.L.at_ 2 _ ao;have O:=O (by simp[lv]);rw[bn,O]at g1;cases g1;have f0:p.tmps.getD 0 undef=a.tmps.getD 0 undef:=aek sY.L A (C.ea.eu.get 0 _ bT);have f3:p.tmps.getD 3 undef= .int .i64 d:=by simpa only[ax]using C.ea.eu.get 3 _ fL
 have E:b.heap[bm]? =some (.map es clock):=(D.block bm (q vb) (by simp)).trans vb;have R:p.eval (.tmp 8)= .map (some bm):=g2;obtain⟨r,f'⟩:∃r,r=b.heap.size:=⟨_,rfl⟩
 have cO:bh aI.P Mt p b (.pointer (some ⟨r,0,none⟩)) (b.alloc (.mapIter (some bm) clock #[] clock)):=by rw[f'];simp only[bh,execOp,abL.1,R];rw[Sem.run_bind,run_range_map (P:=aI.P) b 70 3 4 bm es clock Tryz.underlying70 E];rfl
 refine e1 abL.2.2 cO ?_;rw[abL.2.1];refine wpList_nil ?_;obtain⟨F,T⟩:∃F,F=b.alloc (.mapIter (some bm) clock #[] clock):=⟨_,rfl⟩
 rw[<-T];have GL:br [] b F:=by rw[T];exact br.alloc [] b _
 have KQ:F.heap[r]? =some (.mapIter (some bm) clock #[] clock):=by rw[T,f'];exact heap_alloc_new b _
 have kV:r<F.heap.size:=q KQ;have Jl:p.tmps.size=29:=C.ea.eu.size;have TU:p.defers=[]:=C.ea.eu.defers
 refine aiY (n:=29) (r:=r) (bm:=bm) (since:=clock) (clock:=clock) (ti:=9) (tn:=10) (tok:=11) (te:=12) (tk:=13) (tv:=4) (es:=es)
  (λ acc s w'=>s.tmps.size=29/\s.defers=[]/\s.tmps.getD 0 undef=a.tmps.getD 0 undef/\s.tmps.getD 9 undef= .pointer (some ⟨r,0,none⟩)/\Tx w' r bm clock clock es acc/\(acc.map (·.born)).Nodup/\(∀e∈acc,e∈es.toList)/\br [] b w'/\∃m,s.tmps.getD 3 undef= .int .i64 m/\js f (acc.map kZ) d=some m)
  aKY aK0 aK1 aK2 aK3 (by decide) (by decide) GQ (cP _) iR (λ acc s w' h=>⟨h.1,h.2.2.2.1,h.2.2.2.2.1,h.2.2.2.2.2.1,h.2.2.2.2.2.2.1⟩) ?_ ?_ ?_
 ·intro acc e a2 a3 j0 r7 U V Ar hE KP OL Pj vd;obtain⟨Y,Z,i3,i4,⟨i5,aB7⟩,i6,i7,i8,m,i9,l⟩:=U;have G:br [] b r7:=i8.trans OL λ x aa=>.inr (by simp at aa;omega);have s9:=u.fi (D.trans G (by simp));have t4:=KP (by decide);rw[UA Kh e V]at t4;obtain⟨v,j⟩:=amT dO (kZ e) (by rw[<-Kv];exact jS V);refine wp_region_list ?_;rw[show h5.pj.toList=h5.pj.toList++[] by simp];refine Q3 (n:=⟨29,[]⟩) (K:=RO) (z:=(.pointer (some ⟨r,0,none⟩),0,0,.int .i64 (I.aw (m+I.aw (3+v))))) kg rfl s9 (hE.1.trans Y) (hE.2.1.trans Z) (fr:=[(4,.p (.int .i64 (kZ e))),(3,.p (.int .i64 m)),(9,.p (.pointer (some ⟨r,0,none⟩))),(0,.b 0 0)]) (λ t y hy=>?_) ?_ (λ t h=>Pv (anx h).1) λ t' aqC a5 yG Wr c H J=>?_;rcases aEB hy with⟨rfl,rfl⟩|⟨rfl,rfl⟩|⟨rfl,rfl⟩|⟨rfl,rfl⟩;simpa only[ax]using t4;simp only[ax];rw[hE.2.2 3 (by decide)];exact i9;simp only[ax];rw[hE.2.2 9 (by decide)];exact i4;have:=(Mem.tZ (X:=X) (bl:=bQ (El:=aI.T.El) id (ck false ub) false ub (L,(f,M),g,N)) (ρ:=ρ) (D.trans G (by simp))).v A;rw[hE.2.2 0 (by decide),i3];exact this
  ·have e:(opsL aI (I2 aI) h5.pj 29 h5.pj.toList ⟨⟨[(4,.p (.int .i64 (kZ e))),(3,.p (.int .i64 m)),(9,.p (.pointer (some ⟨r,0,none⟩))),(0,.b 0 0)],[],[]⟩,bQ id (ck false ub) false ub (L,(f,M),g,N),[]⟩).run RO=(idx f (I.aw (kZ e+1))).bind λ v=>some (.pointer (some ⟨r,0,none⟩),0,0,.int .i64 (I.aw (m+I.aw (3+v)))):=by kernel_rfl
   exact e.trans (by rw[j];rfl)
  ·obtain⟨c9,eT,fK,jo⟩:=anx Wr;refine wpList_nil ⟨rfl,c.ea.eu.size,c.ea.eu.defers,?_,by simpa only[ax]using c.ea.eu.get 9 _ eT,⟨?_,?_⟩,?_,?_,G.trans J (by simp),_,by simpa only[ax]using c.ea.eu.get 3 _ jo,?_⟩;have:=(Mem.tZ (X:=X) (bl:=bQ (El:=aI.T.El) id (ck false ub) false ub (L,(f,M),g,N)) (ρ:=ρ) (D.trans G (by simp))).v A;exact aek H.L this (c.ea.eu.get 0 _ fK);obtain⟨eP,lx,qb⟩:=vd;exact⟨eP,lx,(J.block r (q qb) (by simp)).trans qb⟩;have OU:r7.heap[bm]? =some (.map es clock):=(G.block bm (q E) (by simp)).trans E;exact(J.block bm (q OU) (by simp)).trans OU;rw[jM,lJ];exact fx.2 ⟨i6,by simp,λ x aa y hy ai=>by simp at hy;subst hy;subst ai;exact Ar aa⟩;intro x aa;rcases cf.1 aa with aa |aa;exact i7 x aa;simp at aa;subst aa;exact V;rw[jM,lJ,amU,l,ae,j,ae]
 ·intro acc a2 a3 j0 U G_ hE;obtain⟨Y,Z,i3,i4,i5,i6,i7,i8,m,i9,l⟩:=U;have aAU:m=S:=by have h1:=abo (W:=f) (G_.map kZ) d;rw[l,Kv,dO]at h1;exact eD h1
  subst aAU;have Wn:=D.trans i8 (by simp);refine wp_seq (wp_region_list ?_);rw[show h5.yv.toList=h5.yv.toList++[] by simp];refine Q3 (n:=⟨29,[]⟩) (K:=abK) (z:=[.int .i64 m]) kg rfl (u.fi Wn) (hE.1.trans Y) (hE.2.1.trans Z) (fr:=[(3,.p (.int .i64 m)),(0,.b 0 0)]) (λ t y hy=>?_) (by kernel_rfl) (λ t h=>Pv (anz h).1) λ t' aqC a5 yG Wr c H J=>?_;rcases Yw hy with⟨rfl,rfl⟩|⟨rfl,rfl⟩;simp only[ax];rw[hE.2.2 3 (by decide)];exact i9;have:=(Mem.tZ (X:=X) (bl:=bQ (El:=aI.T.El) id (ck false ub) false ub (L,(f,M),g,N)) (ρ:=ρ) Wn).v A;rw[hE.2.2 0 (by decide),i3];exact this;have ua:=OH c.ea.eu (anz Wr).2;simp only[ez,ig,hU,and_true]at ua;exact wpList_nil (k a5 yG c.ea.eu.size c.ea.eu.defers ua (Wn.trans J (by simp)))
 ·refine⟨by rw[vK,Jl],TU,by rw[w_ (by decide),f0],w9 (by rw[Jl];decide),⟨⟨clock,cP _,KQ⟩,(GL.block bm (q E) (by simp)).trans E⟩,by simp,by simp,GL,d,by rw[w_ (by decide),f3],rfl⟩
set_option maxRecDepth 100000
theorem aK5:zl aI ⟨fJ aI.P 55,[]⟩ (abI.run aI) uc.1 uc.2:=by
 have e:fJ aI.P 55=29:=by kernel_rfl
 rw[e];exact avX rfl aLe
def as_(F:Nat):aS aI:=(as9 F).akY 55 0 (abI.run aI) uc.1 uc.2 (λ _ _=>aK5) aKV
def X0:Value->Option Int
 | .int .i64 x=>some x
 |_=>none
theorem aCv(u:Value)(x:Int)(h:X0 u=some x):u= .int .i64 x:=by unfold X0 at h;split at h;cases h;rfl;cases h
def DB(h:List Int)(m:List (Int×Bool)):Option Int:=js h (m.map k1) 0
def aKW:sv bs:=⟨[.p (.B 0)],ub,Int,.int .i64,X0,λ d=>(DB d.2.2.1.1 d.2.2.2.1).bind λ x=>some x⟩
def Ta(F:Nat):aS aI:=(as_ F).rd 55 aKW (λ da db=>by kernel_rfl) aCv
def FP(F:Nat):Nat->(List Int)->(Int)->(Int)->(List Int)->Option ((Unit×Unit)×List Int×Unit)
 |0,_,_,_,_=>none
 |aT+1,b,c,a,d=>cond (decide (a<c)) ((idx b a).bind λ e=>
(bI 8 d [e]).bind λ f=>
FP F aT (b) (c) (aw (a+1)) (f)) (
some (((),()),((d),())))
def ajW(F:Nat):fO bs:=⟨[0,3,6,7],[nj,.p (.R 0),ni,ni],[.r 109 false],[⟨.nm,[3],[.p (.R 0)],[.r 109 false]⟩],λ k d=>FP F k d.1.1 d.1.2.2.1 d.1.2.2.2.1 d.2.1⟩
theorem ayf(F:Nat):(ajW F).Eq aI (Ta F).t.bw ((Ta F).t.LE 39) (fJ aI.P 39) 0 (hT aI.P 39 0):=⟨λ d=>by kernel_rfl,λ k da db=>by kernel_rfl⟩
def Tb(F:Nat):aS aI:=(Ta F).gx 39 0 F (ajW F) (ayf F)
def S1(F:Nat)(dg:List Int):Option ((List Int×Unit)×Unit):=(FP F F dg (↑dg.length:Int) 0 []).bind λ a=>
some (((a.snd.fst),()),())
def ajk(F:Nat):eA bs:=⟨[nj],[],[.p (.l 109)],[],λ d=>S1 F d.1.1⟩
theorem aye(F:Nat):(ajk F).Eq aI (Tb F).t.bw (Tb F).t.LE 39:=λ da db=>by kernel_rfl
def as'(F:Nat):aS aI:=(Tb F).GF 39 (ajk F) (aye F)
def Tc(F:Nat):aS aI:=(as' F).eo 39 (PF F) (aeM F)
def Dy(F:Nat)(b:List Int)(c:Int)(d:Int)(e:Int)(f:Int)(g:List Int)(h:Int)(i:List aq)(j:List Int)(k:List (List I.Field))(l:List (List (List UInt8)))(m:List (List I.Target))(n:List Int):Option ((Unit×Int×Unit)×(List Int×Int×Int×Int×Int×List Int×Int×List aq×List Int×List (List I.Field)×List (List (List UInt8))×List (List I.Target)×List Int×List Int×Unit×Unit)×List (Int×Bool)×Unit⊕
 (Unit×Int×Unit)×Unit):=
 cZ (kx (kQ F (aV.mk b c d e f g h) (aP.mk i j k l m))) (λ dg=>
cond (decide (dg.snd=0)) ((FQ F
 (bk.mk (aV.mk dg.fst.H.Words dg.fst.H.ak dg.fst.H.aK dg.fst.H.aO dg.fst.H.aM dg.fst.H.aU dg.fst.H.Next)
  (b9.mk (aP.mk dg.fst.S.K.a1 dg.fst.S.K.aY dg.fst.S.K.Fields dg.fst.S.K.Names dg.fst.S.K.aZ)) dg.fst.ak dg.fst.aK dg.fst.dQ)
 n).bind λ o=>
some (.inl (((),((o),())),(((dg.fst.H.Words),((dg.fst.H.ak),((dg.fst.H.aK),((dg.fst.H.aO),((dg.fst.H.aM),((dg.fst.H.aU),((dg.fst.H.Next),((dg.fst.S.K.a1),((dg.fst.S.K.aY),((dg.fst.S.K.Fields),((dg.fst.S.K.Names),((dg.fst.S.K.aZ),((dg.fst.ak),((dg.fst.aK),((),()))))))))))))))),((dg.fst.dQ),()))))) (
some (.inl (((),((dg.snd),())),(((dg.fst.H.Words),((dg.fst.H.ak),((dg.fst.H.aK),((dg.fst.H.aO),((dg.fst.H.aM),((dg.fst.H.aU),((dg.fst.H.Next),((dg.fst.S.K.a1),((dg.fst.S.K.aY),((dg.fst.S.K.Fields),((dg.fst.S.K.Names),((dg.fst.S.K.aZ),((dg.fst.ak),((dg.fst.aK),((),()))))))))))))))),((dg.fst.dQ),())))))) (λ a=>
cond (decide (a=0)) (none) (
some (.inr (((),((a),())),()))))
def ajh(F:Nat):lc bs:=⟨[.a [.l 3,nl,nl,nl,nl,.l 3,nl],.a [.l 134,.l 3,.l 124,.l 120,.l 121],nj],[],[⟨[.p (.B 0),ni],[.c 72 [.l 3,nl,nl,nl,nl,.l 3,nl,.l 134,.l 3,.l 124,.l 120,.l 121,.l 3,.l 3,.M 1],.m 3 4]⟩,⟨[.p .gZ,ni],[]⟩],λ d=>Dy F d.1.1.1 d.1.1.2.1 d.1.1.2.2.1 d.1.1.2.2.2.1 d.1.1.2.2.2.2.1 d.1.1.2.2.2.2.2.1 d.1.1.2.2.2.2.2.2.1 d.1.2.1.1 d.1.2.1.2.1 d.1.2.1.2.2.1 d.1.2.1.2.2.2.1 d.1.2.1.2.2.2.2.1 d.1.2.2.1⟩
theorem axo(F:Nat):(ajh F).Eq aI (Tc F).t.bw (Tc F).t.LE 53:=λ da db=>by kernel_rfl
def Td(F:Nat):aS aI:=(Tc F).jg 53 (ajh F) (axo F)
def DA(F:Nat):Nat->(List Int)->(Int)->(Int)->(List Int)->Option ((Unit×Unit)×List Int×Unit)
 |0,_,_,_,_=>none
 |aT+1,b,kE,a,c=>cond (decide (a<kE)) ((idx b a).bind λ om=>
(bI 8 c [om]).bind λ d=>
DA F aT (b) (kE) (aw (a+1)) (d)) (
some (((),()),((c),())))
def ajN(F:Nat):fO bs:=⟨[3,6,7,8],[.p (.R 0),.p (.l 109),ni,ni],[.r 3 false],[⟨.nm,[3],[.p (.R 0)],[.r 3 false]⟩],λ k d=>DA F k d.1.2.1 d.1.2.2.1 d.1.2.2.2.1 d.2.1⟩
theorem axq(F:Nat):(ajN F).Eq aI (Td F).t.bw ((Td F).t.LE 90) (fJ aI.P 90) 0 (hT aI.P 90 0):=⟨λ d=>by kernel_rfl,λ k da db=>by kernel_rfl⟩
def Tf(F:Nat):aS aI:=(Td F).gx 90 0 F (ajN F) (axq F)
def Ow(F:Nat)(ms:List Int):Option ((List Int×Unit)×Unit):=(DA F F ms (↑ms.length:Int) 0 []).bind λ a=>
some (((a.snd.fst),()),())
def aji(F:Nat):eA bs:=⟨[.p (.l 109)],[],[nj],[],λ d=>Ow F d.1.1⟩
theorem axp(F:Nat):(aji F).Eq aI (Tf F).t.bw (Tf F).t.LE 90:=λ da db=>by kernel_rfl
def Tg(F:Nat):aS aI:=(Tf F).fn 90 (aji F) (axp F)
def z'(F:Nat):Nat->(Int)->(Int)->(Int)->(List aq)->(List Int)->(List (List I.Field))->(List (List (List UInt8)))->(List (List I.Target))->(List Int)->(Int)->(Int)->(Int)->(Int)->(List Int)->(Int)->(List (Int×Bool))->(List Int)->Option ((Unit×Unit×Unit)×
 (Unit×List aq×List Int×List (List I.Field)×List (List (List UInt8))×List (List I.Target)×Unit×Unit)×(List Int×Int×Int×Int×Int×List Int×Int×Unit)×List (Int×Bool)×List Int×Unit)
 |0,_,_,_,_,_,_,_,_,_,_,_,_,_,_,_,_,_=>none
 |aT+1,b,sl,a,c,d,wm,e,f,wo,g,h,i,j,k,l,m,n=>cond (decide (a<sl)) ((idx wo b).bind λ o=>
(rr (b9.mk (aP.mk c d wm e f)) o a).bind λ p=>
cond (p) ((idx wo (aw (aw (b+3)+a))).bind λ q=>
(bI 8 n [q]).bind λ r=>
z' F aT (b) (sl) (aw (a+1)) (c) (d) (wm) (e) (f) (wo) (g) (h) (i) (j) (k) (l) (m) (r)) (
z' F aT (b) (sl) (aw (a+1)) (c) (d) (wm) (e) (f) (wo) (g) (h) (i) (j) (k) (l) (m) (n))) (
some (((),((),())),(((),((c),((d),((wm),((e),((f),((),()))))))),(((wo),((g),((h),((i),((j),((k),((l),()))))))),((m),((n),()))))))
def ajM(F:Nat):fO bs:=⟨[0,4,5,48,49],[.p (.B 0),.p (.R 3),ni,ni,ni],[.c 140 [.B 1,.l 134,.l 3,.l 124,.l 120,.l 121,.M 2],.c 24 [.l 3,nl,nl,nl,nl,.l 3,nl],.m 3 4,.r 3 false],[⟨.nm,[0,4],[.p (.B 0),.p (.R 3)],[.c 140 [.B 1,.l 134,.l 3,.l 124,.l 120,.l 121,.M 2],.c 24 [.l 3,nl,nl,nl,nl,.l 3,nl],.m 3 4,.r 3 false]⟩],λ k d=>z' F k d.1.2.2.1 d.1.2.2.2.1 d.1.2.2.2.2.1 d.2.1.2.1 d.2.1.2.2.1 d.2.1.2.2.2.1 d.2.1.2.2.2.2.1 d.2.1.2.2.2.2.2.1 d.2.2.1.1 d.2.2.1.2.1 d.2.2.1.2.2.1 d.2.2.1.2.2.2.1 d.2.2.1.2.2.2.2.1 d.2.2.1.2.2.2.2.2.1 d.2.2.1.2.2.2.2.2.2.1 d.2.2.2.1 d.2.2.2.2.1⟩
theorem axn(F:Nat):(ajM F).Eq aI (Tg F).t.bw ((Tg F).t.LE 89) (fJ aI.P 89) 2 (hT aI.P 89 2):=⟨λ d=>by kernel_rfl,λ k da db=>by kernel_rfl⟩
def Th(F:Nat):aS aI:=(Tg F).gx 89 2 F (ajM F) (axn F)
def w8(F:Nat):Nat->(List aq)->(List Int)->(List (List I.Field))->(List (List (List UInt8)))->(List (List I.Target))->(List Int)->(Int)->(Int)->(Int)->(Int)->(List Int)->(Int)->(List (Int×Bool))->(List Int)->Option (Unit×(Unit×List aq×List Int×List (List I.Field)×List (List (List UInt8))×List (List I.Target)×Unit×Unit)×(List Int×Int×Int×Int×Int×List Int×Int×Unit)×List (Int×Bool)×List Int×Unit)
 |0,_,_,_,_,_,_,_,_,_,_,_,_,_,_=>none
 |aT+1,c,d,e,i,j,g,k,l,m,n,o,p,h,b=>cond (decide (0<(↑b.length:Int))) ((idx b (aw ((↑b.length:Int)-1))).bind λ f=>
(if(0 :Int)<=0/\0<=aw ((↑b.length:Int)-1)/\aw ((↑b.length:Int)-1)<=(↑b.length:Int)then some ()else none).bind λ r=>
cond (decide (f=0)||(cE h f).getD false) (w8 F aT (c) (d) (e) (i) (j) (g) (k) (l) (m) (n) (o) (p) (h) (mB (aw ((↑b.length:Int)-1)).toNat b)) (
(idx g (aw (f+1))).bind λ q=>
(z' F F f q 0 c d e i j g k l m n o p (gy h f true) (mB (aw ((↑b.length:Int)-1)).toNat b)).bind λ a=>
w8 F aT (a.snd.fst.snd.fst) (a.snd.fst.snd.snd.fst) (a.snd.fst.snd.snd.snd.fst) (a.snd.fst.snd.snd.snd.snd.fst) (a.snd.fst.snd.snd.snd.snd.snd.fst) (a.snd.snd.fst.fst) (a.snd.snd.fst.snd.fst) (a.snd.snd.fst.snd.snd.fst) (a.snd.snd.fst.snd.snd.snd.fst) (a.snd.snd.fst.snd.snd.snd.snd.fst) (a.snd.snd.fst.snd.snd.snd.snd.snd.fst) (a.snd.snd.fst.snd.snd.snd.snd.snd.snd.fst) (a.snd.snd.snd.fst) (a.snd.snd.snd.snd.fst))) (
some ((),(((),((c),((d),((e),((i),((j),((),()))))))),(((g),((k),((l),((m),((n),((o),((p),()))))))),((h),((b),()))))))
def ajL(F:Nat):fO bs:=⟨[0,4],[.p (.B 0),.p (.R 3)],[.c 140 [.B 1,.l 134,.l 3,.l 124,.l 120,.l 121,.M 2],.c 24 [.l 3,nl,nl,nl,nl,.l 3,nl],.m 3 4,.r 3 false],[⟨.nm,[],[],[.c 140 [.B 1,.l 134,.l 3,.l 124,.l 120,.l 121,.M 2],.c 24 [.l 3,nl,nl,nl,nl,.l 3,nl],.m 3 4,.r 3 false]⟩],λ k d=>w8 F k d.2.1.2.1 d.2.1.2.2.1 d.2.1.2.2.2.1 d.2.1.2.2.2.2.1 d.2.1.2.2.2.2.2.1 d.2.2.1.1 d.2.2.1.2.1 d.2.2.1.2.2.1 d.2.2.1.2.2.2.1 d.2.2.1.2.2.2.2.1 d.2.2.1.2.2.2.2.2.1 d.2.2.1.2.2.2.2.2.2.1 d.2.2.2.1 d.2.2.2.2.1⟩
theorem axm(F:Nat):(ajL F).Eq aI (Th F).t.bw ((Th F).t.LE 89) (fJ aI.P 89) 0 (hT aI.P 89 0):=⟨λ d=>by kernel_rfl,λ k da db=>by kernel_rfl⟩
def Ti(F:Nat):aS aI:=(Th F).gx 89 0 F (ajL F) (axm F)
def Dx(F:Nat)(d:List Int)(e:List aq)(f:List Int)(g:List (List I.Field))(h:List (List (List UInt8)))(i:List (List I.Target))(j:List Int)(k:Int)(l:Int)(m:Int)(n:Int)(o:List Int)(p:Int)(b:List (Int×Bool)):Option (Unit×(Unit×List aq×List Int×List (List I.Field)×List (List (List UInt8))×List (List I.Target)×Unit×Unit)×(List Int×Int×Int×Int×Int×List Int×Int×Unit)×List (Int×Bool)×Unit):=(bI 8 [] d).bind λ c=>
(w8 F F e f g h i j k l m n o p b c).bind λ a=>
some ((),(((),((a.snd.fst.snd.fst),((a.snd.fst.snd.snd.fst),((a.snd.fst.snd.snd.snd.fst),((a.snd.fst.snd.snd.snd.snd.fst),((a.snd.fst.snd.snd.snd.snd.snd.fst),((),()))))))),(((a.snd.snd.fst.fst),((a.snd.snd.fst.snd.fst),((a.snd.snd.fst.snd.snd.fst),((a.snd.snd.fst.snd.snd.snd.fst),((a.snd.snd.fst.snd.snd.snd.snd.fst),((a.snd.snd.fst.snd.snd.snd.snd.snd.fst),((a.snd.snd.fst.snd.snd.snd.snd.snd.snd.fst),()))))))),((a.snd.snd.snd.fst),()))))
def ajg(F:Nat):eA bs:=⟨[.p (.B 0),nj],[.c 140 [.B 1,.l 134,.l 3,.l 124,.l 120,.l 121,.M 2],.c 24 [.l 3,nl,nl,nl,nl,.l 3,nl],.m 3 4],[],[.c 140 [.B 1,.l 134,.l 3,.l 124,.l 120,.l 121,.M 2],.c 24 [.l 3,nl,nl,nl,nl,.l 3,nl],.m 3 4],λ d=>Dx F d.1.2.1 d.2.1.2.1 d.2.1.2.2.1 d.2.1.2.2.2.1 d.2.1.2.2.2.2.1 d.2.1.2.2.2.2.2.1 d.2.2.1.1 d.2.2.1.2.1 d.2.2.1.2.2.1 d.2.2.1.2.2.2.1 d.2.2.1.2.2.2.2.1 d.2.2.1.2.2.2.2.2.1 d.2.2.1.2.2.2.2.2.2.1 d.2.2.2.1⟩
theorem axl(F:Nat):(ajg F).Eq aI (Ti F).t.bw (Ti F).t.LE 89:=λ da db=>by kernel_rfl
def Tj(F:Nat):aS aI:=(Ti F).fn 89 (ajg F) (axl F)
def Vo(F:Nat)(b:List aq)(c:List Int)(d:List (List I.Field))(e:List (List (List UInt8)))(f:List (List I.Target))(g:List Int)(h:List Int)(i:Int)(j:Int)(k:Int)(l:Int)(m:List Int)(n:Int):Option ((Unit×Unit)×(List Int×Int×Int×Int×Int×List Int×Int×Unit)×(Unit×List aq×List Int×List (List I.Field)×List (List (List UInt8))×List (List I.Target)×Unit×Unit)×List (Int×Bool)×Unit):=(Ow F g).bind λ o=>
(Dx F o.fst.fst b c d e f h i j k l m n []).bind λ a=>
some (((),()),(((a.snd.snd.fst.fst),((a.snd.snd.fst.snd.fst),((a.snd.snd.fst.snd.snd.fst),((a.snd.snd.fst.snd.snd.snd.fst),((a.snd.snd.fst.snd.snd.snd.snd.fst),((a.snd.snd.fst.snd.snd.snd.snd.snd.fst),((a.snd.snd.fst.snd.snd.snd.snd.snd.snd.fst),()))))))),(((),((a.snd.fst.snd.fst),((a.snd.fst.snd.snd.fst),((a.snd.fst.snd.snd.snd.fst),((a.snd.fst.snd.snd.snd.snd.fst),((a.snd.fst.snd.snd.snd.snd.snd.fst),((),()))))))),((a.snd.snd.snd.fst),()))))
def ajf(F:Nat):eA bs:=⟨[.p (.B 0),.a [.l 134,.l 3,.l 124,.l 120,.l 121],.p (.l 109)],[.c 24 [.l 3,nl,nl,nl,nl,.l 3,nl]],[.p (.B 1)],[.c 24 [.l 3,nl,nl,nl,nl,.l 3,nl],.c 140 [.B 0,.l 134,.l 3,.l 124,.l 120,.l 121,.M 2],.m 3 4],λ d=>Vo F d.1.2.1.1 d.1.2.1.2.1 d.1.2.1.2.2.1 d.1.2.1.2.2.2.1 d.1.2.1.2.2.2.2.1 d.1.2.2.1 d.2.1.1 d.2.1.2.1 d.2.1.2.2.1 d.2.1.2.2.2.1 d.2.1.2.2.2.2.1 d.2.1.2.2.2.2.2.1 d.2.1.2.2.2.2.2.2.1⟩
theorem axk(F:Nat):(ajf F).Eq aI (Tj F).t.bw (Tj F).t.LE 54:=λ da db=>by kernel_rfl
def Tk(F:Nat):aS aI:=(Tj F).fn 54 (ajf F) (axk F)
def z6(F:Nat)(b:List Int)(c:Int)(d:Int)(e:Int)(f:Int)(g:List Int)(h:Int)(k:List aq)(l:List Int)(m:List (List I.Field))(n:List (List (List UInt8)))(o:List (List I.Target))(i:List Int):Option ((Int×Int×Unit)×Unit):=cZ (Dy F b c d e f g h k l m n o i) (λ a=>
cond (!decide (a.fst.snd.fst=0)) (some (((0),((a.fst.snd.fst),())),())) (
(S1 F i).bind λ p=>
(Vo F a.snd.fst.snd.snd.snd.snd.snd.snd.snd.fst a.snd.fst.snd.snd.snd.snd.snd.snd.snd.snd.fst a.snd.fst.snd.snd.snd.snd.snd.snd.snd.snd.snd.fst a.snd.fst.snd.snd.snd.snd.snd.snd.snd.snd.snd.snd.fst
 a.snd.fst.snd.snd.snd.snd.snd.snd.snd.snd.snd.snd.snd.fst p.fst.fst b c d e f g h).bind λ j=>
((DB j.snd.fst.fst j.snd.snd.snd.fst).bind λ x=>some x).bind λ q=>
some (((q),((0),())),()))) (λ mn=>
cond (!decide (mn.fst.snd.fst=0)) (some (((0),((mn.fst.snd.fst),())),())) (
none))
def aje(F:Nat):eA bs:=⟨[.a [.l 3,nl,nl,nl,nl,.l 3,nl],.a [.l 134,.l 3,.l 124,.l 120,.l 121],nj],[],[ni,ni],[],λ d=>z6 F d.1.1.1 d.1.1.2.1 d.1.1.2.2.1 d.1.1.2.2.2.1 d.1.1.2.2.2.2.1 d.1.1.2.2.2.2.2.1 d.1.1.2.2.2.2.2.2.1 d.1.2.1.1 d.1.2.1.2.1 d.1.2.1.2.2.1 d.1.2.1.2.2.2.1 d.1.2.1.2.2.2.2.1 d.1.2.2.1⟩
theorem axj(F:Nat):(aje F).Eq aI (Tk F).t.bw (Tk F).t.LE 22:=λ da db=>by kernel_rfl
def Nb(F:Nat):aS aI:=(Tk F).fn 22 (aje F) (axj F)
set_option maxRecDepth 100000
@[reducible] def Hn:iB bs:=⟨[],[],[.p .b],[],Bool,λ _=>some true,λ _ r=>((r,()),())⟩
theorem axh:Hn.Eq mz (GG mz (Nb 2000).t.la (λ _ _=>none) 100) (λ _ _=>none) 24:=λ da db=>by kernel_rfl
theorem avz:kH mz 24 (Hn.run mz):=
 have a:wD mz (λ _ _=>none):=λ g fn c _ _ _=>vq (λ _=>rfl) c
 have hc:=((Nb 2000).ok kg).ce
 have b:Nc mz (Nb 2000).t.la:=⟨hc.cm,λ g h d=>(NP g h)▸hc.ok g h d⟩
 λ ys bl r e=>Gt NZ (lV NZ b a 100) a rfl (c:=Hn.ic) (eA.Eq.v axh) ys bl r (Bu e)
theorem aJt:Hn.run aI=Hn.run mz:=by kernel_rfl
def Tl(F:Nat):aS aI:=(Nb F).add 24 (Hn.run aI) (aJt▸(NP 24 _)▸avz)
def Jh(F:Nat)(b:Int)(a:List Int):Option (Unit×(Unit×Unit)×List Int×Unit):=cond (!decide (b=0)) ((iL F a b).bind λ c=>
cond (!c) ((bI 8 a [b]).bind λ d=>
some ((),(((),()),((d),())))) (
some ((),(((),()),((a),()))))) (
some ((),(((),()),((a),()))))
def ai9(F:Nat):eA bs:=⟨[ni,.p (.B 0)],[.c 22 [.R 1],.r 3 false],[],[.c 22 [.R 1],.r 3 false],λ d=>Jh F d.1.1 d.2.2.1⟩
theorem axc(F:Nat):(ai9 F).Eq aI (Tl F).t.bw (Tl F).t.LE 91:=λ da db=>by kernel_rfl
def Tm(F:Nat):aS aI:=(Tl F).fn 91 (ai9 F) (axc F)
def CZ(F:Nat):Nat->(List Int)->(Int)->(List Int)->(Int)->(Int)->(Int)->(Int)->(List Int)->(Int)->(List aq)->(List Int)->(List (List I.Field))->(List (List (List UInt8)))->(List (List I.Target))->(List Int)->Option ((Unit×Unit×Unit×(Unit×Unit)×Unit)×
 (List Int×Int×Int×Int×Int×List Int×Int×Unit)×(List aq×List Int×List (List I.Field)×List (List (List UInt8))×List (List I.Target)×Unit)×(Unit×Unit)×List Int×Unit)
 |0,_,_,_,_,_,_,_,_,_,_,_,_,_,_,_=>none
 |aT+1,a,b,c,d,e,f,g,h,i,j,k,l,m,n,o=>cond (decide (b<(↑a.length:Int))) ((idx a b).bind λ p=>
(Jh F p o).bind λ q=>
CZ F aT (a) (aw (b+1)) (c) (d) (e) (f) (g) (h) (i) (j) (k) (l) (m) (n) (q.snd.snd.fst)) (
some (((),((),((),(((),()),())))),(((c),((d),((e),((f),((g),((h),((i),()))))))),(((j),((k),((l),((m),((n),()))))),(((),()),((o),()))))))
def ajC(F:Nat):fO bs:=⟨[2,3,4,7,8,9],[nj,.p (.B 0),.p (.B 1),.p (.B 2),.f 91 [.B 2],ni],[.c 24 [.l 3,nl,nl,nl,nl,.l 3,nl],.c 30 [.l 134,.l 3,.l 124,.l 120,.l 121],.c 22 [.R 3],.r 3 false],[⟨.nm,[3,4,7,8],[.p (.B 0),.p (.B 1),.p (.B 2),.f 91 [.B 2]],[.c 24 [.l 3,nl,nl,nl,nl,.l 3,nl],.c 30 [.l 134,.l 3,.l 124,.l 120,.l 121],.c 22 [.R 3],.r 3 false]⟩],λ k d=>CZ F k d.1.1 d.1.2.2.2.2.2.1 d.2.1.1 d.2.1.2.1 d.2.1.2.2.1 d.2.1.2.2.2.1 d.2.1.2.2.2.2.1 d.2.1.2.2.2.2.2.1 d.2.1.2.2.2.2.2.2.1 d.2.2.1.1 d.2.2.1.2.1 d.2.2.1.2.2.1 d.2.2.1.2.2.2.1 d.2.2.1.2.2.2.2.1 d.2.2.2.2.1⟩
theorem axd(F:Nat):(ajC F).Eq aI (Tm F).t.bw ((Tm F).t.LE 56) (fJ aI.P 56) 0 (hT aI.P 56 0):=⟨λ d=>by kernel_rfl,λ k da db=>by kernel_rfl⟩
def Tn(F:Nat):aS aI:=(Tm F).gx 56 0 F (ajC F) (axd F)
def C1(F:Nat):Nat->(Int)->(List Int)->(Int)->(List Int)->(Int)->(Int)->(Int)->(Int)->(List Int)->(Int)->(List aq)->(List Int)->(List (List I.Field))->(List (List (List UInt8)))->(List (List I.Target))->(List Int)->Option ((Unit×Unit×Unit×(Unit×Unit)×Int×Unit)×
 (List Int×Int×Int×Int×Int×List Int×Int×Unit)×(List aq×List Int×List (List I.Field)×List (List (List UInt8))×List (List I.Target)×Unit)×(Unit×Unit)×List Int×Unit)
 |0,_,_,_,_,_,_,_,_,_,_,_,_,_,_,_,_=>none
 |aT+1,f,a,b,c,g,h,i,j,k,l,m,n,o,p,q,r=>cond (decide (b<(↑a.length:Int))) ((idx a b).bind λ d=>
(idx c d).bind λ e=>
(Jh F e r).bind λ s=>
C1 F aT (f) (a) (aw (b+1)) (c) (g) (h) (i) (j) (k) (l) (m) (n) (o) (p) (q) (s.snd.snd.fst)) (
some (((),((),((),(((),()),((f),()))))),(((c),((g),((h),((i),((j),((k),((l),()))))))),(((m),((n),((o),((p),((q),()))))),(((),()),((r),()))))))
def ajE(F:Nat):fO bs:=⟨[3,4,7,8,10,11,12],[.p (.B 0),.p (.B 1),.p (.B 2),.f 91 [.B 2],ni,nj,ni],[.c 24 [.l 3,nl,nl,nl,nl,.l 3,nl],.c 30 [.l 134,.l 3,.l 124,.l 120,.l 121],.c 22 [.R 3],.r 3 false],[⟨.nm,[3,4,7,8,10],[.p (.B 0),.p (.B 1),.p (.B 2),.f 91 [.B 2],ni],[.c 24 [.l 3,nl,nl,nl,nl,.l 3,nl],.c 30 [.l 134,.l 3,.l 124,.l 120,.l 121],.c 22 [.R 3],.r 3 false]⟩],λ k d=>C1 F k d.1.2.2.2.2.1 d.1.2.2.2.2.2.1 d.1.2.2.2.2.2.2.1 d.2.1.1 d.2.1.2.1 d.2.1.2.2.1 d.2.1.2.2.2.1 d.2.1.2.2.2.2.1 d.2.1.2.2.2.2.2.1 d.2.1.2.2.2.2.2.2.1 d.2.2.1.1 d.2.2.1.2.1 d.2.2.1.2.2.1 d.2.2.1.2.2.2.1 d.2.2.1.2.2.2.2.1 d.2.2.2.2.1⟩
theorem axf(F:Nat):(ajE F).Eq aI (Tn F).t.bw ((Tn F).t.LE 56) (fJ aI.P 56) 4 (hT aI.P 56 4):=⟨λ d=>by kernel_rfl,λ k da db=>by kernel_rfl⟩
def Tp(F:Nat):aS aI:=(Tn F).gx 56 4 F (ajE F) (axf F)
def C0(F:Nat):Nat->(Int)->(List Int)->(Int)->(Int)->(Int)->(Int)->(List Int)->(Int)->(List aq)->(List Int)->(List (List I.Field))->(List (List (List UInt8)))->(List (List I.Target))->(List Int)->Option ((Unit×Unit)×(List Int×Int×Int×Int×Int×List Int×Int×Unit)×(List aq×List Int×List (List I.Field)×List (List (List UInt8))×List (List I.Target)×Unit)×(Unit×Unit)×List Int×Unit)
 |0,_,_,_,_,_,_,_,_,_,_,_,_,_,_=>none
 |aT+1,b,c,d,e,f,g,h,i,j,k,l,m,o,n=>cond (decide (b<(↑n.length:Int))) ((idx n b).bind λ p=>
(pQ F (aV.mk c d e f g h i) (aP.mk j k l m o) p).bind λ q=>
(C1 F F b q 0 c d e f g h i j k l m o n).bind λ a=>
C0 F aT (aw (a.fst.snd.snd.snd.snd.fst+1)) (a.snd.fst.fst) (a.snd.fst.snd.fst) (a.snd.fst.snd.snd.fst) (a.snd.fst.snd.snd.snd.fst) (a.snd.fst.snd.snd.snd.snd.fst) (a.snd.fst.snd.snd.snd.snd.snd.fst) (a.snd.fst.snd.snd.snd.snd.snd.snd.fst) (a.snd.snd.fst.fst) (a.snd.snd.fst.snd.fst) (a.snd.snd.fst.snd.snd.fst) (a.snd.snd.fst.snd.snd.snd.fst) (a.snd.snd.fst.snd.snd.snd.snd.fst) (a.snd.snd.snd.snd.fst)) (
some (((),()),(((c),((d),((e),((f),((g),((h),((i),()))))))),(((j),((k),((l),((m),((o),()))))),(((),()),((n),()))))))
def ajD(F:Nat):fO bs:=⟨[3,4,7,8,10],[.p (.B 0),.p (.B 1),.p (.B 2),.f 91 [.B 2],ni],[.c 24 [.l 3,nl,nl,nl,nl,.l 3,nl],.c 30 [.l 134,.l 3,.l 124,.l 120,.l 121],.c 22 [.R 3],.r 3 false],[⟨.nm,[7],[.p (.B 2)],[.c 24 [.l 3,nl,nl,nl,nl,.l 3,nl],.c 30 [.l 134,.l 3,.l 124,.l 120,.l 121],.c 22 [.R 3],.r 3 false]⟩],λ k d=>C0 F k d.1.2.2.2.2.1 d.2.1.1 d.2.1.2.1 d.2.1.2.2.1 d.2.1.2.2.2.1 d.2.1.2.2.2.2.1 d.2.1.2.2.2.2.2.1 d.2.1.2.2.2.2.2.2.1 d.2.2.1.1 d.2.2.1.2.1 d.2.2.1.2.2.1 d.2.2.1.2.2.2.1 d.2.2.1.2.2.2.2.1 d.2.2.2.2.1⟩
theorem axe(F:Nat):(ajD F).Eq aI (Tp F).t.bw ((Tp F).t.LE 56) (fJ aI.P 56) 2 (hT aI.P 56 2):=⟨λ d=>by kernel_rfl,λ k da db=>by kernel_rfl⟩
def Tq(F:Nat):aS aI:=(Tp F).gx 56 2 F (ajD F) (axe F)
def Nq(F:Nat)(b:List Int)(c:Int)(d:Int)(Sl:Int)(e:Int)(f:List Int)(g:Int)(h:List aq)(i:List Int)(Fo:List (List I.Field))(j:List (List (List UInt8)))(B0:List (List I.Target))(k:List Int):Option ((List Int×Unit)×Unit):=(CZ F F k 0 b c d Sl e f g h i Fo j B0 []).bind λ a=>
(C0 F F 0 a.snd.fst.fst a.snd.fst.snd.fst a.snd.fst.snd.snd.fst a.snd.fst.snd.snd.snd.fst a.snd.fst.snd.snd.snd.snd.fst a.snd.fst.snd.snd.snd.snd.snd.fst a.snd.fst.snd.snd.snd.snd.snd.snd.fst
 a.snd.snd.fst.fst a.snd.snd.fst.snd.fst a.snd.snd.fst.snd.snd.fst a.snd.snd.fst.snd.snd.snd.fst a.snd.snd.fst.snd.snd.snd.snd.fst a.snd.snd.snd.snd.fst).bind λ l=>
some (((l.snd.snd.snd.snd.fst),()),())
def ai8(F:Nat):eA bs:=⟨[.a [.l 3,nl,nl,nl,nl,.l 3,nl],.a [.l 134,.l 3,.l 124,.l 120,.l 121],nj],[],[nj],[],λ d=>Nq F d.1.1.1 d.1.1.2.1 d.1.1.2.2.1 d.1.1.2.2.2.1 d.1.1.2.2.2.2.1 d.1.1.2.2.2.2.2.1 d.1.1.2.2.2.2.2.2.1 d.1.2.1.1 d.1.2.1.2.1 d.1.2.1.2.2.1 d.1.2.1.2.2.2.1 d.1.2.1.2.2.2.2.1 d.1.2.2.1⟩
theorem axb(F:Nat):(ai8 F).Eq aI (Tq F).t.bw (Tq F).t.LE 56:=λ da db=>by kernel_rfl
def Tr(F:Nat):aS aI:=(Tq F).fn 56 (ai8 F) (axb F)
def CX(F:Nat):Nat->(List Int)->(Int)->(Int)->(List Int)->(Int)->(Int)->(Int)->(Int)->(List Int)->(Int)->Option ((Int×Unit)×(List Int×Int×Int×Int×Int×List Int×Int×Unit)×Unit)
 |0,_,_,_,_,_,_,_,_,_,_=>none
 |aT+1,a,d,b,c,e,f,g,h,i,j=>cond (decide (b<(↑a.length:Int))) ((idx a b).bind λ k=>
(idx c (aw (k+1))).bind λ l=>
CX F aT (a) (aw (d+aw (3+l))) (aw (b+1)) (c) (e) (f) (g) (h) (i) (j)) (
some (((d),()),(((c),((e),((f),((g),((h),((i),((j),()))))))),())))
def ajB(F:Nat):fO bs:=⟨[3,7,8,9],[.p (.B 0),nj,ni,ni],[.c 24 [.l 3,nl,nl,nl,nl,.l 3,nl]],[⟨.nm,[8],[ni],[.c 24 [.l 3,nl,nl,nl,nl,.l 3,nl]]⟩],λ k d=>CX F k d.1.2.1 d.1.2.2.1 d.1.2.2.2.1 d.2.1.1 d.2.1.2.1 d.2.1.2.2.1 d.2.1.2.2.2.1 d.2.1.2.2.2.2.1 d.2.1.2.2.2.2.2.1 d.2.1.2.2.2.2.2.2.1⟩
theorem axa(F:Nat):(ajB F).Eq aI (Tr F).t.bw ((Tr F).t.LE 23) (fJ aI.P 23) 0 (hT aI.P 23 0):=⟨λ d=>by kernel_rfl,λ k da db=>by kernel_rfl⟩
def Ts(F:Nat):aS aI:=(Tr F).gx 23 0 F (ajB F) (axa F)
def Np(F:Nat)(a:List Int)(b:Int)(c:Int)(d:Int)(e:Int)(f:List Int)(g:Int)(h:List aq)(i:List Int)(j:List (List I.Field))(B5:List (List (List UInt8)))(k:List (List I.Target))(l:List Int):Option ((Int×Unit)×Unit):=(Nq F a b c d e f g h i j B5 k l).bind λ m=>
(CX F F m.fst.fst 0 0 a b c d e f g).bind λ sc=>
some (((sc.fst.fst),()),())
def ai7(F:Nat):eA bs:=⟨[.a [.l 3,nl,nl,nl,nl,.l 3,nl],.a [.l 134,.l 3,.l 124,.l 120,.l 121],nj],[],[ni],[],λ d=>Np F d.1.1.1 d.1.1.2.1 d.1.1.2.2.1 d.1.1.2.2.2.1 d.1.1.2.2.2.2.1 d.1.1.2.2.2.2.2.1 d.1.1.2.2.2.2.2.2.1 d.1.2.1.1 d.1.2.1.2.1 d.1.2.1.2.2.1 d.1.2.1.2.2.2.1 d.1.2.1.2.2.2.2.1 d.1.2.2.1⟩
theorem aw'(F:Nat):(ai7 F).Eq aI (Ts F).t.bw (Ts F).t.LE 23:=λ da db=>by kernel_rfl
def atc(F:Nat):aS aI:=(Ts F).fn 23 (ai7 F) (aw' F)
set_option maxHeartbeats 4000000
set_option maxRecDepth 20000
theorem agK{o:Oper}{a:Act}{w:World}{x:Operand}{b:Nat}(c:o.op= .fieldAddr 24 x 1)(d:a.eval x= .pointer (some ⟨b,0,none⟩)):bh Tryz.prog o a w (.pointer (some ⟨b,1,none⟩)) w:=SU (P:=Tryz.prog) (p:=0) (j:=1) Tryz.underlying24 (f:=_) (by rfl) Tryz.sizeOf3 rfl c d
theorem ayh{o:Oper}{a:Act}{w:World}{x:Operand}{b:Nat}(c:o.op= .fieldAddr 24 x 2)(d:a.eval x= .pointer (some ⟨b,0,none⟩)):bh Tryz.prog o a w (.pointer (some ⟨b,2,none⟩)) w:=SU (P:=Tryz.prog) (p:=0) (j:=2) Tryz.underlying24 (f:=_) (by rfl) Tryz.sizeOf3 rfl c d
def ym(Y O x:Int):Int:=cond (decide (Y<x)) x (aw (aw (x+Y)+O))
theorem avE{W:World}{gb gh:Nat}{Y O x:Int}(c:W.cell? ⟨gb,0,none⟩=some (.pointer (some ⟨gh,0,none⟩)))(J:W.cell? ⟨gh,1,none⟩=some (.int .i64 Y))(h:W.cell? ⟨gh,2,none⟩=some (.int .i64 O)) :
 Calls Tryz.prog 98 [.int .i64 x,.pointer (some ⟨gb,0,none⟩)].toArray W λ e w'=>e= .returned (.int .i64 (ym Y O x))/\(w'=W\/w'=W.drew):=by
 refine enter Tryz.func98 rfl Tryz.ntmps98 rfl λ a ad=>?_
 refine wp_seq_k λ K d=>wp_region_list (gi wn (y2 rfl rfl) ad rfl rfl λ a ad=>wpList_nil (d _ _ ?_))
 refine wp_seq_k λ K d=>wp_seq_k λ i j=>wp_region_list (gi wn (wu rfl (ad.g rfl)) ad rfl rfl λ a ad=>gi wn (y3 Tryz.isAgg67 rfl (ad.g rfl) c) ad rfl rfl λ a ad=>gi wn (MX rfl (ad.g rfl)) ad rfl rfl λ a ad=>gi wn (agK rfl (ad.g rfl)) ad rfl rfl λ a ad=>gi wn (y3 Tryz.isAgg3 rfl (ad.g rfl) J) ad rfl rfl λ a ad=>gi wn (aqe rfl (ad.g rfl) (ad.g rfl)) ad rfl rfl λ a ad=>wpList_nil (j _ _ ?_))
 refine wp_cond_split (ad.g rfl) (λ ag=>?_) λ ag=>?_
 ·refine wp_seq_k λ f g=>wp_region_list (gi wn (wu rfl (ad.g rfl)) ad rfl rfl λ a ad=>gi wn (y2 rfl (ad.g rfl)) ad rfl rfl λ a ad=>wpList_nil (g _ _ ?_));refine wp_ret ?_;show bodyPost Tryz.prog Tryz.f98 (λ e w'=>e= .returned (.int .i64 (ym Y O x))/\(w'=W\/w'=W.drew)) .ret a W
  refine Br Tryz.results98 ad rfl ?_;exact⟨by unfold ym;rw[ag];rfl,.inl rfl⟩
 ·refine wp_skip (d _ _ ?_);refine wp_seq_k λ f g=>wp_region_quiet (C:=λ w'=>w'=W.drew) (by kernel_rfl) (by kernel_rfl) rfl ?_
  refine rW wn (λ w b=>wu rfl (ad.g rfl)) ad rfl rfl λ a ad=>rW wn (λ w b=>y3 Tryz.isAgg67 rfl (ad.g rfl) (by subst b;exact c)) ad rfl rfl λ a ad=>rW wn (λ w b=>MX rfl (ad.g rfl)) ad rfl rfl λ a ad=>
   rW wn (λ w b=>agK rfl (ad.g rfl)) ad rfl rfl λ a ad=>rW wn (λ w b=>y3 Tryz.isAgg3 rfl (ad.g rfl) (by subst b;exact J)) ad rfl rfl λ a ad=>rW wn (λ w b=>ado rfl (ad.g rfl) (ad.g rfl)) ad rfl rfl λ a ad=>
   rW wn (λ w b=>y3 Tryz.isAgg67 rfl (ad.g rfl) (by subst b;exact c)) ad rfl rfl λ a ad=>rW wn (λ w b=>MX rfl (ad.g rfl)) ad rfl rfl λ a ad=>
   rW wn (λ w b=>ayh rfl (ad.g rfl)) ad rfl rfl λ a ad=>rW wn (λ w b=>y3 Tryz.isAgg3 rfl (ad.g rfl) (by subst b;exact h)) ad rfl rfl λ a ad=>rW wn (λ w b=>ado rfl (ad.g rfl) (ad.g rfl)) ad rfl rfl λ a ad=>
   rW wn (λ w b=>y2 rfl (ad.g rfl)) ad rfl rfl λ a ad=>?_
  show∀w',w'=W.drew->_
  intro w' b;subst b;refine g _ _ (wp_ret ?_);refine Br Tryz.results98 ad rfl ?_;exact⟨by unfold ym;rw[ag];rfl,.inr rfl⟩
theorem ahO:∀args w,(callFunc 98 args).run Tryz.prog w= .ok (.enter 98 args) w:=kg.call 98 (th (by kernel_rfl))
theorem aeJ{W:World}{gb gh:Nat}{Y O z:Int}(b:W.cell? ⟨gb,0,none⟩=some (.pointer (some ⟨gh,0,none⟩)))(J:W.cell? ⟨gh,1,none⟩=some (.int .i64 Y))(c:W.cell? ⟨gh,2,none⟩=some (.int .i64 O))(q:Nat) :
 Calls Tryz.prog 98 [.int .i64 z,.pointer (some ⟨gb,0,none⟩)].toArray (W.drewN q) λ e w'=>e= .returned (.int .i64 (ym Y O z))/\∃d,w'=W.drewN d:=by
 have f:(W.drewN q).cell? ⟨gb,0,none⟩=some (.pointer (some ⟨gh,0,none⟩)):=by rw[World.cell?_drewN];exact b
 have g:(W.drewN q).cell? ⟨gh,1,none⟩=some (.int .i64 Y):=by rw[World.cell?_drewN];exact J
 have i:(W.drewN q).cell? ⟨gh,2,none⟩=some (.int .i64 O):=by rw[World.cell?_drewN];exact c
 have aJ:(W.drewN q).drew=W.drewN (q+1):=rfl
 have h:=avE (x:=z) f g i
 rw[aJ]at h
 exact Calls.mono h λ e w' a=>⟨a.1,a.2.elim (λ e=>⟨q,e⟩) λ e=>⟨q+1,e⟩⟩
theorem avB{W:World}{gb gh:Nat}{Y O x y:Int}(d:W.cell? ⟨gb,0,none⟩=some (.pointer (some ⟨gh,0,none⟩)))(J:W.cell? ⟨gh,1,none⟩=some (.int .i64 Y))(f:W.cell? ⟨gh,2,none⟩=some (.int .i64 O)) :
 Calls Tryz.prog 97 [.int .i64 x,.int .i64 y,.pointer (some ⟨gb,0,none⟩)].toArray W λ e w'=>e= .returned (.int .i64 (aw (ym Y O x-ym Y O y)))/\∃q,w'=W.drewN q:=by
 refine enter Tryz.func97 rfl Tryz.ntmps97 rfl λ a ad=>?_
 refine wp_seq_k λ K b=>wp_region_list (gi wn (y2 rfl rfl) ad rfl rfl λ a ad=>wpList_nil (b _ _ ?_))
 refine wp_seq_k λ K b=>wp_region_list (gi wn (aqi (xs:=[.tmp 2]) (vs:=[.pointer (some ⟨gb,0,none⟩)]) rfl (by simp only[ez,ig];rw[show a.eval (.tmp 2)=_ from ad.g rfl])) ad rfl rfl λ a ad=>gi wn (y2 rfl (ad.g rfl)) ad rfl rfl λ a ad=>wpList_nil (b _ _ ?_))
 refine wp_seq_k λ K b=>wp_region_list (gi wn (wu rfl (ad.g rfl)) ad rfl rfl λ a ad=>gi wn (wu rfl (ad.g rfl)) ad rfl rfl λ a ad=>aa8 (xs:=[.tmp 9]) (vs:=[.int .i64 x]) (cs:=[.pointer (some ⟨gb,0,none⟩)]) wn rfl ahO (ad.g rfl) ⟨ad.g rfl,trivial⟩ (aeJ (z:=x) d J f 0) ad rfl rfl λ e w' c=>?_)
 obtain⟨rfl,q,rfl⟩:=c
 refine⟨_,rfl,λ a ad=>gi wn (wu rfl (ad.g rfl)) ad rfl rfl λ a ad=>gi wn (wu rfl (ad.g rfl)) ad rfl rfl λ a ad=>aa8 (xs:=[.tmp 12]) (vs:=[.int .i64 y]) (cs:=[.pointer (some ⟨gb,0,none⟩)]) wn rfl ahO (ad.g rfl) ⟨ad.g rfl,trivial⟩ (aeJ (z:=y) d J f q) ad rfl rfl λ e w' c=>?_⟩
 obtain⟨rfl,g,rfl⟩:=c
 refine⟨_,rfl,λ a ad=>gi wn (aqn rfl (ad.g rfl) (ad.g rfl)) ad rfl rfl λ a ad=>gi wn (y2 rfl (ad.g rfl)) ad rfl rfl λ a ad=>wpList_nil (b _ _ ?_)⟩
 refine wp_ret ?_
 refine Br Tryz.results97 ad rfl ?_
 exact⟨rfl,g,rfl⟩
open Go Go.Shelf
def amM:Ren:=⟨λ f=>match f with|6=>96 |15=>125 |14=>124 |28=>157 |29=>158 |20=>149 |21=>150 |22=>151 |23=>152 |24=>153 |25=>154 |26=>155 |27=>156 |46=>167 |47=>168 |48=>169 |49=>170 |50=>171 |57=>173 |f=>f,
 λ t=>match t with|22=>22 |24=>3 |25=>147 |3=>3 |39=>175 |0=>0 |53=>199 |55=>201 |4=>4 |46=>193 |45=>192 |50=>94 |5=>5 |9=>9 |66=>205 |70=>109 |76=>210 |77=>211 |t=>t,λ g=>g⟩
theorem amL:SlLaysF.n6 Tryz.prog amM:={
 mixed:=by kernel_rfl
 f6:=⟨Tryz.f96.name,by kernel_rfl,by kernel_rfl⟩
 f14:=⟨Tryz.f124.name,by kernel_rfl,by kernel_rfl⟩
 f15:=by kernel_rfl
 f20:=⟨Tryz.f149.name,by kernel_rfl,by kernel_rfl⟩
 f21:=⟨Tryz.f150.name,by kernel_rfl,by kernel_rfl⟩
 f22:=⟨Tryz.f151.name,by kernel_rfl,by kernel_rfl⟩
 f23:=⟨Tryz.f152.name,by kernel_rfl,by kernel_rfl⟩
 f24:=⟨Tryz.f153.name,by kernel_rfl,by kernel_rfl⟩
 f25:=⟨Tryz.f154.name,by kernel_rfl,by kernel_rfl⟩
 f26:=⟨Tryz.f155.name,by kernel_rfl,by kernel_rfl⟩
 f27:=⟨Tryz.f156.name,by kernel_rfl,by kernel_rfl⟩
 f28:=by kernel_rfl
 f29:=by kernel_rfl
 f46:=⟨Tryz.f167.name,by kernel_rfl,by kernel_rfl⟩
 f47:=by kernel_rfl
 f48:=by kernel_rfl
 f49:=⟨Tryz.f170.name,by kernel_rfl,by kernel_rfl⟩
 f50:=⟨Tryz.f171.name,by kernel_rfl,by kernel_rfl⟩
 f57:=⟨Tryz.f173.name,by kernel_rfl,by kernel_rfl⟩
 t0:=by kernel_rfl
 a0:=λ w=>by kernel_rfl
 z0:=λ w=>by kernel_rfl
 v0:=λ w=>by kernel_rfl
 t3:=by kernel_rfl
 a3:=λ w=>by kernel_rfl
 z3:=λ w=>by kernel_rfl
 v3:=λ w=>by kernel_rfl
 t4:=by kernel_rfl
 a4:=λ w=>by kernel_rfl
 z4:=λ w=>by kernel_rfl
 v4:=λ w=>by kernel_rfl
 t5:=by kernel_rfl
 a5:=λ w=>by kernel_rfl
 z5:=λ w=>by kernel_rfl
 v5:=λ w=>by kernel_rfl
 t9:=by kernel_rfl
 a9:=λ w=>by kernel_rfl
 z9:=λ w=>by kernel_rfl
 v9:=λ w=>by kernel_rfl
 t22:=by kernel_rfl
 a22:=λ w=>by kernel_rfl
 z22:=λ w=>by kernel_rfl
 v22:=λ w=>by kernel_rfl
 a24:=λ w=>by kernel_rfl
 z24:=λ w=>by kernel_rfl
 t25:=by kernel_rfl
 a25:=λ w=>by kernel_rfl
 z25:=λ w=>by kernel_rfl
 v25:=λ w=>by kernel_rfl
 t39:=by kernel_rfl
 a39:=λ w=>by kernel_rfl
 z39:=λ w=>by kernel_rfl
 v39:=λ w=>by kernel_rfl
 t45:=by kernel_rfl
 a45:=λ w=>by kernel_rfl
 z45:=λ w=>by kernel_rfl
 v45:=λ w=>by kernel_rfl
 t46:=by kernel_rfl
 a46:=λ w=>by kernel_rfl
 z46:=λ w=>by kernel_rfl
 v46:=λ w=>by kernel_rfl
 t50:=by kernel_rfl
 a50:=λ w=>by kernel_rfl
 z50:=λ w=>by kernel_rfl
 v50:=λ w=>by kernel_rfl
 t53:=by kernel_rfl
 a53:=λ w=>by kernel_rfl
 z53:=λ w=>by kernel_rfl
 v53:=λ w=>by kernel_rfl
 t55:=by kernel_rfl
 a55:=λ w=>by kernel_rfl
 z55:=λ w=>by kernel_rfl
 v55:=λ w=>by kernel_rfl
 t66:=by kernel_rfl
 a66:=λ w=>by kernel_rfl
 z66:=λ w=>by kernel_rfl
 v66:=λ w=>by kernel_rfl
 t70:=by kernel_rfl
 a70:=λ w=>by kernel_rfl
 z70:=λ w=>by kernel_rfl
 v70:=λ w=>by kernel_rfl
 t76:=by kernel_rfl
 a76:=λ w=>by kernel_rfl
 z76:=λ w=>by kernel_rfl
 v76:=λ w=>by kernel_rfl
 t77:=by kernel_rfl
 a77:=λ w=>by kernel_rfl
 z77:=λ w=>by kernel_rfl
 v77:=λ w=>by kernel_rfl }
open Go Go.RowKit ay I ba Go.Sort Go.Proofs
def fk(Y O x:Int):Int:=if Y<x then x else x+Y+O
def lz(Y O:Int)(x y:Int):Bool:=decide (fk Y O x<=fk Y O y)
def lD(Y O:Int)(l:List Int):List Int:=l.mergeSort (lz Y O)
abbrev F1(Y O:Int):Type:={ x:Int // 1<=x/\x<=Y+O }
def pW(Y O:Int)(x y:F1 Y O):Int:=fk Y O x.1-fk Y O y.1
def w2{Y O:Int}(x:F1 Y O):Value:=.int .i64 x.1
theorem akI{Y O x:Int}(a:0<=Y/\Y<=100000)(b:0<=O/\O<=100000)(c:1<=x/\x<=Y+O):ym Y O x=fk Y O x:=by unfold ym fk;by_cases h:Y<x;rw[mU h,nf h];rfl;rw[mV h,nc h,nh];unfold aw;omega
theorem aKb(Y O:Int):SWO (ltOf (pW Y O)) where
 irrefl x:=by simp[ltOf,pW]
 trans x y z a J:=by have a:fk Y O x.1-fk Y O y.1<0:=of_decide_eq_true a;have J:fk Y O y.1-fk Y O z.1<0:=of_decide_eq_true J;exact mU (show fk Y O x.1-fk Y O z.1<0 by omega)
 ntrans x y z a J:=by have a: ¬fk Y O x.1-fk Y O y.1<0:=of_decide_eq_false a;have J: ¬fk Y O y.1-fk Y O z.1<0:=of_decide_eq_false J;exact mV (show¬fk Y O x.1-fk Y O z.1<0 by omega)
theorem aKq{Y O:Int}(b:0<=Y)(c:0<=O)(x y:F1 Y O)(a:ltOf (pW Y O) x y=false)(J:ltOf (pW Y O) y x=false):x=y:=by
 obtain⟨x,d⟩:=x;obtain⟨y,hy⟩:=y;simp only[ltOf,pW,decide_eq_false_iff_not,fk]at a J;apply Subtype.ext;show x=y
 split at a<;>split at a<;>simp_all<;>omega
theorem aJ4{Y O:Int}(l:List (F1 Y O)):(l.mergeSort λ x y=>!(ltOf (pW Y O)) y x).map Subtype.val=lD Y O (l.map Subtype.val):=by unfold lD;refine List.map_mergeSort λ a _ b _=>?_;unfold ltOf pW lz;by_cases h:fk Y O a.1<=fk Y O b.1;rw[mU h,mV (by omega)];rfl;rw[mV h,mU (by omega)];rfl
theorem Rv{α:Type} [Inhabited α]{enc:α->Value}{w:World}{cp off m:Nat}{dk:Array α}{os:Array Obj}{k:Nat}(a:k≠cp)(b:k<w.heap.size):(sortWorld enc w cp off m dk os).heap[k]? =w.heap[k]? :=by unfold sortWorld grow putRow mapBlock Sort.ahead;simp only;rw[Array.getElem?_append_left (by simpa using b),j2,nc (λ e=>a e.symm)]
theorem aKa{α:Type} [Inhabited α]{enc:α->Value}{w:World}{cp m:Nat}{dk:Array α}{os:Array Obj}{cur:Array Value}{e:TypeId}(h:w.heap[cp]? =some (.cells cur e (0,0))):(sortWorld enc w cp 0 m dk os).heap[cp]? =some (.cells (putCells enc 0 dk cur) e (0,0)):=by
 have a:cp<w.heap.size:=by rcases gI cp w.heap.size with h1 |h1;exact h1;rw[h6 h1]at h;cases h
 unfold sortWorld grow putRow mapBlock Sort.ahead;simp only;rw[Array.getElem?_append_left (by simpa using a),j2,nf rfl,h];rfl
theorem cell_of{w:World}{cp k:Nat}{cur:Array Value}{e:TypeId}(h:w.heap[cp]? =some (.cells cur e (0,0))):w.cell? ⟨cp,k,none⟩=cur[k]? /\w.frozen? ⟨cp,k,none⟩=false:=by constructor;simp[World.cell?,h];simp[World.frozen?,h]
theorem Ud{w w':World}{b o:Nat}{v:Value}(h:w'.heap[b]? =w.heap[b]?)(hc:w.cell? ⟨b,o,none⟩=some v):w'.cell? ⟨b,o,none⟩=some v:=by unfold World.cell? at hc⊢;rw[h];exact hc
theorem Any.aJ2{P:Program}{ρ:Go.Shelf.Ren}{α:Type} [Inhabited α](L:SlLaysF.n6 P ρ)(enc:α->Value)(h:OneCell enc)(a:α->α->Int)(f:SWO (ltOf a))(g:Nat)(c:Array Value)(cp off cap:Nat)(d:Array α)(w:World)
 (NY:∀args w,(callFunc g args).run P w= .ok (.enter g args) w)(i:CmpLays1 P g c enc a cp off d.size w)(j:Holds enc w cp off d)(b:cp<w.heap.size)(k:d.size<4611686018427387904)(l:∀x y,(ltOf a) x y=false->(ltOf a) y x=false->x=y) :
 Calls P (ρ.f 6) #[.slice (some ⟨cp,off,none⟩) d.size cap,.func (.func g) #[] c] w λ e w'=>e= .returned (.tuple #[])/\∃n os,w'=sortWorld enc w cp off n (d.toList.mergeSort λ x y=>!(ltOf a) y x).toArray os:=
 (Any.slices_SortFunc L enc h a f g c cp off cap d w NY i j b k).mono λ _ _ ⟨m,d',n,os,o,aj,p⟩=>⟨m,n,os,by rw[p,<-sorted_unique_holds f l d d' o aj]⟩
set_option maxHeartbeats 1000000
theorem aJ8{W:World}{gb gh cp cap:Nat}{Y O:Int}(p:0<=Y/\Y<=100000)(r:0<=O/\O<=100000){L:List Int}(B:∀x∈L,1<=x/\x<=Y+O)(E:L≠[])(a:L.length<4611686018427387904)
 (h1:W.cell? ⟨gb,0,none⟩=some (.pointer (some ⟨gh,0,none⟩)))(J:W.cell? ⟨gh,1,none⟩=some (.int .i64 Y))(C:W.cell? ⟨gh,2,none⟩=some (.int .i64 O))(ag:gb≠cp)(D:gh≠cp)
 {cur:Array Value}(f:W.heap[cp]? =some (.cells cur 3 (0,0)))(g:cur.toList.take L.length=L.map (Value.int .i64)) :
 Calls Tryz.prog 96 [.slice (some ⟨cp,0,none⟩) L.length cap,.func (.func 97) #[] #[.pointer (some ⟨gb,0,none⟩)]].toArray W λ e w'=>e= .returned (.tuple #[])/\br [cp] W w'/\∃s:Array Value,w'.heap[cp]? =some (.cells s 3 (0,0))/\s.size=cur.size/\s.toList.take L.length=(lD Y O L).map (Value.int .i64):=by
 obtain⟨i,L',rfl⟩:=List.exists_cons_of_ne_nil E
 haveI:Inhabited (F1 Y O):=⟨⟨i,B i (by simp)⟩⟩
 obtain⟨d,aJ⟩:∃d:List (F1 Y O),d.map Subtype.val=i::L':=⟨(i::L').attachWith _ B,by simp⟩
 rw[<-aJ]at g a⊢
 rw[hd]at g a⊢
 have t:∀ {k:Nat}{o:Obj},W.heap[k]? =some o->k<W.heap.size:=λ{k o} h=>by rcases gI k W.heap.size with h1 |h1;exact h1;rw[h6 h1]at h;cases h
 have u:∀ {b o:Nat}{v:Value},W.cell? ⟨b,o,none⟩=some v->b<W.heap.size:=λ{b o v} h=>World.block_lt_of_cell? W ⟨b,o,none⟩ h
 have w:∀j (aA:j<d.length),cur[j]? =some (w2 d[j]):=λ j aA=>by have:=congrArg (λ l=>l[j]?) g;simp only[hx,nf aA,jv,aN aA,fY,hR]at this;exact this
 have F:Holds (w2 (Y:=Y) (O:=O)) W cp 0 d.toArray:=λ j aA=>by
  have aA:j<d.length:=by simpa using aA
  have:=cell_of (k:=j) f;rw[jO,this.1,w j aA];refine⟨?_,this.2⟩;rw[getElem!_pos d.toArray j (by simpa using aA)];simp
 have G:CmpLays1 Tryz.prog 97 #[.pointer (some ⟨gb,0,none⟩)] (w2 (Y:=Y) (O:=O)) (pW Y O) cp 0 d.toArray.size W:=λ m os dk _ x y=>by
  have H:=Ud (Rv (enc:=w2 (Y:=Y) (O:=O)) (off:=0) (m:=m) (dk:=dk) (os:=os) ag (u h1)) h1;have ao:=Ud (Rv (enc:=w2 (Y:=Y) (O:=O)) (off:=0) (m:=m) (dk:=dk) (os:=os) D (u J)) J;have aW:=Ud (Rv (enc:=w2 (Y:=Y) (O:=O)) (off:=0) (m:=m) (dk:=dk) (os:=os) D (u C)) C;refine Calls.mono (avB (x:=x.1) (y:=y.1) H ao aW) λ e w' f=>⟨?_,?_⟩
  ·rw[f.1,akI p r x.2,akI p r y.2];have P:=x.2;have hy:=y.2;have:aw (fk Y O x.1-fk Y O y.1)=pW Y O x y:=by unfold pW aw fk;split<;>split<;>omega
   rw[this]
  ·obtain⟨q,I⟩:=f.2;exact⟨q,#[],by rw[I,grow_empty]⟩
 have z:=Any.aJ2 amL (w2 (Y:=Y) (O:=O)) (λ _=>rfl) (pW Y O) (aKb Y O) 97 #[.pointer (some ⟨gb,0,none⟩)] cp 0 cap d.toArray W (kg.call 97 (th (by kernel_rfl))) G F (t f) (by simpa using a) (aKq p.1 r.1)
 refine Calls.mono (show Calls Tryz.prog 96 _ W _ from z) λ e w' c=>?_
 obtain⟨K,n,os,c⟩:=c
 obtain⟨S,A⟩:∃S,S=d.toArray.toList.mergeSort λ x y=>!(ltOf (pW Y O)) y x:=⟨_,rfl⟩
 rw[<-A]at c
 have Q:S.length=d.length:=by rw[A,mC]
 refine⟨K,⟨by rw[c];rfl,by rw[c];rfl,by rw[c];rfl,?_,λ k M N=>by rw[c];exact Rv (by simpa using N) M⟩,putCells w2 0 S.toArray cur,by rw[c];exact aKa f,by simp[putCells],?_⟩
 ·rw[c];unfold sortWorld grow putRow mapBlock Sort.ahead;simp
 ·rw[<-aJ4,me];have hcs:d.length<=cur.size:=by have:=congrArg h8 g;simp at this;omega
  rw[show(d.mergeSort λ x y=>!(ltOf (pW Y O)) y x)=S from A.symm];refine kX λ j=>?_;rw[hx];by_cases aA:j<d.length;rw[nf aA,jv,aN (by omega:j<S.length),hR];unfold putCells;rw[Array.getElem?_mapIdx,jz (by omega)];simp only[fY];rw[nf ⟨gY _,by simp;omega⟩,Nat.sub_zero,getElem!_pos S.toArray j (by simp;omega)];simp[w2];rw[nc aA,jv,gH (by omega)];rfl
@[reducible] def PE:List cM:=[.p (.P 5 1),.p (.B 0),.p (.B 1),.p (.B 2),.p (.R 6)]
@[reducible] def KZ:List cM:=[.p (.P 5 1),.p (.B 0),.p (.B 1),.p (.R 6)]
@[reducible] def mQ:List bK:=[.c 67 [.B 3],.c 69 [.l 134,.l 3,.l 124,.l 120,.l 121],.c 140 [.B 3,.l 134,.l 3,.l 124,.l 120,.l 121,.M 4],.c 24 [.l 3,nl,nl,nl,nl,.l 3,nl],.m 3 4,.r 3 true,.r 3 false]
noncomputable def tj:Code×Code:=((ET Tryz.prog 63 0).getD (.skip,.skip))
def fV:zm:=(HO tj.1 tj.2).getD ⟨0,#[],0,0,0,0,0,default,default,default,default,default,0,#[],0,#[]⟩
theorem aCG:ET Tryz.prog 63 0=some tj:=by kernel_rfl
theorem aCH:HO tj.1 tj.2=some fV:=by kernel_rfl
def Ej(Y O:Int)(a b:List Int):Option (List Int):=match decide (0<=Y)&&decide (Y<=100000)&&decide (0<=O)&&decide (O<=100000)&&decide (a.length<=200000)&&b.isEmpty&&a.all (λ x=>decide (1<=x)&&decide (x<=Y+O))with
 |true=>some (lD Y O a)
 |false=>none
theorem aCJ{Y O:Int}{a b S:List Int}(h:Ej Y O a b=some S):(0<=Y/\Y<=100000)/\(0<=O/\O<=100000)/\a.length<=200000/\b=[]/\(∀x∈a,1<=x/\x<=Y+O)/\S=lD Y O a:=by unfold Ej at h;split at h;rename_i ag;simp only[cd,decide_eq_true_eq,kp,List.isEmpty_iff]at ag;obtain⟨⟨⟨⟨⟨⟨c,J⟩,d⟩,e⟩,f⟩,g⟩,i⟩:=ag;exact⟨⟨c,J⟩,⟨d,e⟩,f,g,i,(eD h).symm⟩;cases h
def Hm(d:dw bs.El PE×cK bs.El mQ):Option (zb bs.El ⟨.nm,[2,3,4,8],KZ,mQ⟩):=(Ej d.2.2.2.2.1.2.1 d.2.2.2.2.1.2.2.1 (List.map (α:=Int×Bool) k1 d.2.2.2.2.2.1) d.2.2.2.2.2.2.2.1).map λ S=>((d.1.1,(),(),(),()),(d.2.1,d.2.2.1,d.2.2.2.1,d.2.2.2.2.1,d.2.2.2.2.2.1,d.2.2.2.2.2.2.1,S,()))
theorem aCR:fV.iG.op= .next (.tmp 36) false/\fV.iG.dst=some 37/\fV.iG.guard=none:=by refine⟨?_,?_,?_⟩<;>kernel_rfl
theorem aCO:fV.mW.op= .extract (.tmp 37) 0/\fV.mW.dst=some 38/\fV.mW.guard=none:=by refine⟨?_,?_,?_⟩<;>kernel_rfl
theorem aCP:fV.mh.op= .entry (.tmp 36)/\fV.mh.dst=some 39/\fV.mh.guard=none:=by refine⟨?_,?_,?_⟩<;>kernel_rfl
theorem aCQ:fV.k2.op= .extract (.tmp 39) 0/\fV.k2.dst=some 40/\fV.k2.guard=none:=by refine⟨?_,?_,?_⟩<;>kernel_rfl
theorem aCS:fV.mX.op= .assign (.tmp 40)/\fV.mX.dst=some 9/\fV.mX.guard=none:=by refine⟨?_,?_,?_⟩<;>kernel_rfl
def aCV:List Oper:=fV.ops.toList.take 4
def K0:Oper:=(fV.ops.toList.drop 4).headD fV.iG
theorem aCT:fV.ops.toList=aCV++[K0]:=by kernel_rfl
theorem X9:K0.op= .range 70 (.tmp 35)/\K0.dst=some 36/\K0.guard=none:=by refine⟨?_,?_,?_⟩<;>kernel_rfl
def PB:Oper:=fV.yv.toList.headD fV.iG
def PC:Oper:=(fV.yv.toList.drop 1).headD fV.iG
def PD:Oper:=(fV.yv.toList.drop 2).headD fV.iG
theorem aCW:fV.yv.toList=[PB,PC,PD]:=by kernel_rfl
theorem ai4:PB.op= .move (.tmp 8)/\PB.dst=some 45:=by refine⟨?_,?_⟩<;>kernel_rfl
theorem ai5:PC.op= .makeFunc (.func 97) #[] #[.tmp 3]/\PC.dst=some 46:=by refine⟨?_,?_⟩<;>kernel_rfl
theorem ai6:PD.op= .call { callee:=.value (.func 96),args:=[.tmp 45,.tmp 46].toArray,argTypes:=#[22,147] }/\PD.dst=some 47:=by refine⟨?_,?_⟩<;>kernel_rfl
theorem aIA{F:Nat->Prop}{w:World}{cs:List Value}{d:Int}(h:(bs.ty 3).rd F w cs d):cs=[.int .i64 d]:=by change fs (λ t=>(fZ GA t).ty) F w [.i .i64] _ (d,())at h;obtain⟨u,us,rfl,rfl,rfl⟩:=h;rfl
theorem aIB{F:Nat->Prop}{w:World}(d:Int):(bs.ty 3).rd F w [.int .i64 d] d:=by change fs (λ t=>(fZ GA t).ty) F w [.i .i64] _ (d,());exact⟨_,_,rfl,rfl,rfl⟩
theorem aaM{F:Nat->Prop}{w:World}:∀ {l:List (bs.El 3)}{xs:List Value},dN (bs.ty 3) F w xs l->xs=List.map (α:=Int) (Value.int .i64) l
 |[],xs,h=>h
 |d::r,xs,h=>by obtain⟨cs,ys,rfl,a,J⟩:=h;rw[aIA a,aaM J];rfl
theorem aaN{F:Nat->Prop}{w:World}:∀(l:List (bs.El 3)),dN (bs.ty 3) F w (List.map (α:=Int) (Value.int .i64) l) l
 |[]=>rfl
 |d::r=>⟨[.int .i64 d],_,rfl,aIB d,aaN r⟩
theorem aJ3{Y O:Int}(k:0<=Y)(m:0<=O){l l':List Int}(g:l.Perm l')(h:∀x∈l,1<=x/\x<=Y+O):lD Y O l=lD Y O l':=by
 unfold lD;have i:∀a b c:Int,lz Y O a b=true->lz Y O b c=true->lz Y O a c=true:=λ a b c d J=>by simp only[lz,decide_eq_true_eq]at *;omega
 have j:∀a b:Int,(lz Y O a b||lz Y O b a)=true:=λ a b=>by simp only[lz,h3,decide_eq_true_eq];omega
 refine List.Perm.eq_of_pairwise (le:=λ a b=>lz Y O a b=true) (λ a b ap ag d J=>?_) (mo i j l) (mo i j l') (((k0 l _).trans g).trans (k0 l' _).symm);have ap:=h a ((k0 l _).mem_iff.1 ap);have ag:=h b (g.mem_iff.2 ((k0 l' _).mem_iff.1 ag));have d:fk Y O a<=fk Y O b:=of_decide_eq_true d;have J:fk Y O b<=fk Y O a:=of_decide_eq_true J;unfold fk at d J;by_cases e:Y<a<;>by_cases f:Y<b;rw[nf e,nf f]at d J;omega;rw[nf e,nc f]at d;omega;rw[nc e,nf f]at d J;omega;rw[nc e,nc f]at d J;omega
theorem aJ7(p:Option Addr)(cap:Nat)(a:Value)(w:World):Calls Tryz.prog 96 #[.slice p 0 cap,a] w λ e w'=>e= .returned (.tuple #[])/\w'=w:=Go.Proofs.AnyF.slices_SortFunc_none (ρ:=amM) { amL with } p cap a w
theorem az2:∀args w,(callFunc 96 args).run Tryz.prog w= .ok (.enter 96 args) w:=kg.call 96 (th (by kernel_rfl))
theorem aCL:PB.guard=none:=by kernel_rfl
theorem aCM:PC.guard=none:=by kernel_rfl
theorem aCN:PD.guard=none:=by kernel_rfl
theorem ajS:∀ {fr:List (Nat×Value)}{t:Nat}{y:Value},ey fr t=some y->(t,y)∈fr
 |[],t,y,h=>by simp[ey]at h
 |p::r,t,y,h=>by unfold ey at h;split at h;rename_i ag;simp only[aF]at h;have:=bd ag;subst this;subst h;exact hZ;exact d_ _ (ajS h)
def X7(t:ca bs.El):Option (Nat×List Value):=match gB t,cI t.s.f.fr 35 with
 |true,some (.m j)=>(xa t.s.f [2,3,4,8]).map λ vs=>(j,vs)
 |_,_=>none
theorem ai3{t:ca bs.El}{j:Nat}{vs:List Value}(h:X7 t=some (j,vs)):gB t=true/\cI t.s.f.fr 35=some (.m j)/\xa t.s.f [2,3,4,8]=some vs:=by unfold X7 at h;split at h;rename_i b J;obtain⟨us,c,a⟩:=cA.1 h;simp only[cB]at a;obtain⟨rfl,rfl⟩:=a;exact⟨b,J,c⟩;cases h
def gC{T:bU}(t:ca T.El):Bool:=match t.x with
 | .nm=>true
 |_=>false
theorem aCq{T:bU}{t:ca T.El}(h:gC t=true):t.x= .nm:=by unfold gC at h;split at h;rename_i e;exact e;cases h
def PA(t:ca bs.El):Option ((Nat×Nat)×(Nat× Σ u,List (bs.El u))×List Nat×List Value):=match gC t,cI t.s.f.fr 8,ba.rowAt t.s.bl 6 with
 |true,some (.r i g),some p=>(xa t.s.f [2,3,4,36]).map λ vs=>((i,g),p,t.s.ws,vs)
 |_,_,_=>none
theorem aCK{t:ca bs.El}{i g:Nat}{p:Nat× Σ u,List (bs.El u)}{ws:List Nat}{vs:List Value}(h:PA t=some ((i,g),p,ws,vs)):t.x= .nm/\cI t.s.f.fr 8=some (.r i g)/\ba.rowAt t.s.bl 6=some p/\t.s.ws=ws/\xa t.s.f [2,3,4,36]=some vs:=by unfold PA at h;split at h;rename_i b J c;obtain⟨us,d,a⟩:=cA.1 h;simp only[cB]at a;obtain⟨⟨rfl,rfl⟩,rfl,rfl,rfl⟩:=a;exact⟨aCq b,J,c,rfl,d⟩;cases h
theorem azQ{cp n c:Nat}(h:0<c):ba.ag (.slice (some ⟨cp,0,none⟩) n c)=[cp]:=by
 cases c with
 |zero=>omega
 |succ c=>rfl
theorem aJ5{W:World}{gb gh cap:Nat}{A:Option Addr}{Y O:Int}(i:0<=Y/\Y<=100000)(j:0<=O/\O<=100000){L:List Int}(k:∀x∈L,1<=x/\x<=Y+O)(b:L.length<4611686018427387904)
 (l:W.cell? ⟨gb,0,none⟩=some (.pointer (some ⟨gh,0,none⟩)))(J:W.cell? ⟨gh,1,none⟩=some (.int .i64 Y))(m:W.cell? ⟨gh,2,none⟩=some (.int .i64 O))
 (c:rowIs W 3 (bs.ty 3).size (.slice A L.length cap) L.length (L.map (Value.int .i64)))(ag:gb∉ba.ag (.slice A L.length cap))(g:gh∉ba.ag (.slice A L.length cap)) :
 Calls Tryz.prog 96 [.slice A L.length cap,.func (.func 97) #[] #[.pointer (some ⟨gb,0,none⟩)]].toArray W λ e w'=>e= .returned (.tuple #[])/\br (ba.ag (.slice A L.length cap)) W w'/\rowIs w' 3 (bs.ty 3).size (.slice A L.length cap) L.length ((lD Y O L).map (Value.int .i64)):=by
 have n:(bs.ty 3).size=1:=rfl
 rw[n]at c⊢
 by_cases d:L=[]
 ·subst d;refine Calls.mono (aJ7 A cap _ W) λ e w' a=>?_;obtain⟨f,a⟩:=a;refine⟨f,a▸br.refl _ _,?_⟩;rw[a,show lD Y O []=[] from by simp[lD]];exact c
 ·have o:0<L.length:=lY.2 d;obtain⟨w,p⟩:=c.own o;rcases p with⟨_,e⟩|⟨cp,q,cur,h,ao,aW,bR,dx,eV,kP⟩;omega;simp only[Value.slice.injEq,true_and]at h;obtain⟨rfl,rfl⟩:=h;rw[azQ (by omega)]at ag g⊢;rw[jR]at kP;refine Calls.mono (aJ8 i j k d b l J m (by simpa using ag) (by simpa using g) aW kP) λ e w' a=>?_;obtain⟨f,r,s,t,u,v⟩:=a;refine⟨f,r,.inl ⟨?_,.inr ⟨cp,cap,s,rfl,ao,t,bR,dx,u.trans eV,by rw[jR];exact v⟩⟩⟩;rw[hd,lD,mC,jR]
theorem LZ{T:bU}{F:Nat->Prop}{w:World}{ρ:List Value}{bl:List (aH T.El)}{y:aL T.El}{r:List (aL T.El)}{v:Value}{vs:List Value}(h:a_ T F w ρ bl (y::r) (v::vs)):ax T F w ρ bl y v/\a_ T F w ρ bl r vs:=by simp only[a_]at h;obtain⟨u,us,e,a,J⟩:=h;simp only[hU]at e;obtain⟨rfl,rfl⟩:=e;exact⟨a,J⟩
theorem Rf{T:bU}{F:Nat->Prop}{w:World}{ρ:List Value}{bl:List (aH T.El)}{y:aL T.El}{r:List (aL T.El)}{vs:List Value}(h:a_ T F w ρ bl (y::r) vs):∃u us,vs=u::us/\ax T F w ρ bl y u/\a_ T F w ρ bl r us:=by simpa only[a_]using h
set_option maxRecDepth 100000
set_option maxHeartbeats 4000000
theorem aC2:ad1 aI ⟨165,[]⟩ [2,3,4,7,8] PE mQ ⟨.nm,[2,3,4,8],KZ,mQ⟩ Hm tj.1 tj.2:=by
 intro da db fa fI W M0 X ρ a w cU s5 c6 rest Q k;obtain⟨aa,av⟩:=akZ aCH;rw[aa,av];obtain⟨(eg:List Int),Mr,RG,aP4,u8,aP9⟩:=da;obtain⟨C,E,j,⟨(oI:List Int),(Y:Int),(O:Int),uP⟩,(H:List (Int×Bool)),(rZ:List Int),(fq:List Int),w1⟩:=db;obtain⟨(S:List Int),dO,G⟩:=cA.1 fI;obtain⟨ji,hO,L,Xk,Kx,Wt⟩:=aCJ (show Ej Y O (H.map k1) fq=some S from dO);subst Xk;subst G;obtain⟨p,s⟩:=c6;have s:a_ bs _ w ρ _ [.pp 5 0 1 eg,.b 0 0,.b 1 0,.b 2 0,.r 6 0] [a.tmps.getD 2 undef,a.tmps.getD 3 undef,a.tmps.getD 4 undef,a.tmps.getD 7 undef,a.tmps.getD 8 undef]:=s;obtain⟨J,s⟩:=LZ s;obtain⟨ar,s⟩:=LZ s;obtain⟨a7,s⟩:=LZ s;obtain⟨hV,s⟩:=LZ s;obtain⟨mI,s⟩:=LZ s;obtain⟨s9,bR⟩:=p.tm (i:=4) (B:=.m 3 4 H) rfl;obtain⟨bm,DL,Ty,Ws,es,clock,vb,Kh,Xj,GQ⟩:=p.ok 4 (.m 3 4 H) _ rfl bR;subst DL;obtain rfl:Ty=(vm:iA (aI.T.El 3)):=by
  have Wm:(aI.T.e 3).key=some (vm:iA (aI.T.El 3)):=by kernel_rfl
  exact eD (Ws.symm.trans Wm)
 have Kv:=UB Kh;have iR:(es.toList.map (·.born)).Nodup:=lf.2 (Xj.imp λ h=>Nat.ne_of_lt h);obtain⟨u,eV⟩:=p.tm (i:=6) (B:=.r 3 0 0 ([]:List (bs.El 3))) rfl;obtain⟨oC,eP,aQj,O3,aBr,aBm⟩:=p.aa1 (i:=6) (t:=3) (g:=0) (k:=0) (l0:=([]:List (bs.El 3))) rfl eV;have aKJ:a.tmps.getD 8 undef=u:=by simp only[ax]at mI;obtain⟨_,h',bq,_,bT⟩:=mI;rw[eV]at bq;cases bq;exact bT rfl
 have Zj:∀q∈ba.ag u,q<w.heap.size:=λ q b=>(p.lt q ⟨6,_,_,rfl,eV,b⟩).1;have G:∀ {k:Nat}{o:Obj}{w:World},w.heap[k]? =some o->k<w.heap.size:=λ{k o w} h=>by rcases gI k w.heap.size with h1 |h1;exact h1;rw[h6 h1]at h;cases h
 have azR:bm∉ba.ag u:=p.bC 4 6 _ _ _ _ rfl bR rfl eV (by decide) bm (dV.2 rfl);refine wp_seq (wp_seq (wp_region_list ?_));rw[aCT];refine Q3 (n:=⟨165,[]⟩) (K:=X7) (z:=(4,[a.tmps.getD 2 undef,a.tmps.getD 3 undef,a.tmps.getD 4 undef,a.tmps.getD 8 undef])) kg rfl p cU s5 (fr:=[(7,.b 2 0),(2,.p (a.tmps.getD 2 undef)),(3,.p (a.tmps.getD 3 undef)),(4,.p (a.tmps.getD 4 undef)),(8,.p (a.tmps.getD 8 undef))]) (λ t y hy=>?_) (by kernel_rfl) (λ t h=>Pv (ai3 h).1) λ t eK cb I Wq ek sY kh=>?_;have:=La hy;simp only[cH,cB,io,or_false]at this;rcases this with⟨rfl,rfl⟩|⟨rfl,rfl⟩|⟨rfl,rfl⟩|⟨rfl,rfl⟩|⟨rfl,rfl⟩;exact hV;simp only[ax];simp only[ax];simp only[ax];simp only[ax];obtain⟨bq,bx,bT⟩:=ai3 Wq;have M:=OH ek.ea.eu bT;simp only[ez,ig,hU,and_true]at M;obtain⟨g2,g3,g4,g8⟩:=M;have f35:=ek.ea.eu.get 35 _ bx;simp only[ax]at f35;obtain⟨au_,c9,eT⟩:=f35;obtain⟨nd,bn,bi,_⟩:=sY.L.at_ 4 _ bR;have bi:=bi (by simp[lv]);rw[bn,bi]at c9;cases c9;have xu:I.heap[bm]? =some (.map es clock):=(kh.block bm (G vb) (by simp)).trans vb;have axP:cb.eval (.tmp 35)= .map (some bm):=eT;obtain⟨r,f'⟩:∃r,r=I.heap.size:=⟨_,rfl⟩
 have Xm:w.heap.size<=r:=by rw[f'];exact kh.size
 have cO:bh aI.P K0 cb I (.pointer (some ⟨r,0,none⟩)) (I.alloc (.mapIter (some bm) clock #[] clock)):=by rw[f'];simp only[bh,execOp,X9.1,axP];rw[Sem.run_bind,run_range_map (P:=aI.P) I 70 3 4 bm es clock Tryz.underlying70 xu];rfl
 refine e1 X9.2.2 cO ?_;rw[X9.2.1];refine wpList_nil ?_;obtain⟨c0,lq⟩:∃c0,c0=I.alloc (.mapIter (some bm) clock #[] clock):=⟨_,rfl⟩
 rw[<-lq];have GL:br [] I c0:=by rw[lq];exact br.alloc [] I _
 have KQ:c0.heap[r]? =some (.mapIter (some bm) clock #[] clock):=by rw[lq,f'];exact heap_alloc_new I _
 have kV:r<c0.heap.size:=G KQ;have Jl:cb.tmps.size=165:=ek.ea.eu.size;have TU:cb.defers=[]:=ek.ea.eu.defers
 refine aiY (n:=165) (r:=r) (bm:=bm) (since:=clock) (clock:=clock) (ti:=36) (tn:=37) (tok:=38) (te:=39) (tk:=40) (tv:=9) (es:=es)
  (λ acc N w'=>N.tmps.size=165/\N.defers=[]/\N.tmps.getD 2 undef=a.tmps.getD 2 undef/\N.tmps.getD 3 undef=a.tmps.getD 3 undef/\N.tmps.getD 4 undef=a.tmps.getD 4 undef/\N.tmps.getD 36 undef= .pointer (some ⟨r,0,none⟩)/\Tx w' r bm clock clock es acc/\(acc.map (·.born)).Nodup/\(∀e∈acc,e∈es.toList)/\br (ba.ag u) w w'/\r<w'.heap.size/\
   ∃(l:List Int)(A:Option Addr)(c:Nat),l=acc.map kZ/\N.tmps.getD 8 undef= .slice A l.length c/\rowIs w' 3 (bs.ty 3).size (.slice A l.length c) l.length (l.map (Value.int .i64))/\∀q∈ba.ag (.slice A l.length c),q≠r/\(q∈ba.ag u\/(w.heap.size<=q/\q<w'.heap.size)))
  aCR aCO aCP aCQ aCS (by decide) (by decide) GQ (cP _) iR (λ acc N w' h=>⟨h.1,h.2.2.2.2.2.1,h.2.2.2.2.2.2.1,h.2.2.2.2.2.2.2.1,h.2.2.2.2.2.2.2.2.1⟩) ?_ ?_ ?_
 ·intro acc e a2 a3 j0 r7 ki he Ar hE KP OL Pj vd;obtain⟨i1,i2,XJ,XK,XL,i4,⟨i5,aB7⟩,i6,i7,i8,i9,l,A,c,Pm,T,U,f⟩:=ki;have a8:br (ba.ag u) w r7:=i8.trans OL λ x aa=>.inr (by simp at aa;omega);have aAP:∀q∈ba.ag (.slice A l.length c),q<j0.heap.size:=λ q b=>(f q b).2.elim (λ h=>eN (Zj q h) i8.size) (·.2);have o7:=U.later (w':=r7) λ q b=>OL.block q (aAP q b) (by simpa using(f q b).1);obtain⟨s9,aKh⟩:=p.amb (i:=6) (t:=3) (g:=0) (k:=0) (l0:=([]:List (bs.El 3))) (l:=l) (A:=A) (c:=c) rfl eV a8 (λ q b=>(f q b).2.imp id λ h=>⟨h.1,by rw[Pj];exact h.2⟩) o7 (λ F=>aaN l);have t9:=KP (by decide);rw[UA Kh e he]at t9
  have aAM:l.length<=200000:=by
   have h1:=Y3 i6 (Y:=es.toList.map (·.born)) λ x aa=>by obtain⟨z,ah,rfl⟩:=hQ.1 aa;exact jS (i7 z ah)
   have J:=congrArg h8 Kv;simp only[hd]at h1 J L;rw[Pm,hd];omega
  have xi:bI 8 l [kZ e]=some (l++[kZ e]):=by unfold bI;rw[nf (by simp only[di,gR];omega)]
  obtain⟨t,dz,cR⟩:=D.tT (d:=opsL aI (I2 aI) fV.pj 165 fV.pj.toList ⟨⟨[(9,.p (.int .i64 (kZ e))),(8,.r 6 1),(2,.p (a.tmps.getD 2 undef)),(3,.p (a.tmps.getD 3 undef)),(4,.p (a.tmps.getD 4 undef)),(36,.p (.pointer (some ⟨r,0,none⟩)))],[],[]⟩,(bQ (El:=aI.T.El) id (ck false mQ) false mQ (C,E,j,(oI,Y,O,uP),H,rZ,([]:List Int),w1)).set 6 (.r 3 1 0 l),[]⟩)
   (K:=PA) (r:=((6,2),(2,⟨3,(l++[kZ e]:List Int)⟩),[6],[a.tmps.getD 2 undef,a.tmps.getD 3 undef,a.tmps.getD 4 undef,.pointer (some ⟨r,0,none⟩)])) (by
    have ai:(opsL aI (I2 aI) fV.pj 165 fV.pj.toList ⟨⟨[(9,.p (.int .i64 (kZ e))),(8,.r 6 1),(2,.p (a.tmps.getD 2 undef)),(3,.p (a.tmps.getD 3 undef)),(4,.p (a.tmps.getD 4 undef)),(36,.p (.pointer (some ⟨r,0,none⟩)))],[],[]⟩,(bQ (El:=aI.T.El) id (ck false mQ) false mQ (C,E,j,(oI,Y,O,uP),H,rZ,([]:List Int),w1)).set 6 (.r 3 1 0 l),[]⟩).run PA=(bI 8 l [kZ e]).bind λ m=>some ((6,2),(2,⟨3,m⟩),[6],[a.tmps.getD 2 undef,a.tmps.getD 3 undef,a.tmps.getD 4 undef,.pointer (some ⟨r,0,none⟩)]):=by kernel_rfl
    exact ai.trans (by rw[xi];rfl))
  obtain⟨dH,fm,hP,k8,pH⟩:=aCK cR;refine wp_region_list ?_;rw[show fV.pj.toList=fV.pj.toList++[] by simp];have JF:(ρ.set 6 (.slice A l.length c))[6]? =some (.slice A l.length c):=gu (aR.1 eV).1;refine QA kg agN fV.pj.toList dz dH (aj6 (YG (n:=⟨165,[]⟩) rfl s9 (hE.1.trans i1) (hE.2.1.trans i2) λ t y hy=>?_)) λ aqC a5 yG aj=>?_;have:=La hy;simp only[cH,cB,io,or_false]at this;rcases this with⟨rfl,rfl⟩|⟨rfl,rfl⟩|⟨rfl,rfl⟩|⟨rfl,rfl⟩|⟨rfl,rfl⟩|⟨rfl,rfl⟩;simp only[ax];exact t9;simp only[ax];rw[hE.2.2 8 (by decide),T];exact⟨trivial,_,JF,cP 1,λ _=>rfl⟩;simp only[ax];rw[hE.2.2 2 (by decide)];exact XJ;simp only[ax];rw[hE.2.2 3 (by decide)];exact XK;simp only[ax];rw[hE.2.2 4 (by decide)];exact XL;simp only[ax];rw[hE.2.2 36 (by decide)];exact i4;obtain⟨kk,GO⟩:=aJe hP;obtain⟨aPm,JE⟩:=aj.r.mem.tm GO;obtain⟨cu,bJ,fc,WN,aiq,aBl⟩:=aj.r.mem.aa1 GO JE;have ii:=aaM aBl;have f8:=aj.r.ea.eu.get 8 _ fm;simp only[ax]at f8;obtain⟨_,rn,V,_,X3⟩:=f8;rw[JE]at V;cases V;have X3:=X3 (congrArg b5 GO).symm;have aBG:=aKh.trans aj.to;have M:=OH aj.r.ea.eu pH;simp only[ez,ig,hU,and_true]at M;have ahx:br (ba.ag (.slice A l.length c)) r7 yG:=s9.agA aj.r.mem aj.to.sz λ q b aB=>aj.wr q b λ i hi B h Z f2=>by rw[k8]at hi;simp only[dV]at hi;subst hi;obtain rfl:Value.slice A l.length c=h:=eD (JF.symm.trans f2);obtain rfl:aH.r (El:=bs.El) 3 1 0 l=B:=eD Z;exact aB
  have ahy:br (ba.ag u) w yG:=a8.trans ahx λ x aa=>(f x aa).2.imp id (·.1);subst WN;rw[ii]at aiq;refine wpList_nil ⟨rfl,aj.r.ea.eu.size,aj.r.ea.eu.defers,M.1,M.2.1,M.2.2.1,M.2.2.2,⟨?_,(ahy.block bm (G vb) azR).trans vb⟩,?_,?_,ahy,?_,l++[kZ e],cu,bJ,?_,X3,aiq,?_⟩;obtain⟨c1,V,qb⟩:=vd;exact⟨c1,V,(ahx.block r (G qb) λ h=>(f r h).1 rfl).trans qb⟩;rw[jM,lJ];exact fx.2 ⟨i6,by simp,λ x aa y hy ai=>by simp at hy;subst hy;subst ai;exact Ar aa⟩;intro x aa;rcases cf.1 aa with aa |aa;exact i7 x aa;simp at aa;subst aa;exact he;exact eN (by rw[Pj];exact i9) aj.to.sz;rw[Pm,jM,lJ];intro q b;refine⟨λ ai=>?_,?_⟩;subst ai;obtain⟨B,h,Z,f2,f3⟩:=aj.to.oY 6 _ _ GO JE q b (by rw[Pj];exact i9);obtain rfl:Value.slice A l.length c=h:=eD (JF.symm.trans f2);obtain rfl:aH.r (El:=bs.El) 3 1 0 l=B:=eD Z;exact(f q f3).1 rfl;rcases gI q w.heap.size with h1 |h1;obtain⟨B,h,Z,f2,f3⟩:=aBG.oY 6 _ _ GO JE q b h1;rw[eV]at f2;cases f2;have Z:some (aH.r (El:=bs.El) 3 0 0 ([]:List (bs.El 3)))=some B:=Z;cases Z;exact .inl f3;exact .inr ⟨h1,(aj.r.mem.lt q ⟨6,_,_,GO,JE,b⟩).1⟩
 ·intro acc a2 a3 j0 ki G_ hE;obtain⟨i1,i2,XJ,XK,XL,i4,i5,i6,i7,i8,i9,l,A,c,Pm,T,U,f⟩:=ki;have KK:l.Perm (H.map k1):=by rw[Pm,<-Kv];exact G_.map kZ
  have ahC:∀x∈l,1<=x/\x<=Y+O:=λ x aa=>Kx x (KK.mem_iff.1 aa);have aAM:l.length<=200000:=by rw[KK.length_eq];exact L
  have aiw:lD Y O l=S:=by rw[Wt];exact aJ3 ji.1 hO.1 KK ahC
  have G':(lD Y O l).length=l.length:=by unfold lD;exact mC _
  have Wu:l.length=S.length:=by rw[<-G'];exact congrArg h8 aiw
  obtain⟨DR,cq⟩:=p.tm (i:=0) (B:=.c 67 [.b 3 0]) rfl;obtain⟨gb,aKO,rq,WL,aBP⟩:=p.ok 0 (.c 67 [.b 3 0]) _ rfl cq;subst rq;obtain⟨aP3,aP6,UJ,Hd,_⟩:=Rf aBP;subst UJ;simp only[ax]at Hd;obtain⟨gh,aW,Hd⟩:=Hd;subst Hd;obtain⟨aPk,aKP,OT,WM,aBQ⟩:=p.ok 3 _ _ rfl aW;cases OT;obtain⟨aQc,aPY,UJ,_,aA'⟩:=Rf aBQ;subst UJ;obtain⟨aKR,aPZ,sO,EW,kU⟩:=Rf aA';subst sO;obtain⟨aKS,aP0,axO,aGQ,tc⟩:=Rf kU;subst axO;obtain rfl:aKR= .int .i64 Y:=EW;obtain rfl:aKS= .int .i64 O:=aGQ;have anr:a.tmps.getD 3 undef= .pointer (some ⟨gb,0,none⟩):=by have Ad:=ar;simp only[ax]at Ad;obtain⟨g',V,qb⟩:=Ad;rw[cq]at V;cases V;exact qb
  have akg:gb∉ba.ag u:=p.bC 0 6 _ _ _ _ rfl cq rfl eV (by decide) gb (dV.2 rfl);have akm:gh∉ba.ag u:=p.bC 3 6 _ _ _ _ rfl aW rfl eV (by decide) gh (dV.2 rfl);have aAn:=(i8.block gb (G WL) akg).trans WL;have ah3:=(i8.block gh (G WM) akm).trans WM
  have Ib:=aJ5 (W:=j0) (gb:=gb) (gh:=gh) (cap:=c) (A:=A) ji hO ahC (by omega) ((cell_of (k:=0) aAn).1.trans rfl) ((cell_of (k:=1) ah3).1.trans rfl) ((cell_of (k:=2) ah3).1.trans rfl) U
   (λ h=>(f gb h).2.elim akg λ h=>by have:=G WL;omega) (λ h=>(f gh h).2.elim akm λ h=>by have:=G WM;omega)
  refine wp_seq (wp_region_list ?_);rw[aCW];have ad:Fr ⟨165,[]⟩ [(2,a.tmps.getD 2 undef),(3,.pointer (some ⟨gb,0,none⟩)),(4,a.tmps.getD 4 undef),(8,.slice A l.length c)] a3:=⟨hE.1.trans i1,hE.2.1.trans i2,λ t v aG=>by
   have:=ajS aG;simp only[cH,cB,io,or_false]at this;rcases this with⟨rfl,rfl⟩|⟨rfl,rfl⟩|⟨rfl,rfl⟩|⟨rfl,rfl⟩;rw[hE.2.2 2 (by decide)];exact XJ;rw[hE.2.2 3 (by decide)];exact XK.trans anr;rw[hE.2.2 4 (by decide)];exact XL
   ·rw[hE.2.2 8 (by decide)];exact T⟩
  refine gi (wn aCL) (wu ai4.1 (ad.g rfl)) ad ai4.2 rfl λ a4 ad=>gi (wn aCM) (aqi (xs:=[.tmp 3]) (vs:=[.pointer (some ⟨gb,0,none⟩)]) ai5.1 (by simp only[ez,ig];rw[show a4.eval (.tmp 3)=_ from ad.g rfl])) ad ai5.2 rfl λ a5 ad=>aa8 (xs:=[.tmp 45,.tmp 46]) (vs:=[.slice A l.length c,.func (.func 97) #[] #[.pointer (some ⟨gb,0,none⟩)]]) (cs:=[]) (wn aCN) ai6.1 az2 rfl ⟨ad.g rfl,ad.g rfl,trivial⟩ Ib ad ai6.2 rfl λ e w' av=>?_;obtain⟨he,ahz,air⟩:=av;refine⟨_,he,λ iM ad=>?_⟩;have azc:br (ba.ag u) w w':=i8.trans ahz λ x aa=>(f x aa).2.imp id (·.1);have ahY:∀q∈ba.ag (.slice A l.length c),q∈ba.ag u\/(w.heap.size<=q/\q<w'.heap.size):=λ q b=>(f q b).2.imp id λ h=>⟨h.1,eN h.2 ahz.size⟩
  have ad8:iM.tmps.getD 8 undef= .slice A l.length c:=ad.get 8 _ rfl;rw[aiw,Wu]at air;rw[Wu]at ahY ad8;have JF:(ρ.set 6 (.slice A S.length c))[6]? =some (.slice A S.length c):=gu (aR.1 eV).1;obtain⟨aAT,RB⟩:=p.amb (i:=6) (t:=3) (g:=0) (k:=0) (l0:=([]:List (bs.El 3))) (l:=S) (A:=A) (c:=c) rfl eV azc ahY air (λ F=>aaN S);have azu:R aI W M0 X ⟨165,[]⟩ ⟨[(2,.pp 5 0 1 eg),(3,.b 0 0),(4,.b 1 0),(8,.r 6 1)],[],[]⟩ ((bQ (El:=aI.T.El) id (ck false mQ) false mQ (C,E,j,(oI,Y,O,uP),H,rZ,([]:List Int),w1)).set 6 (.r 3 1 0 S)) (ρ.set 6 (.slice A S.length c)) iM w':=YG rfl aAT ad.size ad.defers λ t y hy=>by have:=La hy;simp only[cH,cB,io,or_false]at this;rcases this with⟨rfl,rfl⟩|⟨rfl,rfl⟩|⟨rfl,rfl⟩|⟨rfl,rfl⟩;rw[show iM.tmps.getD 2 undef=_ from ad.get 2 _ rfl];exact RB.v J;rw[show iM.tmps.getD 3 undef=_ from ad.get 3 _ rfl,<-anr];exact RB.v ar;rw[show iM.tmps.getD 4 undef=_ from ad.get 4 _ rfl];exact RB.v a7;rw[ad8];simp only[ax];exact⟨trivial,_,JF,cP 1,λ _=>rfl⟩
  obtain⟨dT,c9,eT⟩:=aaL (pre:=mQ) (dp:=(C,E,j,(oI,Y,O,uP),H,rZ,([]:List Int),w1)) (ss:=[2,3,4,8]) (pas:=KZ) (pbs:=mQ) (da:=(eg,(),(),(),())) (db:=(C,E,j,(oI,Y,O,uP),H,rZ,S,())) azu (by rw[p.len,nZ]) (by kernel_rfl) RB (by kernel_rfl);exact wpList_nil (k iM w' dT ad.size ad.defers (c9 true) eT)
 ·refine⟨by rw[vK,Jl],TU,by rw[w_ (by decide),g2],by rw[w_ (by decide),g3],by rw[w_ (by decide),g4],w9 (by rw[Jl];decide),⟨⟨clock,cP _,KQ⟩,(GL.block bm (G xu) (by simp)).trans xu⟩,by simp,by simp,?_,kV,[],oC,eP,rfl,?_,?_,?_⟩;exact(kh.trans GL (by simp)).mono (by simp);rw[w_ (by decide),g8,aKJ,O3];rfl;have:=aBr;rw[O3,aaM aBm]at this;refine rowIs.later this λ q b=>?_;have ta:q<w.heap.size:=Zj q (by rw[O3];exact b);exact(kh.trans GL (by simp)).block q ta (by simp)
  ·intro q b;have b:q∈ba.ag u:=by rw[O3];exact b
   exact⟨λ ai=>by have:=Zj q b;omega,.inl b⟩
set_option maxRecDepth 100000
theorem aCU:zl aI ⟨fJ aI.P 63,[]⟩ ((Lz [2,3,4,7,8] PE mQ ⟨.nm,[2,3,4,8],KZ,mQ⟩ Hm).run aI 0) tj.1 tj.2:=by
 have e:fJ aI.P 63=165:=by kernel_rfl
 rw[e];exact aGl rfl rfl aC2
def atd(F:Nat):aS aI:=(atc F).akY 63 0 ((Lz [2,3,4,7,8] PE mQ ⟨.nm,[2,3,4,8],KZ,mQ⟩ Hm).run aI 0) tj.1 tj.2 (λ _ _=>aCU) aCG
set_option maxRecDepth 100000
@[reducible] def Bm:bK:=.c 24 [.l 3,nl,nl,nl,nl,.l 3,nl]
@[reducible] def aPU:cM:=.a [.l 3,nl,nl,nl,nl,.l 3,nl]
@[reducible] def HS:bK:=.c 69 [.l 134,.l 3,.l 124,.l 120,.l 121]
@[reducible] def aGm:cM:=.a [.l 134,.l 3,.l 124,.l 120,.l 121]
abbrev adu:=(List aq×List Int×List (List I.Field)×List (List (List UInt8))×List (List I.Target)×Unit)
abbrev IU:=(List Int×Int×Int×Int×Int×List Int×Int×Unit)
def Dz(F:Nat):Nat->(List Int)->(Int)->(Int)->(List Int)->(List Int)->Option ((Unit×Unit)×List Int×List Int×Unit)
 |0,_,_,_,_,_=>none
 |aT+1,c,d,a,dg,b=>cond (decide (a<d)) ((idx c a).bind λ e=>
(idx b e).bind λ f=>
(bI 8 dg [f]).bind λ g=>
Dz F aT c d (aw (a+1)) g b) (
some (((),()),dg,b,()))
def ate(F:Nat):aS aI:=(atd F).PN 90 0 F ⟨[3,6,7,8],[.p (.R 0),.p (.P 1 1),ni,ni],[.r 3 false,.r 3 true],[⟨.nm,[3],[.p (.R 0)],[.r 3 false,.r 3 true]⟩],λ k d=>Dz F k d.1.2.1 d.1.2.2.1 d.1.2.2.2.1 d.2.1 d.2.2.1⟩ ⟨λ d=>by kernel_rfl,λ k da db=>by kernel_rfl⟩
def Ov(F:Nat)(a:List Int)(kD:List Int):Option ((List Int×Unit)×List Int×Unit):=(Dz F F a (↑a.length:Int) 0 [] kD).bind λ b=>
some ((b.2.1,()),b.2.2.1,())
def atf(F:Nat):aS aI:=(ate F).GF 90 ⟨[.p (.P 0 1)],[.r 3 true],[nj],[.r 3 true],λ d=>Ov F d.1.1 d.2.1⟩ λ da db=>by kernel_rfl
def JU(F:Nat)(c:List aq)(d:List Int)(e:List (List I.Field))(kE:List (List (List UInt8)))(f:List (List I.Target))(g:List Int)(om:List Int)(h:Int)(ms:Int)(i:Int)(j:Int)(k:List Int)(l:Int)(m:List Int):Option ((Unit×Unit)×IU×List Int×(Unit×List aq×List Int×List (List I.Field)×List (List (List UInt8))×List (List I.Target)×Unit×Unit)×List (Int×Bool)×Unit):=(Ov F g m).bind λ b=>
(Dx F b.1.1 c d e kE f om h ms i j k l []).bind λ a=>
some (((),()),(a.2.2.1.1,a.2.2.1.2.1,a.2.2.1.2.2.1,a.2.2.1.2.2.2.1,a.2.2.1.2.2.2.2.1,a.2.2.1.2.2.2.2.2.1,a.2.2.1.2.2.2.2.2.2.1,()),b.2.1,((),a.2.1.2.1,a.2.1.2.2.1,a.2.1.2.2.2.1,a.2.1.2.2.2.2.1,a.2.1.2.2.2.2.2.1,(),()),a.2.2.2.1,())
def atg(F:Nat):aS aI:=(atf F).GF 54 ⟨[.p (.B 0),aGm,.p (.P 1 1)],[Bm,.r 3 true],[.p (.B 2)],[Bm,.r 3 true,.c 140 [.B 0,.l 134,.l 3,.l 124,.l 120,.l 121,.M 3],.m 3 4],λ d=>JU F d.1.2.1.1 d.1.2.1.2.1 d.1.2.1.2.2.1 d.1.2.1.2.2.2.1 d.1.2.1.2.2.2.2.1 d.1.2.2.1 d.2.1.1 d.2.1.2.1 d.2.1.2.2.1 d.2.1.2.2.2.1 d.2.1.2.2.2.2.1 d.2.1.2.2.2.2.2.1 d.2.1.2.2.2.2.2.2.1 d.2.2.1⟩ λ da db=>by kernel_rfl
set_option maxRecDepth 100000
def z7(F:Nat):Nat->(List Int)->(List Int)->(Int)->(List Int)->(Int)->(Int)->(List Int)->(List Int)->(Int)->(Int)->(Int)->(Int)->(List Int)->(Int)->(List aq)->(List Int)->(List (List I.Field))->(List (List (List UInt8)))->(List (List I.Target))->(List (Int×Int))->Option ((List Int×Unit×Unit×List Int×Unit×Int×Unit)×
 List Int×(Unit×Unit)×IU×adu×List (Int×Int)×Unit)
 |0,_,_,_,_,_,_,_,_,_,_,_,_,_,_,_,_,_,_,_,_=>none
 |aT+1,c,d,a,e,f,wl,g,b,h,sl,i,j,k,wm,l,m,wo,n,o,p=>cond (decide (wl<f)) ((idx e wl).bind λ q=>
(idx b (aw (q+1))).bind λ r=>
z7 F aT c d (aw (a+aw (3+r))) e f (aw (wl+1)) g b h sl i j k wm l m wo n o (gy p q a)) (
some ((c,(),(),d,(),a,()),g,((),()),(b,h,sl,i,j,k,wm,()),(l,m,wo,n,o,()),p,()))
def ath(F:Nat):aS aI:=(atg F).gx 63 2 F ⟨[2,3,4,8,10,11,55,56,57],[.p (.P 0 1),.p (.B 1),.p (.B 3),nj,.p (.M 4),ni,nj,ni,ni],[.r 3 true,.c 67 [.B 2],Bm,HS,.m 3 3],[⟨.nm,[2,3,4,8,10,11],[.p (.P 0 1),.p (.B 1),.p (.B 3),nj,.p (.M 4),ni],[.r 3 true,.c 67 [.B 2],Bm,HS,.m 3 3]⟩],λ k d=>z7 F k d.1.1 d.1.2.2.2.1 d.1.2.2.2.2.2.1 d.1.2.2.2.2.2.2.1 d.1.2.2.2.2.2.2.2.1 d.1.2.2.2.2.2.2.2.2.1 d.2.1 d.2.2.2.1.1 d.2.2.2.1.2.1 d.2.2.2.1.2.2.1 d.2.2.2.1.2.2.2.1 d.2.2.2.1.2.2.2.2.1 d.2.2.2.1.2.2.2.2.2.1 d.2.2.2.1.2.2.2.2.2.2.1 d.2.2.2.2.1.1 d.2.2.2.2.1.2.1 d.2.2.2.2.1.2.2.1 d.2.2.2.2.1.2.2.2.1 d.2.2.2.2.1.2.2.2.2.1 d.2.2.2.2.2.1⟩ ⟨λ d=>by kernel_rfl,λ k da db=>by kernel_rfl⟩
def uY(F:Nat):Nat->(List Int)->(Int)->(Int)->(List Int)->(Int)->(Int)->(Int)->(Int)->(List Int)->(List Int)->(Int)->(Int)->(Int)->(Int)->(List Int)->(Int)->(List aq)->(List Int)->(List (List I.Field))->(List (List (List UInt8)))->(List (List I.Target))->(List (Int×Int))->(List Int)->Option ((List Int×Unit×Unit×Unit×Int×Unit×List Int×Int×Int×Unit)×
 List Int×(Unit×Unit)×IU×adu×List (Int×Int)×List Int×Unit)
 |0,_,_,_,_,_,_,_,_,_,_,_,_,_,_,_,_,_,_,_,_,_,_,_=>none
 |aT+1,j,k,b,l,m,n,o,a,p,d,q,r,s,t,u,v,e,f,g,h,i,mn,c=>cond (decide (a<o)) ((idx d (aw (b+a))).bind λ w=>
cond (decide (3<=a)) ((idx d b).bind λ x=>
(rr (b9.mk (aP.mk e f g h i)) x (aw (a-3))).bind λ y=>
cond y ((idx c (aw ((cE mn b).getD 0+a))).bind λ z=>
uY F aT j k b l m n o (aw (a+1)) p d q r s t u v e f g h i mn (c.set (aw ((cE mn b).getD 0+a)).toNat ((cE mn w).getD 0))) (
(idx c (aw ((cE mn b).getD 0+a))).bind λ A=>
uY F aT j k b l m n o (aw (a+1)) p d q r s t u v e f g h i mn (c.set (aw ((cE mn b).getD 0+a)).toNat w))) (
(idx c (aw ((cE mn b).getD 0+a))).bind λ B=>
uY F aT j k b l m n o (aw (a+1)) p d q r s t u v e f g h i mn (c.set (aw ((cE mn b).getD 0+a)).toNat w))) (
some ((j,(),(),(),k,(),l,m,n,()),p,((),()),(d,q,r,s,t,u,v,()),(e,f,g,h,i,()),mn,c,()))
def ati(F:Nat):aS aI:=(ath F).gx 63 6 F ⟨[2,3,4,10,11,14,16,82,83,84,96,97],[.p (.P 0 1),.p (.B 1),.p (.B 3),.p (.M 4),ni,.p (.R 5),ni,nj,ni,ni,ni,ni],[.r 3 true,.c 67 [.B 2],Bm,HS,.m 3 3,.r 3 false],[⟨.nm,[2,3,4,10,11,14,82,83,84],[.p (.P 0 1),.p (.B 1),.p (.B 3),.p (.M 4),ni,.p (.R 5),nj,ni,ni],[.r 3 true,.c 67 [.B 2],Bm,HS,.m 3 3,.r 3 false]⟩],λ k d=>uY F k d.1.1 d.1.2.2.2.2.1 d.1.2.2.2.2.2.2.1 d.1.2.2.2.2.2.2.2.1 d.1.2.2.2.2.2.2.2.2.1 d.1.2.2.2.2.2.2.2.2.2.1 d.1.2.2.2.2.2.2.2.2.2.2.1 d.1.2.2.2.2.2.2.2.2.2.2.2.1 d.2.1 d.2.2.2.1.1 d.2.2.2.1.2.1 d.2.2.2.1.2.2.1 d.2.2.2.1.2.2.2.1 d.2.2.2.1.2.2.2.2.1 d.2.2.2.1.2.2.2.2.2.1 d.2.2.2.1.2.2.2.2.2.2.1 d.2.2.2.2.1.1 d.2.2.2.2.1.2.1 d.2.2.2.2.1.2.2.1 d.2.2.2.2.1.2.2.2.1 d.2.2.2.2.1.2.2.2.2.1 d.2.2.2.2.2.1 d.2.2.2.2.2.2.1⟩ ⟨λ d=>by kernel_rfl,λ k da db=>by kernel_rfl⟩
def z8(F:Nat):Nat->(List Int)->(Int)->(List Int)->(Int)->(Int)->(List Int)->(List Int)->(Int)->(Int)->(Int)->(Int)->(List Int)->(Int)->(List aq)->(List Int)->(List (List I.Field))->(List (List (List UInt8)))->(List (List I.Target))->(List (Int×Int))->(List Int)->Option ((List Int×Unit×Unit×Int×Unit×Unit)×
 List Int×(Unit×Unit)×IU×adu×List (Int×Int)×List Int×Unit)
 |0,_,_,_,_,_,_,_,_,_,_,_,_,_,_,_,_,_,_,_,_=>none
 |aT+1,d,e,f,g,b,h,c,i,Sl,j,k,l,m,n,Fo,o,B0,p,q,r=>cond (decide (b<g)) ((idx f b).bind λ B1=>
(idx c (aw (B1+1))).bind λ s=>
(uY F F d e B1 f g b (aw (3+s)) 0 h c i Sl j k l m n Fo o B0 p q r).bind λ a=>
z8 F aT a.1.1 a.1.2.2.2.2.1 a.1.2.2.2.2.2.2.1 a.1.2.2.2.2.2.2.2.1 (aw (a.1.2.2.2.2.2.2.2.2.1+1)) a.2.1 a.2.2.2.1.1 a.2.2.2.1.2.1 a.2.2.2.1.2.2.1 a.2.2.2.1.2.2.2.1 a.2.2.2.1.2.2.2.2.1 a.2.2.2.1.2.2.2.2.2.1 a.2.2.2.1.2.2.2.2.2.2.1 a.2.2.2.2.1.1 a.2.2.2.2.1.2.1 a.2.2.2.2.1.2.2.1 a.2.2.2.2.1.2.2.2.1 a.2.2.2.2.1.2.2.2.2.1 a.2.2.2.2.2.1 a.2.2.2.2.2.2.1) (
some ((d,(),(),e,(),()),h,((),()),(c,i,Sl,j,k,l,m,()),(n,Fo,o,B0,p,()),q,r,()))
def atj(F:Nat):aS aI:=(ati F).gx 63 4 F ⟨[2,3,4,10,11,14,82,83,84],[.p (.P 0 1),.p (.B 1),.p (.B 3),.p (.M 4),ni,.p (.R 5),nj,ni,ni],[.r 3 true,.c 67 [.B 2],Bm,HS,.m 3 3,.r 3 false],[⟨.nm,[2,3,10,11,14],[.p (.P 0 1),.p (.B 1),.p (.M 4),ni,.p (.R 5)],[.r 3 true,.c 67 [.B 2],Bm,HS,.m 3 3,.r 3 false]⟩],λ k d=>z8 F k d.1.1 d.1.2.2.2.2.1 d.1.2.2.2.2.2.2.1 d.1.2.2.2.2.2.2.2.1 d.1.2.2.2.2.2.2.2.2.1 d.2.1 d.2.2.2.1.1 d.2.2.2.1.2.1 d.2.2.2.1.2.2.1 d.2.2.2.1.2.2.2.1 d.2.2.2.1.2.2.2.2.1 d.2.2.2.1.2.2.2.2.2.1 d.2.2.2.1.2.2.2.2.2.2.1 d.2.2.2.2.1.1 d.2.2.2.2.1.2.1 d.2.2.2.2.1.2.2.1 d.2.2.2.2.1.2.2.2.1 d.2.2.2.2.1.2.2.2.2.1 d.2.2.2.2.2.1 d.2.2.2.2.2.2.1⟩ ⟨λ d=>by kernel_rfl,λ k da db=>by kernel_rfl⟩
def w7(F:Nat):Nat->(Int)->(List Int)->(List Int)->(Int)->(Int)->(List Int)->(Int)->(Int)->(Int)->(Int)->(List Int)->(Int)->(List (Int×Int))->(List Int)->Option ((Unit×Int×List Int×Unit)×(Unit×Unit)×IU×List (Int×Int)×List Int×Unit)
 |0,_,_,_,_,_,_,_,_,_,_,_,_,_,_=>none
 |aT+1,c,d,e,f,a,g,h,i,j,B5,k,l,b,sc=>cond (decide (a<f)) ((idx e a).bind λ m=>
(idx sc m).bind λ n=>
w7 F aT c d e f (aw (a+1)) g h i j B5 k l b (sc.set m.toNat ((cE b n).getD 0))) (
some (((),c,d,()),((),()),(g,h,i,j,B5,k,l,()),b,sc,()))
def JS(F:Nat)(j:List aq)(k:List Int)(l:List (List I.Field))(m:List (List (List UInt8)))(n:List (List I.Target))(FD:List Int)(o:List Int)(p:Int)(q:Int)(r:Int)(f:Int)(g:List Int)(h:Int)(i:List Int):Option ((Bool×Unit)×IU×List Int×Unit):=(JU F j k l m n FD o p q r f g h i).bind λ a=>
((DB a.2.1.1 a.2.2.2.2.1).bind λ x=>some x).bind λ s=>
cond (decide (a.2.1.2.2.1<s)) (some ((false,()),(a.2.1.1,a.2.1.2.1,a.2.1.2.2.1,a.2.1.2.2.2.1,a.2.1.2.2.2.2.1,a.2.1.2.2.2.2.2.1,a.2.1.2.2.2.2.2.2.1,()),a.2.2.1,())) (
(Hm
 ((FD,(),(),(),(),()),((),()),(j,k,l,m,n,()),((),a.2.2.2.1.2.1,a.2.2.2.1.2.2.1,a.2.2.2.1.2.2.2.1,a.2.2.2.1.2.2.2.2.1,a.2.2.2.1.2.2.2.2.2.1,(),()),(a.2.1.1,a.2.1.2.1,a.2.1.2.2.1,a.2.1.2.2.2.1,a.2.1.2.2.2.2.1,a.2.1.2.2.2.2.2.1,a.2.1.2.2.2.2.2.2.1,()),a.2.2.2.2.1,a.2.2.1,[],())).bind λ c=>
(z7 F F c.1.1 c.2.2.2.2.2.2.2.1 (aw (c.2.2.2.2.1.2.1+1)) c.2.2.2.2.2.2.2.1 (↑(h8 c.2.2.2.2.2.2.2.1):Int) 0
 c.2.2.2.2.2.2.1 c.2.2.2.2.1.1 c.2.2.2.2.1.2.1 c.2.2.2.2.1.2.2.1 c.2.2.2.2.1.2.2.2.1 c.2.2.2.2.1.2.2.2.2.1
 c.2.2.2.2.1.2.2.2.2.2.1 c.2.2.2.2.1.2.2.2.2.2.2.1 c.2.2.1.1 c.2.2.1.2.1 c.2.2.1.2.2.1 c.2.2.1.2.2.2.1
 c.2.2.1.2.2.2.2.1 [(0,0)]).bind λ b=>
(x' 0 8 (↑(h8 b.2.2.2.1.1):Int)).bind λ t=>
(z8 F F b.1.1 b.1.2.2.2.2.2.1 b.1.2.2.2.1 (↑(h8 b.1.2.2.2.1):Int) 0 b.2.1 b.2.2.2.1.1 b.2.2.2.1.2.1 b.2.2.2.1.2.2.1
 b.2.2.2.1.2.2.2.1 b.2.2.2.1.2.2.2.2.1 b.2.2.2.1.2.2.2.2.2.1 b.2.2.2.1.2.2.2.2.2.2.1 b.2.2.2.2.1.1 b.2.2.2.2.1.2.1
 b.2.2.2.2.1.2.2.1 b.2.2.2.2.1.2.2.2.1 b.2.2.2.2.1.2.2.2.2.1 b.2.2.2.2.2.1 t).bind λ d=>
(w7 F F d.1.2.2.2.1 d.2.2.2.2.2.2.1 d.1.1 (↑(h8 d.1.1):Int) 0 d.2.2.2.1.1 d.2.2.2.1.2.1 d.2.2.2.1.2.2.1
 d.2.2.2.1.2.2.2.1 d.2.2.2.1.2.2.2.2.1 d.2.2.2.1.2.2.2.2.2.1 d.2.2.2.1.2.2.2.2.2.2.1 d.2.2.2.2.2.1 d.2.1).bind λ e=>
some ((true,()),(e.1.2.2.1,e.2.2.1.2.1,e.2.2.1.2.2.1,1,e.1.2.1,([]),e.2.2.1.2.2.2.2.2.2.1,()),e.2.2.2.2.1,()))
def atv(F:Nat):aS aI:=atj F
set_option maxRecDepth 100000
@[reducible] def QH:bK:=.c 24 [.l 3,nl,nl,nl,nl,.l 3,nl]
abbrev aqu:=(List Int×Int×Int×Int×Int×List Int×Int×Unit)
def JT(F:Nat):Nat->(Int)->(List Int)->(Int)->(Int)->(List Int)->(Int)->(Int)->(Int)->(Int)->(List Int)->(Int)->(List (Int×Int))->(List Int)->(List Int)->Option ((Unit×Int×Unit×Unit)×(Unit×Unit)×aqu×List (Int×Int)×List Int×List Int×Unit)
 |0,_,_,_,_,_,_,_,_,_,_,_,_,_,_=>none
 |aT+1,d,e,f,a,g,h,i,j,k,l,m,b,n,c=>cond (decide (a<f)) ((idx e a).bind λ o=>
(idx c o).bind λ p=>
JT F aT d e f (aw (a+1)) g h i j k l m b n (c.set o.toNat ((cE b p).getD 0))) (
some (((),d,(),()),((),()),(g,h,i,j,k,l,m,()),b,n,c,()))
def atx(F:Nat):aS aI:=(atv F).gx 63 8 F ⟨[3,10,11,14,137,138,139],[.p (.B 0),.p (.M 2),ni,.p (.R 3),.p (.P 4 1),ni,ni],[.c 67 [.B 1],QH,.m 3 3,.r 3 false,.r 3 true],[⟨.nm,[3,11,14],[.p (.B 0),ni,.p (.R 3)],[.c 67 [.B 1],QH,.m 3 3,.r 3 false,.r 3 true]⟩],λ k d=>JT F k d.1.2.2.1 d.1.2.2.2.2.1 d.1.2.2.2.2.2.1 d.1.2.2.2.2.2.2.1 d.2.2.1.1 d.2.2.1.2.1 d.2.2.1.2.2.1 d.2.2.1.2.2.2.1 d.2.2.1.2.2.2.2.1 d.2.2.1.2.2.2.2.2.1 d.2.2.1.2.2.2.2.2.2.1 d.2.2.2.1 d.2.2.2.2.1 d.2.2.2.2.2.1⟩ ⟨λ d=>by kernel_rfl,λ k da db=>by kernel_rfl⟩
def z_(F:Nat)(f:List aq)(g:List Int)(h:List (List I.Field))(i:List (List (List UInt8)))(j:List (List I.Target))(k:List Int)(l:List Int)(m:Int)(n:Int)(nn:Int)(o:Int)(p:List Int)(q:Int)(wi:List Int):Option ((Bool×Unit)×(Unit×Int×Int×Int×Int×List Int×Int×Unit)×List Int×List Int×Unit⊕(Bool×Unit)×aqu×List Int×Unit):=(JU F f g h i j k l m n nn o p q wi).bind λ a=>
((DB a.2.1.1 a.2.2.2.2.1).bind λ x=>some x).bind λ r=>
cond (decide (a.2.1.2.2.1<r)) (some (.inr ((false,()),(a.2.1.1,a.2.1.2.1,a.2.1.2.2.1,a.2.1.2.2.2.1,a.2.1.2.2.2.2.1,a.2.1.2.2.2.2.2.1,a.2.1.2.2.2.2.2.2.1,()),a.2.2.1,()))) (
(Hm
 ((k,(),(),(),(),()),((),()),(f,g,h,i,j,()),((),a.2.2.2.1.2.1,a.2.2.2.1.2.2.1,a.2.2.2.1.2.2.2.1,a.2.2.2.1.2.2.2.2.1,a.2.2.2.1.2.2.2.2.2.1,(),()),(a.2.1.1,a.2.1.2.1,a.2.1.2.2.1,a.2.1.2.2.2.1,a.2.1.2.2.2.2.1,a.2.1.2.2.2.2.2.1,a.2.1.2.2.2.2.2.2.1,()),a.2.2.2.2.1,a.2.2.1,[],())).bind λ c=>
(z7 F F c.1.1 c.2.2.2.2.2.2.2.1 (aw (c.2.2.2.2.1.2.1+1)) c.2.2.2.2.2.2.2.1 (↑(h8 c.2.2.2.2.2.2.2.1):Int) 0 c.2.2.2.2.2.2.1
 c.2.2.2.2.1.1 c.2.2.2.2.1.2.1 c.2.2.2.2.1.2.2.1 c.2.2.2.2.1.2.2.2.1 c.2.2.2.2.1.2.2.2.2.1 c.2.2.2.2.1.2.2.2.2.2.1
 c.2.2.2.2.1.2.2.2.2.2.2.1 c.2.2.1.1 c.2.2.1.2.1 c.2.2.1.2.2.1 c.2.2.1.2.2.2.1 c.2.2.1.2.2.2.2.1 [(0,0)]).bind λ b=>
(x' 0 8 (↑(h8 b.2.2.2.1.1):Int)).bind λ s=>
(z8 F F b.1.1 b.1.2.2.2.2.2.1 b.1.2.2.2.1 (↑(h8 b.1.2.2.2.1):Int) 0 b.2.1 b.2.2.2.1.1 b.2.2.2.1.2.1 b.2.2.2.1.2.2.1
 b.2.2.2.1.2.2.2.1 b.2.2.2.1.2.2.2.2.1 b.2.2.2.1.2.2.2.2.2.1 b.2.2.2.1.2.2.2.2.2.2.1 b.2.2.2.2.1.1 b.2.2.2.2.1.2.1
 b.2.2.2.2.1.2.2.1 b.2.2.2.2.1.2.2.2.1 b.2.2.2.2.1.2.2.2.2.1 b.2.2.2.2.2.1 s).bind λ d=>
(JT F F d.1.2.2.2.1 d.1.1 (↑(h8 d.1.1):Int) 0 d.2.2.2.1.1 d.2.2.2.1.2.1 d.2.2.2.1.2.2.1 d.2.2.2.1.2.2.2.1
 d.2.2.2.1.2.2.2.2.1 d.2.2.2.1.2.2.2.2.2.1 d.2.2.2.1.2.2.2.2.2.2.1 d.2.2.2.2.2.1 d.2.2.2.2.2.2.1 d.2.1).bind λ e=>
some (.inl ((true,()),((),e.2.2.1.2.1,e.2.2.1.2.2.1,1,e.1.2.1,([]),e.2.2.1.2.2.2.2.2.2.1,()),e.2.2.2.2.2.1,e.2.2.2.2.1,())))
def aty(F:Nat):aS aI:=(atx F).jg 63 ⟨[.p (.B 0),.a [.l 134,.l 3,.l 124,.l 120,.l 121],.p (.P 1 1)],[QH,.r 3 true],[⟨[nk],[.c 24 [.R 2,nl,nl,nl,nl,.l 3,nl],.r 3 true,.r 3 false]⟩,⟨[nk],[QH,.r 3 true]⟩],λ d=>z_ F d.1.2.1.1 d.1.2.1.2.1 d.1.2.1.2.2.1 d.1.2.1.2.2.2.1 d.1.2.1.2.2.2.2.1 d.1.2.2.1 d.2.1.1 d.2.1.2.1 d.2.1.2.2.1 d.2.1.2.2.2.1 d.2.1.2.2.2.2.1 d.2.1.2.2.2.2.2.1 d.2.1.2.2.2.2.2.2.1 d.2.2.1⟩ λ da db=>by kernel_rfl
def atz(F:Nat):aS aI:=(aty F).sP 35
set_option maxRecDepth 100000
@[reducible] def ak9:cM:=.a [.l 3,nl,nl,nl,nl,.l 3,nl]
@[reducible] def ak_:cM:=.a [.l 134,.l 3,.l 124,.l 120,.l 121]
abbrev aqv:=(List Int×Int×Int×Int×Int×List Int×Int×Unit)
def Dw(F:Nat)(o:List aq)(p:List Int)(q:List (List I.Field))(r:List (List (List UInt8)))(s:List (List I.Target))(t:List Int)(j:Int)(k:Int)(l:Int)(m:Int)(w:Int)(x:Int)(u:List Int)(dg:Int)(y:List Int)(v:List Int):Option ((Int×Bool×Unit)×aqv×Unit×List Int×Unit):=(p3 (aV.mk y l m w x u dg) j k false).bind λ c=>
cond c.2.1 (some ((c.1,true,()),(c.2.2.Words,l,m,c.2.2.aO,c.2.2.aM,u,c.2.2.Next,()),(),v,())) (
cond (!decide (aw (aw (aw (aw (l+m)+1)-c.2.2.aM)-aw (c.2.2.aO-1))<0)) ((y5 F o p q r s t l m c.2.2.aO c.2.2.aM u c.2.2.Next c.2.2.Words v).bind λ b=>
(p3 (aV.mk b.2.2.1 b.2.1.2.1 b.2.1.2.2.1 b.2.1.2.2.2.1 b.2.1.2.2.2.2.1 b.2.1.2.2.2.2.2.1 b.2.1.2.2.2.2.2.2.1) j k false).bind λ g=>
cond g.2.1 (some ((g.1,true,()),(g.2.2.Words,b.2.1.2.1,b.2.1.2.2.1,g.2.2.aO,g.2.2.aM,b.2.1.2.2.2.2.2.1,g.2.2.Next,()),(),b.2.2.2.1,())) (
(p3 (aV.mk g.2.2.Words b.2.1.2.1 b.2.1.2.2.1 g.2.2.aO g.2.2.aM b.2.1.2.2.2.2.2.1 g.2.2.Next) j k true).bind λ kD=>
cond kD.2.1 (some ((kD.1,true,()),(kD.2.2.Words,b.2.1.2.1,b.2.1.2.2.1,kD.2.2.aO,kD.2.2.aM,b.2.1.2.2.2.2.2.1,kD.2.2.Next,()),(),b.2.2.2.1,())) (
cond (decide (aw (aw (aw (aw (l+m)+1)-c.2.2.aM)-aw (c.2.2.aO-1))<0)) (some ((0,false,()),(kD.2.2.Words,b.2.1.2.1,b.2.1.2.2.1,kD.2.2.aO,kD.2.2.aM,b.2.1.2.2.2.2.2.1,kD.2.2.Next,()),(),b.2.2.2.1,())) (
cZ (z_ F o p q r s t kD.2.2.Words b.2.1.2.1 b.2.1.2.2.1 kD.2.2.aO kD.2.2.aM b.2.1.2.2.2.2.2.1 kD.2.2.Next b.2.2.2.1) (λ d=>
cond (!d.1.1) (some ((0,false,()),(d.2.2.2.1,d.2.1.2.1,d.2.1.2.2.1,d.2.1.2.2.2.1,d.2.1.2.2.2.2.1,d.2.1.2.2.2.2.2.1,d.2.1.2.2.2.2.2.2.1,()),(),d.2.2.1,())) (
(p3 (aV.mk d.2.2.2.1 d.2.1.2.1 d.2.1.2.2.1 d.2.1.2.2.2.1 d.2.1.2.2.2.2.1 d.2.1.2.2.2.2.2.1 d.2.1.2.2.2.2.2.2.1) j k true).bind λ n=>
some ((n.1,n.2.1,()),(n.2.2.Words,d.2.1.2.1,d.2.1.2.2.1,n.2.2.aO,n.2.2.aM,d.2.1.2.2.2.2.2.1,n.2.2.Next,()),(),d.2.2.1,()))) (λ h=>
cond (!h.1.1) (some ((0,false,()),(h.2.1.1,h.2.1.2.1,h.2.1.2.2.1,h.2.1.2.2.2.1,h.2.1.2.2.2.2.1,h.2.1.2.2.2.2.2.1,h.2.1.2.2.2.2.2.2.1,()),(),h.2.2.1,())) (
none)))))) (
cZ (z_ F o p q r s t c.2.2.Words l m c.2.2.aO c.2.2.aM u c.2.2.Next v) (λ a=>
cond (!a.1.1) (some ((0,false,()),(a.2.2.2.1,a.2.1.2.1,a.2.1.2.2.1,a.2.1.2.2.2.1,a.2.1.2.2.2.2.1,a.2.1.2.2.2.2.2.1,a.2.1.2.2.2.2.2.2.1,()),(),a.2.2.1,())) (
(p3 (aV.mk a.2.2.2.1 a.2.1.2.1 a.2.1.2.2.1 a.2.1.2.2.2.1 a.2.1.2.2.2.2.1 a.2.1.2.2.2.2.2.1 a.2.1.2.2.2.2.2.2.1) j k false).bind λ kE=>
cond kE.2.1 (some ((kE.1,true,()),(kE.2.2.Words,a.2.1.2.1,a.2.1.2.2.1,kE.2.2.aO,kE.2.2.aM,a.2.1.2.2.2.2.2.1,kE.2.2.Next,()),(),a.2.2.1,())) (
(p3 (aV.mk kE.2.2.Words a.2.1.2.1 a.2.1.2.2.1 kE.2.2.aO kE.2.2.aM a.2.1.2.2.2.2.2.1 kE.2.2.Next) j k true).bind λ f=>
cond f.2.1 (some ((f.1,true,()),(f.2.2.Words,a.2.1.2.1,a.2.1.2.2.1,f.2.2.aO,f.2.2.aM,a.2.1.2.2.2.2.2.1,f.2.2.Next,()),(),a.2.2.1,())) (
cond (decide (aw (aw (aw (aw (l+m)+1)-c.2.2.aM)-aw (c.2.2.aO-1))<0)) (some ((0,false,()),(f.2.2.Words,a.2.1.2.1,a.2.1.2.2.1,f.2.2.aO,f.2.2.aM,a.2.1.2.2.2.2.2.1,f.2.2.Next,()),(),a.2.2.1,())) (
cZ (z_ F o p q r s t f.2.2.Words a.2.1.2.1 a.2.1.2.2.1 f.2.2.aO f.2.2.aM a.2.1.2.2.2.2.2.1 f.2.2.Next a.2.2.1) (λ e=>
cond (!e.1.1) (some ((0,false,()),(e.2.2.2.1,e.2.1.2.1,e.2.1.2.2.1,e.2.1.2.2.2.1,e.2.1.2.2.2.2.1,e.2.1.2.2.2.2.2.1,e.2.1.2.2.2.2.2.2.1,()),(),e.2.2.1,())) (
(p3 (aV.mk e.2.2.2.1 e.2.1.2.1 e.2.1.2.2.1 e.2.1.2.2.2.1 e.2.1.2.2.2.2.1 e.2.1.2.2.2.2.2.1 e.2.1.2.2.2.2.2.2.1) j k true).bind λ om=>
some ((om.1,om.2.1,()),(om.2.2.Words,e.2.1.2.1,e.2.1.2.2.1,om.2.2.aO,om.2.2.aM,e.2.1.2.2.2.2.2.1,om.2.2.Next,()),(),e.2.2.1,()))) (λ i=>
cond (!i.1.1) (some ((0,false,()),(i.2.1.1,i.2.1.2.1,i.2.1.2.2.1,i.2.1.2.2.2.1,i.2.1.2.2.2.2.1,i.2.1.2.2.2.2.2.1,i.2.1.2.2.2.2.2.2.1,()),(),i.2.2.1,())) (
none))))))) (λ ms=>
cond (!ms.1.1) (some ((0,false,()),(ms.2.1.1,ms.2.1.2.1,ms.2.1.2.2.1,ms.2.1.2.2.2.1,ms.2.1.2.2.2.2.1,ms.2.1.2.2.2.2.2.1,ms.2.1.2.2.2.2.2.2.1,()),(),ms.2.2.1,())) (
none))))
def atA(F:Nat):aS aI:=(atz F).fn 58 ⟨[.p (.B 0),ak_,.p (.P 2 1),ni,ni],[.c 24 [.R 1,nl,nl,nl,nl,.l 3,nl],.r 3 true,.r 3 true],[ni,nk],[.c 24 [.l 3,nl,nl,nl,nl,.l 3,nl],.d,.r 3 true],λ d=>Dw F d.1.2.1.1 d.1.2.1.2.1 d.1.2.1.2.2.1 d.1.2.1.2.2.2.1 d.1.2.1.2.2.2.2.1 d.1.2.2.1 d.1.2.2.2.1 d.1.2.2.2.2.1 d.2.1.2.1 d.2.1.2.2.1 d.2.1.2.2.2.1 d.2.1.2.2.2.2.1 d.2.1.2.2.2.2.2.1 d.2.1.2.2.2.2.2.2.1 d.2.2.1 d.2.2.2.1⟩ λ da db=>by kernel_rfl
def uZ(F:Nat)(f:List Int)(g:Int)(h:Int)(i:Int)(j:Int)(k:List Int)(l:Int)(t:List aq)(u:List Int)(v:List (List I.Field))(w:List (List (List UInt8)))(x:List (List I.Target))(m:List Int)(n:Int)(o:Int):Option ((aqv×List Int×Int×Bool×Int×Unit)×Unit):=cZ (Dy F f g h i j k l t u v w x m) (λ a=>
cond (decide (a.1.2.1=0)) ((Am
 (b9.mk
  (aP.mk a.2.1.2.2.2.2.2.2.2.1 a.2.1.2.2.2.2.2.2.2.2.1 a.2.1.2.2.2.2.2.2.2.2.2.1 a.2.1.2.2.2.2.2.2.2.2.2.2.1
   a.2.1.2.2.2.2.2.2.2.2.2.2.2.1))
 n o).bind λ q=>
cond (!decide (q=0)) (some (((([]),0,0,0,0,([]),0,()),([]),0,false,q,()),())) (
(nI (aV.mk f g h i j k l)).bind λ d=>
(bI 8 [] m).bind λ r=>
(sp F (↑r.length:Int)).bind λ y=>
(Dw F a.2.1.2.2.2.2.2.2.2.1 a.2.1.2.2.2.2.2.2.2.2.1 a.2.1.2.2.2.2.2.2.2.2.2.1 a.2.1.2.2.2.2.2.2.2.2.2.2.1
 a.2.1.2.2.2.2.2.2.2.2.2.2.2.1 y n o d.ak d.aK d.aO d.aM d.aU d.Next d.Words r).bind λ b=>
some (((b.2.1.1,b.2.1.2.1,b.2.1.2.2.1,b.2.1.2.2.2.1,b.2.1.2.2.2.2.1,b.2.1.2.2.2.2.2.1,b.2.1.2.2.2.2.2.2.1,()),b.2.2.2.1,b.1.1,b.1.2.1,0,()),()))) (
cond (!decide (a.1.2.1=0)) (some (((([]),0,0,0,0,([]),0,()),([]),0,false,a.1.2.1,()),())) (
(nI (aV.mk f g h i j k l)).bind λ e=>
(bI 8 [] m).bind λ s=>
(sp F (↑s.length:Int)).bind λ z=>
(Dw F a.2.1.2.2.2.2.2.2.2.1 a.2.1.2.2.2.2.2.2.2.2.1 a.2.1.2.2.2.2.2.2.2.2.2.1 a.2.1.2.2.2.2.2.2.2.2.2.2.1
 a.2.1.2.2.2.2.2.2.2.2.2.2.2.1 z n o e.ak e.aK e.aO e.aM e.aU e.Next e.Words s).bind λ c=>
some (((c.2.1.1,c.2.1.2.1,c.2.1.2.2.1,c.2.1.2.2.2.1,c.2.1.2.2.2.2.1,c.2.1.2.2.2.2.2.1,c.2.1.2.2.2.2.2.2.1,()),c.2.2.2.1,c.1.1,c.1.2.1,0,()),())))) (λ p=>
cond (decide (p.1.2.1=0)) none (
cond (!decide (p.1.2.1=0)) (some (((([]),0,0,0,0,([]),0,()),([]),0,false,p.1.2.1,()),())) (
(nI (aV.mk f g h i j k l)).bind λ A=>
(bI 8 [] m).bind λ B=>
none)))
def atB(F:Nat):aS aI:=(atA F).fn 25 ⟨[ak9,ak_,nj,ni,ni],[],[ak9,nj,ni,nk,ni],[],λ d=>uZ F d.1.1.1 d.1.1.2.1 d.1.1.2.2.1 d.1.1.2.2.2.1 d.1.1.2.2.2.2.1 d.1.1.2.2.2.2.2.1 d.1.1.2.2.2.2.2.2.1 d.1.2.1.1 d.1.2.1.2.1 d.1.2.1.2.2.1 d.1.2.1.2.2.2.1 d.1.2.1.2.2.2.2.1 d.1.2.2.1 d.1.2.2.2.1 d.1.2.2.2.2.1⟩ λ da db=>by kernel_rfl
set_option maxRecDepth 100000
@[reducible] def ale:cM:=.a [.l 3,nl,nl,nl,nl,.l 3,nl]
@[reducible] def alf:cM:=.a [.l 134,.l 3,.l 124,.l 120,.l 121]
def Jf(F:Nat)(b:List Int)(c:Int)(d:Int)(e:Int)(f:Int)(g:List Int)(h:Int)(i:List aq)(j:List Int)(k:List (List I.Field))(l:List (List (List UInt8)))(m:List (List I.Target))(a:Int):Option ((Bool×Unit)×Unit):=(oH F (aV.mk b c d e f g h) (aP.mk i j k l m)).bind λ dg=>
(iL F dg.1 a).bind λ n=>
cond n (some ((true,()),())) (
(iL F dg.2.1 a).bind λ o=>
some ((o,()),()))
def I0(F:Nat):aS aI:=(atB F).fn 28 ⟨[ale,alf,ni],[],[nk],[],λ d=>Jf F d.1.1.1 d.1.1.2.1 d.1.1.2.2.1 d.1.1.2.2.2.1 d.1.1.2.2.2.2.1 d.1.1.2.2.2.2.2.1 d.1.1.2.2.2.2.2.2.1 d.1.2.1.1 d.1.2.1.2.1 d.1.2.1.2.2.1 d.1.2.1.2.2.2.1 d.1.2.1.2.2.2.2.1 d.1.2.2.1⟩ λ da db=>by kernel_rfl
def Nj(F:Nat)(g:List Int)(h:Int)(c:Int)(kD:Int)(i:Int)(j:List Int)(b:Int)(d:List aq)(kE:List Int)(e:List (List I.Field))(f:List (List (List UInt8)))(om:List (List I.Target))(k:List Int)(ms:Int)(l:Int):Option ((Bool×Unit)×Unit):=cond (decide (4611686018427387904<b)) (some ((true,()),())) (
(z6 F g h c kD i j b d kE e f om k).bind λ m=>
(uZ F g h c kD i j b d kE e f om k ms l).bind λ a=>
cond (!decide (m.1.2.1=0)|| !decide (a.1.2.2.2.2.1=0)) (some (((!decide (a.1.2.2.2.2.1=0)&&decide (a.1.2.2.1=0)&& !a.1.2.2.2.1),()),())) (
(F3 F g h c kD i j b d kE e f om k a.1.1.1 a.1.1.2.1 a.1.1.2.2.1 a.1.1.2.2.2.1 a.1.1.2.2.2.2.1 a.1.1.2.2.2.2.2.1
 a.1.1.2.2.2.2.2.2.1 a.1.2.1).bind λ n=>
cond (!n.1.1) (some ((false,()),())) (
cond (!a.1.2.2.2.1) (some (((decide (a.1.2.2.1=0)&&decide (c<aw (aw (m.1.1+3)+l))),()),())) (
(Jf F a.1.1.1 a.1.1.2.1 a.1.1.2.2.1 a.1.1.2.2.2.1 a.1.1.2.2.2.2.1 a.1.1.2.2.2.2.2.1 a.1.1.2.2.2.2.2.2.1 d kE e f om
 a.1.2.2.1).bind λ o=>
cond o.1.1 ((idx a.1.1.1 a.1.2.2.1).bind λ p=>
cond (decide (p=ms)) ((idx a.1.1.1 (aw (a.1.2.2.1+1))).bind λ q=>
cond (decide (q=l)) ((idx a.1.1.1 (aw (a.1.2.2.1+2))).bind λ r=>
cond (decide (r=b)) ((zx F a.1.2.1 a.1.2.2.1).bind λ s=>
some (((decide (s.1.1<0)),()),())) (
some ((false,()),()))) (
some ((false,()),()))) (
some ((false,()),()))) (
some ((false,()),()))))))
@[reducible] def X8(F:Nat):eA bs:=⟨[ale,alf,nj,ni,ni],[],[nk],[],λ d=>Nj F d.1.1.1 d.1.1.2.1 d.1.1.2.2.1 d.1.1.2.2.2.1 d.1.1.2.2.2.2.1 d.1.1.2.2.2.2.2.1 d.1.1.2.2.2.2.2.2.1 d.1.2.1.1 d.1.2.1.2.1 d.1.2.1.2.2.1 d.1.2.1.2.2.2.1 d.1.2.1.2.2.2.2.1 d.1.2.2.1 d.1.2.2.2.1 d.1.2.2.2.2.1⟩
theorem aw_(F:Nat):(X8 F).Eq aI (I0 F).t.bw (I0 F).t.LE 8:=λ da db=>by kernel_rfl
theorem avy(F:Nat):kH aI 8 ((X8 F).run aI):=Ul kg (lV kg ((I0 F).ok kg).ce ((I0 F).ok kg).le 100) ((I0 F).ok kg).le rfl (aw_ F)
section
variable{F:Nat->Prop}{w:World}{cs:List Value}
theorem QZ{d:bs.El 3}(h:((ay.fv .i64)).rd F w cs d):(bs.ty 3).rd F w cs d:=by obtain rfl:cs=_:=h;change fs (λ t=>(fZ GA t).ty) F w [.i .i64] _ (d,());exact⟨_,_,rfl,rfl,rfl⟩
theorem alW{d:bs.El 136}(h:(I.jY).rd F w cs d):(bs.ty 136).rd F w cs d:=by obtain rfl:cs=_:=h;change fs (λ t=>(fZ JK t).ty) F w [.s,.i .i64,.s] _ (d.Name,d.Kind.Kind,d.Kind.aq,());exact⟨_,_,rfl,rfl,_,_,rfl,rfl,_,_,rfl,rfl,rfl⟩
theorem aIF{d:bs.El 128}(h:(I.E8).rd F w cs d):(bs.ty 128).rd F w cs d:=by obtain rfl:cs=_:=h;change fs (λ t=>(fZ N6 t).ty) F w [.i .i64,.s] _ (d.Kind,d.aq,());exact⟨_,_,rfl,rfl,_,_,rfl,rfl,rfl⟩
theorem aII{d:bs.El 157}(h:(I.E7).rd F w cs d):(bs.ty 157).rd F w cs d:=by obtain rfl:cs=_:=h;change fs (λ t=>(fZ N4 t).ty) F w [.i .i64,.i .i64,.i .i64,.s] _ (d.From,d.To,d.At,d.aq,());exact⟨_,_,rfl,rfl,_,_,rfl,rfl,_,_,rfl,rfl,_,_,rfl,rfl,rfl⟩
theorem aIG{d:bs.El 131}(h:(I.r6).rd F w cs d):(bs.ty 131).rd F w cs d:=by obtain⟨_,_,_,_,rfl,J,a⟩:=h;change fs (λ t=>(fZ N7 t).ty) F w [.s,.b,.l 128,.i .i64,.s,.i .i64,.i .i64,.s,.l 157] _ (d.Name,d.Static,d.cF,d.Returns.Kind,d.Returns.aq,d.ia,d.h9,d.Code,d.cL,());exact⟨_,_,rfl,rfl,_,_,rfl,rfl,_,_,rfl,jV (λ _ _=>aIF) J,_,_,rfl,rfl,_,_,rfl,rfl,_,_,rfl,rfl,_,_,rfl,rfl,_,_,rfl,rfl,_,_,rfl,jV (λ _ _=>aII) a,rfl⟩
theorem aIH{d:bs.El 134}(h:(I.k5).rd F w cs d):(bs.ty 134).rd F w cs d:=by obtain⟨_,_,_,_,rfl,J,a⟩:=h;change fs (λ t=>(fZ N5 t).ty) F w [.s,.s,.l 136,.l 131] _ (d.Name,d.dc,d.Fields,d.bp,());exact⟨_,_,rfl,rfl,_,_,rfl,rfl,_,_,rfl,jV (λ _ _=>alW) J,_,_,rfl,jV (λ _ _=>aIG) a,rfl⟩
theorem aIE{d:bs.El 124}(h:((b7 I.jY)).rd F w cs d):(bs.ty 124).rd F w cs d:=by obtain⟨A,c,rfl⟩:=n2 h;change fs (λ t=>(fZ UF t).ty) F w [.l 136] _ (d,());exact⟨_,_,rfl,jV (λ _ _=>alW) h,rfl⟩
theorem aIK{d:bs.El 9}(h:(jX).rd F w cs d):(bs.ty 9).rd F w cs d:=by obtain rfl:cs=_:=h;change fs (λ t=>(fZ N9 t).ty) F w [.s] _ (d,());exact⟨_,_,rfl,rfl,rfl⟩
theorem aIC{d:bs.El 120}(h:((b7 jX)).rd F w cs d):(bs.ty 120).rd F w cs d:=by obtain⟨A,c,rfl⟩:=n2 h;change fs (λ t=>(fZ UG t).ty) F w [.l 9] _ (d,());exact⟨_,_,rfl,jV (λ _ _=>aIK) h,rfl⟩
theorem aIJ{d:bs.El 166}(h:(I.k6).rd F w cs d):(bs.ty 166).rd F w cs d:=by obtain rfl:cs=_:=h;change fs (λ t=>(fZ N8 t).ty) F w [.i .i64,.i .i64] _ (d.aq,d.Method,());exact⟨_,_,rfl,rfl,_,_,rfl,rfl,rfl⟩
theorem aID{d:bs.El 121}(h:((b7 I.k6)).rd F w cs d):(bs.ty 121).rd F w cs d:=by obtain⟨A,c,rfl⟩:=n2 h;change fs (λ t=>(fZ UE t).ty) F w [.l 166] _ (d,());exact⟨_,_,rfl,jV (λ _ _=>aIJ) h,rfl⟩
end
end Go.Proofs.YteeliipnilghaaaGreat
namespace I
theorem cg{n:Int}(a: -9223372036854775808<=n)(b:n<=9223372036854775807):aw n=n:=by unfold aw;omega
theorem eO{i n:Nat}(hi:i<n)(a:n<=140737488355328):aw ((i:Int)+1)=((i+1 :Nat):Int):=by rw[cg (by omega) (by omega)];omega
theorem bu{α:Type}{l:List α}{i:Nat}{x:α}(h:l[i]? =some x):idx l (i:Int)=some x:=by unfold idx;rw[nf (by omega)];simpa using h
theorem bM{i n:Nat}(h:i<n):decide ((i:Int)<(n:Int))=true:=mU (by omega)
theorem bL(n:Nat):decide ((n:Int)<(n:Int))=false:=mV (by omega)
def cC{ρ:Type}:Option ρ->Way ρ Unit
 |some r=>.out r
 |none=>.go ()
def ht{ρ:Type}(o:Option ρ)(y:Option (Way ρ Unit)):Option (Way ρ Unit):=match o with
 |some r=>some (.out r)
 |none=>y
theorem each{α ρ:Type}{l:List α}{L:Nat->Int->Option (Way ρ Unit)}(g:α->Option ρ)(a:l.length<=140737488355328)
 (aj:∀k (i:Nat) x,l[i]? =some x->L (k+1) (i:Int)=ht (g x) (L k (aw ((i:Int)+1))))
 (b:∀k,L (k+1) (l.length:Int)=some (.go ())){F:Nat}(c:l.length<F):L F 0=some (cC (l.findSome? g)):=by
 have key:∀(d i k:Nat),i+d=l.length->d<k->L k (i:Int)=some (cC ((l.drop i).findSome? g)):=by
  intro d;induction d with
  |zero=>
   intro i k h e;obtain⟨k,rfl⟩:∃k',k=k'+1:=⟨k-1,by omega⟩
   have hi:i=l.length:=by omega
   subst hi;rw[b];simp[cC]
  |succ d f=>
   intro i k h e;obtain⟨k,rfl⟩:∃k',k=k'+1:=⟨k-1,by omega⟩
   have hi:i<l.length:=by omega
   rw[aj k i l[i] (aN hi),de hi,iU];cases j:g l[i]with
   |some r=>rfl
   |none=>simp only[ht];rw[eO hi a];exact f (i+1) k (by omega) (by omega)
 have:=key l.length 0 F (by omega) c
 simpa using this
theorem lh{ρ:Type}{n:Nat}{L:Nat->Int->Option (Way ρ Unit)}(g:Nat->Option ρ)(b:n<=140737488355328)
 (aj:∀k (i:Nat),i<n->L (k+1) (i:Int)=ht (g i) (L k (aw ((i:Int)+1))))
 (c:∀k,L (k+1) (n:Int)=some (.go ())){F:Nat}(d:n<F):L F 0=some (cC ((ef n).findSome? g)):=by
 have h:=each (l:=ef n) (L:=L) g (by simpa using b) (λ k i x a=>by
  have hi:i<n:=by have:=(aR.1 a).1;simpa using this
  rw[lZ hi]at a;simp only[aF]at a;subst a;exact aj k i hi) (λ k=>by simpa using c k) (F:=F) (by simpa using d)
 exact h
theorem PV{σ:Type}{n:Nat}(T:Nat->Nat->Option σ)(fin:σ)(aj:∀k i,i<n->T (k+1) i=T k (i+1))(a:∀k,T (k+1) n=some fin){F:Nat}(b:n<F):T F 0=some fin:=by
 have key:∀(d i k:Nat),i+d=n->d<k->T k i=some fin:=by
  intro d;induction d with
  |zero=>
   intro i k h c;obtain⟨k,rfl⟩:∃k',k=k'+1:=⟨k-1,by omega⟩
   have hi:i=n:=by omega
   subst hi;exact a k
  |succ d e=>
   intro i k h c;obtain⟨k,rfl⟩:∃k',k=k'+1:=⟨k-1,by omega⟩
   rw[aj k i (by omega)];exact e (i+1) k (by omega) (by omega)
 exact key n 0 F (by omega) b
abbrev Small(F n:Nat):Prop:=n<=140737488355328/\n<F
def uO(b:UInt8):Bool:=((((decide (97<=(b.toNat:Int)))&&(decide ((b.toNat:Int)<=122)))||((decide (65<=(b.toNat:Int)))&&(decide ((b.toNat:Int)<=90))))||((decide (48<=(b.toNat:Int)))&&(decide ((b.toNat:Int)<=57))))||(decide ((b.toNat:Int)=95))
def gC(s:List UInt8):Bool:=(s.findSome? λ b=>if uO b then none else some ()).isNone&&decide (s≠[])&&decide (s.length<=20)
theorem CW{F:Nat}{s:List UInt8}(h:Small F s.length):pP F s=some (gC s):=by
 unfold pP;have l1:=each (l:=s) (L:=uJ s) (λ b=>if uO b then none else some false) h.1 (λ k i x a=>by
  rw[uJ,bM (aR.1 a).1,ng,bu a,ae];show cond (!uO x) _ _=_
  cases uO x<;>rfl) (λ k=>by rw[uJ,bL];rfl) h.2
 rw[l1];unfold gC;have e:∀s:List UInt8,s.findSome? (λ b=>if uO b then none else some false)=(s.findSome? (λ b=>if uO b then none else some ())).map (λ _=>false):=by
  intro s;induction s with
  |nil=>rfl
  |cons b r c=>simp only[iU];cases uO b<;>simp[c]
 rw[e];cases s.findSome? (λ b=>if uO b then none else some ())with
 |some _=>rfl
 |none=>simp only[je,cC,r3,Option.isNone_none,j7];congr 1;rw[iy];cases s<;>first |(simp;done)|(simp;omega)
theorem Hj{F:Nat}{s:List UInt8}(h:Small F s.length):o_ F s=some (gC s):=by
 rw[<-CW h];unfold o_ pP bytesOf;rw[nf h.1,ae];have e:∀k n,Ea s k n=uJ s k n:=by
  intro k;induction k with
  |zero=>intro n;rfl
  |succ k a=>
   intro n;rw[Ea,uJ];simp only[a];congr 1;congr 1;funext b;have hc:(((((decide ((b.toNat:Int)<97))||(decide (122<(b.toNat:Int))))&&((decide ((b.toNat:Int)<65))||(decide (90<(b.toNat:Int)))))&&((decide ((b.toNat:Int)<48))||(decide (57<(b.toNat:Int)))))&&(!decide ((b.toNat:Int)=95)))= !uO b:=by unfold uO;rw[iy];first |(simp;done)|(simp;omega)
   rw[hc];rfl
 rw[e];cases uJ s F 0 with
 |none=>rfl
 |some w=>
  cases w with
  |out r=>rfl
  |go u=>simp only[r3];congr 1;rw[iy];cases s<;>first |(simp;done)|(simp;omega)
def kindOk(k:Kind):Bool:=if k.Kind=3\/k.Kind=4 then gC k.aq else(decide (k.Kind=1)||decide (k.Kind=2))&&decide (k.aq=[])
theorem XN{F:Nat}{k:Kind}(h:Small F k.aq.length):xG F k=some (kindOk k):=by unfold xG Pn kindOk;simp only[ae,Hj h];by_cases a:k.Kind=3\/k.Kind=4;rw[nf a];rcases a with e |e<;>simp[e];rw[nc a];have aW: ¬k.Kind=3:=λ e=>a (.inl e);have bR: ¬k.Kind=4:=λ e=>a (.inr e);simp[aW,bR]
theorem TJ{F:Nat}{k:Kind}(h:Small F k.aq.length):wJ F k=some (kindOk k):=by unfold wJ kindOk;simp only[CW h,ae];by_cases a:k.Kind=3\/k.Kind=4;rw[nf a];rcases a with e |e<;>simp[e];rw[nc a];have aW: ¬k.Kind=3:=λ e=>a (.inl e);have bR: ¬k.Kind=4:=λ e=>a (.inr e);by_cases b:k.Kind=1;simp[b];by_cases J:k.Kind=2;simp[J];simp[aW,bR,b,J]
def ix(n a b:Int):Bool:=decide (a<=n)&&decide (n<=b)
def u2(h:Handler):Option Int:=if gC h.aq then(if ix h.From 0 200&&ix h.To 0 200&&ix h.At 0 200 then none else some 3)else some 1
def xK(k:Kind):Option Int:=if kindOk k then none else some 7
def EE(m:Method):Int:=
 if gC m.Name then
  if 4<m.cF.length\/200<m.Code.length\/4<m.cL.length then 2
  else if ix m.ia 0 10&&ix m.h9 0 10 then
   match m.cF.findSome? xK with
   |some e=>e
   |none=>if m.Returns=⟨0,[]⟩\/kindOk m.Returns=true then(m.cL.findSome? u2).getD 0 else 7
  else 3
 else 1
structure Method.Fits (F:Nat) (m:Method):Prop where
 name:Small F m.Name.length
 args:Small F m.cF.length
 arg:∀k∈m.cF,Small F k.aq.length
 ret:Small F m.Returns.aq.length
 Ai:Small F m.cL.length
 hand:∀h∈m.cL,Small F h.aq.length
structure aq.Fits (F:Nat) (c:aq):Prop where
 name:Small F c.Name.length
 super:Small F c.dc.length
 fields:Small F c.Fields.length
 field:∀f∈c.Fields,Small F f.Name.length/\Small F f.Kind.aq.length
 methods:Small F c.bp.length
 method:∀m∈c.bp,m.Fits F
def Fits(F:Nat)(l:List aq):Prop:=Small F l.length/\∀c∈l,c.Fits F
theorem anD{F:Nat}(o:Option Int)(d:Int):cr (α:=Unit) (some (cC o)) (λ _=>some d)=some (o.getD d):=by cases o<;>rfl
theorem anE{o:Option Int}{k:Option Int}:cr (α:=Unit) (some (cC o)) (λ _=>k)=(match o with|some e=>some e |none=>k):=by cases o<;>rfl
theorem aCe{F:Nat}{m:Method}(h:m.Fits F):Ed F m=some (EE m):=by
 have l1:AB F m F 0=some (cC (m.cF.findSome? xK)):=each xK h.args.1 (λ k i x a=>by
  rw[AB,bM (aR.1 a).1,ng,bu a,ae,XN (h.arg x (bH a)),ae];unfold xK;show cond (!kindOk x) _ _=_
  cases kindOk x<;>rfl) (λ k=>by rw[AB,bL];rfl) h.args.2
 have g:∀ {x:Handler}(_:x∈m.cL)(Y:Option (Way Int Unit)),((o_ F x.aq).bind λ c=>
  cond (!c) (some (.out 1)) ((nO x.From 0 200).bind λ l=>
  cond (!l) (some (.out 3)) ((nO x.To 0 200).bind λ d=>
  cond (!d) (some (.out 3)) ((nO x.At 0 200).bind λ f=>
  cond (!f) (some (.out 3)) Y))))=ht (u2 x) Y:=by
  intro x a Y
  rw[Hj (h.hand x a)]
  unfold u2 nO
  simp only[ae]
  show cond (!gC x.aq) _ (cond (!ix x.From 0 200) _ (cond (!ix x.To 0 200) _ (cond (!ix x.At 0 200) _ _)))=_
  cases gC x.aq<;>cases ix x.From 0 200<;>cases ix x.To 0 200<;>cases ix x.At 0 200<;>rfl
 have n:Ef F m F 0=some (cC (m.cL.findSome? u2)):=each u2 h.Ai.1 (λ k i x a=>by rw[Ef,bM (aR.1 a).1,ng,bu a,ae];exact g (bH a) _) (λ k=>by rw[Ef,bL];rfl) h.Ai.2;have o:tg F m F 0=some (cC (m.cL.findSome? u2)):=each u2 h.Ai.1 (λ k i x a=>by rw[tg,bM (aR.1 a).1,ng,bu a,ae];exact g (bH a) _) (λ k=>by rw[tg,bL];rfl) h.Ai.2;unfold Ed nO EE;rw[Hj h.name,l1,n,o];have p:=XN (F:=F) (k:=(⟨m.Returns.Kind,m.Returns.aq⟩:Kind)) h.ret;simp only[ae,p,anD (F:=F),anE];cases gC m.Name with
 |false=>rfl
 |true=>
  simp only[dS,nh,if_true];by_cases j:4<m.cF.length\/200<m.Code.length\/4<m.cL.length
  ·rw[nf j];have:((decide (4<(m.cF.length:Int)))||(decide (200<(m.Code.length:Int)))||(decide (4<(m.cL.length:Int))))=true:=by simp;omega
   rw[this];rfl
  ·rw[nc j];have:((decide (4<(m.cF.length:Int)))||(decide (200<(m.Code.length:Int)))||(decide (4<(m.cL.length:Int))))=false:=by simp;omega
   rw[this];show cond (!ix m.ia 0 10) _ (cond (!ix m.h9 0 10) _ _)=_
   cases ix m.ia 0 10<;>cases ix m.h9 0 10<;>try rfl
   simp only[dS,nh,Bool.and_self,if_true];cases m.cF.findSome? xK with
   |some e=>rfl
   |none=>
    simp only;by_cases b:m.Returns=⟨0,[]⟩
    ·rw[nf (.inl b),show(decide ((⟨m.Returns.Kind,m.Returns.aq⟩:Kind)=⟨0,[]⟩))=true from mU b];rfl
    ·rw[show(decide ((⟨m.Returns.Kind,m.Returns.aq⟩:Kind)=⟨0,[]⟩))=false from mV b];simp only[ib,ng];show cond (!kindOk m.Returns) _ _=_
     cases q:kindOk m.Returns with
     |true=>rw[nf (.inr rfl)];rfl
     |false=>rw[nc (by simp[b])];rfl
theorem auV{F:Nat}{m:Method}(h:m.Fits F):CR F m=some (EE m):=by
 have l1:CS F m F 0=some (cC (m.cF.findSome? xK)):=each xK h.args.1 (λ k i x c=>by rw[CS,bM (aR.1 c).1,ng,bu c,ae,TJ (h.arg x (bH c)),ae];unfold xK;cases kindOk x<;>rfl) (λ k=>by rw[CS,bL];rfl) h.args.2;have g:CT F m F 0=some (cC (m.cL.findSome? u2)):=each u2 h.Ai.1 (λ k i x c=>by
  rw[CT,bM (aR.1 c).1,ng,bu c,ae,CW (h.hand x (bH c))];unfold u2 gp;simp only[ae];show cond (!gC x.aq) _ (cond (!ix x.From 0 200) _ (cond (!ix x.To 0 200) _ (cond (!ix x.At 0 200) _ _)))=_
  cases gC x.aq<;>cases ix x.From 0 200<;>cases ix x.To 0 200<;>cases ix x.At 0 200<;>rfl) (λ k=>by rw[CT,bL];rfl) h.Ai.2
 unfold CR gp EE;rw[CW h.name,l1,g];have j:=TJ (F:=F) (k:=(⟨m.Returns.Kind,m.Returns.aq⟩:Kind)) h.ret;simp only[ae,j,anD (F:=F),anE];cases gC m.Name with
 |false=>rfl
 |true=>
  simp only[dS,nh,if_true];by_cases f:4<m.cF.length\/200<m.Code.length\/4<m.cL.length
  ·rw[nf f];have:((decide (4<(m.cF.length:Int)))||(decide (200<(m.Code.length:Int)))||(decide (4<(m.cL.length:Int))))=true:=by simp;omega
   rw[this];rfl
  ·rw[nc f];have:((decide (4<(m.cF.length:Int)))||(decide (200<(m.Code.length:Int)))||(decide (4<(m.cL.length:Int))))=false:=by simp;omega
   rw[this];show cond (!ix m.ia 0 10) _ (cond (!ix m.h9 0 10) _ _)=_
   cases ix m.ia 0 10<;>cases ix m.h9 0 10<;>try rfl
   simp only[dS,nh,Bool.and_self,if_true];cases m.cF.findSome? xK with
   |some e=>rfl
   |none=>
    simp only;show cond ((!kindOk m.Returns)&&_) _ _=_
    by_cases d:m.Returns=⟨0,[]⟩
    ·rw[nf (.inl d),d];simp
    ·have l:((!decide (m.Returns.Kind=0))||(!decide (m.Returns.aq=[])))=true:=by
      rcases n:m.Returns with⟨a,b⟩;rw[n]at d;by_cases ap:a=0
      ·by_cases ag:b=[]
       ·subst ap;subst ag;exact absurd rfl d
       ·simp[ag]
      ·simp[ap]
     rw[l];cases o:kindOk m.Returns with
     |true=>rw[nf (.inr rfl)];rfl
     |false=>rw[nc (by simp[d])];rfl
def iO(f:Field):Option Int:=if gC f.Name then(if kindOk f.Kind then none else some 7)else some 1
def gF(e:Int):Option Int:=if e=0 then none else some e
def hp(m:Method):Option Int:=gF (EE m)
def Gl(c:aq):Int:=
 if gC c.Name&&(decide (c.dc=[])||gC c.dc)then
  if 6<c.Fields.length\/8<c.bp.length then 2
  else(c.Fields.findSome? iO).getD ((c.bp.findSome? hp).getD 0)
 else 1
def sK(c:aq):Option Int:=gF (Gl c)
def pX(l:List aq):Int:=if 10<l.length then 2 else(l.findSome? sK).getD 0
def qn{ρ:Type}(o:Option ρ)(y:Option ρ):Option ρ:=match o with
 |some e=>some e
 |none=>y
theorem Y8{e:Int}{Y:Option (Way Int Unit)}:cond (!decide (e=0)) (some (.out e)) Y=ht (gF e) Y:=by unfold gF ht;by_cases h:e=0;rw[nf h,mU h];rfl;rw[nc h,mV h];rfl
theorem afj{a b:Nat}(x y:Nat):((decide ((x:Int)<(a:Int)))||(decide ((y:Int)<(b:Int))))=decide (x<a\/y<b):=by rw[iy];simp
theorem pv{o:Option Int}{k:Unit->Option (Way Int Unit)}:df (α:=Unit) (some (cC o)) k=ht o (k ()):=by cases o<;>rfl
theorem kz{ρ:Type}{o:Option ρ}{k:Unit->Option ρ}:cr (α:=Unit) (some (cC o)) k=qn o (k ()):=by cases o<;>rfl
theorem r4{o:Option Int}{Y:Option (Way Int Unit)}{k:Unit->Option (Way Int Unit)}:df (α:=Unit) (ht o Y) k=ht o (df (α:=Unit) Y k):=by cases o<;>rfl
section
variable{F:Nat}
theorem aCd{c:aq}(h:c.Fits F):KW F c=some (Gl c):=by
 have ad:∀ {x:Field}(_:x∈c.Fields)(Y:Option (Way Int Unit)),((o_ F x.Name).bind λ j=>
  cond (!j) (some (.out 1)) ((xG F (⟨x.Kind.Kind,x.Kind.aq⟩:Kind)).bind λ LI=>
  cond (!LI) (some (.out 7)) Y))=ht (iO x) Y:=by
  intro x a Y
  rw[Hj (h.field x a).1,XN (k:=(⟨x.Kind.Kind,x.Kind.aq⟩:Kind)) (h.field x a).2]
  unfold iO
  simp only[ae]
  show cond (!gC x.Name) _ (cond (!kindOk x.Kind) _ _)=_
  cases gC x.Name<;>cases kindOk x.Kind<;>rfl
 have d:∀ {x:Method}(_:x∈c.bp)(Y:Option (Way Int Unit)),((Ed F (⟨x.Name,x.Static,x.cF,(⟨x.Returns.Kind,x.Returns.aq⟩:Kind),x.ia,x.h9,x.Code,x.cL⟩:Method)).bind λ f=>
  cond (!decide (f=0)) (some (.out f)) Y)=ht (hp x) Y:=by
  intro x a Y
  have:=aCe (F:=F) (m:=(⟨x.Name,x.Static,x.cF,(⟨x.Returns.Kind,x.Returns.aq⟩:Kind),x.ia,x.h9,x.Code,x.cL⟩:Method)) (h.method x a)
  rw[this,ae]
  exact Y8
 have l1:Eb F c F 0=some (cC (c.Fields.findSome? iO)):=each iO h.fields.1 (λ k i x a=>by rw[Eb,bM (aR.1 a).1,ng,bu a,ae];exact ad (bH a) _) (λ k=>by rw[Eb,bL];rfl) h.fields.2;have l:xF F c F 0=some (cC (c.Fields.findSome? iO)):=each iO h.fields.1 (λ k i x a=>by rw[xF,bM (aR.1 a).1,ng,bu a,ae];exact ad (bH a) _) (λ k=>by rw[xF,bL];rfl) h.fields.2;have n:Ec F c F 0=some (cC (c.bp.findSome? hp)):=each hp h.methods.1 (λ k i x a=>by rw[Ec,bM (aR.1 a).1,ng,bu a,ae];exact d (bH a) _) (λ k=>by rw[Ec,bL];rfl) h.methods.2;have o:tf F c F 0=some (cC (c.bp.findSome? hp)):=each hp h.methods.1 (λ k i x a=>by rw[tf,bM (aR.1 a).1,ng,bu a,ae];exact d (bH a) _) (λ k=>by rw[tf,bL];rfl) h.methods.2;unfold KW Gl;rw[Hj h.name,Hj h.super,l1,n,l,o];simp only[ae,kz,show(6 :Int)=((6 :Nat):Int) from rfl,show(8 :Int)=((8 :Nat):Int) from rfl,afj];cases gC c.Name with
 |false=>rfl
 |true=>
  simp only[dS,nh,j7]
  have g:∀p:Bool,p=decide (6<c.Fields.length\/8<c.bp.length)->cond p (some (2 :Int)) (qn (c.Fields.findSome? iO) (qn (c.bp.findSome? hp) (some 0)))=
   some (if 6<c.Fields.length\/8<c.bp.length then 2 else(c.Fields.findSome? iO).getD ((c.bp.findSome? hp).getD 0)):=by
   intro p q
   subst q
   by_cases b:6<c.Fields.length\/8<c.bp.length
   ·rw[nf b,mU b];rfl
   ·rw[nc b,mV b];cases c.Fields.findSome? iO with
    |some e=>rfl
    |none=>cases c.bp.findSome? hp<;>rfl
  by_cases aj:c.dc=[]
  ·rw[mU aj];simp only[dS,nh,Bool.true_or,if_true];exact g _ rfl
  ·rw[mV aj];simp only[ib,ng,iu];cases gC c.dc with
   |false=>rfl
   |true=>simp only[dS,nh,if_true];exact g _ rfl
theorem aCc{l:List aq}(h:Fits F l):KV F l=some (pX l):=by have l1:AA F l F 0=some (cC (l.findSome? sK)):=each sK h.1.1 (λ k i x a=>by rw[AA,bM (aR.1 a).1,ng,bu a,ae,aCd (c:=(⟨x.Name,x.dc,x.Fields,x.bp⟩:aq)) (h.2 x (bH a)),ae];exact Y8) (λ k=>by rw[AA,bL];rfl) h.1.2;unfold KV pX;rw[l1,kz];by_cases b:10<l.length;rw[nf b,mU (show(10 :Int)<(l.length:Int) by omega)];rfl;rw[nc b,mV (show¬(10 :Int)<(l.length:Int) by omega)];cases l.findSome? sK<;>rfl
theorem auU{l:List aq}(h:Fits F l):Jb F l=some (pX l):=by
 have body:∀ {c:aq}(_:c.Fits F),F5 F c F 0=some (cC (c.Fields.findSome? iO))/\zn F c F 0=some (cC (c.Fields.findSome? iO))/\F6 F c F 0=some (cC (c.bp.findSome? hp))/\zo F c F 0=some (cC (c.bp.findSome? hp)):=by
  intro c hc
  have ad:∀ {x:Field}(_:x∈c.Fields)(i:Int)(_:idx c.Fields i=some x)(Y:Option (Way Int Unit)),((pP F x.Name).bind λ o=>
   cond (!o) (some (.out 1)) ((idx c.Fields i).bind λ x=>(wJ F (⟨x.Kind.Kind,x.Kind.aq⟩:Kind)).bind λ LI=>
   cond (!LI) (some (.out 7)) Y))=ht (iO x) Y:=by
   intro x a i hi Y
   rw[CW (hc.field x a).1,hi]
   unfold iO
   simp only[ae]
   rw[TJ (k:=(⟨x.Kind.Kind,x.Kind.aq⟩:Kind)) (hc.field x a).2,ae]
   show cond (!gC x.Name) _ (cond (!kindOk x.Kind) _ _)=_
   cases gC x.Name<;>cases kindOk x.Kind<;>rfl
  have b:∀ {x:Method}(_:x∈c.bp)(Y:Option (Way Int Unit)),((CR F x).bind λ j=>
   cond (!decide (j=0)) (some (.out j)) Y)=ht (hp x) Y:=by
   intro x a Y
   rw[auV (hc.method x a),ae]
   exact Y8
  refine⟨each iO hc.fields.1 (λ k i x a=>?_) (λ k=>by rw[F5,bL];rfl) hc.fields.2,each iO hc.fields.1 (λ k i x a=>?_) (λ k=>by rw[zn,bL];rfl) hc.fields.2,
   each hp hc.methods.1 (λ k i x a=>?_) (λ k=>by rw[F6,bL];rfl) hc.methods.2,each hp hc.methods.1 (λ k i x a=>?_) (λ k=>by rw[zo,bL];rfl) hc.methods.2⟩
  ·rw[F5,bM (aR.1 a).1,ng,bu a,ae];rw[<-bu a];exact ad (bH a) _ (bu a) _
  ·rw[zn,bM (aR.1 a).1,ng,bu a,ae];rw[<-bu a];exact ad (bH a) _ (bu a) _
  ·rw[F6,bM (aR.1 a).1,ng,bu a,ae];exact b (bH a) _
  ·rw[zo,bM (aR.1 a).1,ng,bu a,ae];exact b (bH a) _
 have l1:CC F l F 0=some (cC (l.findSome? sK)):=each sK h.1.1 (λ k i c a=>by
  have hc:=h.2 c (bH a);obtain⟨q,r,e5,s⟩:=body hc;rw[CC,bM (aR.1 a).1,ng,bu a,ae,CW hc.name,CW hc.super,q,e5,r,s];simp only[ae,pv,show(6 :Int)=((6 :Nat):Int) from rfl,show(8 :Int)=((8 :Nat):Int) from rfl,afj];unfold sK Gl;cases gC c.Name with
  |false=>rfl
  |true=>
   simp only[dS,nh,j7]
   have m:∀(p:Bool)(Y:Option (Way Int Unit)),p=decide (6<c.Fields.length\/8<c.bp.length)->df (α:=Unit) (cond p (some (.out (2 :Int))) (ht (c.Fields.findSome? iO) (ht (c.bp.findSome? hp) (some (.go ()))))) (λ _=>Y)=
    ht (gF (if 6<c.Fields.length\/8<c.bp.length then 2 else(c.Fields.findSome? iO).getD ((c.bp.findSome? hp).getD 0))) Y:=by
    intro p Y t
    subst t
    by_cases d:6<c.Fields.length\/8<c.bp.length
    ·rw[nf d,mU d];rfl
    ·rw[nc d,mV d,nh];have f:∀e,c.Fields.findSome? iO=some e->gF e=some e:=by intro e g;obtain⟨x,_,a⟩:=eE g;unfold iO at a;split at a;split at a;cases a;injection a with a;subst a;rfl;injection a with a;subst a;rfl
     have u:∀e,c.bp.findSome? hp=some e->gF e=some e:=by intro e g;obtain⟨x,_,a⟩:=eE g;unfold hp at a;unfold gF at a⊢;split at a;cases a;rename_i v;injection a with a;subst a;rw[nc v]
     cases ad:c.Fields.findSome? iO with
     |some e=>simp only[iX,f e ad];rfl
     |none=>
      cases b:c.bp.findSome? hp with
      |some e=>simp only[iX,jN,u e b];rfl
      |none=>rfl
   by_cases aj:c.dc=[]
   ·rw[mU aj];simp only[dS,nh,Bool.true_or,if_true];exact m _ _ rfl
   ·rw[mV aj];simp only[ib,ng,iu];cases gC c.dc with
    |false=>rfl
    |true=>simp only[dS,nh,if_true];exact m _ _ rfl) (λ k=>by rw[CC,bL];rfl) h.1.2
 unfold Jb pX;rw[l1,kz];by_cases n:10<l.length;rw[nf n,mU (show(10 :Int)<(l.length:Int) by omega)];rfl;rw[nc n,mV (show¬(10 :Int)<(l.length:Int) by omega)];cases l.findSome? sK<;>rfl
end
structure Right (l:List aq):Prop where
 len:l.length<=10
 name:∀c∈l,gC c.Name=true
 fields:∀c∈l,c.Fields.length<=6
 methods:∀c∈l,c.bp.length<=8
 method:∀c∈l,∀m∈c.bp,m.cF.length<=4/\m.cL.length<=4
theorem aEN{m:Method}(h:EE m=0):m.cF.length<=4/\m.cL.length<=4:=by unfold EE at h;split at h;split at h;exact absurd h (by decide);rename_i a;exact⟨by omega,by omega⟩;exact absurd h (by decide)
theorem aF0{e:Int}(h:gF e=none):e=0:=by unfold gF at h;split at h;assumption;cases h
theorem aF1{e x:Int}(h:gF e=some x):x≠0:=by unfold gF at h;split at h;cases h;rename_i a;injection h with h;subst h;exact a
theorem aCp{s:List UInt8}(h:gC s=true):s≠[]:=by unfold gC at h;simp only[cd,decide_eq_true_eq]at h;exact h.1.2
theorem avN{l:List aq}(h:pX l=0):Right l:=by
 unfold pX at h;by_cases f:10<l.length;rw[nf f]at h;exact absurd h (by decide)
 ·rw[nc f]at h
  have i:∀c∈l,Gl c=0:=by
   intro c hc;cases ad:l.findSome? sK with
   |some e=>rw[ad]at h;simp only[iX]at h;subst h;obtain⟨x,_,a⟩:=eE ad;unfold sK gF at a;split at a;cases a;rename_i j;injection a with a;exact absurd a j
   |none=>have:=gS.1 ad c hc;unfold sK gF at this;split at this;assumption;cases this
  have key:∀c∈l,gC c.Name=true/\c.Fields.length<=6/\c.bp.length<=8/\∀m∈c.bp,m.cF.length<=4/\m.cL.length<=4:=by
   intro c hc;have b:=i c hc;unfold Gl at b;split at b
   ·rename_i g;simp only[cd]at g;split at b;exact absurd b (by decide)
    ·rename_i J;refine⟨g.1,by omega,by omega,λ m k=>?_⟩;cases ad:c.Fields.findSome? iO with
     |some e=>rw[ad]at b;simp only[iX]at b;subst b;obtain⟨x,_,a⟩:=eE ad;unfold iO at a;split at a;split at a;cases a;injection a with a;exact absurd a (by decide);injection a with a;exact absurd a (by decide)
     |none=>
      rw[ad]at b;simp only[jN]at b;cases d:c.bp.findSome? hp with
      |some e=>rw[d]at b;simp only[iX]at b;subst b;obtain⟨x,_,a⟩:=eE d;exact absurd rfl (aF1 a)
      |none=>exact aEN (aF0 (gS.1 d m k))
   ·exact absurd b (by decide)
  exact⟨by omega,λ c hc=>(key c hc).1,λ c hc=>(key c hc).2.1,λ c hc=>(key c hc).2.2.1,λ c hc=>(key c hc).2.2.2⟩
def eI{α:Type}(p:α->Bool):List α->Option Nat
 |[]=>none
 |x::r=>if p x then some 0 else(eI p r).map (·+1)
theorem LD{α:Type}{p:α->Bool}:∀ {l:List α}{i:Nat},eI p l=some i->∃x,l[i]? =some x/\p x=true/\∀j y,j<i->l[j]? =some y->p y=false
 |[],i,h=>by simp[eI]at h
 |x::r,i,h=>by
  simp only[eI]at h;split at h;rename_i a;injection h with h;subst h;exact⟨x,rfl,a,λ j y aA=>absurd aA (by omega)⟩
  ·rename_i a;cases b:eI p r with
   |none=>rw[b]at h;cases h
   |some k=>
    rw[b]at h;simp only[fY,aF]at h;subst h;obtain⟨y,d,J,e⟩:=LD b;refine⟨y,by simpa using d,J,λ j z aA c=>?_⟩;cases j with
    |zero=>simp only[ee,aF]at c;subst c;simpa using a
    |succ j=>exact e j z (by omega) (by simpa using c)
theorem Zs{α:Type}{p:α->Bool}:∀ {l:List α},eI p l=none->∀x∈l,p x=false
 |[],_,x,a=>by cases a
 |y::r,h,x,a=>by
  simp only[eI]at h;split at h;cases h
  ·rename_i b;have c:eI p r=none:=by simpa using h
   rcases cH.1 a with rfl |e;simpa using b;exact Zs c x e
theorem aGw{α:Type}{p:α->Bool}{l:List α}{i:Nat}{x:α}(hi:l[i]? =some x)(a:p x=true)(ag:∀j y,j<i->l[j]? =some y->p y=false):eI p l=some i:=by
 cases h:eI p l with
 |none=>have:=Zs h x (bH hi);rw[a]at this;cases this
 |some j=>obtain⟨y,b,J,c⟩:=LD h;rcases Nat.lt_trichotomy i j with e |e |e;have:=c i x e hi;rw[a]at this;cases this;rw[e];have:=ag j y e b;rw[J]at this;cases this
theorem Zr{α:Type}{p:α->Bool}{l:List α}{i:Nat}(h:eI p l=some i):i<l.length:=by obtain⟨x,a,_⟩:=LD h;exact(aR.1 a).1
theorem Va{α ρ:Type}{l:List α}{L:Nat->Int->Option (Way ρ Unit)}(p:α->Bool)(f:Nat->ρ)(a:l.length<=140737488355328)
 (aj:∀k (i:Nat) x,l[i]? =some x->L (k+1) (i:Int)=cond (p x) (some (.out (f i))) (L k (aw ((i:Int)+1))))
 (b:∀k,L (k+1) (l.length:Int)=some (.go ())){F:Nat}(c:l.length<F):L F 0=some (cC ((eI p l).map f)):=by
 have key:∀(d i k:Nat),i+d=l.length->d<k->L k (i:Int)=some (cC ((eI p (l.drop i)).map λ j=>f (i+j))):=by
  intro d;induction d with
  |zero=>
   intro i k h e;obtain⟨k,rfl⟩:∃k',k=k'+1:=⟨k-1,by omega⟩
   have hi:i=l.length:=by omega
   subst hi;rw[b];simp[cC,eI]
  |succ d g=>
   intro i k h e;obtain⟨k,rfl⟩:∃k',k=k'+1:=⟨k-1,by omega⟩
   have hi:i<l.length:=by omega
   rw[aj k i l[i] (aN hi),de hi,eI];cases m:p l[i]with
   |true=>simp[cC]
   |false=>simp only[nh,hM,if_false];rw[eO hi a,g (i+1) k (by omega) (by omega)];congr 2;rw[Option.map_map];congr 1;funext j;simp only[Function.comp];congr 1;omega
 have:=key l.length 0 F (by omega) c
 simpa using this
def gB(nm:List UInt8)(c:aq):Bool:=decide (c.Name=nm)
def cX(l:List aq)(nm:List UInt8):Int:=((eI (gB nm) l).map λ n:Nat=>(n:Int)).getD (-1)
theorem zv{F:Nat}{l:List aq}(h:Small F l.length)(nm:List UInt8):pO F l nm=some (cX l nm):=by unfold pO cX;have l1:CU l nm F 0=some (cC ((eI (gB nm) l).map λ n:Nat=>(n:Int))):=Va (gB nm) _ h.1 (λ k i x a=>by rw[CU,bM (aR.1 a).1,ng,bu a,ae];rfl) (λ k=>by rw[CU,bL];rfl) h.2;rw[l1,kz];cases eI (gB nm) l<;>rfl
theorem Uf{l:List aq}{nm:List UInt8}:cX l nm<l.length:=by
 unfold cX;cases h:eI (gB nm) l with
 |none=>simp only[je,jN];omega
 |some i=>have:=Zr h;simp only[fY,iX];omega
theorem avO{l:List aq}{nm:List UInt8}:cX l nm<0↔eI (gB nm) l=none:=by
 unfold cX;cases h:eI (gB nm) l with
 |none=>simp
 |some i=>simp only[fY,iX];constructor<;>intro h<;>first |omega |cases h
theorem H9{α:Type}{l:List α}{i:Nat}{x:α}(h:l[i]? =some x):l.set i x=l:=by obtain⟨a,e⟩:=aR.1 h;rw[<-e,mv]
theorem NN{α:Type}{b:Nat}{l:List α}(h:l.length*b<=140737488355328):(bI b ([]:List α) l).bind (λ l=>some l)=some l:=by unfold bI;rw[nf (by simpa using h)];simp
theorem aGf{F:Nat}{l:List aq}(j:100<F)(h:Right l):K' F l=some l:=by
 have c2:∀(e7:List Method),e7.length<=8 ->(∀m∈e7,m.cF.length<=4/\m.cL.length<=4)->vv F e7 (e7.length:Int) 0=some e7:=by
  intro e7 f b;refine PV (n:=e7.length) (λ k i=>vv k e7 (e7.length:Int) (i:Int)) e7 (λ k i hi=>?_) (λ k=>?_) (F:=F) (by omega)
  ·obtain⟨x,a⟩:∃x,e7[i]? =some x:=⟨e7[i],aN hi⟩
   have ag:=b x (bH a);show vv (k+1) e7 (e7.length:Int) (i:Int)=_
   rw[vv,bM hi,ng,bu a,ae];unfold abj abi;rw[NN (by omega),ae,NN (by omega),ae,ae,ae];have g:e7.set (i:Int).toNat (⟨x.Name,x.Static,x.cF,(⟨x.Returns.Kind,x.Returns.aq⟩:Kind),x.ia,x.h9,x.Code,x.cL⟩:Method)=e7:=H9 (i:=i) a;simp only[g,bu a,ae];rw[eO hi (by omega)]
  ·show vv (k+1) e7 (e7.length:Int) (e7.length:Int)=_
   rw[vv,bL];rfl
 unfold K';have c1:tA F l F [] 0=some l:=by
  refine PV (n:=l.length) (λ k i=>tA F l k (l.take i) (i:Int)) l (λ k i hi=>?_) (λ k=>?_) (F:=F) (by have:=h.len;omega)
  ·obtain⟨x,a⟩:∃x,l[i]? =some x:=⟨l[i],aN hi⟩
   have c:=bH a;have ad:=h.fields x c;have b:=h.methods x c;have d:=h.len;show tA F l (k+1) (l.take i) (i:Int)=_
   rw[tA,bM hi,ng,bu a,ae];unfold abh abk;rw[NN (by omega),ae,NN (by omega),ae,c2 x.bp b (h.method x c),ae];unfold bI;rw[nf (by simp only[gl,di,gR];omega)];simp only[ae];rw[eO hi (by omega)];have e:l.take i++[(⟨x.Name,x.dc,x.Fields,x.bp⟩:aq)]=l.take (i+1):=by rw[lg,a];rfl
   rw[e]
  ·show tA F l (k+1) (l.take l.length) (l.length:Int)=_
   rw[tA,bL,jy];rfl
 rw[c1];rfl
def e9:Nat->List aq->List (List UInt8×Int)
 |_,[]=>[]
 |k,c::r=>(c.Name,(k:Int))::e9 (k+1) r
theorem HD(nm:List UInt8):∀(l:List aq)(k:Nat),cE (e9 k l) nm=(eI (gB nm) l).map λ n:Nat=>((n+k:Nat):Int)
 |[],k=>rfl
 |c::r,k=>by simp only[e9,cE,eI,gB];by_cases h:c.Name=nm;simp[h];simp only[h,if_false,decide_false,hM];rw[HD nm r (k+1),Option.map_map];congr 1;funext j;simp only[Function.comp];congr 1;omega
theorem ako(c:aq):∀(l:List aq)(k:Nat),e9 k (l++[c])=e9 k l++[(c.Name,((k+l.length:Nat):Int))]
 |[],k=>by simp[e9]
 |d::r,k=>by simp only[ih,e9,di];rw[ako c r (k+1)];congr 4;omega
theorem Hz{cS β:Type} [DecidableEq cS]{k:cS}{v:β}:∀ {m:List (cS×β)},cE m k=none->gy m k v=m++[(k,v)]
 |[],_=>rfl
 |p::r,h=>by simp only[cE]at h;split at h;cases h;rename_i a;simp only[gy,nc a,ih];rw[Hz h]
def CA(l:List aq):Prop:=∀(i j:Nat)(x y:aq),l[i]? =some x->l[j]? =some y->x.Name=y.Name->i=j
theorem aF'{l:List aq}(h:CA l){i:Nat}{x:aq}(hi:l[i]? =some x):cX l x.Name=(i:Int):=by unfold cX;rw[aGw (i:=i) hi (by simp[gB]) (λ j y aA hy=>by simp only[gB,decide_eq_false_iff_not];intro e;have:=h j i y x hy hi e;omega)];rfl
theorem aFq{F:Nat}{l:List aq}(Q:100<F)(h:Right l) :
 (CA l/\qg ⟨l,[],[]⟩ F [] 0=some (.go (e9 0 l))/\wH F l F 0=some (.go ()))\/
 (¬CA l/\(∃m,qg ⟨l,[],[]⟩ F [] 0=some (.out (6,m)))/\wH F l F 0=some (.out 6)):=by
 have A:=h.len
 have B:wH F l F 0=some (cC ((ef l.length).findSome? λ i:Nat=>(l[i]?).bind λ x:aq=>if cX l x.Name=(i:Int)then none else some 6)):=lh _ (by omega) (λ k i hi=>by
  obtain⟨x,c⟩:∃x,l[i]? =some x:=⟨l[i],aN hi⟩
  rw[wH,bM hi,ng,bu c,ae,zv ⟨by omega,by omega⟩,ae,c,ae];by_cases e:cX l x.Name=(i:Int)
  ·rw[nf e,mU e];rfl
  ·rw[nc e,mV e];rfl) (λ k=>by rw[wH,bL];rfl) (by omega)
 have key:∀(d i k:Nat),i+d=l.length->d<k->CA (l.take i) ->
  (CA l/\qg ⟨l,[],[]⟩ k (e9 0 (l.take i)) i=some (.go (e9 0 l)))\/(¬CA l/\∃m,qg ⟨l,[],[]⟩ k (e9 0 (l.take i)) i=some (.out (6,m))):=by
  intro d
  induction d with
  |zero=>
   intro i k hi H n;obtain⟨k,rfl⟩:∃k',k=k'+1:=⟨k-1,by omega⟩
   have e:i=l.length:=by omega
   subst e;rw[jy]at n⊢;left;refine⟨n,?_⟩;rw[qg,bL];rfl
  |succ d I=>
   intro i k hi H n;obtain⟨k,rfl⟩:∃k',k=k'+1:=⟨k-1,by omega⟩
   have o:i<l.length:=by omega
   obtain⟨x,c⟩:∃x,l[i]? =some x:=⟨l[i],aN o⟩
   rw[qg,bM o,ng,bu c,ae,HD];cases p:eI (gB x.Name) (l.take i)with
   |some j=>
    right;obtain⟨y,f,J,_⟩:=LD p;refine⟨λ g=>?_,_,rfl⟩;have K:j<i:=by have:=(aR.1 f).1;simp only[gl]at this;omega
    have hy:l[j]? =some y:=by rw[hx]at f;rw[nf K]at f;exact f
    have:=g j i y x hy c (by simpa[gB]using J);omega
   |none=>
    simp only[je,l7,nh];have r:cE (e9 0 (l.take i)) x.Name=none:=by rw[HD,p];rfl
    rw[Hz r,eO o (by omega)];have L:l.take (i+1)=l.take i++[x]:=by rw[lg,c];rfl
    have ao:e9 0 (l.take i)++[(x.Name,(i:Int))]=e9 0 (l.take (i+1)):=by rw[L,ako];congr 4;simp only[gl];omega
    rw[ao];refine I (i+1) k (by omega) (by omega) ?_;intro a b u v ap ag s;rw[hx]at ap ag;split at ap
    ·split at ag
     ·rename_i M R;have t:=Zs p;have C:∀(q:Nat)(z:aq),q<i->l[q]? =some z->z.Name≠x.Name:=λ q z N O e=>by have:=t z (bH (i:=q) (by rw[hx,nf N];exact O));simp[gB,e]at this
      by_cases w:a=i;by_cases D:b=i;omega;subst w;rw[c]at ap;injection ap with ap;subst ap;exact absurd s.symm (C b v (by omega) ag);by_cases D:b=i;subst D;rw[c]at ag;injection ag with ag;subst ag;exact absurd s (C a u (by omega) ap);exact n a b u v (by rw[hx,nf (by omega)];exact ap) (by rw[hx,nf (by omega)];exact ag) s
     ·cases ag
    ·cases ap
 have E:=key l.length 0 F (by omega) (by omega) (λ i j x y hi=>by simp at hi)
 have P:e9 0 (l.take 0)=[]:=by simp[e9]
 rw[P]at E
 rcases E with⟨g,f⟩|⟨g,f⟩
 ·left;refine⟨g,f,?_⟩;rw[B]
  have:((ef l.length).findSome? λ i:Nat=>(l[i]?).bind λ x:aq=>if cX l x.Name=(i:Int)then none else some (6 :Int))=none:=by
   rw[gS];intro i hi;obtain⟨x,c⟩:∃x,l[i]? =some x:=⟨l[i]'(by simpa using hi),aN _⟩
   rw[c,ae,nf (aF' g c)]
  rw[this];rfl
 ·right;refine⟨g,f,?_⟩;rw[B];cases ad:((ef l.length).findSome? λ i:Nat=>(l[i]?).bind λ x:aq=>if cX l x.Name=(i:Int)then none else some (6 :Int))with
  |some e=>
   obtain⟨i,_,hi⟩:=eE ad;cases c:l[i]? with
   |none=>rw[c]at hi;cases hi
   |some x=>rw[c,ae]at hi;split at hi;cases hi;injection hi with hi;subst hi;rfl
  |none=>
   exfalso
   apply g
   have G:∀(i:Nat)(x:aq),l[i]? =some x->cX l x.Name=(i:Int):=by intro i x c;have:=gS.1 ad i (by have:=(aR.1 c).1;simpa using this);rw[c,ae]at this;split at this;assumption;cases this
   intro i j x y c hy e
   have f:=G i x c
   have J:=G j y hy
   rw[e]at f
   omega
def Fb{ρ σ:Type}(o:Option ρ)(a:σ):Way ρ σ:=match o with
 |some r=>.out r
 |none=>.go a
def anH{ρ σ:Type}(o:Option ρ)(y:Option (Way ρ σ)):Option (Way ρ σ):=match o with
 |some r=>some (.out r)
 |none=>y
theorem TW{ρ σ:Type}{n:Nat}(T:Nat->Nat->Option (Way ρ σ))(g:Nat->Option ρ)(fin:σ)(aj:∀k i,i<n->T (k+1) i=anH (g i) (T k (i+1)))(a:∀k,T (k+1) n=some (.go fin)){F:Nat}(b:n<F) :
 T F 0=some (Fb ((ef n).findSome? g) fin):=by
 have key:∀(d i k:Nat),i+d=n->d<k->T k i=some (Fb (((ef n).drop i).findSome? g) fin):=by
  intro d;induction d with
  |zero=>
   intro i k h c;obtain⟨k,rfl⟩:∃k',k=k'+1:=⟨k-1,by omega⟩
   have hi:i=n:=by omega
   subst hi;rw[a,jd (by simp)];rfl
  |succ d e=>
   intro i k h c;obtain⟨k,rfl⟩:∃k',k=k'+1:=⟨k-1,by omega⟩
   have hi:i<n:=by omega
   rw[aj k i hi,de (by simpa using hi),iU];simp only[List.getElem_range];cases f:g i with
   |some r=>rfl
   |none=>simp only[anH];exact e (i+1) k (by omega) (by omega)
 have:=key n 0 F (by omega) b
 simpa using this
theorem Ou{α β ct:Type}(g:α->Option β)(f:β->ct):∀l:List α,l.findSome? (λ c=>(g c).map f)=(l.findSome? g).map f
 |[]=>rfl
 |c::r=>by
  simp only[iU];cases g c with
  |some e=>rfl
  |none=>simp only[je];exact Ou g f r
def dv(l:List aq):List Int:=l.map λ c=>cX l c.dc
theorem abp{l:List aq}{i:Nat}{x:aq}(h:l[i]? =some x):(dv l)[i]? =some (cX l x.dc):=by simp[dv,h]
def vW(c:aq):Option Int:=if(decide (c.Name=[79,98,106,101,99,116]))==(decide (c.dc=[]))then none else some 4
def rO(l:List aq)(c:aq):Option Int:=if c.dc=[]\/0<=cX l c.dc then none else some 5
section
variable{F:Nat}{l:List aq}
theorem aKo(b:100<F)(h:Right l):CL l F 0=some (cC (l.findSome? vW)):=each vW (by have:=h.len;omega) (λ k i x a=>by rw[CL,bM (aR.1 a).1,ng,bu a,ae,ae];unfold vW;cases(decide (x.Name=[79,98,106,101,99,116]))==(decide (x.dc=[]))<;>rfl) (λ k=>by rw[CL,bL];rfl) (by have:=h.len;omega)
theorem aKn(b:100<F)(h:Right l)(m:List (List UInt8×Int))(s:List Int):x5 ⟨l,m,s⟩ F 0=some (cC ((l.findSome? vW).map λ e=>(e,(⟨l,m,s⟩:bt)))):=by
 have:=each (l:=l) (L:=x5 ⟨l,m,s⟩) (λ c=>(vW c).map λ e=>(e,(⟨l,m,s⟩:bt))) (by have:=h.len;omega) (λ k i x a=>by
  rw[x5];show cond (decide ((i:Int)<(l.length:Int))) ((idx l (i:Int)).bind _) _=_
  rw[bM (aR.1 a).1,ng,bu a,ae];unfold vW;cases(decide (x.Name=[79,98,106,101,99,116]))==(decide (x.dc=[]))<;>rfl) (λ k=>by
   rw[x5];show cond (decide ((l.length:Int)<(l.length:Int))) _ _=_
   rw[bL];rfl) (F:=F) (by have:=h.len;omega)
 rw[this,Ou]
theorem aE1(c:100<F)(h:Right l):zs F l F 0=some (cC (l.findSome? (rO l))):=each (rO l) (by have:=h.len;omega) (λ k i x a=>by
 have b:=h.len;rw[zs,bM (aR.1 a).1,ng,bu a,ae,ae,zv ⟨by omega,by omega⟩,ae];unfold rO;by_cases aj:x.dc=[]
 ·rw[nf (.inl aj),mU aj];rfl
 ·rw[mV aj];by_cases hc:0<=cX l x.dc;rw[nf (.inr hc),mV (show¬cX l x.dc<0 by omega)];rfl
  ·rw[nc (by simp[aj,hc]),mU (show cX l x.dc<0 by omega)];rfl) (λ k=>by rw[zs,bL];rfl) (by have:=h.len;omega)
theorem avP(h:Right l):cX l []= -1:=by
 unfold cX;cases a:eI (gB []) l with
 |none=>rfl
 |some i=>obtain⟨x,b,J,_⟩:=LD a;have:=aCp (h.name x (bH b));simp[gB]at J;exact absurd J this
theorem aE0(u:100<F)(h:Right l):∃o:Option (Int×bt),o.map (·.1)=l.findSome? (rO l)/\nV ⟨l,e9 0 l,[]⟩ F [] 0=some (Fb o (dv l)):=by
 have d:=h.len;refine⟨(ef l.length).findSome? λ i=>((l[i]?).bind (rO l)).map λ e=>(e,(⟨l,e9 0 l,(dv l).take i⟩:bt)),?_,?_⟩
 ·have g:∀(n:Nat),n<=l.length->((List.range' (l.length-n) n).findSome? λ i=>((l[i]?).bind (rO l)).map λ e=>(e,(⟨l,e9 0 l,(dv l).take i⟩:bt))).map (·.1)=(l.drop (l.length-n)).findSome? (rO l):=by
   intro n;induction n with
   |zero=>intro _;simp
   |succ n m=>
    intro f;have hi:l.length- (n+1)<l.length:=by omega
    rw[List.range'_succ,iU,de hi,iU,aN hi,ae];cases rO l l[l.length- (n+1)]with
    |some e=>rfl
    |none=>simp only[je];rw[show l.length- (n+1)+1=l.length-n by omega];exact m (by omega)
  have:=g l.length (cP _);simpa[List.range_eq_range']using this
 ·refine TW (n:=l.length) (λ k i=>nV ⟨l,e9 0 l,[]⟩ k ((dv l).take i) (i:Int)) _ (dv l) (λ k i hi=>?_) (λ k=>?_) (F:=F) (by omega)
  ·obtain⟨x,c⟩:∃x,l[i]? =some x:=⟨l[i],aN hi⟩
   show nV ⟨l,e9 0 l,[]⟩ (k+1) ((dv l).take i) (i:Int)=_
   rw[nV];show cond (decide ((i:Int)<(l.length:Int))) (df (α:=List Int) ((idx l (i:Int)).bind _) _) _=_
   rw[bM hi,ng,bu c,ae,c,ae];have a:cE (e9 0 l) x.dc=(eI (gB x.dc) l).map λ n:Nat=>((n+0 :Nat):Int):=HD x.dc l 0;have aW:(dv l).take (i+1)=(dv l).take i++[cX l x.dc]:=by rw[lg,abp c];rfl
   have p:bI 8 ((dv l).take i) [cX l x.dc]=some ((dv l).take (i+1)):=by unfold bI;rw[nf (by simp only[gl,di,gR];omega),aW]
   have fin:∀n:Int,n=cX l x.dc->df (α:=List Int) (df (α:=Int) (ρ:=Int×bt) (some (.go n)) λ(q:Int)=>(bI 8 ((dv l).take i) [q]).bind λ r=>some (.go r)) (λ(s:List Int)=>nV ⟨l,e9 0 l,[]⟩ k s (aw ((i:Int)+1)))=nV ⟨l,e9 0 l,[]⟩ k ((dv l).take (i+1)) ((i+1 :Nat):Int):=by intro n f;subst f;rw[pt,p,ae,pt,eO hi (by omega)]
   unfold rO;by_cases aj:x.dc=[]
   ·rw[nf (.inl aj),mU aj,ng];exact fin (-1) (by rw[aj,avP h])
   ·rw[mV aj,nh];cases b:eI (gB x.dc) l with
    |none=>have v:cX l x.dc<0:=avO.2 b;rw[nc (by simp[aj];omega),a,b];rfl
    |some j=>
     have t:cX l x.dc=(j:Int):=by unfold cX;rw[b];rfl
     rw[nf (.inr (by omega)),a,b];exact fin _ (by rw[t];simp)
  ·show nV ⟨l,e9 0 l,[]⟩ (k+1) ((dv l).take l.length) (l.length:Int)=_
   rw[nV];show cond (decide ((l.length:Int)<(l.length:Int))) _ _=_
   rw[bL,nh,hS (by simp[dv])]
def dE(S:List Int):Nat->Int->Option (List Int)
 |0,n=>if n<0 then some []else none
 |k+1,n=>if n<0 then some []else(idx S n).bind λ m=>(dE S k m).map (n:: ·)
theorem anp{S:List Int}:∀ {k:Nat}{n:Int}{c:List Int},dE S k n=some c->dE S (k+1) n=some c
 |0,n,c,h=>by simp only[dE]at h⊢;split at h;rename_i a;rw[nf a];exact h;cases h
 |k+1,n,c,h=>by
  rw[dE]at h⊢;split at h;rename_i a;rw[nf a];exact h
  ·rename_i a;rw[nc a];cases hi:idx S n with
   |none=>rw[hi]at h;cases h
   |some m=>
    rw[hi,ae]at h;rw[ae];cases b:dE S k m with
    |none=>rw[b]at h;cases h
    |some d=>rw[b]at h;rw[anp b];exact h
theorem RL{S:List Int}{k k':Nat}{n:Int}{c:List Int}(h:dE S k n=some c)(a:k<=k'):dE S k' n=some c:=by
 obtain⟨d,rfl⟩:∃d,k'=k+d:=⟨k'-k,by omega⟩
 clear a;induction d with
 |zero=>exact h
 |succ d b=>exact anp b
theorem aKH{S:List Int}{k k':Nat}{n:Int}{c a:List Int}(h:dE S k n=some c)(h':dE S k' n=some a):c=a:=by have b:=RL h (Nat.le_max_left k k');have J:=RL h' (Nat.le_max_right k k');rw[b]at J;exact eD J
theorem ano{S:List Int}:∀ {k:Nat}{n:Int}{c:List Int},dE S k n=some c->c.length<=k/\dE S c.length n=some c
 |0,n,c,h=>by simp only[dE]at h;split at h;rename_i a;injection h with h;subst h;simp[dE,a];cases h
 |k+1,n,c,h=>by
  have e:=h;rw[dE]at h;split at h;rename_i a;injection h with h;subst h;simp[dE,a]
  ·rename_i a;cases hi:idx S n with
   |none=>rw[hi]at h;cases h
   |some m=>
    rw[hi,ae]at h;cases b:dE S k m with
    |none=>rw[b]at h;cases h
    |some f=>rw[b]at h;simp only[fY,aF]at h;subst h;obtain⟨d,J⟩:=ano b;refine⟨by simpa using d,?_⟩;rw[di,dE,nc a,hi,ae,J];rfl
theorem RM{S:List Int}:∀ {k:Nat}{n:Int}{c:List Int},dE S k n=some c->∀x∈c,(0<=x/\x<S.length)/\∃k' a,dE S k' x=some a/\a.length<=c.length/\a≠[]
 |0,n,c,h,x,b=>by simp only[dE]at h;split at h;injection h with h;subst h;cases b;cases h
 |k+1,n,c,h,x,b=>by
  have f:=h;rw[dE]at h;split at h;injection h with h;subst h;cases b
  ·rename_i j;cases hi:idx S n with
   |none=>rw[hi]at h;cases h
   |some m=>
    rw[hi,ae]at h;cases d:dE S k m with
    |none=>rw[d]at h;cases h
    |some a=>rw[d]at h;simp only[fY,aF]at h;subst h;obtain⟨o,p,_⟩:=l9 hi;rcases cH.1 b with rfl |e;exact⟨⟨by omega,by omega⟩,k+1,_,f,cP _,by simp⟩;obtain⟨g,k',c2,J,q,i⟩:=RM d x e;exact⟨g,k',c2,J,by simp only[di];omega,i⟩
theorem ann{S:List Int}:∀ {k:Nat}{n:Int}{c:List Int},dE S k n=some c->c.Nodup
 |0,n,c,h=>by simp only[dE]at h;split at h;injection h with h;subst h;simp;cases h
 |k+1,n,c,h=>by
  have b:=h;rw[dE]at h;split at h;injection h with h;subst h;simp
  ·cases hi:idx S n with
   |none=>rw[hi]at h;cases h
   |some m=>
    rw[hi,ae]at h;cases a:dE S k m with
    |none=>rw[a]at h;cases h
    |some f=>rw[a]at h;simp only[fY,aF]at h;subst h;refine h4.2 ⟨λ d=>?_,ann a⟩;obtain⟨_,k',c2,J,e,_⟩:=RM a n d;have:=aKH b J;subst this;simp only[di]at e;omega
theorem Zq:∀(n:Nat)(c:List Nat),c.Nodup->(∀x∈c,x<n)->c.length<=n
 |0,c,_,h=>by
  cases c with
  |nil=>simp
  |cons x r=>exact absurd (h x (by simp)) (by omega)
 |n+1,c,aJ,h=>by
  by_cases b:n∈c
  ·have d:=Zq n (c.erase n) (aJ.erase n) (λ x a=>by
    have J:=(aJ.mem_erase_iff).1 a;have:=h x J.2;omega)
   rw[mb b]at d;omega
  ·have:=Zq n c aJ (λ x a=>by
    have d:=h x a;have:x≠n:=λ e=>b (e▸a);omega)
   omega
theorem anm{S:List Int}{k:Nat}{n:Int}{c:List Int}(h:dE S k n=some c):c.length<=S.length:=by
 have d:=RM h;have aJ:=ann h;have:=Zq S.length (c.map Int.toNat) (by
  rw[List.Nodup,List.pairwise_map];refine lp ?_ aJ;intro a b ap ag f e;have g:=(d a ap).1;have J:=(d b ag).1;exact f (by omega)) (λ x i=>by
  obtain⟨y,hy,rfl⟩:=hQ.1 i;have g:=(d y hy).1;omega)
 simpa using this
theorem aKG{S:List Int}{k:Nat}{n:Int}(a:S.length<=k):dE S k n=dE S S.length n:=by
 cases h:dE S k n with
 |some c=>obtain⟨_,J⟩:=ano h;exact(RL J (anm h)).symm
 |none=>
  cases h':dE S S.length n with
  |none=>rfl
  |some c=>rw[RL h' a]at h;cases h
theorem avJ{m:List (List UInt8×Int)}{S:List Int}{k:Nat}{n:Int}{c:List Int}(h:dE S k n=some c)(hc:c.length<=1000)(i:1001<F):ts F ⟨l,m,S⟩ n=some c:=by
 have key:∀(k:Nat)(n:Int)(c acc:List Int)(f:Nat),dE S k n=some c->c.length<f->acc.length+c.length<=1000 ->tt ⟨l,m,S⟩ f acc n=some (acc++c):=by
  intro k;induction k with
  |zero=>
   intro n c acc f h ad _;obtain⟨f,rfl⟩:∃a,f=a+1:=⟨f-1,by omega⟩
   simp only[dE]at h;split at h;injection h with h;subst h;rw[tt,mV (by omega)];simp;cases h
  |succ k d=>
   intro n c acc f h ad e;obtain⟨f,rfl⟩:∃a,f=a+1:=⟨f-1,by omega⟩
   rw[dE]at h;split at h;injection h with h;subst h;rw[tt,mV (by omega)];simp
   ·rename_i j;cases hi:idx S n with
    |none=>rw[hi]at h;cases h
    |some x=>
     rw[hi,ae]at h;cases b:dE S k x with
     |none=>rw[b]at h;cases h
     |some g=>
      rw[b]at h;simp only[fY,aF]at h;subst h;simp only[di]at ad e;rw[tt,mU (by omega),ng];unfold bI;rw[nf (by simp only[di,gR];omega)];show((some (acc++[n])).bind λ o=>(idx S n).bind λ p=>_)=_
      rw[ae,hi,ae,d x g (acc++[n]) f b (by omega) (by simp only[dM,di,gR];omega)];simp
 unfold ts;rw[key k n c [] F h (by omega) (by simp;omega)];rfl
end
section
variable{F:Nat}{l:List aq}
theorem Ic:(dv l).length=l.length:=by simp[dv]
theorem yB{n:Int}(a:0<=n)(c:n<l.length):∃x,idx l n=some x/\idx (dv l) n=some (cX l x.dc):=by
 obtain⟨x,b⟩:∃x,l[n.toNat]? =some x:=⟨l[n.toNat]'(by omega),aN _⟩
 refine⟨x,?_,?_⟩;unfold idx;rw[nf a,b];unfold idx;rw[nf a,abp b]
def abG(o:Option (List Int))(acc:List Int):Way (List Int) (List Int):=match o with
 |some c=>.go (c.reverse++acc)
 |none=>.out []
def dI(l:List aq)(n:Int):List Int:=(dE (dv l) l.length n).getD []
theorem RK(q:1100<F)(h:Right l){n:Int}(i:n<l.length):zB F l n=some (dI l n).reverse:=by
 have e:=h.len;have key:∀(d:Nat)(acc:List Int)(n:Int)(f:Nat),acc.length+d=l.length+1 ->d+1<f->n<l.length->Dc F l f n acc=some (abG (dE (dv l) d n) acc):=by
  intro d;induction d with
  |zero=>
   intro acc n f ap ad g;obtain⟨f,rfl⟩:∃b,f=b+1:=⟨f-1,by omega⟩
   rw[Dc,dE];by_cases a:n<0;rw[nf a,mV (by omega)];rfl;rw[nc a,mU (by omega),ng,mU (by omega)];rfl
  |succ d j=>
   intro acc n f ap ad g;obtain⟨f,rfl⟩:∃b,f=b+1:=⟨f-1,by omega⟩
   rw[Dc,dE];by_cases a:n<0;rw[nf a,mV (by omega)];rfl
   ·obtain⟨x,m,aj⟩:=yB (l:=l) (n:=n) (by omega) g;rw[nc a,mU (by omega),ng,mV (by omega),nh];unfold bI;rw[nf (by simp only[di,gR];omega)];show((some ([n]++acc)).bind λ o=>(idx l n).bind λ p=>_)=_
    rw[ae,m,ae,zv ⟨by omega,by omega⟩,ae,aj,ae,j ([n]++acc) _ f (by simp only[dM,di,gR];omega) (by omega) Uf];cases dE (dv l) d (cX l x.dc)with
    |none=>rfl
    |some c=>simp[abG]
 unfold zB;rw[key (l.length+1) [] n F (by simp) (by omega) i,aKG (k:=l.length+1) (by rw[Ic];omega),Ic];unfold dI;cases dE (dv l) l.length n with
 |none=>rfl
 |some c=>simp[abG,cr]
def wY(l:List aq)(i:Nat):Option Int:=if(dE (dv l) l.length (i:Int)).isSome then none else some 4
theorem abF{S:List Int}{k:Nat}{n:Int}{c:List Int}(h:dE S k n=some c)(d:0<=n):∃r,c=n::r:=by
 cases k with
 |zero=>simp only[dE]at h;rw[nc (by omega)]at h;cases h
 |succ k=>
  rw[dE,nc (by omega)]at h;cases hi:idx S n with
  |none=>rw[hi]at h;cases h
  |some m=>
   rw[hi,ae]at h;cases a:dE S k m with
   |none=>rw[a]at h;cases h
   |some b=>rw[a]at h;simp only[fY,aF]at h;exact⟨b,h.symm⟩
theorem awe(a:1100<F)(h:Right l):CM F l F 0=some (cC ((ef l.length).findSome? (wY l))):=lh _ (by have:=h.len;omega) (λ k i hi=>by
 rw[CM,bM hi,ng,RK a h (by omega),ae];unfold wY dI;cases b:dE (dv l) l.length (i:Int)with
 |none=>rfl
 |some c=>obtain⟨r,rfl⟩:=abF b (by omega);rw[mV (by simp;omega)];rfl) (λ k=>by rw[CM,bL];rfl) (by have:=h.len;omega)
theorem afh(h:Right l)(m:List (List UInt8×Int))(s:List Int):∀(d i f:Nat)(n:Int),i+d=l.length->d<f->0<=n->n<l.length->∃r,vr ⟨l,m,s⟩ (dv l) f n i=some r/\(r<0↔(dE (dv l) d n).isSome=true)
 |0,i,f,n,hi,ad,c,e=>by
  obtain⟨f,rfl⟩:∃b,f=b+1:=⟨f-1,by omega⟩
  have:i=l.length:=by omega
  subst this;refine⟨n,?_,?_⟩
  ·rw[vr];show cond (decide ((l.length:Int)<(l.length:Int))) _ _=_
   rw[bL];rfl
  ·rw[dE,nc (by omega)];simp;omega
 |d+1,i,f,n,hi,ad,c,e=>by
  obtain⟨f,rfl⟩:∃b,f=b+1:=⟨f-1,by omega⟩
  obtain⟨x,k,aj⟩:=yB (l:=l) (n:=n) c e;have g:=h.len;rw[vr];have hc:decide ((i:Int)<((⟨l,m,s⟩:bt).l.length:Int))=true:=bM (n:=l.length) (by omega);rw[hc,ng,aj,ae,dE,nc (by omega),aj,ae];by_cases a:cX l x.dc<0
  ·rw[mU a,ng];refine⟨_,rfl,?_⟩;have:dE (dv l) d (cX l x.dc)=some []:=by cases d<;>simp[dE,a]
   rw[this];simp[a]
  ·rw[mV a,nh,eO (n:=l.length) (by omega) (by omega)];obtain⟨r,j,J⟩:=afh h m s d (i+1) f (cX l x.dc) (by omega) (by omega) (by omega) Uf;refine⟨r,j,J.trans ?_⟩;simp
theorem awd(d:1100<F)(h:Right l)(m:List (List UInt8×Int))(s:List Int):tr F ⟨l,m,s⟩ (dv l) F 0=some (cC (((ef l.length).findSome? (wY l)).map λ e=>(e,(⟨l,m,dv l⟩:bt)))):=by
 have a:=h.len;have:=lh (n:=l.length) (L:=tr F ⟨l,m,s⟩ (dv l)) (λ i=>(wY l i).map λ e=>(e,(⟨l,m,dv l⟩:bt))) (by omega) (λ k i hi=>by
  rw[tr];have hc:decide ((i:Int)<((⟨l,m,s⟩:bt).l.length:Int))=true:=bM (n:=l.length) hi;obtain⟨r,c,J⟩:=afh h m s l.length 0 F (i:Int) (by omega) (by omega) (by omega) (by omega);rw[hc,ng,show(0 :Int)=((0 :Nat):Int) from rfl,c];simp only[ae];unfold wY;cases b:(dE (dv l) l.length (i:Int)).isSome with
  |true=>rw[nf rfl,mV (show¬((0 :Nat):Int)<=r from λ av=>by have:=J.2 b;omega)];rfl
  |false=>rw[nc (by simp),mU (show((0 :Nat):Int)<=r from by
   rcases Int.lt_or_le r 0 with av |av;have:=J.1 av;rw[b]at this;cases this
   ·exact av)];rfl) (λ k=>by
    rw[tr];show cond (decide ((l.length:Int)<(l.length:Int))) _ _=_
    rw[bL];rfl) (F:=F) (by omega)
 rw[this,Ou]
structure iz (l:List aq):Prop where
 right:Right l
 aPQ:CA l
 aPO:∀c∈l,c.dc=[]\/0<=cX l c.dc
 up:∀i,i<l.length->∃c,dE (dv l) l.length (i:Int)=some c
 top:∀c∈l,vW c=none
 obj:0<=cX l [79,98,106,101,99,116]
theorem iz.chain(h:iz l){n:Int}(b:0<=n)(d:n<l.length):dE (dv l) l.length n=some (dI l n)/\(dI l n).length<=10/\(∀x∈dI l n,0<=x/\x<l.length):=by
 obtain⟨c,hc⟩:=h.up n.toNat (by omega);rw[show((n.toNat:Nat):Int)=n by omega]at hc;have e:dI l n=c:=by unfold dI;rw[hc];rfl
 rw[e];refine⟨hc,?_,λ x a=>?_⟩;have:=anm hc;rw[Ic]at this;have:=h.right.len;omega;have:=(RM hc x a).1;rw[Ic]at this;exact this
theorem iz.Yu(h:iz l)(c:1100<F)(m:List (List UInt8×Int)){n:Int}(a:0<=n)(b:n<l.length):ts F ⟨l,m,dv l⟩ n=some (dI l n):=by obtain⟨hc,d,_⟩:=h.chain a b;exact avJ (l:=l) hc (by omega) (by omega)
def oU(l:List aq)(i:Int):List Field:=((idx l i).map (·.Fields)).getD []
def fS(l:List aq)(n:Int):List Field:=(dI l n).reverse.flatMap (oU l)
theorem Vc(h:Right l)(i:Int):(oU l i).length<=6:=by
 unfold oU;cases a:idx l i with
 |none=>simp
 |some x=>obtain⟨_,_,J⟩:=l9 a;exact h.fields x (bH J)
theorem Vd(h:Right l):∀r:List Int,(r.flatMap (oU l)).length<=6*r.length
 |[]=>by simp
 |x::r=>by have a:=Vc h x;have J:=Vd h r;simp only[h7,dM,di];omega
theorem agO(h:Right l)(m:List (List UInt8×Int))(s:List Int):∀(rem:List Int)(acc:List Field),(∀x∈rem,0<=x/\x<l.length)->acc.length+6*rem.length<=1000 ->AK ⟨l,m,s⟩ rem acc=some (acc++rem.flatMap (oU l))
 |[],acc,_,_=>by simp[AK]
 |x::rem,acc,a,b=>by
  obtain⟨c,hc,_⟩:=yB (l:=l) (a x (by simp)).1 (a x (by simp)).2;have ad:oU l x=c.Fields:=by unfold oU;rw[hc];rfl
  have d:=Vc h x;rw[ad]at d;simp only[di]at b;rw[AK];show((idx l x).bind λ e=>_)=_
  rw[hc,ae];unfold bI;rw[nf (by omega),ae,agO h m s rem _ (λ y hy=>a y (by simp[hy])) (by simp only[dM];omega),h7,ad];simp
theorem iz.Yv(h:iz l)(c:1100<F)(m:List (List UInt8×Int)){n:Int}(a:0<=n)(b:n<l.length):vu F ⟨l,m,dv l⟩ n=some (fS l n):=by obtain⟨_,f,d⟩:=h.chain a b;unfold vu;have:=h.Yu c m a b;simp only at this⊢;rw[this,ae];unfold L8;rw[ae,agO h.right m (dv l) _ [] (λ x e=>d x (by simpa using e)) (by simp;omega)];simp[fS]
theorem iz.aaP(h:iz l)(d:1100<F){n:Int}(e:0<=n)(b:n<l.length):CB F l n=some (fS l n):=by
 obtain⟨_,j,f⟩:=h.chain e b;unfold CB;rw[RK d h.right b,ae];have:uE l (dI l n).reverse F [] 0=some (fS l n):=by
  refine PV (n:=(dI l n).reverse.length) (λ k i=>uE l (dI l n).reverse k (((dI l n).reverse.take i).flatMap (oU l)) (i:Int)) (fS l n) (λ k i hi=>?_) (λ k=>?_) (F:=F) (by simp;omega)
  ·obtain⟨x,a⟩:∃x,(dI l n).reverse[i]? =some x:=⟨(dI l n).reverse[i],aN hi⟩
   have ag:=f x (by simpa using bH a);obtain⟨c,hc,_⟩:=yB (l:=l) ag.1 ag.2;have ad:oU l x=c.Fields:=by unfold oU;rw[hc];rfl
   have J:=Vc h.right x;rw[ad]at J;have g:=Vd h.right ((dI l n).reverse.take i);simp only[gl,lE]at g hi;show uE l (dI l n).reverse (k+1) (((dI l n).reverse.take i).flatMap (oU l)) (i:Int)=_
   rw[uE,bM (by simpa using hi),ng,bu a,ae,hc,ae];unfold bI;rw[nf (by omega),ae,eO (n:=(dI l n).length) hi (by omega),lg,a,List.flatMap_append];simp[ad]
  ·show uE l (dI l n).reverse (k+1) (((dI l n).reverse.take (dI l n).reverse.length).flatMap (oU l)) ((dI l n).reverse.length:Int)=_
   rw[uE,bL,jy];rfl
 rw[this];rfl
end
section
variable{F:Nat}{l:List aq}
abbrev bU:=List (List UInt8)×List Target
def qa(nm:List UInt8)(x:List UInt8):Bool:=decide (nm=x)
def wN(p:bU)(nm:List UInt8)(t:Target):bU:=match eI (qa nm) p.1 with
 |some k=>(p.1,p.2.set k t)
 |none=>(p.1++[nm],p.2++[t])
def sG(ci:Int):List Method->Nat->bU->bU
 |[],_,p=>p
 |m::r,k,p=>sG ci r (k+1) (wN p m.Name ⟨ci,k⟩)
def e7(l:List aq)(i:Int):List Method:=((idx l i).map (·.bp)).getD []
def zH(l:List aq):List Int->bU->bU
 |[],p=>p
 |ci::r,p=>zH l r (sG ci (e7 l ci) 0 p)
def hK(l:List aq)(n:Int):bU:=zH l (dI l n).reverse ([],[])
theorem TY{p:bU}{nm:List UInt8}{t:Target}(h:p.1.length=p.2.length):(wN p nm t).1.length=(wN p nm t).2.length/\(wN p nm t).1.length<=p.1.length+1:=by
 unfold wN;cases eI (qa nm) p.1 with
 |some k=>simp[h]
 |none=>simp[h]
theorem TX{ci:Int}:∀ {r:List Method}{k:Nat}{p:bU},p.1.length=p.2.length->(sG ci r k p).1.length=(sG ci r k p).2.length/\(sG ci r k p).1.length<=p.1.length+r.length
 |[],_,p,h=>⟨h,cP _⟩
 |m::r,k,p,h=>by obtain⟨a,J⟩:=TY (nm:=m.Name) (t:=⟨ci,k⟩) h;obtain⟨b,c⟩:=TX (ci:=ci) (r:=r) (k:=k+1) a;exact⟨b,by simp only[sG,di];omega⟩
theorem aCg{ns:List (List UInt8)}(h:Small F ns.length)(nm:List UInt8):Mi F ns nm=some (((eI (qa nm) ns).map λ n:Nat=>(n:Int)).getD (-1)):=by unfold Mi;have l1:BH ns nm F 0=some (cC ((eI (qa nm) ns).map λ n:Nat=>(n:Int))):=Va (qa nm) _ h.1 (λ k i x a=>by rw[BH,bM (aR.1 a).1,ng,bu a,ae];rfl) (λ k=>by rw[BH,bL];rfl) h.2;rw[l1,kz];cases eI (qa nm) ns<;>rfl
theorem amZ(g:1100<F)(ci:Int)(c:aq)(hc:c.bp.length<=8):∀(d i f:Nat)(p:bU),i+d=c.bp.length->d<f->p.1.length=p.2.length->p.1.length+d<=1000 ->
 AQ F ci c f p.1 p.2 (i:Int)=some (sG ci (c.bp.drop i) i p)
 |0,i,f,p,hi,ad,e,_=>by
  obtain⟨f,rfl⟩:∃b,f=b+1:=⟨f-1,by omega⟩
  have:i=c.bp.length:=by omega
  subst this;rw[AQ,bL,jd (cP _)];rfl
 |d+1,i,f,p,hi,ad,e,j=>by
  obtain⟨f,rfl⟩:∃b,f=b+1:=⟨f-1,by omega⟩
  have a:i<c.bp.length:=by omega
  obtain⟨h,J⟩:=TY (nm:=c.bp[i].Name) (t:=⟨ci,i⟩) e;have next:=amZ g ci c hc d (i+1) f (wN p c.bp[i].Name ⟨ci,i⟩) (by omega) (by omega) h (by omega)
  rw[AQ,bM a,ng,bu (aN a),ae,aCg ⟨by omega,by omega⟩,ae,de a,sG,<-next];unfold wN;cases D0:eI (qa c.bp[i].Name) p.1 with
  |some k=>have m:=Zr D0;simp only[fY,iX];rw[mU (show(0 :Int)<=(k:Int) by omega),ng,bu (aN (show k<p.2.length by omega)),ae,ae,ae,eO a (by omega)];simp
  |none=>simp only[je,jN];rw[mV (show¬(0 :Int)<= -1 by decide),nh];unfold bI;rw[nf (by simp only[di,gR];omega),ae,nf (by simp only[di,gR];omega),ae,ae,eO a (by omega)]
theorem aj_(h:Right l)(i:Int):(e7 l i).length<=8:=by
 unfold e7;cases a:idx l i with
 |none=>simp
 |some x=>obtain⟨_,_,J⟩:=l9 a;exact h.methods x (bH J)
theorem amY(b:1100<F)(h:Right l)(m:List (List UInt8×Int))(s:List Int):∀(rem:List Int)(p:bU),(∀x∈rem,0<=x/\x<l.length)->p.1.length=p.2.length->p.1.length+8*rem.length<=900 ->
 AP F ⟨l,m,s⟩ rem p.1 p.2=some (zH l rem p)
 |[],p,_,_,_=>by simp[AP,zH]
 |x::rem,p,a,d,g=>by
  obtain⟨c,hc,_⟩:=yB (l:=l) (a x (by simp)).1 (a x (by simp)).2;have e:e7 l x=c.bp:=by unfold e7;rw[hc];rfl
  have i:=aj_ h x;have f:=i;rw[e]at f;simp only[di]at g;obtain⟨j,n⟩:=TX (ci:=x) (r:=e7 l x) (k:=0) d;rw[AP];show(ej (α:=(List (List UInt8))×(List Target)) ((idx l x).bind λ o=>_) _)=_
  rw[hc,ae];have:=amZ b x c f c.bp.length 0 F p (by omega) (by omega) d (by omega);rw[show((0 :Nat):Int)=0 from rfl]at this;rw[this,hf,ae,ae,zH,<-e];exact amY b h m s rem _ (λ y hy=>a y (by simp[hy])) j (by omega)
theorem iz.aEw(h:iz l)(a:1100<F)(m:List (List UInt8×Int)){n:Int}(b:0<=n)(c:n<l.length):EA F ⟨l,m,dv l⟩ n=some (hK l n):=by obtain⟨_,f,d⟩:=h.chain b c;unfold EA;have:=h.Yu a m b c;simp only at this⊢;rw[this,ae];unfold L8;rw[ae,amY a h.right m (dv l) _ ([],[]) (λ x e=>d x (by simpa using e)) rfl (by simp;omega)];rfl
theorem aKj(ns:List (List UInt8))(m:Method)(h:Small F ns.length):sA ns m F 0=some (((eI (qa m.Name) ns).getD ns.length:Nat):Int):=by
 have key:∀(d i f:Nat),i+d=ns.length->d<f->sA ns m f (i:Int)=some ((i+(eI (qa m.Name) (ns.drop i)).getD d:Nat):Int):=by
  intro d;induction d with
  |zero=>
   intro i f hi ad;obtain⟨f,rfl⟩:∃b,f=b+1:=⟨f-1,by omega⟩
   have:i=ns.length:=by omega
   subst this;rw[sA,bL,jd (cP _)];rfl
  |succ d c=>
   intro i f hi ad;obtain⟨f,rfl⟩:∃b,f=b+1:=⟨f-1,by omega⟩
   have a:i<ns.length:=by omega
   rw[sA,bM a,ng,bu (aN a),ae,de a,eI];by_cases e:ns[i]=m.Name;rw[mU e,nf (by simp[qa,e])];simp
   ·rw[mV e,nc (by simp[qa];exact λ h=>e h.symm)];simp only[ib,ng];rw[eO a h.1,c (i+1) f (by omega) (by omega)];congr 2;cases eI (qa m.Name) (ns.drop (i+1))with
    |none=>simp;omega
    |some k=>simp;omega
 have:=key ns.length 0 F (by omega) h.2;simpa using this
theorem am5(j:1100<F)(gg:List Int)(n:Nat)(ci:Int)(c:aq)(a:gg[n]? =some ci)(e:idx l ci=some c)(hc:c.bp.length<=8):∀(d i f:Nat)(p:bU),i+d=c.bp.length->d<f->p.1.length=p.2.length->p.1.length+d<=1000 ->
 Da F l gg (n:Int) f p.2 p.1 (i:Int)=some ((sG ci (c.bp.drop i) i p).2,(sG ci (c.bp.drop i) i p).1)
 |0,i,f,p,hi,ad,g,_=>by
  obtain⟨f,rfl⟩:∃h,f=h+1:=⟨f-1,by omega⟩
  have:i=c.bp.length:=by omega
  subst this;rw[Da,bu a,ae,e,ae,bL,jd (cP _)];rfl
 |d+1,i,f,p,hi,ad,g,o=>by
  obtain⟨f,rfl⟩:∃h,f=h+1:=⟨f-1,by omega⟩
  have b:i<c.bp.length:=by omega
  obtain⟨m,J⟩:=TY (nm:=c.bp[i].Name) (t:=⟨ci,i⟩) g;have next:=am5 j gg n ci c a e hc d (i+1) f (wN p c.bp[i].Name ⟨ci,i⟩) (by omega) (by omega) m (by omega)
  rw[Da,bu a,ae,e,ae,bM b,ng,ae,e,ae,bu (aN b),ae,aKj p.1 _ ⟨by omega,by omega⟩,ae,de b,sG,<-next];unfold wN;cases D0:eI (qa c.bp[i].Name) p.1 with
  |some k=>have q:=Zr D0;simp only[iX];rw[mV (show¬((k:Nat):Int)=(p.1.length:Int) by omega),nh,ae];simp only[bu a,ae];rw[bu (aN (show k<p.2.length by omega)),ae,ae,eO b (by omega)];simp
  |none=>simp only[jN,decide_true,ng];unfold bI;rw[nf (by simp only[di,gR];omega),ae,nf (by simp only[di,gR];omega),ae,ae];simp only[bu a,ae];rw[bu (i:=p.1.length) (x:=(⟨0,0⟩:Target)) (by rw[g];simp),ae,ae,eO b (by omega)];simp[g,List.set_append]
theorem iz.aI5(h:iz l)(m:1100<F){n:Int}(v:0<=n)(o:n<l.length):Ji F l n=some (hK l n):=by
 obtain⟨_,B,w⟩:=h.chain v o;unfold Ji;rw[RK m h.right o,ae];have key:∀(d i f:Nat)(p:bU),i+d=(dI l n).reverse.length->d<f->p.1.length=p.2.length->p.1.length+8*d<=900 ->C' F l (dI l n).reverse f p.2 p.1 (i:Int)=some ((zH l ((dI l n).reverse.drop i) p).2,(zH l ((dI l n).reverse.drop i) p).1):=by
  intro d;induction d with
  |zero=>
   intro i f p hi ad _ _;obtain⟨f,rfl⟩:∃b,f=b+1:=⟨f-1,by omega⟩
   have:i=(dI l n).reverse.length:=by omega
   subst this;rw[C',bL,jd (cP _)];rfl
  |succ d y=>
   intro i f p hi ad q C;obtain⟨f,rfl⟩:∃b,f=b+1:=⟨f-1,by omega⟩
   have a:i<(dI l n).reverse.length:=by omega
   obtain⟨ci,e⟩:∃x,(dI l n).reverse[i]? =some x:=⟨(dI l n).reverse[i],aN a⟩
   have ag:=w ci (by simpa using bH e);obtain⟨c,hc,_⟩:=yB (l:=l) ag.1 ag.2;have g:e7 l ci=c.bp:=by unfold e7;rw[hc];rfl
   have z:=aj_ h.right ci;have s:=z;rw[g]at s;obtain⟨t,A⟩:=TX (ci:=ci) (r:=e7 l ci) (k:=0) q;have u:=am5 (l:=l) m (dI l n).reverse i ci c e hc s c.bp.length 0 F p (by omega) (by omega) q (by omega);rw[show((0 :Nat):Int)=0 from rfl]at u;have j:(dI l n).reverse[i]=ci:=by have:=aN a;rw[e]at this;exact(eD this).symm
   rw[C',bM a,ng,u,hf,ae,ae,eO (n:=(dI l n).length) (by simpa using a) (by omega),de a,j,zH,g];rw[g]at t A;exact y (i+1) f _ (by omega) (by omega) t (by omega)
 have:=key (dI l n).reverse.length 0 F ([],[]) (by omega) (by simp;omega) rfl (by simp;omega);rw[show((0 :Nat):Int)=0 from rfl,hf]at this;simp only at this;rw[this];rfl
end
theorem wM{α β:Type}{l:List α}(T:Nat->List β->Nat->Option (List β))(g:α->List β)(B M:Nat)(a:∀x∈l,(g x).length<=B)
 (aj:∀k (i:Nat) x acc,l[i]? =some x->acc.length+B<=M->T (k+1) acc i=T k (acc++g x) (i+1))(b:∀k acc,T (k+1) acc l.length=some acc){F:Nat}(c:l.length<F){acc:List β}(e:acc.length+B*l.length<=M) :
 T F acc 0=some (acc++l.flatMap g):=by
 have key:∀(d i k:Nat)(acc:List β),i+d=l.length->d<k->acc.length+B*d<=M->T k acc i=some (acc++(l.drop i).flatMap g):=by
  intro d;induction d with
  |zero=>
   intro i k acc h f _;obtain⟨k,rfl⟩:∃k',k=k'+1:=⟨k-1,by omega⟩
   have hi:i=l.length:=by omega
   subst hi;rw[b,jd (cP _)];simp
  |succ d j=>
   intro i k acc h f m;obtain⟨k,rfl⟩:∃k',k=k'+1:=⟨k-1,by omega⟩
   have hi:i<l.length:=by omega
   have ag:=a l[i] (hj hi);rw[Nat.mul_succ]at m;rw[aj k i l[i] acc (aN hi) (by omega),j (i+1) k _ (by omega) (by omega) (by simp only[dM];omega),de hi,h7,fA]
 have:=key l.length 0 F acc (by omega) c e
 simpa using this
theorem akK{α β:Type}{g:α->Option β}{a:α}:[a].findSome? g=g a:=by rw[iU];cases g a<;>rfl
theorem JQ{α β ct:Type}(f:α->List β)(g:β->Option ct):∀l:List α,(l.flatMap f).findSome? g=l.findSome? λ x=>(f x).findSome? g
 |[]=>rfl
 |x::r=>by rw[h7,lK,iU,JQ f g r];cases(f x).findSome? g<;>rfl
theorem z1{α β:Type}{g:α->List β}{B:Nat}:∀ {l:List α},(∀x∈l,(g x).length<=B)->(l.flatMap g).length<=B*l.length
 |[],_=>by simp
 |x::r,h=>by have a:=h x (by simp);have J:=z1 (l:=r) (λ y hy=>h y (by simp[hy]));simp only[h7,dM,di,Nat.mul_succ];omega
def ew(k:Kind):List (List UInt8):=if k.aq=[]then[]else[k.aq]
def mt(m:Method):List (List UInt8):=m.cF.flatMap ew++ew m.Returns++m.cL.map (·.aq)
def ic(c:aq):List (List UInt8):=c.Fields.flatMap (λ f=>ew f.Kind)++c.bp.flatMap mt
def t_(l:List aq):List (List UInt8):=l.flatMap ic
def kB(l:List aq)(s:List UInt8):Option Int:=if 0<=cX l s then none else some 5
theorem xM(k:Kind):(ew k).length<=1:=by unfold ew;split<;>simp
section
variable{F:Nat}{l:List aq}
theorem aj'(h:Right l){c:aq}(hc:c∈l){m:Method}(a:m∈c.bp):(mt m).length<=9:=by have b:=h.method c hc m a;have J:=z1 (l:=m.cF) (g:=ew) (B:=1) (λ k _=>xM k);have d:=xM m.Returns;unfold mt;simp only[dM,hd];omega
theorem afe(h:Right l){c:aq}(hc:c∈l):(ic c).length<=78:=by have b:=z1 (l:=c.Fields) (g:=λ f=>ew f.Kind) (B:=1) (λ f _=>xM f.Kind);have J:=z1 (l:=c.bp) (g:=mt) (B:=9) (λ m a=>aj' h hc a);have d:=h.fields c hc;have e:=h.methods c hc;unfold ic;simp only[dM];omega
theorem jf{b:Nat}{α:Type}{acc r:List α}(h:(acc.length+r.length)*b<=140737488355328):bI b acc r=some (acc++r):=by unfold bI;rw[nf h]
theorem abz{acc:List (List UInt8)}(h:acc.length<=5000)(k:Kind):EB k acc=some (acc++ew k):=by
 unfold EB ew;by_cases e:k.aq=[]
 ·rw[mU e,nf e];simp
 ·rw[mV e,nc e];simp only[ib,ng];rw[jf (by simp only[di,gR];omega)];rfl
theorem aKm(z:1100<F)(h:Right l)(m:List (List UInt8×Int))(s:List Int):x7 F ⟨l,m,s⟩ F [] 0=some (t_ l):=by
 have j:=h.len;have:=wM (l:=l) (λ k acc i=>x7 F ⟨l,m,s⟩ k acc (i:Int)) ic 78 2000 (λ c hc=>afe h hc) (λ k i c acc a b=>by
  have hc:=bH a;have A:=h.fields c hc;have C:=h.methods c hc;have hi:=(aR.1 a).1;have o:∀acc:List (List UInt8),acc.length<=2000 ->x8 c F acc 0=some (acc++c.Fields.flatMap λ f=>ew f.Kind):=λ acc ap=>wM (l:=c.Fields) (λ k acc i=>x8 c k acc (i:Int)) (λ f=>ew f.Kind) 1 3000 (λ f _=>xM f.Kind) (λ k i f acc a b=>by have hi:=(aR.1 a).1;rw[x8,bM hi,ng,bu a,ae,abz (by omega),ae,eO hi (by omega)]) (λ k acc=>by rw[x8,bL];rfl) (by omega) (by omega)
  have p:∀acc:List (List UInt8),acc.length<=2100 ->tx F c F acc 0=some (acc++c.bp.flatMap mt):=λ acc ap=>
   wM (l:=c.bp) (λ k acc i=>tx F c k acc (i:Int)) mt 9 3000 (λ m d=>aj' h hc d) (λ k i m acc a b=>by
    have d:=bH a;have hi:=(aR.1 a).1;obtain⟨D,E⟩:=h.method c hc m d;have q:x9 m F acc 0=some (acc++m.cF.flatMap ew):=wM (l:=m.cF) (λ k acc i=>x9 m k acc (i:Int)) ew 1 3100 (λ k _=>xM k) (λ k i x acc a b=>by have hi:=(aR.1 a).1;rw[x9,bM hi,ng,bu a,ae,abz (by omega),ae,eO hi (by omega)]) (λ k acc=>by rw[x9,bL];rfl) (by omega) (by omega);have t:=z1 (l:=m.cF) (g:=ew) (B:=1) (λ k _=>xM k);have u:=xM m.Returns;have v:∀acc:List (List UInt8),acc.length<=3200 ->tz m F acc 0=some (acc++m.cL.flatMap λ h=>[h.aq]):=λ acc ap=>wM (l:=m.cL) (λ k acc i=>tz m k acc (i:Int)) (λ h=>[h.aq]) 1 3300 (λ k _=>by simp) (λ k i x acc a b=>by have hi:=(aR.1 a).1;rw[tz,bM hi,ng,bu a,ae,jf (by simp only[di,gR];omega),ae,eO hi (by omega)]) (λ k acc=>by rw[tz,bL];rfl) (by omega) (by omega)
    rw[tx,bM hi,ng,bu a,ae,q,ae,abz (k:=(⟨m.Returns.Kind,m.Returns.aq⟩:Kind)) (by simp only[dM];omega),ae,
     v _ (by simp only[dM];have:(ew (⟨m.Returns.Kind,m.Returns.aq⟩:Kind)).length<=1:=xM _;omega),ae,ae,eO hi (by omega)]
    have e:(m.cL.flatMap λ h=>[h.aq])=m.cL.map (·.aq):=by
     induction m.cL with
     |nil=>rfl
     |cons x r w=>rw[h7,w];rfl
    rw[e];unfold mt;simp only[fA]) (λ k acc=>by rw[tx,bL];rfl) (by omega) (by omega)
  have t:=z1 (l:=c.Fields) (g:=λ f=>ew f.Kind) (B:=1) (λ f _=>xM f.Kind);rw[x7];have y:decide ((i:Int)<((⟨l,m,s⟩:bt).l.length:Int))=true:=bM (n:=l.length) hi;rw[y,ng];show(ej (α:=List (List UInt8)) ((idx l (i:Int)).bind λ G=>_) _)=_
  rw[bu a,ae,o acc (by omega),ae,p _ (by simp only[dM];omega),ae,ae,eO hi (by omega)];unfold ic;simp only[fA]) (λ k acc=>by
   rw[x7];show cond (decide ((l.length:Int)<(l.length:Int))) _ _=_
   rw[bL];rfl) (F:=F) (by omega) (acc:=[]) (by simp;omega)
 simpa[t_]using this
theorem Y5(s:List UInt8):(cE (e9 0 l) s).isSome=decide (0<=cX l s):=by
 rw[HD];unfold cX;cases eI (gB s) l with
 |none=>simp
 |some i=>simp
theorem aKk(d:1100<F)(h:Right l)(s:List Int):K_ F ⟨l,e9 0 l,s⟩=some (((t_ l).findSome? (kB l)).getD 0):=by
 have a:=h.len;unfold K_;have f:=aKm d h (e9 0 l) s;have m:(t_ l).length<=780:=by have:=z1 (l:=l) (g:=ic) (B:=78) (λ c hc=>afe h hc);unfold t_;omega
 rw[f,ae];have j:AR ⟨l,e9 0 l,s⟩ (t_ l) F 0=some (cC ((t_ l).findSome? (kB l))):=each (kB l) (by omega) (λ k i x b=>by
  rw[AR,bM (aR.1 b).1,ng,bu b,ae];show cond (!(cE (e9 0 l) x).isSome) _ _=_
  rw[Y5];unfold kB;by_cases e:0<=cX l x;rw[mU e,nf e];rfl
  ·rw[mV e,nc e];rfl) (λ k=>by rw[AR,bL];rfl) (by omega)
 rw[j];cases(t_ l).findSome? (kB l)<;>rfl
def o'(l:List aq)(k:Kind):Option Int:=(ew k).findSome? (kB l)
theorem am6{s:List UInt8}:kB l s=none\/kB l s=some 5:=by unfold kB;split<;>simp
theorem uX{α:Type}{g:α->Option Int}{e:Int}(a:∀x,g x=none\/g x=some e):∀r:List α,r.findSome? g=none\/r.findSome? g=some e
 |[]=>.inl rfl
 |x::r=>by rw[iU];rcases a x with h |h;rw[h];exact uX a r;rw[h];exact .inr rfl
theorem aCI(k:Kind):o' l k=if k.aq=[]\/0<=cX l k.aq then none else some 5:=by
 unfold o' ew kB;by_cases e:k.aq=[]
 ·simp[e]
 ·by_cases ao:0<=cX l k.aq<;>simp[e,ao]
theorem TT(h:Small F l.length){a:List Kind}(b:Small F a.length):Db F l a=some (a.findSome? (o' l)).isNone:=by
 unfold Db;have l1:=each (l:=a) (L:=zA F a l) (λ k=>(o' l k).map λ _=>false) b.1 (λ k i x c=>by
  rw[zA,bM (aR.1 c).1,ng,bu c,ae,ae,zv h,ae,aCI];by_cases e:x.aq=[]
  ·rw[nf (.inl e),mU e];rfl
  ·rw[mV e];by_cases ao:0<=cX l x.aq;rw[nf (.inr ao),mV (show¬cX l x.aq<0 by omega)];rfl
   ·rw[nc (by simp[e,ao]),mU (show cX l x.aq<0 by omega)];rfl) (λ k=>by rw[zA,bL];rfl) b.2
 rw[l1,Ou];cases a.findSome? (o' l)<;>rfl
theorem XU{o:Option Int}(h:o=none\/o=some 5)(Y:Option (Way Int Unit)):cond (!o.isNone) (some (.out 5)) Y=ht o Y:=by rcases h with h |h<;>rw[h]<;>rfl
theorem X6(k:Kind):o' l k=none\/o' l k=some 5:=uX (λ _=>am6) _
theorem Mv{o a:Option Int}{Y:Option (Way Int Unit)}:ht o (ht a Y)=ht (o.or a) Y:=by cases o<;>rfl
theorem aKl(s:1100<F)(h:Right l):zt F l F 0=some (cC ((t_ l).findSome? (kB l))):=by
 have d:=h.len;have:=each (l:=l) (L:=zt F l) (λ c=>(ic c).findSome? (kB l)) (by omega) (λ k n c b=>by
  have hc:=bH b;have t:=h.fields c hc;have u:=h.methods c hc;have o:CN F l (n:Int) F 0=some (cC (c.Fields.findSome? λ f=>o' l f.Kind)):=each (l:=c.Fields) (λ f=>o' l f.Kind) (by omega) (λ k i f hy=>by rw[CN,bu b,ae,bM (aR.1 hy).1,ng,ae,bu hy,ae,TT ⟨by omega,by omega⟩ ⟨by simp,by simp;omega⟩,ae];have e:[(⟨f.Kind.Kind,f.Kind.aq⟩:Kind)].findSome? (o' l)=o' l f.Kind:=akK;rw[e];exact XU (X6 _) _) (λ k=>by rw[CN,bu b,ae,bL];rfl) (by omega);have p:CO F l (n:Int) F 0=some (cC (c.bp.findSome? λ m=>(mt m).findSome? (kB l))):=each (l:=c.bp) (λ m=>(mt m).findSome? (kB l)) (by omega) (λ k i m hy=>by
   have q:=bH hy;obtain⟨v,w⟩:=h.method c hc m q;have r:CP F l m F 0=some (cC (m.cL.findSome? λ x=>kB l x.aq)):=each (l:=m.cL) (λ x=>kB l x.aq) (by omega) (λ k i x g=>by
    rw[CP,bM (aR.1 g).1,ng,bu g,ae,zv ⟨by omega,by omega⟩,ae];unfold kB;by_cases ao:0<=cX l x.aq;rw[nf ao,mV (show¬cX l x.aq<0 by omega)];rfl
    ·rw[nc ao,mU (show cX l x.aq<0 by omega)];rfl) (λ k=>by rw[CP,bL];rfl) (by omega)
   have e:[(⟨m.Returns.Kind,m.Returns.aq⟩:Kind)].findSome? (o' l)=o' l m.Returns:=akK;rw[CO,bu b,ae,bM (aR.1 hy).1,ng,ae,bu hy,ae,TT ⟨by omega,by omega⟩ ⟨by omega,by omega⟩,ae,TT ⟨by omega,by omega⟩ ⟨by simp,by simp;omega⟩,ae,r,e,pv];rw[XU (X6 _),XU (uX (λ k=>X6 k) _),Mv,Mv,r4,pt];congr 1;unfold mt;rw[lK,lK,JQ,List.findSome?_map];cases j:m.cF.findSome? (o' l)with
   |some a=>have:(m.cF.findSome? λ x=>(ew x).findSome? (kB l))=some a:=j;rw[this];rfl
   |none=>have:(m.cF.findSome? λ x=>(ew x).findSome? (kB l))=none:=j;rw[this];rfl) (λ k=>by rw[CO,bu b,ae,bL];rfl) (by omega)
  rw[zt,bM (aR.1 b).1,ng,o,p,pv,pv,Mv,r4,pt];congr 1;unfold ic;rw[lK,JQ,JQ];rfl) (λ k=>by rw[zt,bL];rfl) (F:=F) (by omega)
 rw[this,t_,JQ]
end
end I
