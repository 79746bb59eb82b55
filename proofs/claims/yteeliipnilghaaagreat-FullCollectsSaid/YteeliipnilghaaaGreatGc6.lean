/- Part 6 of the proof that is ended in the last text: small logic, what the functions compute, walks, plain laws. -/
import Derived.Test.YteeliipnilghaaaGreatGc5
import Derived.Maps.RangeRun
import Derived.KernelRfl
import Derived.Test.YteeliipnilghaaaGreatProg
import Derived.Test.YteeliipnilghaaaGreatChecked
import Derived.Shelf.SlSortCmp.Whole1
import Derived.Sort.LotA
import Derived.Shelf.SlSortCmp.NoneTotal
open Array renaming getD_eq_getD_getElem?->dP,getElem?_eq_getElem->iR,getElem?_eq_none->hA,getElem?_modify->ju,getElem?_setIfInBounds->fe,getElem?_toList->gS
open Bool renaming and_eq_true->bC,eq_iff_iff->hT,false_eq_true->hv,false_or->hX,not_eq_true'->ga,not_false->iy,not_true->dF,or_eq_true->hM,true_and->jw
open Classical renaming byContradiction->k9
open List renaming Pairwise.imp_of_mem->lb,all_eq_true->jN,append_assoc->gT,append_nil->gL,cons.injEq->hh,cons_append->jf,drop_eq_getElem_cons->cw,drop_of_length_le->ix,drop_zero->fK,exists_of_findSome?_eq_some->dN,ext_getElem?->j4,findSome?_append->kQ,findSome?_cons->h5,findSome?_eq_none_iff->fJ,flatMap_cons->ig,getElem?_cons_zero->de,getElem?_eq_getElem->aH,getElem?_eq_none->gz,getElem?_eq_some_iff->aM,getElem?_map->iT,getElem?_range->kW,getElem?_set_self->ff,getElem?_take->gI,getElem_mem->hC,length->h4,length_append->dS,length_cons->cV,length_erase_of_mem->la,length_map->hl,length_mergeSort->ly,length_nil->gr,length_pos_iff->kV,length_reverse->kq,length_take->fP,map_append->jz,map_cons->eu,map_nil->hK,map_singleton->ky,mem_append->b3,mem_cons->cm,mem_cons_of_mem->ez,mem_cons_self->jX,mem_filter->iA,mem_iff_getElem->iv,mem_map->jv,mem_map_of_mem->j_,mem_of_getElem?->bB,mem_singleton->dK,mergeSort_perm->kd,nodup_append->eK,nodup_cons->iO,not_mem_nil->hR,pairwise_mergeSort->lp,perm_ext_iff_of_nodup->kf,range->dy,set_getElem_self->lr,take->lu,take_add_one->kg,take_length->jP,take_of_length_le->hF
open Nat renaming beq->bP,blt->ee,eq_of_beq_eq_true->a_,le_of_ble_eq_true->ck,le_refl->cu,lt_of_lt_of_le->dQ,lt_or_ge->fN,mul_one->js,zero_add->ji,zero_le->gD
open Option renaming bind->dB,bind_some->ae,getD_none->jh,getD_some->ie,map_eq_some_iff->cd,map_none->iz,map_some->fI,some.inj->dT,some.injEq->aD
open Prod renaming fst->ke,mk.injEq->b5
namespace a8
open Go Go.RowKit aq I Go.ChangeMaps
section
variable{P:Program}{ops:Array Oper}{o:Oper}{rest:List Oper}{a:Act}{w w':World}{v:Value}{Q:Exit->Act->World->Prop}
theorem fq(b:o.guard=none)(hy:bc P o a w v w')(k:wpList P ops Q rest (a.put o.dst v) w'):wpList P ops Q (o::rest) a w:=by
 refine wpList_plain b λ c d=>?_;unfold Oper.wp;rw[show(execOp a.eval o).run P w= .ok (.value v) w' from hy];exact d _ _ k
structure Sd (w:World) (r bm since clock:Nat) (es:Array MapEntry) (acc:List MapEntry):Prop where
 it:∃ev,since<=ev/\w.heap[r]? =some (.mapIter (some bm) since ⟨acc.map (·.born)⟩ ev)
 mp:w.heap[bm]? =some (.map es clock)
theorem aCV{l:List MapEntry}(h:(l.map (·.born)).Nodup):∀ {x y:MapEntry},x∈l->y∈l->x.born=y.born->x=y:=by
 induction l with
 |nil=>intro x y b;simp at b
 |cons z r g=>
  intro x y b hy e
  rw[eu]at h
  have c:=iO.1 h
  rcases cm.1 b with ex |Db
  ·rcases cm.1 hy with d |wW
   ·rw[ex,d]
   ·refine absurd ?_ c.1
    rw[<-ex,e]
    exact j_ (f:=(·.born)) wW
  ·rcases cm.1 hy with d |wW
   ·refine absurd ?_ c.1
    rw[<-d,<-e]
    exact j_ (f:=(·.born)) Db
   ·exact g c.2 Db wW e
theorem XD{α β:Type}{f:α->β}:∀ {l:List α},(l.map f).Nodup->l.Nodup
 |[],_=>List.nodup_nil
 |a::r,h=>by
  have b:=iO.1 (show(f a::r.map f).Nodup from h);exact iO.2 ⟨λ c=>b.1 (j_ c),XD b.2⟩
theorem Xw:∀ {o Y:List Nat},o.Nodup->(∀a∈o,a∈Y)->o.length<=Y.length
 |[],Y,_,_=>gD _
 |a::r,Y,c,aj=>by
  have c:=iO.1 c;have d:a∈Y:=aj a (by simp);have f:=Xw (o:=r) (Y:=Y.erase a) c.2 λ b af=>(List.mem_erase_of_ne λ e=>by subst e;exact c.1 af).2 (aj b (by simp[af]));rw[la d]at f;have:0<Y.length:=List.length_pos_of_mem d;simp only[cV];omega
theorem azD{es:List MapEntry}{acc:List MapEntry}(c:(es.map (·.born)).Nodup)(g:(acc.map (·.born)).Nodup)(aj:∀e∈acc,e∈es)(h:∀e∈es,e.born∈acc.map (·.born)):acc.Perm es:=by
 have b:acc.Nodup:=XD g;have ne:es.Nodup:=XD c;refine(kf b ne).2 λ e=>⟨aj e,λ d=>?_⟩
 obtain⟨x,f,e1⟩:=jv.1 (h e d);have:=aCV c (aj x f) d e1;exact this▸f
def Zp(vU Cu hb oo:Nat)(tok:Nat)(h8 ma lv km mb:Oper)(c:Code):Code:=
 .block vU (.loop (.seq (.region hb #[h8,ma] false) (.seq (.cond (.tmp tok) .skip (.exit vU)) (.block Cu (.seq (.region oo #[lv,km,mb] false) c)))))
theorem uC{d:Option Nat}{v:Value}:(a.put d v).tmps.size=a.tmps.size:=by
 cases d<;>simp[Act.put]
theorem wl{d t:Nat}{v:Value}(h:d≠t):(a.put (some d) v).tmps.getD t undef=a.tmps.getD t undef:=by
 simp only[Act.put,dP,fe,if_neg h]
theorem wk{d:Nat}{v:Value}(h:d<a.tmps.size):(a.put (some d) v).tmps.getD d undef=v:=by
 rw[zi h,if_pos rfl]
theorem CB{t:Nat}:a.eval (.tmp t)=a.tmps.getD t undef:=rfl
def s9(l:List Nat)(a b:Act):Prop:=b.tmps.size=a.tmps.size/\b.defers=a.defers/\ ∀t,t∉l->b.tmps.getD t undef=a.tmps.getD t undef
theorem s9.refl{l:List Nat}{a:Act}:s9 l a a:=⟨rfl,rfl,λ _ _=>rfl⟩
theorem s9.put{l:List Nat}{a b:Act}{d:Nat}{v:Value}(h:s9 l a b)(aK:d∈l):s9 l a (b.put (some d) v):=
 ⟨uC.trans h.1,h.2.1,λ t c=>by rw[wl (λ(e:d=t)=>c (by rw[<-e];exact aK))];exact h.2.2 t c⟩
theorem agY{n vU Cu hb oo r bm since clock ti tn tok te tk tv:Nat}{h8 ma lv km mb:Oper}{c:Code}{es:Array MapEntry}(g:List MapEntry->Act->World->Prop)
 (mJ:h8.op= .next (.tmp ti) false/\h8.dst=some tn/\h8.guard=none)(aZ:ma.op= .extract (.tmp tn) 0/\ma.dst=some tok/\ma.guard=none)
 (K:lv.op= .entry (.tmp ti)/\lv.dst=some te/\lv.guard=none)(b1:km.op= .extract (.tmp te) 0/\km.dst=some tk/\km.guard=none)(qa:mb.op= .assign (.tmp tk)/\mb.dst=some tv/\mb.guard=none)
 (af:(ee tn n&&ee tok n&&ee te n&&ee tk n)=true)(bX:(!(bP tn ti)&& !(bP tok ti)&& !(bP te ti)&& !(bP tk ti)&& !(bP tok tn)&& !(bP tk te))=true)
 (p:∀x∈es.toList,x.born<since)(L:since<=clock)(kc:(es.toList.map (·.born)).Nodup)
 (M:∀acc a w,g acc a w->a.tmps.size=n/\a.tmps.getD ti undef= .pointer (some ⟨r,0,none⟩)/\Sd w r bm since clock es acc/\(acc.map (·.born)).Nodup/\ ∀e∈acc,e∈es.toList)
 (N:∀acc e a d w w',g acc a w->e∈es.toList->e.born∉acc.map (·.born)->s9 [tn,tok,te,tk,tv] a d->(tv<n->d.tmps.getD tv undef=e.key)->bj [r] w w'->w'.heap.size=w.heap.size->(∃ev,since<=ev/\w'.heap[r]? =some (.mapIter (some bm) since ⟨(acc++[e]).map (·.born)⟩ ev)) ->
  c.wp P (λ x d w'=>x= .normal/\g (acc++[e]) d w') d w')
 (CW:∀acc a d w,g acc a w->acc.Perm es.toList->s9 [tn,tok] a d->Q .normal d w)(aI:g [] a w):(Zp vU Cu hb oo tok h8 ma lv km mb c).wp P Q a w:=by
 simp only[bC,ga]at af bX
 obtain⟨⟨⟨bO,D⟩,gd⟩,O⟩:=af
 have bO:tn<n:=ck bO
 have D:tok<n:=ck D
 have gd:te<n:=ck gd
 have O:tk<n:=ck O
 obtain⟨⟨⟨⟨⟨R,S⟩,q⟩,aMg⟩,aMh⟩,n6⟩:=bX
 have R:tn≠ti:=λ e=>by subst e;simp at R
 have S:tok≠ti:=λ e=>by subst e;simp at S
 have q:te≠ti:=λ e=>by subst e;simp at q
 obtain⟨zm,s,t⟩:=mJ
 obtain⟨u,y,A⟩:=aZ
 obtain⟨T,U,V⟩:=K
 obtain⟨wo,rR,mI⟩:=b1
 obtain⟨W,X,Z⟩:=qa
 unfold Zp
 refine wp_block (wp_loop_ghost (λ m a w=>∃acc,g acc a w/\m=es.size-acc.length) _ ⟨[],aI,rfl⟩ λ m a w hm=>?_)
 obtain⟨acc,hi,F9⟩:=hm
 obtain⟨sz,zy,⟨⟨ev,lV,E⟩,F⟩,az,aj⟩:=M acc a w hi
 refine wp_seq (wp_region_list ?_)
 have jb:a.eval (.tmp ti)= .pointer (some ⟨r,0,none⟩):=zy
 rcases run_next_at (P:=P) w h8.type r bm since ev ⟨acc.map (·.born)⟩ es clock E F p lV with⟨ai,G⟩|⟨e,j,dA,H,G⟩
 ·have cE:bc P h8 a w (.tuple #[.bool false]) w:=by
   simp only[bc,execOp,zm,jb,Sem.run_bind,G,Result.andThen];rfl
  refine fq t cE ?_;rw[s];refine fq A (LX (vs:=[.bool false]) (i:=0) (v:=.bool false) u (by rw[CB,wk (by rw[sz];exact bO)]) rfl) ?_;rw[y];have Vk:(((a.put (some tn) (.tuple #[.bool false])).put (some tok) (.bool false)).eval (.tmp tok))= .bool false:=by rw[CB,wk (by rw[uC,sz];exact D)]
  refine wp_seq (wp_cond_split Vk (λ h=>by cases h) λ _=>wp_exit ?_);simp only[Exit.then,Exit.inBlock,if_true];refine CW acc a _ w hi (azD kc az aj λ e j=>?_) ((s9.refl.put (by simp)).put (by simp));have o5:leftOf es ⟨acc.map (·.born)⟩= #[]:=Array.eq_empty_of_size_eq_zero ai;apply k9;intro hc;have:e∈(leftOf es ⟨acc.map (·.born)⟩).toList:=by
   unfold leftOf;simp only[Array.toList_filter,iA];exact⟨j,by simpa using hc⟩
  rw[o5]at this;simp at this
 ·have Vg:e∈es.toList/\e.born∉acc.map (·.born):=by
   unfold leftOf at j;simp only[Array.toList_filter,iA]at j;exact⟨j.1,by simpa using j.2⟩
  obtain⟨tQ,zv⟩:=Vg;obtain⟨b,f⟩:∃b,b=setBlock dA r (.mapIter (some bm) since ((⟨acc.map (·.born)⟩:Array Nat).push e.born) clock):=⟨_,rfl⟩
  rw[<-f]at G;have F7:dA.heap=w.heap:=by rcases H with rfl |rfl<;>rfl
  have Gd:r<w.heap.size:=by
   rcases fN r w.heap.size with h |h
   ·exact h
   ·rw[hA h]at E;cases E
  have ayo:((⟨acc.map (·.born)⟩:Array Nat).push e.born)=⟨(acc++[e]).map (·.born)⟩:=by simp
  have n2:b.heap[r]? =some (.mapIter (some bm) since ((⟨acc.map (·.born)⟩:Array Nat).push e.born) clock):=by
   rw[f];simp only[setBlock,F7];rw[fe,if_pos rfl,if_pos Gd]
  have B:∀k,k≠r->b.heap[k]? =w.heap[k]? :=λ k hk=>by
   rw[f];simp only[setBlock,F7];rw[fe,if_neg (λ e=>hk e.symm)]
  have aw_:bm≠r:=λ e=>by rw[e,E]at F;cases F
  have JD:b.heap.size=w.heap.size:=by rw[f];simp[setBlock,F7]
  have jI:bj [r] w b:=⟨by rw[f];rcases H with rfl |rfl<;>rfl,by rw[f];rcases H with rfl |rfl<;>rfl,by rw[f];rcases H with rfl |rfl<;>rfl,by rw[JD];exact cu _,λ k _ hk=>B k (by simpa using hk)⟩
  have cE:bc P h8 a w (.tuple #[.bool true,e.key,e.val]) b:=by
   simp only[bc,execOp,zm,jb,Sem.run_bind,G,Result.andThen];rfl
  refine fq t cE ?_;rw[s];refine fq A (LX (vs:=[.bool true,e.key,e.val]) (i:=0) (v:=.bool true) u (by rw[CB,wk (by rw[sz];exact bO)]) rfl) ?_;rw[y];have Vk:(((a.put (some tn) (.tuple #[.bool true,e.key,e.val])).put (some tok) (.bool true)).eval (.tmp tok))= .bool true:=by rw[CB,wk (by rw[uC,sz];exact D)]
  refine wp_seq (wp_cond_split Vk (λ _=>wp_skip ?_) λ h=>by cases h);refine wp_block (wp_seq (wp_region_list ?_));obtain⟨l,I⟩:∃l,l=(a.put (some tn) (.tuple #[.bool true,e.key,e.val])).put (some tok) (.bool true):=⟨_,rfl⟩
  rw[<-I];have ZP:l.tmps.size=n:=by rw[I,uC,uC,sz]
  have ayS:l.eval (.tmp ti)= .pointer (some ⟨r,0,none⟩):=by rw[I,CB,wl S,wl R];exact zy
  have axx:=run_entry_at (P:=P) b r bm since ⟨acc.map (·.born)⟩ es clock e n2 (by rw[B bm aw_];exact F) tQ kc;have sZ:bc P lv l b (.tuple #[e.key,e.val]) b:=by
   simp only[bc,execOp,T,ayS,Sem.run_bind,axx,Result.andThen];rfl
  refine fq V sZ ?_;rw[U];refine fq mI (LX (vs:=[e.key,e.val]) (i:=0) (v:=e.key) wo (by rw[CB,wk (by rw[ZP];exact gd)]) rfl) ?_;rw[rR];refine fq Z (ym W (v:=e.key) (by rw[CB,wk (by rw[uC,ZP];exact O)])) ?_;rw[X];have gY:s9 [tn,tok,te,tk,tv] a (((l.put (some te) (.tuple #[e.key,e.val])).put (some tk) e.key).put (some tv) e.key):=by
   rw[I];exact((((s9.refl.put (by simp)).put (by simp)).put (by simp)).put (by simp)).put (by simp)
  have:=N acc e a _ w b hi tQ zv gY (λ JE=>wk (by rw[uC,uC,ZP];exact JE)) jI JD ⟨clock,L,by rw[n2,ayo]⟩;refine Code.wp_mono (λ x d w' C=>?_) this;obtain⟨rfl,C⟩:=C;refine⟨es.size- (acc++[e]).length,?_,acc++[e],C,rfl⟩;have bw:acc.length<es.size:=by
   have h1:((acc++[e]).map (·.born)).Nodup:=(M _ _ _ C).2.2.2.1;have J:=Xw h1 (Y:=es.toList.map (·.born)) λ x aa=>by
    obtain⟨z,ah,rfl⟩:=jv.1 aa;exact j_ ((M _ _ _ C).2.2.2.2 z ah)
   simp at J;omega
  simp;omega
end
end a8
namespace a8
open Go Go.RowKit aq I
section
variable{E:Env}
def acq(E:Env)(n:ct)(ss:List Nat)(pas:List cD)(pbs:List bF)(b:j')(fn:dd E.T.El pas×cx E.T.El pbs->Option (yx E.T.El b))(x r:Code):Prop:=
 ∀da db eM,fn (da,db)=some eM-> ∀(W:World)(M0:List Nat)(X:Nat->Prop)(ρ:List Value)(a:Act)(w:World),a.tmps.size=n.n->a.defers=n.ds->Told E W M0 X ss pas pbs da db ρ a w false ->
  ∀(rest:Code)(Q:Exit->Act->World->Prop),(∀(c:Act)(w':World)(d:List Value),c.tmps.size=n.n->c.defers=n.ds->Told E W M0 X b.ss b.eo b.c9 eM.1 eM.2 d c w' true ->
   To X (bJ id (b6 false pbs) false pbs db) (bJ id (b6 true b.c9) true b.c9 eM.2) ρ d w w'->rest.wp E.P Q c w')->(Code.seq x (.seq r rest)).wp E.P Q a w
@[reducible] def Kq{T:bN}(ss:List Nat)(pas:List cD)(pbs:List bF)(a:j')(fn:dd T.El pas×cx T.El pbs->Option (yx T.El a)):fu T:=⟨ss,pas,pbs,[a],λ _ d=>fn d⟩
theorem aDm(F:E.cM=[]){n:ct}{ss:List Nat}{pas:List cD}{pbs:List bF}{b:j'}{fn:dd E.T.El pas×cx E.T.El pbs->Option (yx E.T.El b)}{x r:Code}(G:b.x= .nm)(aK:acq E n ss pas pbs b fn x r):yB E n ((Kq ss pas pbs b fn).run E 0) x r:=by
 intro rest s t c W M0 X b0 ρ0 w0 ρ a w Q h k;have H:∀ {I:Nat->Prop}{bl':List (aC E.T.El)}{ρ':List Value}{w':World},∀g y,cv E.cM g=some y->ao E.T (bi I bl' ρ' w') w' ρ' bl' y (.pointer (some ⟨g,0,none⟩)):=λ{_ _ _ _} g y o=>by rw[F]at o;simp[cv]at o
 unfold fu.run at c;split at c
 ·rename_i ys K
  cases q:gx [] (Kq ss pas pbs b fn).pas (Kq ss pas pbs b fn).pbs s.bl ys with
  |mk bl cE=>
  rw[q]at c
  simp only at c
  obtain⟨f,l,iw,L⟩:=wg h.r.mem q (Al h.r (cur:=[]) trivial K)
  split at c
  ·rename_i d sel u v
   simp only[bC]at u
   obtain⟨M,U2,N⟩:=u
   obtain⟨da,db⟩:=d
   obtain⟨eM,O,J⟩:=ajd c
   obtain⟨d',e1,e2⟩:=J
   simp only[aD]at e1
   subst e1
   obtain⟨aj,_,P⟩:=tF l tq v
   obtain⟨R,e⟩:=CJ tq v
   obtain⟨S,T⟩:=P (bi (jF X bl f sel) (bJ id (b6 false pbs) false pbs db) (gH f sel) w) λ k e=>aj.GZ e
   have U:=aj.enter l T
   have V:=S _ L
   have z:(⟨HH b.x,⟨⟨vz b.ss (f_ (iL sel bl.length) (fm bl sel b.c9) b.eo eM.1),[],[]⟩,gf bl sel b.c9 eM.2,sel++s.ws⟩⟩:b2 E.T.El)=t:=e2
   refine aK da db eM O w _ _ _ a w h.r.dL.dZ.size h.r.dL.dZ.defers ⟨U,V⟩ rest Q λ Y w' Z cC rX A rT=>?_
   obtain⟨C,d_⟩:=Pr M (w:=b) (by simp)
   obtain⟨bO,dU,gd,gw⟩:=back (gq:=b6 true b.c9) l aj R (λ j i B p h h' D=>by
    obtain⟨B',e1,e2,_⟩:=e j i p h D;rw[h']at e1;cases e1;exact Ot C D e2) C (λ i hi=>by
     obtain⟨j,aA,rfl⟩:=iv.1 hi;obtain⟨B,e1,_⟩:=e j _ _ (aH aA) (aH (by
      have:=aj.len;rw[mX]at this;simp only[gH,hl]at this;omega:j<pbs.length))
     exact(aM.1 e1).1) (λ j=>rfl) A.1 rT
   have Gf:=gw b.eo eM.1 _ A.2
   have zz:gW s.bl ρ w w' sel:=by
    have:=gW.nil.bD iw gd;rwa [gL]at this
   have:=k (fY f sel Z) Y w' (by
    subst z;exact⟨⟨bO,⟨⟨cC,rX,λ t y hy=>RM Gf hy⟩,λ p m=>by simp at m,λ p m=>by simp at m⟩,H⟩,h.to.trans (iw.trans dU),h.wr.bD h.to zz⟩)
   rw[<-z]at this
   rw[G]at this
   exact this
  ·exact c.elim
 ·exact c.elim
end
end a8
namespace a8
open Go Go.RowKit aq I
section
variable{E:Env}{br:fc E}{W:World}{M0:List Nat}{X:Nat->Prop}{n:ct}{b0:List (aC E.T.El)}{ρ0:List Value}{w0:World}{ops:Array Oper}{Q:Exit->Act->World->Prop}
theorem Pu(aZ:cX E)(j:kZ E br){rest:List Oper}:∀(os:List Oper){s:eB E.T.El}{t:b2 E.T.El}{ρ:List Value}{a:Act}{w:World},(opsL E br ops n.n os s).out t->t.x= .nm->iW E W M0 X n b0 ρ0 w0 s ρ a w->(∀ρ' l w',iW E W M0 X n b0 ρ0 w0 t.s ρ' l w'->wpList E.P ops Q rest l w')->wpList E.P ops Q (os++rest) a w
 |[],s,t,ρ,a,w,c,_,h,k=>by
  have c:(⟨.nm,s⟩:b2 E.T.El)=t:=c;subst c;exact k ρ a w h
 |o::r,s,t,ρ,a,w,c,g,h,k=>by
  simp only[opsL]at c;show wpList E.P ops Q (o::(r++rest)) a w
  split at c
  ·obtain⟨q,m,J⟩:=D.jS c
   rw[DW]at J
   obtain⟨d,aK,u,p,hy⟩:=X5 (ops:=ops) aZ h.r m
   have next:=Pu aZ j r J g (ρ:=ρ) (a:=a.put (some d) u) (w:=w) ⟨p,h.to,h.wr⟩ k
   refine wpList_step λ K v=>?_
   rcases hy with⟨e,hy⟩|⟨e,hy⟩
   ·rw[if_pos e]
    unfold Oper.wp
    rw[show(execOp a.eval o).run E.P w=_ from hy.now]
    show K (a.put o.dst u) w
    rw[aK]
    exact v _ _ next
   ·rw[if_neg (by simp[e]),aK,<-hy]
    exact v _ _ next
  ·exact c.elim
  ·obtain⟨b,m,J⟩:=D.jS c
   have f:=abE aZ j h.r m
   have f:=f (wpList E.P ops Q (r++rest)) Q λ ρ' l w' p x e=>by
    have aj:=h.next p x e;cases i:b.x with
    |nm=>
     rw[i]at J
     simp only[DW,Pn]at J
     exact Pu aZ j r J g aj k
    |ex id=>
     rw[i]at J
     have J:(⟨.ex id,b.s.f,b.s.bl,b.s.ws++s.ws⟩:b2 E.T.El)=t:=J
     subst J
     cases g
    |rt=>
     rw[i]at J
     have J:(⟨.rt,b.s.f,b.s.bl,b.s.ws++s.ws⟩:b2 E.T.El)=t:=J
     subst J
     cases g
    |hS y=>
     rw[i]at J
     have J:(⟨.hS y,b.s.f,b.s.bl,b.s.ws++s.ws⟩:b2 E.T.El)=t:=J
     subst J
     cases g
   unfold wpList
   split
   ·rename_i e
    rw[if_pos e]at f
    exact .inl f
   ·rename_i e
    rw[if_neg e]at f
    exact f
def HR(E:Env):fc E:=λ _ _ _=>.no
theorem aeT:kZ E (HR E):=⟨λ _ _ _ _ h=>h.elim⟩
theorem awj(b:E.cM=[]){c:Nat->Prop}{bl':List (aC E.T.El)}{ρ':List Value}{w':World}:∀g y,cv E.cM g=some y->ao E.T (bi c bl' ρ' w') w' ρ' bl' y (.pointer (some ⟨g,0,none⟩)):=λ g y a=>by rw[b]at a;simp[cv]at a
theorem W_(c:E.cM=[]){bl:List (aC E.T.El)}{ρ:List Value}{a:Act}{w:World}{fr:List (Nat×aF E.T.El)}(d:Mem E.T W M0 X bl ρ w)(e:a.tmps.size=n.n)(J:a.defers=n.ds)(f:∀t y,cv fr t=some y->ao E.T (bi X bl ρ w) w ρ bl y (a.tmps.getD t undef)):R E W M0 X n ⟨fr,[],[]⟩ bl ρ a w:=
 ⟨d,⟨⟨e,J,f⟩,λ p b=>by simp at b,λ p b=>by simp at b⟩,awj c⟩
theorem ah5{f:cq E.T.El}{bl:List (aC E.T.El)}{ρ:List Value}{a:Act}{w:World}(h:R E W M0 X n f bl ρ a w):iW E W M0 X n bl ρ w ⟨f,bl,[]⟩ ρ a w:=⟨h,.refl,.nil⟩
end
end a8
namespace a8
open Go Go.RowKit aq I Go.ChangeMaps
structure yC where
 Zq:Nat
 ops:Array Oper
 vU:Nat
 Cu:Nat
 hb:Nat
 oo:Nat
 tok:Nat
 h8:Oper
 ma:Oper
 lv:Oper
 km:Oper
 mb:Oper
 c5:Nat
 oj:Array Oper
 eM:Nat
 xL:Array Oper
def yC.x(d:yC):Code:=.seq (.region d.Zq d.ops false) (Zp d.vU d.Cu d.hb d.oo d.tok d.h8 d.ma d.lv d.km d.mb (.region d.c5 d.oj false))
def yC.r(d:yC):Code:=.region d.eM d.xL false
def GJ:Code->Code->Option yC
 | .seq (.region Zq ops false) (.block vU (.loop (.seq (.region hb ⟨[h8,ma]⟩ false) (.seq (.cond (.tmp tok) .skip (.exit a)) (.block Cu (.seq (.region oo ⟨[lv,km,mb]⟩ false) (.region c5 oj false))))))),.region eM xL false=>match bP vU a with
   |true=>some ⟨Zq,ops,vU,Cu,hb,oo,tok,h8,ma,lv,km,mb,c5,oj,eM,xL⟩
   |false=>none
 |_,_=>none
theorem aiT{x r:Code}{d:yC}(h:GJ x r=some d):x=d.x/\r=d.r:=by
 unfold GJ at h;split at h
 ·split at h
  ·rename_i af
   cases h
   rw[<-a_ af]
   exact⟨rfl,rfl⟩
  ·cases h
 ·cases h
section
variable{E:Env}{br:fc E}{W:World}{M0:List Nat}{X:Nat->Prop}{n:ct}{ops:Array Oper}{Q:Exit->Act->World->Prop}
theorem Mem.aeL{bl bl':List (aC E.T.El)}{ρ ρ':List Value}{w w':World}(h:Mem E.T W M0 X bl ρ w)(h':Mem E.T W M0 X bl' ρ' w')(aj:w.heap.size<=w'.heap.size)(af:∀k,k<w.heap.size->w'.heap[k]? =w.heap[k]?):bj [] w w':=
 ⟨h'.bS.os.trans h.bS.os.symm,h'.bS.tape.trans h.bS.tape.symm,h'.bS.output.trans h.bS.output.symm,aj,λ k a _=>af k a⟩
theorem PW(aZ:cX E)(e:E.cM=[]){bl:List (aC E.T.El)}{ρ:List Value}{a:Act}{w:World}{fr:List (Nat×aF E.T.El)}{os rest:List Oper}{α:Type}{K:b2 E.T.El->Option α}{z:α}
 (c:Mem E.T W M0 X bl ρ w)(f:a.tmps.size=n.n)(J:a.defers=n.ds)(g:∀t y,cv fr t=some y->ao E.T (bi X bl ρ w) w ρ bl y (a.tmps.getD t undef))
 (h:(opsL E (HR E) ops n.n os ⟨⟨fr,[],[]⟩,bl,[]⟩).run K=some z)(j:∀t,K t=some z->t.x= .nm/\t.s.ws=[])
 (k:∀t ρ' b w',K t=some z->R E W M0 X n t.s.f t.s.bl ρ' b w'->To X bl t.s.bl ρ ρ' w w'->bj [] w w'->wpList E.P ops Q rest b w'):wpList E.P ops Q (os++rest) a w:=by
 obtain⟨t,l,d⟩:=D.sC h
 obtain⟨m,o⟩:=j t d
 refine Pu aZ aeT os l m (ah5 (W_ e c f J g)) λ ρ' b w' aj=>?_
 refine k t ρ' b w' d aj.r aj.to (c.aeL aj.r.mem aj.to.sz λ q p=>aj.wr q p λ i hi=>?_)
 rw[o]at hi
 simp at hi
end
def iM(W:List Int):List Int->Int->Option Int
 |[],n=>some n
 |k::r,n=>(idx W (ar (k+1))).bind λ v=>iM W r (ar (n+ar (3+v)))
theorem akx{W:List Int}{x:Int}:∀ {l:List Int}{n:Int},iM W (l++[x]) n=(iM W l n).bind λ m=>(idx W (ar (x+1))).bind λ v=>some (ar (m+ar (3+v)))
 |[],n=>rfl
 |k::r,n=>by
  simp only[jf,iM];cases idx W (ar (k+1))with
  |none=>rfl
  |some v=>exact akx
theorem akw{W:List Int}:∀ {l:List Int}{n m:Int},iM W l n=some m-> ∀x∈l,∃v,idx W (ar (x+1))=some v
 |[],n,m,_,x,aa=>by simp at aa
 |k::r,n,m,h,x,aa=>by
  obtain⟨v,a,J⟩:=fM h;rcases cm.1 aa with rfl |aa
  ·exact⟨v,a⟩
  ·exact akw J x aa
theorem ZN{W:List Int}{l l':List Int}(h:l.Perm l'):∀n,iM W l n=iM W l' n:=by
 induction h with
 |nil=>intro n;rfl
 |cons x _ d=>
  intro n
  simp only[iM]
  cases idx W (ar (x+1))with
  |none=>rfl
  |some v=>exact d _
 |swap x y l=>
  intro n
  simp only[iM]
  cases c:idx W (ar (x+1))with
  |none=>
   cases hy:idx W (ar (y+1))with
   |none=>rfl
   |some v=>simp[c]
  |some u=>
   cases hy:idx W (ar (y+1))with
   |none=>simp[hy]
   |some v=>
    simp only[ae,c,hy]
    congr 1
    unfold ar
    omega
 |trans _ _ a b=>intro n;rw[a,b]
def ki(e:MapEntry):Int:=match e.key with
 | .int _ x=>x
 |_=>0
end a8
namespace a8
open Go Go.RowKit aq I
theorem J4{α:Type}:∀ {fr:List (Nat×α)}{t:Nat}{y:α},cv fr t=some y->(t,y)∈fr
 |[],t,y,h=>by simp[cv]at h
 |p::r,t,y,h=>by
  unfold cv at h;split at h
  ·rename_i af
   simp only[aD]at h
   have:=a_ af
   subst this;subst h
   exact jX
  ·exact ez _ (J4 h)
def mH{El:Nat->Type}(f:cq El)(s:Nat):Option Value:=match cv f.fr s with
 |some (.p v)=>some v
 |_=>none
theorem awk{El:Nat->Type}{f:cq El}{s:Nat}{v:Value}(h:mH f s=some v):cv f.fr s=some (.p v):=by
 unfold mH at h;split at h
 ·rename_i e
  simp only[aD]at h
  rw[e,h]
 ·cases h
def wm{El:Nat->Type}(f:cq El):List Nat->Option (List Value)
 |[]=>some []
 |s::r=>(mH f s).bind λ v=>(wm f r).bind λ vs=>some (v::vs)
theorem ND{T:bN}{F:Nat->Prop}{w:World}{ρ:List Value}{bl:List (aC T.El)}{n:ct}{f:cq T.El}{a:Act}(b:rl T F w ρ bl n f.fr a):∀ {ss:List Nat}{vs:List Value},wm f ss=some vs->ss.map (λ s=>a.tmps.getD s undef)=vs
 |[],vs,h=>by
  simp only[wm,aD]at h;subst h;rfl
 |s::r,vs,h=>by
  obtain⟨v,d,J⟩:=fM h;obtain⟨us,e,c⟩:=fM J;simp only[aD]at c;subst c;have:=b.get s _ (awk d);simp only[ao]at this;rw[eu,this,ND b e]
def rowAt{El:Nat->Type}(bl:List (aC El))(i:Nat):Option (Nat× Σ t,List (El t)):=match bl[i]? with
 |some (.r t g _ l)=>some (g,⟨t,l⟩)
 |_=>none
theorem aGb{El:Nat->Type}{bl:List (aC El)}{i t g:Nat}{l:List (El t)}(h:rowAt bl i=some (g,⟨t,l⟩)):∃k,bl[i]? =some (.r t g k l):=by
 unfold rowAt at h;split at h
 ·rename_i e
  simp only[aD,b5,Sigma.mk.injEq]at h
  obtain⟨rfl,rfl,h⟩:=h
  cases h
  exact⟨_,e⟩
 ·cases h
section
variable{T:bN}{W w w':World}{M0:List Nat}{X:Nat->Prop}{bl bl':List (aC T.El)}{ρ ρ':List Value}
theorem Mem.aeI{M:List Nat}(h:Mem T W M0 X bl ρ w)(h':Mem T W M0 X bl' ρ' w')(aj:w.heap.size<=w'.heap.size)(af:∀k,k<w.heap.size->k∉M->w'.heap[k]? =w.heap[k]?):bj M w w':=
 ⟨h'.bS.os.trans h.bS.os.symm,h'.bS.tape.trans h.bS.tape.symm,h'.bS.output.trans h.bS.output.symm,aj,af⟩
theorem Mem.Zu(b:Mem T W M0 X bl ρ w){i t g k:Nat}{l0:List (T.El t)}{a:Value}(hi:bl[i]? =some (.r t g k l0))(d:ρ[i]? =some a):∃A c xs,a= .slice A l0.length c/\rowIs w t (T.ty t).size a l0.length xs/\dx (T.ty t) (bi X bl ρ w) w xs l0:=
 b.ok i _ _ hi d
theorem Mem.aj0(b:Mem T W M0 X bl ρ w){i t g k:Nat}{l0 l:List (T.El t)}{a:Value}{A:Option Addr}{c:Nat}{xs:List Value}
 (hi:bl[i]? =some (.r t g k l0))(d:ρ[i]? =some a)(f:bj (a8.af a) w w')(ad:∀k∈a8.af (.slice A l.length c),k∈a8.af a\/(w.heap.size<=k/\k<w'.heap.size))
 (j:rowIs w' t (T.ty t).size (.slice A l.length c) l.length xs)(m:∀F,dx (T.ty t) F w' xs l) :
 Mem T W M0 X (bl.set i (.r t (g+1) 0 l)) (ρ.set i (.slice A l.length c)) w'/\To X bl (bl.set i (.r t (g+1) 0 l)) ρ (ρ.set i (.slice A l.length c)) w w':=by
 have n:kJ a:=by
  obtain⟨nz,ev,_,e,_⟩:=b.Zu hi d;rw[e];trivial
 have h:=b.D9 (B':=.r t (g+1) 0 l) (h':=.slice A l.length c) hi d f ad ⟨λ o=>absurd n o,by simp[bW],λ e=>by simp[bW]at e⟩
 exact⟨b.gl hi d f ad h ⟨A,c,xs,rfl,j,m _⟩,h⟩
end
end a8
namespace a8
open Go Go.RowKit aq I
section
variable{E:Env}
structure rk (T:bN) where
 pas:List cD
 pbs:List bF
 R:Type
 v:R->Value
 Wq:Value->Option R
 fn:dd T.El pas×cx T.El pbs->Option R
def rk.run(E:Env)(c:rk E.T)(ys:List (aF E.T.El))(bl:List (aC E.T.El)):D (fj E.T.El):=match gx [] c.pas c.pbs bl ys with
 |(bO,cE)=>match im bO [] false c.pas c.pbs cE with
  |some (d,_)=>.op (c.fn d) λ x=>.ok ⟨.ret (.p (c.v x)),bO,[]⟩
  |none=>.no
def rk.fin{T:bN}(c:rk T)(r:fj T.El):Option c.R:=match r.e,r.ws with
 | .ret (.p u),[]=>c.Wq u
 |_,_=>none
def rk.Eq(E:Env)(br:fc E)(LE:k0 E)(f:Nat)(c:rk E.T):Prop:=∀(da:dd E.T.El c.pas)(db:cx E.T.El c.pbs),(nQ E br LE f (f_ id (b6 false c.pbs) c.pas da) (bJ id (b6 false c.pbs) false c.pbs db)).run c.fin=c.fn (da,db)
theorem atj{f:Nat}{br:fc E}{LE:k0 E}(aZ:cX E)(q:kZ E br)(s:vF E LE)(t:E.cM=[]){c:rk E.T}(hi:∀u x,c.Wq u=some x->u=c.v x)(z:c.Eq E br LE f):j6 E f (c.run E):=by
 intro ys A r a W M0 X ρ0 w vs B _ C;unfold rk.run at a;cases n:gx [] c.pas c.pbs A ys with
 |mk bl cE=>
 rw[n]at a;obtain⟨ρ,l,iw,F⟩:=wg B n C;simp only at a;split at a
 ·rename_i d sel G
  obtain⟨da,db⟩:=d
  obtain⟨x,H,J⟩:=a
  have J:(⟨.ret (.p (c.v x)),bl,[]⟩:fj E.T.El)=r:=J
  subst J
  obtain⟨aj,_,I⟩:=tF l tq G
  obtain⟨K,L⟩:=I (bi (jF X bl ρ sel) (bJ id (b6 false c.pbs) false c.pbs db) (gH ρ sel) w) λ k b=>aj.GZ b
  have o:=aj.enter l L
  obtain⟨V,M,j⟩:=D.sC ((z da db).trans H)
  have N:∀ {O bl' ρ' w'},HS E O bl' ρ' w':=λ{_ _ _ _} g y p=>by rw[t]at p;simp[cv]at p
  have hc:=((Nh aZ q s).ok _ _ _ _ M).2 _ _ _ _ _ vs o N (K vs F)
  refine hc.mono λ e w' P=>?_
  obtain⟨Y,gN,Q,kR,h⟩:=P
  unfold rk.fin at j
  split at j
  ·rename_i u R S
   have T:=hi _ _ j
   subst T
   have m:bj [] w w':=o.aeI gN Q.sz λ k b _=>kR k b λ i hi=>by rw[S]at hi;simp at hi
   refine⟨ρ,l.eQ m,iw.trans (Mem.sG m),λ k b _=>m.block k b (by simp),?_⟩
   rw[R]at h
   cases e with
   |returned v=>
    simp only[Cl,ao]at h
    have U:ao E.T (bi X bl ρ w') w' ρ bl (.p (c.v x)) v:=by simp only[ao];exact h
    exact U
   |panicked _=>exact h.elim
   |_=>exact h.elim
  ·cases j
 ·exact a.elim
noncomputable def aN.rd(s:aN E)(f:Nat)(c:rk E.T)(a:c.Eq E s.t.br s.t.LE f)(hi:∀u x,c.Wq u=some x->u=c.v x)(ad:eX E.b7 f=true:=by kernel_rfl):aN E:=⟨s.t.f f (c.run E),λ h=>(s.ok h).oT ad (atj h (k6 h (s.ok h).ce (s.ok h).le 100) (s.ok h).le s.cM hi a),s.cM⟩
theorem cK.Ok.avW{t:cK E}(aZ:cX E)(h:t.Ok){f:Nat}(ad:eX E.b7 f=true){c:h2 E.T}(hc:j6 E f (c.run E)):(t.wh f c).Ok:=by
 refine h.oT ad λ ys bl r a=>?_;split at a
 ·exact hc ys bl r a
 ·exact((k6 aZ h.ce h.le 100).ok f ys bl r a).2
noncomputable def aN.dW(s:aN E)(f:Nat)(c:h2 E.T)(hc:j6 E f (c.run E))(ad:eX E.b7 f=true:=by kernel_rfl):aN E:=⟨s.t.wh f c,λ h=>(s.ok h).avW h ad hc,s.cM⟩
structure Bw (T:bN) where
 ss:List Nat
 pas:List cD
 pbs:List bF
 out:Nat
 R:Type
 v:R->Value
 fn:dd T.El pas×cx T.El pbs->Option R
def Bw.run(E:Env)(c:Bw E.T)(s:eB E.T.El):D (b2 E.T.El):=match pj E s.bl s.f [] (c.ss.map .tmp)with
 |some ys=>match gx [] c.pas c.pbs s.bl ys with
  |(bO,cE)=>match im bO [] false c.pas c.pbs cE with
   |some (d,_)=>.op (c.fn d) λ x=>.ok ⟨.nm,⟨⟨[(c.out,.p (c.v x))],[],[]⟩,bO,s.ws⟩⟩
   |none=>.no
 |none=>.no
def Bw.Bx(E:Env)(n:ct)(c:Bw E.T)(x r:Code):Prop:=
 ∀da db eM,c.fn (da,db)=some eM-> ∀(W:World)(M0:List Nat)(X:Nat->Prop)(ρ:List Value)(a:Act)(w:World),a.tmps.size=n.n->a.defers=n.ds->Told E W M0 X c.ss c.pas c.pbs da db ρ a w false ->
  ∀(rest:Code)(Q:Exit->Act->World->Prop),(∀(b:Act)(w':World),b.tmps.size=n.n->b.defers=n.ds->b.tmps.getD c.out undef=c.v eM->bj [] w w'->rest.wp E.P Q b w')->(Code.seq x (.seq r rest)).wp E.P Q a w
theorem ati(o:E.cM=[]){n:ct}{c:Bw E.T}{x r:Code}(aK:c.Bx E n x r):yB E n (c.run E) x r:=by
 intro rest s t b W M0 X b0 ρ0 w0 ρ a w Q h k;have u:∀ {v:Nat->Prop}{bl':List (aC E.T.El)}{ρ':List Value}{w':World},∀g y,cv E.cM g=some y->ao E.T (bi v bl' ρ' w') w' ρ' bl' y (.pointer (some ⟨g,0,none⟩)):=λ{_ _ _ _} g y l=>by rw[o]at l;simp[cv]at l
 unfold Bw.run at b;split at b
 ·rename_i ys z
  cases m:gx [] c.pas c.pbs s.bl ys with
  |mk bl cE=>
  rw[m]at b
  simp only at b
  obtain⟨e,f,iw,A⟩:=wg h.r.mem m (Al h.r (cur:=[]) trivial z)
  split at b
  ·rename_i d sel B
   obtain⟨da,db⟩:=d
   obtain⟨eM,C,J⟩:=b
   have J:(⟨.nm,⟨⟨[(c.out,.p (c.v eM))],[],[]⟩,bl,s.ws⟩⟩:b2 E.T.El)=t:=J
   obtain⟨aj,_,D⟩:=tF f tq B
   obtain⟨F,G⟩:=D (bi (jF X bl e sel) (bJ id (b6 false c.pbs) false c.pbs db) (gH e sel) w) λ k H=>aj.GZ H
   have I:=aj.enter f G
   have K:=F _ A
   refine aK da db eM C w _ _ _ a w h.r.dL.dZ.size h.r.dL.dZ.defers ⟨I,K⟩ rest Q λ L w' M N ap i=>?_
   have:=k e L w' (by
    subst J;refine⟨⟨f.eQ i,⟨⟨M,N,λ t y hy=>?_⟩,λ p j=>by simp at j,λ p j=>by simp at j⟩,u⟩,h.to.trans (iw.trans (Mem.sG i)),?_⟩
    ·have:=J4 hy
     simp only[dK,b5]at this
     obtain⟨rfl,rfl⟩:=this
     simp only[ao]
     exact ap
    ·have:=h.wr.bD h.to (s':=[]) (w'':=w') (bl':=s.bl) (ρ':=ρ) λ q O _=>i.block q O (by simp)
     exact this)
   rw[<-J]at this
   exact this
  ·exact b.elim
 ·exact b.elim
end
end a8
namespace Go.Proofs.YteeliipnilghaaaGreat
open Go Go.RowKit aq I a8
@[reducible] def sK:List bF:=[.c 140 [.B 1,.l 134,.l 3,.l 124,.l 120,.l 121,.M 2],.c 24 [.l 3,.i .i64,.i .i64,.i .i64,.i .i64,.l 3,.i .i64],.m 3 4]
noncomputable def sL:Code×Code:=((DZ Tryz.prog 55 0).getD (.skip,.skip))
noncomputable def hE:yC:=(GJ sL.1 sL.2).getD ⟨0,#[],0,0,0,0,0,default,default,default,default,default,0,#[],0,#[]⟩
theorem aHw:DZ Tryz.prog 55 0=some sL:=by kernel_rfl
theorem aHy:GJ sL.1 sL.2=some hE:=by kernel_rfl
def aHA(d:dd bk.El [.p (.B 0),.p (.i .i64)]×cx bk.El sK):List Int:=List.map (α:=Int×Bool) ke d.2.2.2.1
def Z3:Bw bk:=⟨[0,3],[.p (.B 0),.p (.i .i64)],sK,2,Int,.int .i64,λ d=>iM d.2.2.1.1 (aHA d) d.1.2.1⟩
theorem aHz:hE.h8.op= .next (.tmp 9) false/\hE.h8.dst=some 10/\hE.h8.guard=none:=by refine⟨?_,?_,?_⟩<;>kernel_rfl
theorem aHB:hE.ma.op= .extract (.tmp 10) 0/\hE.ma.dst=some 11/\hE.ma.guard=none:=by refine⟨?_,?_,?_⟩<;>kernel_rfl
theorem aHC:hE.lv.op= .entry (.tmp 9)/\hE.lv.dst=some 12/\hE.lv.guard=none:=by refine⟨?_,?_,?_⟩<;>kernel_rfl
theorem aHD:hE.km.op= .extract (.tmp 12) 0/\hE.km.dst=some 13/\hE.km.guard=none:=by refine⟨?_,?_,?_⟩<;>kernel_rfl
theorem aHE:hE.mb.op= .assign (.tmp 13)/\hE.mb.dst=some 4/\hE.mb.guard=none:=by refine⟨?_,?_,?_⟩<;>kernel_rfl
noncomputable def aHH:List Oper:=hE.ops.toList.take 4
noncomputable def Ld:Oper:=(hE.ops.toList.drop 4).headD hE.h8
theorem aHF:hE.ops.toList=aHH++[Ld]:=by kernel_rfl
theorem Z6:Ld.op= .range 70 (.tmp 8)/\Ld.dst=some 9/\Ld.guard=none:=by refine⟨?_,?_,?_⟩<;>kernel_rfl
def fV{T:bN}(t:b2 T.El):Bool:=match t.x,t.s.ws with
 | .nm,[]=>true
 |_,_=>false
theorem Om{T:bN}{t:b2 T.El}(h:fV t=true):t.x= .nm/\t.s.ws=[]:=by
 unfold fV at h;split at h
 ·rename_i a J;exact⟨a,J⟩
 ·cases h
def Z4(t:b2 bk.El):Option (Nat×Nat×Nat×Value):=match fV t,cv t.s.f.fr 8,cv t.s.f.fr 0,cv t.s.f.fr 3 with
 |true,some (.m j),some (.b i o),some (.p u)=>some (j,i,o,u)
 |_,_,_,_=>none
theorem ak9{t:b2 bk.El}{j i o:Nat}{u:Value}(h:Z4 t=some (j,i,o,u)):fV t=true/\cv t.s.f.fr 8=some (.m j)/\cv t.s.f.fr 0=some (.b i o)/\cv t.s.f.fr 3=some (.p u):=by
 unfold Z4 at h;split at h
 ·rename_i a J b c
  simp only[aD,b5]at h
  obtain⟨rfl,rfl,rfl,rfl⟩:=h
  exact⟨a,J,b,c⟩
 ·cases h
def QA(t:b2 bk.El):Option (Value×Nat×Nat×Value):=match fV t,cv t.s.f.fr 9,cv t.s.f.fr 0,cv t.s.f.fr 3 with
 |true,some (.p v),some (.b i o),some (.p u)=>some (v,i,o,u)
 |_,_,_,_=>none
theorem ak_{t:b2 bk.El}{v:Value}{i o:Nat}{u:Value}(h:QA t=some (v,i,o,u)):fV t=true/\cv t.s.f.fr 9=some (.p v)/\cv t.s.f.fr 0=some (.b i o)/\cv t.s.f.fr 3=some (.p u):=by
 unfold QA at h;split at h
 ·rename_i a J b c
  simp only[aD,b5]at h
  obtain⟨rfl,rfl,rfl,rfl⟩:=h
  exact⟨a,J,b,c⟩
 ·cases h
theorem acI{T:bN}{F F':Nat->Prop}{w w':World}{ρ ρ':List Value}{bl bl':List (aC T.El)}{i o:Nat}{v a:Value}(b:mx T ρ ρ' bl bl')(h:ao T F w ρ bl (.b i o) v)(h':ao T F' w' ρ' bl' (.b i o) a):a=v:=by
 simp only[ao]at h h';obtain⟨g,e1,e2⟩:=h;obtain⟨g',e3,e4⟩:=h';obtain⟨u,c,d,_⟩:=b.at_ i _ e1;have:=d (by simp[kJ]);rw[c,this]at e3;cases e3;rw[e2,e4]
theorem Tc{F:Nat->Prop}{w:World}:∀ {es:List MapEntry}{d:List (Int×Bool)},jB (kt:=3) (vt:=4) bk F w tZ es d->es.map ki=d.map ke
 |[],[],_=>rfl
 |[],_::_,h=>h.elim
 |_::_,[],h=>h.elim
 |e::es,p::d,h=>by
  obtain⟨a,_,b⟩:=h;rw[eu,eu,Tc b];congr 1;unfold ki;rw[a];rfl
theorem W0{El:Nat->Type}{s t u:Nat}{x y z:aF El}(h:cv [(s,x),(t,y)] u=some z):(u=s/\z=x)\/(u=t/\z=y):=by
 simp only[cv]at h;split at h
 ·rename_i af
  simp only[aD]at h
  exact .inl ⟨(a_ af).symm,h.symm⟩
 ·split at h
  ·rename_i af
   simp only[aD]at h
   exact .inr ⟨(a_ af).symm,h.symm⟩
  ·cases h
theorem Tb{F:Nat->Prop}{w:World}:∀ {es:List MapEntry}{d:List (Int×Bool)},jB (kt:=3) (vt:=4) bk F w tZ es d-> ∀e∈es,e.key= .int .i64 (ki e)
 |[],_,_,e,he=>by simp at he
 |_::_,[],h,_,_=>h.elim
 |x::es,p::d,h,e,he=>by
  obtain⟨a,_,b⟩:=h;rcases cm.1 he with rfl |he
  ·unfold ki
   rw[a]
   rfl
  ·exact Tb b e he
theorem aBH{El:Nat->Type}{b c d a u:Nat}{e f g i z:aF El}(h:cv [(b,e),(c,f),(d,g),(a,i)] u=some z):(u=b/\z=e)\/(u=c/\z=f)\/(u=d/\z=g)\/(u=a/\z=i):=by
 unfold cv at h;split at h
 ·rename_i af
  simp only[aD]at h
  exact .inl ⟨(a_ af).symm,h.symm⟩
 ·unfold cv at h
  split at h
  ·rename_i af
   simp only[aD]at h
   exact .inr (.inl ⟨(a_ af).symm,h.symm⟩)
  ·exact .inr (.inr (W0 h))
def Z5(t:b2 bk.El):Option (List Value):=match fV t with
 |true=>wm t.s.f [2]
 |false=>none
theorem ak'{t:b2 bk.El}{z}(h:Z5 t=some z):fV t=true/\wm t.s.f [2]=some z:=by
 unfold Z5 at h;split at h
 ·rename_i a;exact⟨a,h⟩
 ·cases h
set_option maxRecDepth 100000
theorem aHO:Z3.Bx aB ⟨29,[]⟩ sL.1 sL.2:=by
 intro da db eM fo W M0 X ρ a w cC rX eP rest Q k;obtain⟨aa,aw⟩:=aiT aHy;rw[aa,aw];obtain⟨aMw,(f:Int),aMx⟩:=da;obtain⟨M,⟨(g:List Int),N⟩,(j:List (Int×Bool)),O⟩:=db;obtain⟨S,U7⟩:∃S:Int,S=eM:=⟨eM,rfl⟩
 subst U7;have d_:iM g (j.map ke) f=some S:=fo;obtain⟨A,l⟩:=eP;have l:a1 bk _ w ρ _ [.b 0 0,.p (.int .i64 f)] [a.tmps.getD 0 undef,a.tmps.getD 3 undef]:=l;simp only[a1]at l;obtain⟨v0,l0,cH,C,v3,jO,e3,al,e4⟩:=l;simp only[hh]at cH;obtain⟨rfl,rfl⟩:=cH;simp only[hh]at e3;obtain⟨rfl,rfl⟩:=e3;obtain⟨zt,e2⟩:=A.r_ (i:=2) (B:=.m 3 4 j) rfl;obtain⟨bm,CT,Sf,U6,es,clock,tQ,I7,VV,FW⟩:=A.ok 2 (.m 3 4 j) _ rfl e2;subst CT;obtain rfl:Sf=(tZ:hZ (aB.T.El 3)):=by
  have U0:(aB.T.e 3).key=some (tZ:hZ (aB.T.El 3)):=by kernel_rfl
  exact dT (U6.symm.trans U0)
 have Ji:=Tc I7;have kc:(es.toList.map (·.born)).Nodup:=List.nodup_iff_pairwise_ne.2 (VV.imp λ h=>Nat.ne_of_lt h);refine wp_seq (wp_seq (wp_region_list ?_));rw[aHF];refine PW (n:=⟨29,[]⟩) (K:=Z4) (z:=(2,0,0,.int .i64 f)) jH rfl A cC rX (fr:=[(0,.b 0 0),(3,.p (.int .i64 f))]) (λ t y hy=>?_) (by kernel_rfl) (λ t h=>Om (ak9 h).1) λ t ep q b U4 D rT E=>?_
 ·rcases W0 hy with⟨rfl,rfl⟩|⟨rfl,rfl⟩
  ·exact C
  ·exact al
 obtain⟨bn,bx,bM,fh⟩:=ak9 U4;have s:∀ {k:Nat}{o:Obj}{w:World},w.heap[k]? =some o->k<w.heap.size:=λ{k o w} h=>by
  rcases fN k w.heap.size with h1 |h1
  ·exact h1
  ·rw[hA h1]at h;cases h
 have f8:=D.dL.dZ.get 8 _ bx;simp only[ao]at f8;obtain⟨asv,g1,g2⟩:=f8;obtain⟨u2,bh,R,_⟩:=rT.L.at_ 2 _ e2;have R:=R (by simp[kJ]);rw[bh,R]at g1;cases g1;have f0:q.tmps.getD 0 undef=a.tmps.getD 0 undef:=acI rT.L C (D.dL.dZ.get 0 _ bM);have f3:q.tmps.getD 3 undef= .int .i64 f:=by simpa only[ao]using D.dL.dZ.get 3 _ fh
 have F:b.heap[bm]? =some (.map es clock):=(E.block bm (s tQ) (by simp)).trans tQ;have T:q.eval (.tmp 8)= .map (some bm):=g2;obtain⟨r,fE⟩:∃r,r=b.heap.size:=⟨_,rfl⟩
 have cE:bc aB.P Ld q b (.pointer (some ⟨r,0,none⟩)) (b.alloc (.mapIter (some bm) clock #[] clock)):=by
  rw[fE];simp only[bc,execOp,Z6.1,T];rw[Sem.run_bind,run_range_map (P:=aB.P) b 70 3 4 bm es clock Tryz.underlying70 F];rfl
 refine fq Z6.2.2 cE ?_;rw[Z6.2.1];refine wpList_nil ?_;obtain⟨G,U⟩:∃G,G=b.alloc (.mapIter (some bm) clock #[] clock):=⟨_,rfl⟩
 rw[<-U];have FR:bj [] b G:=by rw[U];exact bj.alloc [] b _
 have JF:G.heap[r]? =some (.mapIter (some bm) clock #[] clock):=by rw[U,fE];exact heap_alloc_new b _
 have n2:r<G.heap.size:=s JF;have Ic:q.tmps.size=29:=D.dL.dZ.size;have Sw:q.defers=[]:=D.dL.dZ.defers
 refine agY (n:=29) (r:=r) (bm:=bm) (since:=clock) (clock:=clock) (ti:=9) (tn:=10) (tok:=11) (te:=12) (tk:=13) (tv:=4) (es:=es)
  (λ acc u w'=>u.tmps.size=29/\u.defers=[]/\u.tmps.getD 0 undef=a.tmps.getD 0 undef/\u.tmps.getD 9 undef= .pointer (some ⟨r,0,none⟩)/\Sd w' r bm clock clock es acc/\(acc.map (·.born)).Nodup/\(∀e∈acc,e∈es.toList)/\bj [] b w'/\ ∃m,u.tmps.getD 3 undef= .int .i64 m/\iM g (acc.map ki) f=some m)
  aHz aHB aHC aHD aHE (by decide) (by decide) FW (cu _) kc (λ acc u w' h=>⟨h.1,h.2.2.2.1,h.2.2.2.2.1,h.2.2.2.2.2.1,h.2.2.2.2.2.2.1⟩) ?_ ?_ ?_
 ·intro acc e a2 a3 jp qR V Y zv c JE NG N7 tR
  obtain⟨Z,i2,i3,i4,⟨i5,aze⟩,i6,i7,i8,m,i9,p⟩:=V
  have H:bj [] b qR:=i8.trans NG λ x aa=>.inr (by simp at aa;omega)
  have r0:=A.eQ (E.trans H (by simp))
  have t4:=JE (by decide)
  rw[Tb I7 e Y]at t4
  obtain⟨v,l⟩:=akw d_ (ki e) (by rw[<-Ji];exact j_ Y)
  refine wp_region_list ?_
  rw[show hE.oj.toList=hE.oj.toList++[] by simp]
  refine PW (n:=⟨29,[]⟩) (K:=QA) (z:=(.pointer (some ⟨r,0,none⟩),0,0,.int .i64 (I.ar (m+I.ar (3+v))))) jH rfl r0 (c.1.trans Z) (c.2.1.trans i2) (fr:=[(4,.p (.int .i64 (ki e))),(3,.p (.int .i64 m)),(9,.p (.pointer (some ⟨r,0,none⟩))),(0,.b 0 0)]) (λ t y hy=>?_) ?_ (λ t h=>Om (ak_ h).1) λ t' an6 a5 xV U5 d J L=>?_
  ·rcases aBH hy with⟨rfl,rfl⟩|⟨rfl,rfl⟩|⟨rfl,rfl⟩|⟨rfl,rfl⟩
   ·simpa only[ao]using t4
   ·simp only[ao]
    rw[c.2.2 3 (by decide)]
    exact i9
   ·simp only[ao]
    rw[c.2.2 9 (by decide)]
    exact i4
   ·have:=(Mem.sG (X:=X) (bl:=bJ (El:=aB.T.El) id (b6 false sK) false sK (M,(g,N),j,O)) (ρ:=ρ) (E.trans H (by simp))).v C
    rw[c.2.2 0 (by decide),i3]
    exact this
  ·have e:(opsL aB (HR aB) hE.oj 29 hE.oj.toList ⟨⟨[(4,.p (.int .i64 (ki e))),(3,.p (.int .i64 m)),(9,.p (.pointer (some ⟨r,0,none⟩))),(0,.b 0 0)],[],[]⟩,bJ id (b6 false sK) false sK (M,(g,N),j,O),[]⟩).run QA=(idx g (I.ar (ki e+1))).bind λ v=>some (.pointer (some ⟨r,0,none⟩),0,0,.int .i64 (I.ar (m+I.ar (3+v)))):=by kernel_rfl
   exact e.trans (by rw[l];rfl)
  ·obtain⟨cG,dX,eA,iu⟩:=ak_ U5
   refine wpList_nil ⟨rfl,d.dL.dZ.size,d.dL.dZ.defers,?_,by simpa only[ao]using d.dL.dZ.get 9 _ dX,⟨?_,?_⟩,?_,?_,H.trans L (by simp),_,by simpa only[ao]using d.dL.dZ.get 3 _ iu,?_⟩
   ·have:=(Mem.sG (X:=X) (bl:=bJ (El:=aB.T.El) id (b6 false sK) false sK (M,(g,N),j,O)) (ρ:=ρ) (E.trans H (by simp))).v C
    exact acI J.L this (d.dL.dZ.get 0 _ eA)
   ·obtain⟨ev,kK,o_⟩:=tR
    exact⟨ev,kK,(L.block r (s o_) (by simp)).trans o_⟩
   ·have NL:qR.heap[bm]? =some (.map es clock):=(H.block bm (s F) (by simp)).trans F
    exact(L.block bm (s NL) (by simp)).trans NL
   ·rw[jz,ky]
    exact eK.2 ⟨i6,by simp,λ x aa y hy e1=>by simp at hy;subst hy;subst e1;exact zv aa⟩
   ·intro x aa
    rcases b3.1 aa with aa |aa
    ·exact i7 x aa
    ·simp at aa;subst aa;exact Y
   ·rw[jz,ky,akx,p,ae,l,ae]
 ·intro acc a2 a3 jp V VS c
  obtain⟨Z,i2,i3,i4,i5,i6,i7,i8,m,i9,p⟩:=V
  have aya:m=S:=by
   have h1:=ZN (W:=g) (VS.map ki) f;rw[p,Ji,d_]at h1;exact dT h1
  subst aya
  have U1:=E.trans i8 (by simp)
  refine wp_seq (wp_region_list ?_)
  rw[show hE.xL.toList=hE.xL.toList++[] by simp]
  refine PW (n:=⟨29,[]⟩) (K:=Z5) (z:=[.int .i64 m]) jH rfl (A.eQ U1) (c.1.trans Z) (c.2.1.trans i2) (fr:=[(3,.p (.int .i64 m)),(0,.b 0 0)]) (λ t y hy=>?_) (by kernel_rfl) (λ t h=>Om (ak' h).1) λ t' an6 a5 xV U5 d J L=>?_
  ·rcases W0 hy with⟨rfl,rfl⟩|⟨rfl,rfl⟩
   ·simp only[ao]
    rw[c.2.2 3 (by decide)]
    exact i9
   ·have:=(Mem.sG (X:=X) (bl:=bJ (El:=aB.T.El) id (b6 false sK) false sK (M,(g,N),j,O)) (ρ:=ρ) U1).v C
    rw[c.2.2 0 (by decide),i3]
    exact this
  ·have sI:=ND d.dL.dZ (ak' U5).2
   simp only[eu,hK,hh,and_true]at sI
   exact wpList_nil (k a5 xV d.dL.dZ.size d.dL.dZ.defers sI (U1.trans L (by simp)))
 ·refine⟨by rw[uC,Ic],Sw,by rw[wl (by decide),f0],wk (by rw[Ic];decide),⟨⟨clock,cu _,JF⟩,(FR.block bm (s F) (by simp)).trans F⟩,by simp,by simp,FR,f,by rw[wl (by decide),f3],rfl⟩
end Go.Proofs.YteeliipnilghaaaGreat
namespace Go.Proofs.YteeliipnilghaaaGreat
open Go Go.RowKit aq I a8
set_option maxRecDepth 100000
theorem aHG:yB aB ⟨fp aB.P 55,[]⟩ (Z3.run aB) sL.1 sL.2:=by
 have e:fp aB.P 55=29:=by kernel_rfl
 rw[e];exact ati rfl aHO
noncomputable def aqz(F:Nat):aN aB:=(aqy F).aiS 55 0 (Z3.run aB) sL.1 sL.2 (λ _ _=>aHG) aHw
def Wr:Value->Option Int
 | .int .i64 x=>some x
 |_=>none
theorem azE(u:Value)(x:Int)(h:Wr u=some x):u= .int .i64 x:=by
 unfold Wr at h;split at h
 ·cases h;rfl
 ·cases h
def FM(h:List Int)(m:List (Int×Bool)):Option Int:=iM h (m.map ke) 0
def aHx:rk bk:=⟨[.p (.B 0)],sK,Int,.int .i64,Wr,λ d=>(FM d.2.2.1.1 d.2.2.2.1).bind λ x=>some x⟩
noncomputable def RU(F:Nat):aN aB:=(aqz F).rd 55 aHx (λ da db=>by kernel_rfl) azE
end Go.Proofs.YteeliipnilghaaaGreat
namespace Go.Proofs.YteeliipnilghaaaGreat
open Go Go.RowKit aq I a8
def abQ(F:Nat):Nat->(List Int)->(Int)->(Int)->(List Int)->Option ((Unit×Unit)×List Int×Unit)
 |0,_,_,_,_=>none
 |aO+1,b,c,a,d=>
  cond (decide (a<c)) ((idx b a).bind λ e=>
(bD 8 d [e]).bind λ f=>
abQ F aO (b) (c) (ar (a+1)) (f)) (
some (((),()),((d),())))
def ahW(F:Nat):fu bk:=⟨[0,3,6,7],[.p (.l 3),.p (.R 0),.p (.i .i64),.p (.i .i64)],[.r 109 false],[⟨.nm,[3],[.p (.R 0)],[.r 109 false]⟩],λ k d=>abQ F k d.1.1 d.1.2.2.1 d.1.2.2.2.1 d.2.1⟩
theorem avG(F:Nat):(ahW F).Eq aB (RU F).t.br ((RU F).t.LE 39) (fp aB.P 39) 0 (hn aB.P 39 0):=⟨λ d=>by kernel_rfl,λ k da db=>by kernel_rfl⟩
noncomputable def RV(F:Nat):aN aB:=(RU F).fB 39 0 F (ahW F) (avG F)
def an0(F:Nat)(a:List Int):Option ((List Int×Unit)×Unit):=
 (abQ F F a (↑a.length:Int) 0 []).bind λ b=>
some (((b.snd.fst),()),())
def ahk(F:Nat):ed bk:=⟨[.p (.l 3)],[],[.p (.l 109)],[],λ d=>an0 F d.1.1⟩
theorem avF(F:Nat):(ahk F).Eq aB (RV F).t.br (RV F).t.LE 39:=λ da db=>by kernel_rfl
noncomputable def aqA(F:Nat):aN aB:=(RV F).FJ 39 (ahk F) (avF F)
noncomputable def RW(F:Nat):aN aB:=(aqA F).dW 39 (Oz F) (ac6 F)
end Go.Proofs.YteeliipnilghaaaGreat
namespace Go.Proofs.YteeliipnilghaaaGreat
open Go Go.RowKit aq I a8
def CH(F:Nat)(b:List Int)(c:Int)(d:Int)(e:Int)(f:Int)(g:List Int)(h:Int)(i:List ak)(j:List Int)(k:List (List I.Field))(l:List (List (List UInt8)))(m:List (List I.Target))(n:List Int):Option ((Unit×Int×Unit)×(List Int×Int×Int×Int×Int×List Int×Int×List ak×List Int×List (List I.Field)×List (List (List UInt8))×List (List I.Target)×List Int×List Int×Unit×Unit)×List (Int×Bool)×Unit⊕
 (Unit×Int×Unit)×Unit):=
 dj (jU (kC F (aR.mk b c d e f g h) (aP.mk i j k l m))) (λ a=>
cond (decide (a.snd=0)) ((ER F
 (bg.mk (aR.mk a.fst.H.Words a.fst.H.av a.fst.H.aL a.fst.H.aU a.fst.H.aT a.fst.H.aS a.fst.H.Next)
  (b4.mk (aP.mk a.fst.S.K.aY a.fst.S.K.aW a.fst.S.K.Fields a.fst.S.K.Names a.fst.S.K.aX)) a.fst.av a.fst.aL a.fst.dz)
 n).bind λ o=>
some (.inl (((),((o),())),(((a.fst.H.Words),((a.fst.H.av),((a.fst.H.aL),((a.fst.H.aU),((a.fst.H.aT),((a.fst.H.aS),((a.fst.H.Next),((a.fst.S.K.aY),((a.fst.S.K.aW),((a.fst.S.K.Fields),((a.fst.S.K.Names),((a.fst.S.K.aX),((a.fst.av),((a.fst.aL),((),()))))))))))))))),((a.fst.dz),()))))) (
some (.inl (((),((a.snd),())),(((a.fst.H.Words),((a.fst.H.av),((a.fst.H.aL),((a.fst.H.aU),((a.fst.H.aT),((a.fst.H.aS),((a.fst.H.Next),((a.fst.S.K.aY),((a.fst.S.K.aW),((a.fst.S.K.Fields),((a.fst.S.K.Names),((a.fst.S.K.aX),((a.fst.av),((a.fst.aL),((),()))))))))))))))),((a.fst.dz),())))))) (λ Lr=>
cond (decide (Lr=0)) (none) (
some (.inr (((),((Lr),())),()))))
def ahh(F:Nat):kv bk:=⟨[.a [.l 3,.i .i64,.i .i64,.i .i64,.i .i64,.l 3,.i .i64],.a [.l 134,.l 3,.l 124,.l 120,.l 121],.p (.l 3)],[],[⟨[.p (.B 0),.p (.i .i64)],[.c 72 [.l 3,.i .i64,.i .i64,.i .i64,.i .i64,.l 3,.i .i64,.l 134,.l 3,.l 124,.l 120,.l 121,.l 3,.l 3,.M 1],.m 3 4]⟩,⟨[.p .gE,.p (.i .i64)],[]⟩],λ d=>CH F d.1.1.1 d.1.1.2.1 d.1.1.2.2.1 d.1.1.2.2.2.1 d.1.1.2.2.2.2.1 d.1.1.2.2.2.2.2.1 d.1.1.2.2.2.2.2.2.1 d.1.2.1.1 d.1.2.1.2.1 d.1.2.1.2.2.1 d.1.2.1.2.2.2.1 d.1.2.1.2.2.2.2.1 d.1.2.2.1⟩
theorem auN(F:Nat):(ahh F).Eq aB (RW F).t.br (RW F).t.LE 53:=λ da db=>by kernel_rfl
noncomputable def RX(F:Nat):aN aB:=(RW F).iY 53 (ahh F) (auN F)
def T2(F:Nat):Nat->(List Int)->(Int)->(Int)->(List Int)->Option ((Unit×Unit)×List Int×Unit)
 |0,_,_,_,_=>none
 |aO+1,d,e,a,f=>
  cond (decide (a<e)) ((idx d a).bind λ b=>
(bD 8 f [b]).bind λ c=>
T2 F aO (d) (e) (ar (a+1)) (c)) (
some (((),()),((f),())))
def ahN(F:Nat):fu bk:=⟨[3,6,7,8],[.p (.R 0),.p (.l 109),.p (.i .i64),.p (.i .i64)],[.r 3 false],[⟨.nm,[3],[.p (.R 0)],[.r 3 false]⟩],λ k d=>T2 F k d.1.2.1 d.1.2.2.1 d.1.2.2.2.1 d.2.1⟩
theorem auP(F:Nat):(ahN F).Eq aB (RX F).t.br ((RX F).t.LE 90) (fp aB.P 90) 0 (hn aB.P 90 0):=⟨λ d=>by kernel_rfl,λ k da db=>by kernel_rfl⟩
noncomputable def RY(F:Nat):aN aB:=(RX F).fB 90 0 F (ahN F) (auP F)
def afk(F:Nat)(b:List Int):Option ((List Int×Unit)×Unit):=
 (T2 F F b (↑b.length:Int) 0 []).bind λ a=>
some (((a.snd.fst),()),())
def ahi(F:Nat):ed bk:=⟨[.p (.l 109)],[],[.p (.l 3)],[],λ d=>afk F d.1.1⟩
theorem auO(F:Nat):(ahi F).Eq aB (RY F).t.br (RY F).t.LE 90:=λ da db=>by kernel_rfl
noncomputable def RZ(F:Nat):aN aB:=(RY F).fn 90 (ahi F) (auO F)
def zg(F:Nat):Nat->(Int)->(Int)->(Int)->(List ak)->(List Int)->(List (List I.Field))->(List (List (List UInt8)))->(List (List I.Target))->(List Int)->(Int)->(Int)->(Int)->(Int)->(List Int)->(Int)->(List (Int×Bool))->(List Int)->Option ((Unit×Unit×Unit)×
 (Unit×List ak×List Int×List (List I.Field)×List (List (List UInt8))×List (List I.Target)×Unit×Unit)×(List Int×Int×Int×Int×Int×List Int×Int×Unit)×List (Int×Bool)×List Int×Unit)
 |0,_,_,_,_,_,_,_,_,_,_,_,_,_,_,_,_,_=>none
 |aO+1,c,i,a,d,e,f,g,h,b,Bl,j,k,l,m,n,o,p=>
  cond (decide (a<i)) ((idx b c).bind λ q=>
(rY (b4.mk (aP.mk d e f g h)) q a).bind λ r=>
cond (r) ((idx b (ar (ar (c+3)+a))).bind λ s=>
(bD 8 p [s]).bind λ t=>
zg F aO (c) (i) (ar (a+1)) (d) (e) (f) (g) (h) (b) (Bl) (j) (k) (l) (m) (n) (o) (t)) (
zg F aO (c) (i) (ar (a+1)) (d) (e) (f) (g) (h) (b) (Bl) (j) (k) (l) (m) (n) (o) (p))) (
some (((),((),())),(((),((d),((e),((f),((g),((h),((),()))))))),(((b),((Bl),((j),((k),((l),((m),((n),()))))))),((o),((p),()))))))
def ahM(F:Nat):fu bk:=⟨[0,4,5,48,49],[.p (.B 0),.p (.R 3),.p (.i .i64),.p (.i .i64),.p (.i .i64)],[.c 140 [.B 1,.l 134,.l 3,.l 124,.l 120,.l 121,.M 2],.c 24 [.l 3,.i .i64,.i .i64,.i .i64,.i .i64,.l 3,.i .i64],.m 3 4,.r 3 false],[⟨.nm,[0,4],[.p (.B 0),.p (.R 3)],[.c 140 [.B 1,.l 134,.l 3,.l 124,.l 120,.l 121,.M 2],.c 24 [.l 3,.i .i64,.i .i64,.i .i64,.i .i64,.l 3,.i .i64],.m 3 4,.r 3 false]⟩],λ k d=>zg F k d.1.2.2.1 d.1.2.2.2.1 d.1.2.2.2.2.1 d.2.1.2.1 d.2.1.2.2.1 d.2.1.2.2.2.1 d.2.1.2.2.2.2.1 d.2.1.2.2.2.2.2.1 d.2.2.1.1 d.2.2.1.2.1 d.2.2.1.2.2.1 d.2.2.1.2.2.2.1 d.2.2.1.2.2.2.2.1 d.2.2.1.2.2.2.2.2.1 d.2.2.1.2.2.2.2.2.2.1 d.2.2.2.1 d.2.2.2.2.1⟩
theorem auM(F:Nat):(ahM F).Eq aB (RZ F).t.br ((RZ F).t.LE 89) (fp aB.P 89) 2 (hn aB.P 89 2):=⟨λ d=>by kernel_rfl,λ k da db=>by kernel_rfl⟩
noncomputable def R0(F:Nat):aN aB:=(RZ F).fB 89 2 F (ahM F) (auM F)
def wj(F:Nat):Nat->(List ak)->(List Int)->(List (List I.Field))->(List (List (List UInt8)))->(List (List I.Target))->(List Int)->(Int)->(Int)->(Int)->(Int)->(List Int)->(Int)->(List (Int×Bool))->(List Int)->Option (Unit×(Unit×List ak×List Int×List (List I.Field)×List (List (List UInt8))×List (List I.Target)×Unit×Unit)×(List Int×Int×Int×Int×Int×List Int×Int×Unit)×List (Int×Bool)×List Int×Unit)
 |0,_,_,_,_,_,_,_,_,_,_,_,_,_,_=>none
 |aO+1,e,f,g,h,i,d,j,k,l,m,n,o,sO,b=>
  cond (decide (0<(↑b.length:Int))) ((idx b (ar ((↑b.length:Int)-1))).bind λ c=>
(if(0 :Int)<=0/\0<=ar ((↑b.length:Int)-1)/\ar ((↑b.length:Int)-1)<=(↑b.length:Int)then some ()else none).bind λ q=>
cond (decide (c=0)||(cF sO c).getD false) (wj F aO (e) (f) (g) (h) (i) (d) (j) (k) (l) (m) (n) (o) (sO) (lu (ar ((↑b.length:Int)-1)).toNat b)) (
(idx d (ar (c+1))).bind λ p=>
(zg F F c p 0 e f g h i d j k l m n o (gC sO c true) (lu (ar ((↑b.length:Int)-1)).toNat b)).bind λ a=>
wj F aO (a.snd.fst.snd.fst) (a.snd.fst.snd.snd.fst) (a.snd.fst.snd.snd.snd.fst) (a.snd.fst.snd.snd.snd.snd.fst) (a.snd.fst.snd.snd.snd.snd.snd.fst) (a.snd.snd.fst.fst) (a.snd.snd.fst.snd.fst) (a.snd.snd.fst.snd.snd.fst) (a.snd.snd.fst.snd.snd.snd.fst) (a.snd.snd.fst.snd.snd.snd.snd.fst) (a.snd.snd.fst.snd.snd.snd.snd.snd.fst) (a.snd.snd.fst.snd.snd.snd.snd.snd.snd.fst) (a.snd.snd.snd.fst) (a.snd.snd.snd.snd.fst))) (
some ((),(((),((e),((f),((g),((h),((i),((),()))))))),(((d),((j),((k),((l),((m),((n),((o),()))))))),((sO),((b),()))))))
def ahL(F:Nat):fu bk:=⟨[0,4],[.p (.B 0),.p (.R 3)],[.c 140 [.B 1,.l 134,.l 3,.l 124,.l 120,.l 121,.M 2],.c 24 [.l 3,.i .i64,.i .i64,.i .i64,.i .i64,.l 3,.i .i64],.m 3 4,.r 3 false],[⟨.nm,[],[],[.c 140 [.B 1,.l 134,.l 3,.l 124,.l 120,.l 121,.M 2],.c 24 [.l 3,.i .i64,.i .i64,.i .i64,.i .i64,.l 3,.i .i64],.m 3 4,.r 3 false]⟩],λ k d=>wj F k d.2.1.2.1 d.2.1.2.2.1 d.2.1.2.2.2.1 d.2.1.2.2.2.2.1 d.2.1.2.2.2.2.2.1 d.2.2.1.1 d.2.2.1.2.1 d.2.2.1.2.2.1 d.2.2.1.2.2.2.1 d.2.2.1.2.2.2.2.1 d.2.2.1.2.2.2.2.2.1 d.2.2.1.2.2.2.2.2.2.1 d.2.2.2.1 d.2.2.2.2.1⟩
theorem auL(F:Nat):(ahL F).Eq aB (R0 F).t.br ((R0 F).t.LE 89) (fp aB.P 89) 0 (hn aB.P 89 0):=⟨λ d=>by kernel_rfl,λ k da db=>by kernel_rfl⟩
noncomputable def R1(F:Nat):aN aB:=(R0 F).fB 89 0 F (ahL F) (auL F)
def CG(F:Nat)(b:List Int)(c:List ak)(d:List Int)(e:List (List I.Field))(f:List (List (List UInt8)))(g:List (List I.Target))(h:List Int)(i:Int)(j:Int)(k:Int)(l:Int)(m:List Int)(n:Int)(o:List (Int×Bool)):Option (Unit×(Unit×List ak×List Int×List (List I.Field)×List (List (List UInt8))×List (List I.Target)×Unit×Unit)×(List Int×Int×Int×Int×Int×List Int×Int×Unit)×List (Int×Bool)×Unit):=
 (bD 8 [] b).bind λ p=>
(wj F F c d e f g h i j k l m n o p).bind λ a=>
some ((),(((),((a.snd.fst.snd.fst),((a.snd.fst.snd.snd.fst),((a.snd.fst.snd.snd.snd.fst),((a.snd.fst.snd.snd.snd.snd.fst),((a.snd.fst.snd.snd.snd.snd.snd.fst),((),()))))))),(((a.snd.snd.fst.fst),((a.snd.snd.fst.snd.fst),((a.snd.snd.fst.snd.snd.fst),((a.snd.snd.fst.snd.snd.snd.fst),((a.snd.snd.fst.snd.snd.snd.snd.fst),((a.snd.snd.fst.snd.snd.snd.snd.snd.fst),((a.snd.snd.fst.snd.snd.snd.snd.snd.snd.fst),()))))))),((a.snd.snd.snd.fst),()))))
def ahg(F:Nat):ed bk:=⟨[.p (.B 0),.p (.l 3)],[.c 140 [.B 1,.l 134,.l 3,.l 124,.l 120,.l 121,.M 2],.c 24 [.l 3,.i .i64,.i .i64,.i .i64,.i .i64,.l 3,.i .i64],.m 3 4],[],[.c 140 [.B 1,.l 134,.l 3,.l 124,.l 120,.l 121,.M 2],.c 24 [.l 3,.i .i64,.i .i64,.i .i64,.i .i64,.l 3,.i .i64],.m 3 4],λ d=>CG F d.1.2.1 d.2.1.2.1 d.2.1.2.2.1 d.2.1.2.2.2.1 d.2.1.2.2.2.2.1 d.2.1.2.2.2.2.2.1 d.2.2.1.1 d.2.2.1.2.1 d.2.2.1.2.2.1 d.2.2.1.2.2.2.1 d.2.2.1.2.2.2.2.1 d.2.2.1.2.2.2.2.2.1 d.2.2.1.2.2.2.2.2.2.1 d.2.2.2.1⟩
theorem auK(F:Nat):(ahg F).Eq aB (R1 F).t.br (R1 F).t.LE 89:=λ da db=>by kernel_rfl
noncomputable def R2(F:Nat):aN aB:=(R1 F).fn 89 (ahg F) (auK F)
def afj(F:Nat)(a:List ak)(b:List Int)(c:List (List I.Field))(d:List (List (List UInt8)))(e:List (List I.Target))(f:List Int)(g:List Int)(h:Int)(i:Int)(j:Int)(k:Int)(l:List Int)(m:Int):Option ((Unit×Unit)×(List Int×Int×Int×Int×Int×List Int×Int×Unit)×(Unit×List ak×List Int×List (List I.Field)×List (List (List UInt8))×List (List I.Target)×Unit×Unit)×List (Int×Bool)×Unit):=
 (afk F f).bind λ n=>
(CG F n.fst.fst a b c d e g h i j k l m []).bind λ gn=>
some (((),()),(((gn.snd.snd.fst.fst),((gn.snd.snd.fst.snd.fst),((gn.snd.snd.fst.snd.snd.fst),((gn.snd.snd.fst.snd.snd.snd.fst),((gn.snd.snd.fst.snd.snd.snd.snd.fst),((gn.snd.snd.fst.snd.snd.snd.snd.snd.fst),((gn.snd.snd.fst.snd.snd.snd.snd.snd.snd.fst),()))))))),(((),((gn.snd.fst.snd.fst),((gn.snd.fst.snd.snd.fst),((gn.snd.fst.snd.snd.snd.fst),((gn.snd.fst.snd.snd.snd.snd.fst),((gn.snd.fst.snd.snd.snd.snd.snd.fst),((),()))))))),((gn.snd.snd.snd.fst),()))))
def ahf(F:Nat):ed bk:=⟨[.p (.B 0),.a [.l 134,.l 3,.l 124,.l 120,.l 121],.p (.l 109)],[.c 24 [.l 3,.i .i64,.i .i64,.i .i64,.i .i64,.l 3,.i .i64]],[.p (.B 1)],[.c 24 [.l 3,.i .i64,.i .i64,.i .i64,.i .i64,.l 3,.i .i64],.c 140 [.B 0,.l 134,.l 3,.l 124,.l 120,.l 121,.M 2],.m 3 4],λ d=>afj F d.1.2.1.1 d.1.2.1.2.1 d.1.2.1.2.2.1 d.1.2.1.2.2.2.1 d.1.2.1.2.2.2.2.1 d.1.2.2.1 d.2.1.1 d.2.1.2.1 d.2.1.2.2.1 d.2.1.2.2.2.1 d.2.1.2.2.2.2.1 d.2.1.2.2.2.2.2.1 d.2.1.2.2.2.2.2.2.1⟩
theorem auJ(F:Nat):(ahf F).Eq aB (R2 F).t.br (R2 F).t.LE 54:=λ da db=>by kernel_rfl
noncomputable def R3(F:Nat):aN aB:=(R2 F).fn 54 (ahf F) (auJ F)
def awa(F:Nat)(b:List Int)(c:Int)(d:Int)(gp:Int)(kT:Int)(e:List Int)(mn:Int)(i:List ak)(j:List Int)(k:List (List I.Field))(l:List (List (List UInt8)))(m:List (List I.Target))(f:List Int):Option ((Int×Int×Unit)×Unit):=
 dj (CH F b c d gp kT e mn i j k l m f) (λ a=>
cond (!decide (a.fst.snd.fst=0)) (some (((0),((a.fst.snd.fst),())),())) (
(an0 F f).bind λ n=>
(afj F a.snd.fst.snd.snd.snd.snd.snd.snd.snd.fst a.snd.fst.snd.snd.snd.snd.snd.snd.snd.snd.fst a.snd.fst.snd.snd.snd.snd.snd.snd.snd.snd.snd.fst a.snd.fst.snd.snd.snd.snd.snd.snd.snd.snd.snd.snd.fst
 a.snd.fst.snd.snd.snd.snd.snd.snd.snd.snd.snd.snd.snd.fst n.fst.fst b c d gp kT e mn).bind λ g=>
((FM g.snd.fst.fst g.snd.snd.snd.fst).bind λ x=>some x).bind λ o=>
some (((o),((0),())),()))) (λ h=>
cond (!decide (h.fst.snd.fst=0)) (some (((0),((h.fst.snd.fst),())),())) (
none))
def ahe(F:Nat):ed bk:=⟨[.a [.l 3,.i .i64,.i .i64,.i .i64,.i .i64,.l 3,.i .i64],.a [.l 134,.l 3,.l 124,.l 120,.l 121],.p (.l 3)],[],[.p (.i .i64),.p (.i .i64)],[],λ d=>awa F d.1.1.1 d.1.1.2.1 d.1.1.2.2.1 d.1.1.2.2.2.1 d.1.1.2.2.2.2.1 d.1.1.2.2.2.2.2.1 d.1.1.2.2.2.2.2.2.1 d.1.2.1.1 d.1.2.1.2.1 d.1.2.1.2.2.1 d.1.2.1.2.2.2.1 d.1.2.1.2.2.2.2.1 d.1.2.2.1⟩
theorem auI(F:Nat):(ahe F).Eq aB (R3 F).t.br (R3 F).t.LE 22:=λ da db=>by kernel_rfl
noncomputable def Md(F:Nat):aN aB:=(R3 F).fn 22 (ahe F) (auI F)
end Go.Proofs.YteeliipnilghaaaGreat
namespace Go.Proofs.YteeliipnilghaaaGreat
open Go Go.RowKit aq I a8
set_option maxRecDepth 100000
@[reducible] def Gk:h2 bk:=⟨[],[],[.p .b],[],Bool,λ _=>some true,λ _ r=>((r,()),())⟩
theorem auF:Gk.Eq lK (FK lK (Md 2000).t.ks (λ _ _=>none) 100) (λ _ _=>none) 24:=λ da db=>by
 kernel_rfl
theorem asW:j6 lK 24 (Gk.run lK):=
 have a:vF lK (λ _ _=>none):=λ g fn c _ _ _=>uc (λ _=>rfl) c
 have hc:=((Md 2000).ok jH).ce
 have b:Mf lK (Md 2000).t.ks:=⟨hc.b7,λ g h d=>(MP g h)▸hc.ok g h d⟩
 λ ys bl r e=>Fw MZ (k6 MZ b a 100) a rfl (c:=Gk.hL) (ed.Eq.v auF) ys bl r (AB e)
theorem aGq:Gk.run aB=Gk.run lK:=by kernel_rfl
noncomputable def R4(F:Nat):aN aB:=(Md F).add 24 (Gk.run aB) (aGq▸(MP 24 _)▸asW)
end Go.Proofs.YteeliipnilghaaaGreat
namespace Go.Proofs.YteeliipnilghaaaGreat
open Go Go.RowKit aq I a8
def H9(F:Nat)(b:Int)(a:List Int):Option (Unit×(Unit×Unit)×List Int×Unit):=
 cond (!decide (b=0)) ((j9 F a b).bind λ c=>
cond (!c) ((bD 8 a [b]).bind λ d=>
some ((),(((),()),((d),())))) (
some ((),(((),()),((a),()))))) (
some ((),(((),()),((a),()))))
def ag9(F:Nat):ed bk:=⟨[.p (.i .i64),.p (.B 0)],[.c 22 [.R 1],.r 3 false],[],[.c 22 [.R 1],.r 3 false],λ d=>H9 F d.1.1 d.2.2.1⟩
theorem auA(F:Nat):(ag9 F).Eq aB (R4 F).t.br (R4 F).t.LE 91:=λ da db=>by kernel_rfl
noncomputable def R5(F:Nat):aN aB:=(R4 F).fn 91 (ag9 F) (auA F)
def B1(F:Nat):Nat->(List Int)->(Int)->(List Int)->(Int)->(Int)->(Int)->(Int)->(List Int)->(Int)->(List ak)->(List Int)->(List (List I.Field))->(List (List (List UInt8)))->(List (List I.Target))->(List Int)->Option ((Unit×Unit×Unit×(Unit×Unit)×Unit)×
 (List Int×Int×Int×Int×Int×List Int×Int×Unit)×(List ak×List Int×List (List I.Field)×List (List (List UInt8))×List (List I.Target)×Unit)×(Unit×Unit)×List Int×Unit)
 |0,_,_,_,_,_,_,_,_,_,_,_,_,_,_,_=>none
 |aO+1,a,b,c,d,e,f,g,LI,h,i,j,k,vn,l,m=>
  cond (decide (b<(↑a.length:Int))) ((idx a b).bind λ n=>
(H9 F n m).bind λ o=>
B1 F aO (a) (ar (b+1)) (c) (d) (e) (f) (g) (LI) (h) (i) (j) (k) (vn) (l) (o.snd.snd.fst)) (
some (((),((),((),(((),()),())))),(((c),((d),((e),((f),((g),((LI),((h),()))))))),(((i),((j),((k),((vn),((l),()))))),(((),()),((m),()))))))
def ahC(F:Nat):fu bk:=⟨[2,3,4,7,8,9],[.p (.l 3),.p (.B 0),.p (.B 1),.p (.B 2),.f 91 [.B 2],.p (.i .i64)],[.c 24 [.l 3,.i .i64,.i .i64,.i .i64,.i .i64,.l 3,.i .i64],.c 30 [.l 134,.l 3,.l 124,.l 120,.l 121],.c 22 [.R 3],.r 3 false],[⟨.nm,[3,4,7,8],[.p (.B 0),.p (.B 1),.p (.B 2),.f 91 [.B 2]],[.c 24 [.l 3,.i .i64,.i .i64,.i .i64,.i .i64,.l 3,.i .i64],.c 30 [.l 134,.l 3,.l 124,.l 120,.l 121],.c 22 [.R 3],.r 3 false]⟩],λ k d=>B1 F k d.1.1 d.1.2.2.2.2.2.1 d.2.1.1 d.2.1.2.1 d.2.1.2.2.1 d.2.1.2.2.2.1 d.2.1.2.2.2.2.1 d.2.1.2.2.2.2.2.1 d.2.1.2.2.2.2.2.2.1 d.2.2.1.1 d.2.2.1.2.1 d.2.2.1.2.2.1 d.2.2.1.2.2.2.1 d.2.2.1.2.2.2.2.1 d.2.2.2.2.1⟩
theorem auB(F:Nat):(ahC F).Eq aB (R5 F).t.br ((R5 F).t.LE 56) (fp aB.P 56) 0 (hn aB.P 56 0):=⟨λ d=>by kernel_rfl,λ k da db=>by kernel_rfl⟩
noncomputable def R6(F:Nat):aN aB:=(R5 F).fB 56 0 F (ahC F) (auB F)
def B3(F:Nat):Nat->(Int)->(List Int)->(Int)->(List Int)->(Int)->(Int)->(Int)->(Int)->(List Int)->(Int)->(List ak)->(List Int)->(List (List I.Field))->(List (List (List UInt8)))->(List (List I.Target))->(List Int)->Option ((Unit×Unit×Unit×(Unit×Unit)×Int×Unit)×
 (List Int×Int×Int×Int×Int×List Int×Int×Unit)×(List ak×List Int×List (List I.Field)×List (List (List UInt8))×List (List I.Target)×Unit)×(Unit×Unit)×List Int×Unit)
 |0,_,_,_,_,_,_,_,_,_,_,_,_,_,_,_,_=>none
 |aO+1,d,a,b,c,e,f,g,h,i,j,k,l,m,n,o,p=>
  cond (decide (b<(↑a.length:Int))) ((idx a b).bind λ q=>
(idx c q).bind λ r=>
(H9 F r p).bind λ s=>
B3 F aO (d) (a) (ar (b+1)) (c) (e) (f) (g) (h) (i) (j) (k) (l) (m) (n) (o) (s.snd.snd.fst)) (
some (((),((),((),(((),()),((d),()))))),(((c),((e),((f),((g),((h),((i),((j),()))))))),(((k),((l),((m),((n),((o),()))))),(((),()),((p),()))))))
def ahE(F:Nat):fu bk:=⟨[3,4,7,8,10,11,12],[.p (.B 0),.p (.B 1),.p (.B 2),.f 91 [.B 2],.p (.i .i64),.p (.l 3),.p (.i .i64)],[.c 24 [.l 3,.i .i64,.i .i64,.i .i64,.i .i64,.l 3,.i .i64],.c 30 [.l 134,.l 3,.l 124,.l 120,.l 121],.c 22 [.R 3],.r 3 false],[⟨.nm,[3,4,7,8,10],[.p (.B 0),.p (.B 1),.p (.B 2),.f 91 [.B 2],.p (.i .i64)],[.c 24 [.l 3,.i .i64,.i .i64,.i .i64,.i .i64,.l 3,.i .i64],.c 30 [.l 134,.l 3,.l 124,.l 120,.l 121],.c 22 [.R 3],.r 3 false]⟩],λ k d=>B3 F k d.1.2.2.2.2.1 d.1.2.2.2.2.2.1 d.1.2.2.2.2.2.2.1 d.2.1.1 d.2.1.2.1 d.2.1.2.2.1 d.2.1.2.2.2.1 d.2.1.2.2.2.2.1 d.2.1.2.2.2.2.2.1 d.2.1.2.2.2.2.2.2.1 d.2.2.1.1 d.2.2.1.2.1 d.2.2.1.2.2.1 d.2.2.1.2.2.2.1 d.2.2.1.2.2.2.2.1 d.2.2.2.2.1⟩
theorem auD(F:Nat):(ahE F).Eq aB (R6 F).t.br ((R6 F).t.LE 56) (fp aB.P 56) 4 (hn aB.P 56 4):=⟨λ d=>by kernel_rfl,λ k da db=>by kernel_rfl⟩
noncomputable def R7(F:Nat):aN aB:=(R6 F).fB 56 4 F (ahE F) (auD F)
def B2(F:Nat):Nat->(Int)->(List Int)->(Int)->(Int)->(Int)->(Int)->(List Int)->(Int)->(List ak)->(List Int)->(List (List I.Field))->(List (List (List UInt8)))->(List (List I.Target))->(List Int)->Option ((Unit×Unit)×(List Int×Int×Int×Int×Int×List Int×Int×Unit)×(List ak×List Int×List (List I.Field)×List (List (List UInt8))×List (List I.Target)×Unit)×(Unit×Unit)×List Int×Unit)
 |0,_,_,_,_,_,_,_,_,_,_,_,_,_,_=>none
 |aO+1,b,c,d,e,f,g,h,i,j,k,l,m,n,Eo=>
  cond (decide (b<(↑Eo.length:Int))) ((idx Eo b).bind λ o=>
(oQ F (aR.mk c d e f g h i) (aP.mk j k l m n) o).bind λ p=>
(B3 F F b p 0 c d e f g h i j k l m n Eo).bind λ a=>
B2 F aO (ar (a.fst.snd.snd.snd.snd.fst+1)) (a.snd.fst.fst) (a.snd.fst.snd.fst) (a.snd.fst.snd.snd.fst) (a.snd.fst.snd.snd.snd.fst) (a.snd.fst.snd.snd.snd.snd.fst) (a.snd.fst.snd.snd.snd.snd.snd.fst) (a.snd.fst.snd.snd.snd.snd.snd.snd.fst) (a.snd.snd.fst.fst) (a.snd.snd.fst.snd.fst) (a.snd.snd.fst.snd.snd.fst) (a.snd.snd.fst.snd.snd.snd.fst) (a.snd.snd.fst.snd.snd.snd.snd.fst) (a.snd.snd.snd.snd.fst)) (
some (((),()),(((c),((d),((e),((f),((g),((h),((i),()))))))),(((j),((k),((l),((m),((n),()))))),(((),()),((Eo),()))))))
def ahD(F:Nat):fu bk:=⟨[3,4,7,8,10],[.p (.B 0),.p (.B 1),.p (.B 2),.f 91 [.B 2],.p (.i .i64)],[.c 24 [.l 3,.i .i64,.i .i64,.i .i64,.i .i64,.l 3,.i .i64],.c 30 [.l 134,.l 3,.l 124,.l 120,.l 121],.c 22 [.R 3],.r 3 false],[⟨.nm,[7],[.p (.B 2)],[.c 24 [.l 3,.i .i64,.i .i64,.i .i64,.i .i64,.l 3,.i .i64],.c 30 [.l 134,.l 3,.l 124,.l 120,.l 121],.c 22 [.R 3],.r 3 false]⟩],λ k d=>B2 F k d.1.2.2.2.2.1 d.2.1.1 d.2.1.2.1 d.2.1.2.2.1 d.2.1.2.2.2.1 d.2.1.2.2.2.2.1 d.2.1.2.2.2.2.2.1 d.2.1.2.2.2.2.2.2.1 d.2.2.1.1 d.2.2.1.2.1 d.2.2.1.2.2.1 d.2.2.1.2.2.2.1 d.2.2.1.2.2.2.2.1 d.2.2.2.2.1⟩
theorem auC(F:Nat):(ahD F).Eq aB (R7 F).t.br ((R7 F).t.LE 56) (fp aB.P 56) 2 (hn aB.P 56 2):=⟨λ d=>by kernel_rfl,λ k da db=>by kernel_rfl⟩
noncomputable def R8(F:Nat):aN aB:=(R7 F).fB 56 2 F (ahD F) (auC F)
def H8(F:Nat)(b:List Int)(c:Int)(d:Int)(e:Int)(f:Int)(g:List Int)(h:Int)(i:List ak)(j:List Int)(k:List (List I.Field))(l:List (List (List UInt8)))(m:List (List I.Target))(n:List Int):Option ((List Int×Unit)×Unit):=
 (B1 F F n 0 b c d e f g h i j k l m []).bind λ a=>
(B2 F F 0 a.snd.fst.fst a.snd.fst.snd.fst a.snd.fst.snd.snd.fst a.snd.fst.snd.snd.snd.fst a.snd.fst.snd.snd.snd.snd.fst a.snd.fst.snd.snd.snd.snd.snd.fst a.snd.fst.snd.snd.snd.snd.snd.snd.fst
 a.snd.snd.fst.fst a.snd.snd.fst.snd.fst a.snd.snd.fst.snd.snd.fst a.snd.snd.fst.snd.snd.snd.fst a.snd.snd.fst.snd.snd.snd.snd.fst a.snd.snd.snd.snd.fst).bind λ o=>
some (((o.snd.snd.snd.snd.fst),()),())
def ag8(F:Nat):ed bk:=⟨[.a [.l 3,.i .i64,.i .i64,.i .i64,.i .i64,.l 3,.i .i64],.a [.l 134,.l 3,.l 124,.l 120,.l 121],.p (.l 3)],[],[.p (.l 3)],[],λ d=>H8 F d.1.1.1 d.1.1.2.1 d.1.1.2.2.1 d.1.1.2.2.2.1 d.1.1.2.2.2.2.1 d.1.1.2.2.2.2.2.1 d.1.1.2.2.2.2.2.2.1 d.1.2.1.1 d.1.2.1.2.1 d.1.2.1.2.2.1 d.1.2.1.2.2.2.1 d.1.2.1.2.2.2.2.1 d.1.2.2.1⟩
theorem auz(F:Nat):(ag8 F).Eq aB (R8 F).t.br (R8 F).t.LE 56:=λ da db=>by kernel_rfl
noncomputable def R9(F:Nat):aN aB:=(R8 F).fn 56 (ag8 F) (auz F)
def BX(F:Nat):Nat->(List Int)->(Int)->(Int)->(List Int)->(Int)->(Int)->(Int)->(Int)->(List Int)->(Int)->Option ((Int×Unit)×(List Int×Int×Int×Int×Int×List Int×Int×Unit)×Unit)
 |0,_,_,_,_,_,_,_,_,_,_=>none
 |aO+1,a,d,b,c,e,f,g,h,i,j=>
  cond (decide (b<(↑a.length:Int))) ((idx a b).bind λ k=>
(idx c (ar (k+1))).bind λ l=>
BX F aO (a) (ar (d+ar (3+l))) (ar (b+1)) (c) (e) (f) (g) (h) (i) (j)) (
some (((d),()),(((c),((e),((f),((g),((h),((i),((j),()))))))),())))
def ahB(F:Nat):fu bk:=⟨[3,7,8,9],[.p (.B 0),.p (.l 3),.p (.i .i64),.p (.i .i64)],[.c 24 [.l 3,.i .i64,.i .i64,.i .i64,.i .i64,.l 3,.i .i64]],[⟨.nm,[8],[.p (.i .i64)],[.c 24 [.l 3,.i .i64,.i .i64,.i .i64,.i .i64,.l 3,.i .i64]]⟩],λ k d=>BX F k d.1.2.1 d.1.2.2.1 d.1.2.2.2.1 d.2.1.1 d.2.1.2.1 d.2.1.2.2.1 d.2.1.2.2.2.1 d.2.1.2.2.2.2.1 d.2.1.2.2.2.2.2.1 d.2.1.2.2.2.2.2.2.1⟩
theorem auy(F:Nat):(ahB F).Eq aB (R9 F).t.br ((R9 F).t.LE 23) (fp aB.P 23) 0 (hn aB.P 23 0):=⟨λ d=>by kernel_rfl,λ k da db=>by kernel_rfl⟩
noncomputable def R_(F:Nat):aN aB:=(R9 F).fB 23 0 F (ahB F) (auy F)
def H7(F:Nat)(a:List Int)(b:Int)(c:Int)(d:Int)(e:Int)(f:List Int)(g:Int)(h:List ak)(i:List Int)(j:List (List I.Field))(k:List (List (List UInt8)))(nn:List (List I.Target))(l:List Int):Option ((Int×Unit)×Unit):=
 (H8 F a b c d e f g h i j k nn l).bind λ m=>
(BX F F m.fst.fst 0 0 a b c d e f g).bind λ n=>
some (((n.fst.fst),()),())
def ag7(F:Nat):ed bk:=⟨[.a [.l 3,.i .i64,.i .i64,.i .i64,.i .i64,.l 3,.i .i64],.a [.l 134,.l 3,.l 124,.l 120,.l 121],.p (.l 3)],[],[.p (.i .i64)],[],λ d=>H7 F d.1.1.1 d.1.1.2.1 d.1.1.2.2.1 d.1.1.2.2.2.1 d.1.1.2.2.2.2.1 d.1.1.2.2.2.2.2.1 d.1.1.2.2.2.2.2.2.1 d.1.2.1.1 d.1.2.1.2.1 d.1.2.1.2.2.1 d.1.2.1.2.2.2.1 d.1.2.1.2.2.2.2.1 d.1.2.2.1⟩
theorem auw(F:Nat):(ag7 F).Eq aB (R_ F).t.br (R_ F).t.LE 23:=λ da db=>by kernel_rfl
noncomputable def aqD(F:Nat):aN aB:=(R_ F).fn 23 (ag7 F) (auw F)
end Go.Proofs.YteeliipnilghaaaGreat
namespace Go.Proofs.YteeliipnilghaaaGreat
open Go Go.RowKit aq I a8
set_option maxHeartbeats 4000000
set_option maxRecDepth 20000
theorem aeS{o:Oper}{a:Act}{w:World}{x:Operand}{b:Nat}(ap:o.op= .fieldAddr 24 x 1)(c:a.eval x= .pointer (some ⟨b,0,none⟩)):bc Tryz.prog o a w (.pointer (some ⟨b,1,none⟩)) w:=
 RD (P:=Tryz.prog) (p:=0) (j:=1) Tryz.underlying24 (f:=_) (by rfl) Tryz.sizeOf3 rfl ap c
theorem avI{o:Oper}{a:Act}{w:World}{x:Operand}{b:Nat}(ap:o.op= .fieldAddr 24 x 2)(c:a.eval x= .pointer (some ⟨b,0,none⟩)):bc Tryz.prog o a w (.pointer (some ⟨b,2,none⟩)) w:=
 RD (P:=Tryz.prog) (p:=0) (j:=2) Tryz.underlying24 (f:=_) (by rfl) Tryz.sizeOf3 rfl ap c
def xD(Y O x:Int):Int:=cond (decide (Y<x)) x (ar (ar (x+Y)+O))
theorem as1{W:World}{gb gh:Nat}{Y O x:Int}(c:W.cell? ⟨gb,0,none⟩=some (.pointer (some ⟨gh,0,none⟩)))(J:W.cell? ⟨gh,1,none⟩=some (.int .i64 Y))(h:W.cell? ⟨gh,2,none⟩=some (.int .i64 O)) :
 Calls Tryz.prog 98 [.int .i64 x,.pointer (some ⟨gb,0,none⟩)].toArray W λ e w'=>e= .returned (.int .i64 (xD Y O x))/\(w'=W\/w'=W.drew):=by
 refine enter Tryz.func98 rfl Tryz.ntmps98 rfl λ a ad=>?_
 refine wp_seq_k λ K d=>wp_region_list (fH wn (ym rfl rfl) ad rfl rfl λ a ad=>wpList_nil (d _ _ ?_))
 refine wp_seq_k λ K d=>wp_seq_k λ i j=>wp_region_list (fH wn (vx rfl (ad.g rfl)) ad rfl rfl λ a ad=>fH wn (yn Tryz.isAgg67 rfl (ad.g rfl) c) ad rfl rfl λ a ad=>fH wn (LY rfl (ad.g rfl)) ad rfl rfl λ a ad=>
  fH wn (aeS rfl (ad.g rfl)) ad rfl rfl λ a ad=>fH wn (yn Tryz.isAgg3 rfl (ad.g rfl) J) ad rfl rfl λ a ad=>fH wn (anJ rfl (ad.g rfl) (ad.g rfl)) ad rfl rfl λ a ad=>wpList_nil (j _ _ ?_))
 refine wp_cond_split (ad.g rfl) (λ af=>?_) λ af=>?_
 ·refine wp_seq_k λ f g=>wp_region_list (fH wn (vx rfl (ad.g rfl)) ad rfl rfl λ a ad=>fH wn (ym rfl (ad.g rfl)) ad rfl rfl λ a ad=>wpList_nil (g _ _ ?_))
  refine wp_ret ?_
  show bodyPost Tryz.prog Tryz.f98 (λ e w'=>e= .returned (.int .i64 (xD Y O x))/\(w'=W\/w'=W.drew)) .ret a W
  refine Ax Tryz.results98 ad rfl ?_
  exact⟨by unfold xD;rw[af];rfl,.inl rfl⟩
 ·refine wp_skip (d _ _ ?_)
  refine wp_seq_k λ f g=>wp_region_quiet (C:=λ w'=>w'=W.drew) (by kernel_rfl) (by kernel_rfl) rfl ?_
  refine qG wn (λ w b=>vx rfl (ad.g rfl)) ad rfl rfl λ a ad=>qG wn (λ w b=>yn Tryz.isAgg67 rfl (ad.g rfl) (by subst b;exact c)) ad rfl rfl λ a ad=>qG wn (λ w b=>LY rfl (ad.g rfl)) ad rfl rfl λ a ad=>
   qG wn (λ w b=>aeS rfl (ad.g rfl)) ad rfl rfl λ a ad=>qG wn (λ w b=>yn Tryz.isAgg3 rfl (ad.g rfl) (by subst b;exact J)) ad rfl rfl λ a ad=>qG wn (λ w b=>abH rfl (ad.g rfl) (ad.g rfl)) ad rfl rfl λ a ad=>
   qG wn (λ w b=>yn Tryz.isAgg67 rfl (ad.g rfl) (by subst b;exact c)) ad rfl rfl λ a ad=>qG wn (λ w b=>LY rfl (ad.g rfl)) ad rfl rfl λ a ad=>
   qG wn (λ w b=>avI rfl (ad.g rfl)) ad rfl rfl λ a ad=>qG wn (λ w b=>yn Tryz.isAgg3 rfl (ad.g rfl) (by subst b;exact h)) ad rfl rfl λ a ad=>qG wn (λ w b=>abH rfl (ad.g rfl) (ad.g rfl)) ad rfl rfl λ a ad=>
   qG wn (λ w b=>ym rfl (ad.g rfl)) ad rfl rfl λ a ad=>?_
  show∀w',w'=W.drew->_
  intro w' b
  subst b
  refine g _ _ (wp_ret ?_)
  refine Ax Tryz.results98 ad rfl ?_
  exact⟨by unfold xD;rw[af];rfl,.inr rfl⟩
theorem af0:∀args w,(callFunc 98 args).run Tryz.prog w= .ok (.enter 98 args) w:=jH.call 98 (r7 (by kernel_rfl))
theorem ac3{W:World}{gb gh:Nat}{Y O z:Int}(b:W.cell? ⟨gb,0,none⟩=some (.pointer (some ⟨gh,0,none⟩)))(J:W.cell? ⟨gh,1,none⟩=some (.int .i64 Y))(c:W.cell? ⟨gh,2,none⟩=some (.int .i64 O))(q:Nat) :
 Calls Tryz.prog 98 [.int .i64 z,.pointer (some ⟨gb,0,none⟩)].toArray (W.drewN q) λ e w'=>e= .returned (.int .i64 (xD Y O z))/\ ∃d,w'=W.drewN d:=by
 have f:(W.drewN q).cell? ⟨gb,0,none⟩=some (.pointer (some ⟨gh,0,none⟩)):=by rw[World.cell?_drewN];exact b
 have g:(W.drewN q).cell? ⟨gh,1,none⟩=some (.int .i64 Y):=by rw[World.cell?_drewN];exact J
 have i:(W.drewN q).cell? ⟨gh,2,none⟩=some (.int .i64 O):=by rw[World.cell?_drewN];exact c
 have aK:(W.drewN q).drew=W.drewN (q+1):=rfl
 have h:=as1 (x:=z) f g i
 rw[aK]at h
 exact Calls.mono h λ e w' a=>⟨a.1,a.2.elim (λ e=>⟨q,e⟩) λ e=>⟨q+1,e⟩⟩
theorem asY{W:World}{gb gh:Nat}{Y O x y:Int}(d:W.cell? ⟨gb,0,none⟩=some (.pointer (some ⟨gh,0,none⟩)))(J:W.cell? ⟨gh,1,none⟩=some (.int .i64 Y))(f:W.cell? ⟨gh,2,none⟩=some (.int .i64 O)) :
 Calls Tryz.prog 97 [.int .i64 x,.int .i64 y,.pointer (some ⟨gb,0,none⟩)].toArray W λ e w'=>e= .returned (.int .i64 (ar (xD Y O x-xD Y O y)))/\ ∃q,w'=W.drewN q:=by
 refine enter Tryz.func97 rfl Tryz.ntmps97 rfl λ a ad=>?_
 refine wp_seq_k λ K b=>wp_region_list (fH wn (ym rfl rfl) ad rfl rfl λ a ad=>wpList_nil (b _ _ ?_))
 refine wp_seq_k λ K b=>wp_region_list (fH wn (anN (xs:=[.tmp 2]) (vs:=[.pointer (some ⟨gb,0,none⟩)]) rfl (by simp only[eu,hK];rw[show a.eval (.tmp 2)=_ from ad.g rfl])) ad rfl rfl λ a ad=>fH wn (ym rfl (ad.g rfl)) ad rfl rfl λ a ad=>wpList_nil (b _ _ ?_))
 refine wp_seq_k λ K b=>wp_region_list (fH wn (vx rfl (ad.g rfl)) ad rfl rfl λ a ad=>fH wn (vx rfl (ad.g rfl)) ad rfl rfl λ a ad=>ZA (xs:=[.tmp 9]) (vs:=[.int .i64 x]) (cs:=[.pointer (some ⟨gb,0,none⟩)]) wn rfl af0 (ad.g rfl) ⟨ad.g rfl,trivial⟩ (ac3 (z:=x) d J f 0) ad rfl rfl λ e w' c=>?_)
 obtain⟨rfl,q,rfl⟩:=c
 refine⟨_,rfl,λ a ad=>fH wn (vx rfl (ad.g rfl)) ad rfl rfl λ a ad=>fH wn (vx rfl (ad.g rfl)) ad rfl rfl λ a ad=>ZA (xs:=[.tmp 12]) (vs:=[.int .i64 y]) (cs:=[.pointer (some ⟨gb,0,none⟩)]) wn rfl af0 (ad.g rfl) ⟨ad.g rfl,trivial⟩ (ac3 (z:=y) d J f q) ad rfl rfl λ e w' c=>?_⟩
 obtain⟨rfl,g,rfl⟩:=c
 refine⟨_,rfl,λ a ad=>fH wn (anS rfl (ad.g rfl) (ad.g rfl)) ad rfl rfl λ a ad=>fH wn (ym rfl (ad.g rfl)) ad rfl rfl λ a ad=>wpList_nil (b _ _ ?_)⟩
 refine wp_ret ?_
 refine Ax Tryz.results97 ad rfl ?_
 exact⟨rfl,g,rfl⟩
end Go.Proofs.YteeliipnilghaaaGreat
namespace Go.Proofs.YteeliipnilghaaaGreat
open Go Go.Shelf
def akp:Ren:=⟨λ f=>match f with|6=>96 |15=>125 |14=>124 |28=>157 |29=>158 |20=>149 |21=>150 |22=>151 |23=>152 |24=>153 |25=>154 |26=>155 |27=>156 |46=>167 |47=>168 |48=>169 |49=>170 |50=>171 |57=>173 |f=>f,
 λ t=>match t with|22=>22 |24=>3 |25=>147 |3=>3 |39=>175 |0=>0 |53=>199 |55=>201 |4=>4 |46=>193 |45=>192 |50=>94 |5=>5 |9=>9 |66=>205 |70=>109 |76=>210 |77=>211 |t=>t,λ g=>g⟩
theorem ako:SlLaysF.n6 Tryz.prog akp:={
 mixed:=by kernel_rfl
 f6:=⟨Tryz.f96.name,by kernel_rfl,by kernel_rfl⟩
 f14:=⟨Tryz.f124.name,by kernel_rfl,by kernel_rfl⟩
 f15:=by kernel_rfl
 f20:=⟨Tryz.f149.name,by kernel_rfl,by kernel_rfl⟩
 f21:=⟨Tryz.f150.name,by kernel_rfl,by kernel_rfl⟩
 f22:=⟨Tryz.f151.name,by kernel_rfl,by kernel_rfl⟩
 f23:=⟨Tryz.f152.name,by kernel_rfl,by kernel_rfl⟩
 f24:=⟨Tryz.f153.name,by kernel_rfl,by kernel_rfl⟩
 f25:=⟨Tryz.f154.name,by kernel_rfl,by kernel_rfl⟩
 f26:=⟨Tryz.f155.name,by kernel_rfl,by kernel_rfl⟩
 f27:=⟨Tryz.f156.name,by kernel_rfl,by kernel_rfl⟩
 f28:=by kernel_rfl
 f29:=by kernel_rfl
 f46:=⟨Tryz.f167.name,by kernel_rfl,by kernel_rfl⟩
 f47:=by kernel_rfl
 f48:=by kernel_rfl
 f49:=⟨Tryz.f170.name,by kernel_rfl,by kernel_rfl⟩
 f50:=⟨Tryz.f171.name,by kernel_rfl,by kernel_rfl⟩
 f57:=⟨Tryz.f173.name,by kernel_rfl,by kernel_rfl⟩
 t0:=by kernel_rfl
 a0:=λ w=>by kernel_rfl
 z0:=λ w=>by kernel_rfl
 v0:=λ w=>by kernel_rfl
 t3:=by kernel_rfl
 a3:=λ w=>by kernel_rfl
 z3:=λ w=>by kernel_rfl
 v3:=λ w=>by kernel_rfl
 t4:=by kernel_rfl
 a4:=λ w=>by kernel_rfl
 z4:=λ w=>by kernel_rfl
 v4:=λ w=>by kernel_rfl
 t5:=by kernel_rfl
 a5:=λ w=>by kernel_rfl
 z5:=λ w=>by kernel_rfl
 v5:=λ w=>by kernel_rfl
 t9:=by kernel_rfl
 a9:=λ w=>by kernel_rfl
 z9:=λ w=>by kernel_rfl
 v9:=λ w=>by kernel_rfl
 t22:=by kernel_rfl
 a22:=λ w=>by kernel_rfl
 z22:=λ w=>by kernel_rfl
 v22:=λ w=>by kernel_rfl
 a24:=λ w=>by kernel_rfl
 z24:=λ w=>by kernel_rfl
 t25:=by kernel_rfl
 a25:=λ w=>by kernel_rfl
 z25:=λ w=>by kernel_rfl
 v25:=λ w=>by kernel_rfl
 t39:=by kernel_rfl
 a39:=λ w=>by kernel_rfl
 z39:=λ w=>by kernel_rfl
 v39:=λ w=>by kernel_rfl
 t45:=by kernel_rfl
 a45:=λ w=>by kernel_rfl
 z45:=λ w=>by kernel_rfl
 v45:=λ w=>by kernel_rfl
 t46:=by kernel_rfl
 a46:=λ w=>by kernel_rfl
 z46:=λ w=>by kernel_rfl
 v46:=λ w=>by kernel_rfl
 t50:=by kernel_rfl
 a50:=λ w=>by kernel_rfl
 z50:=λ w=>by kernel_rfl
 v50:=λ w=>by kernel_rfl
 t53:=by kernel_rfl
 a53:=λ w=>by kernel_rfl
 z53:=λ w=>by kernel_rfl
 v53:=λ w=>by kernel_rfl
 t55:=by kernel_rfl
 a55:=λ w=>by kernel_rfl
 z55:=λ w=>by kernel_rfl
 v55:=λ w=>by kernel_rfl
 t66:=by kernel_rfl
 a66:=λ w=>by kernel_rfl
 z66:=λ w=>by kernel_rfl
 v66:=λ w=>by kernel_rfl
 t70:=by kernel_rfl
 a70:=λ w=>by kernel_rfl
 z70:=λ w=>by kernel_rfl
 v70:=λ w=>by kernel_rfl
 t76:=by kernel_rfl
 a76:=λ w=>by kernel_rfl
 z76:=λ w=>by kernel_rfl
 v76:=λ w=>by kernel_rfl
 t77:=by kernel_rfl
 a77:=λ w=>by kernel_rfl
 z77:=λ w=>by kernel_rfl
 v77:=λ w=>by kernel_rfl }
end Go.Proofs.YteeliipnilghaaaGreat
namespace Go.Proofs.YteeliipnilghaaaGreat
open Go Go.RowKit aq I a8 Go.Sort Go.Proofs
def eS(Y O x:Int):Int:=if Y<x then x else x+Y+O
def kM(Y O:Int)(x y:Int):Bool:=decide (eS Y O x<=eS Y O y)
def kP(Y O:Int)(l:List Int):List Int:=l.mergeSort (kM Y O)
abbrev EY(Y O:Int):Type:={ x:Int // 1<=x/\x<=Y+O }
def oW(Y O:Int)(x y:EY Y O):Int:=eS Y O x.1-eS Y O y.1
def wa{Y O:Int}(x:EY Y O):Value:=.int .i64 x.1
theorem aiE{Y O x:Int}(a:0<=Y/\Y<=100000)(b:0<=O/\O<=100000)(c:1<=x/\x<=Y+O):xD Y O x=eS Y O x:=by
 unfold xD eS;by_cases h:Y<x
 ·rw[decide_eq_true h,if_pos h];rfl
 ·rw[decide_eq_false h,if_neg h,cond_false]
  unfold ar
  omega
theorem aGY(Y O:Int):SWO (ltOf (oW Y O)) where
 irrefl x:=by simp[ltOf,oW]
 trans x y z a J:=by
  have a:eS Y O x.1-eS Y O y.1<0:=of_decide_eq_true a;have J:eS Y O y.1-eS Y O z.1<0:=of_decide_eq_true J;exact decide_eq_true (show eS Y O x.1-eS Y O z.1<0 by omega)
 ntrans x y z a J:=by
  have a: ¬eS Y O x.1-eS Y O y.1<0:=of_decide_eq_false a;have J: ¬eS Y O y.1-eS Y O z.1<0:=of_decide_eq_false J;exact decide_eq_false (show¬eS Y O x.1-eS Y O z.1<0 by omega)
theorem aG'{Y O:Int}(b:0<=Y)(c:0<=O)(x y:EY Y O)(a:ltOf (oW Y O) x y=false)(J:ltOf (oW Y O) y x=false):x=y:=by
 obtain⟨x,d⟩:=x;obtain⟨y,hy⟩:=y;simp only[ltOf,oW,decide_eq_false_iff_not,eS]at a J;apply Subtype.ext;show x=y
 split at a<;>split at a<;>simp_all<;>omega
theorem aGQ{Y O:Int}(l:List (EY Y O)):(l.mergeSort λ x y=>!(ltOf (oW Y O)) y x).map Subtype.val=kP Y O (l.map Subtype.val):=by
 unfold kP;refine List.map_mergeSort λ a _ b _=>?_;unfold ltOf oW kM;by_cases h:eS Y O a.1<=eS Y O b.1
 ·rw[decide_eq_true h,decide_eq_false (by omega)];rfl
 ·rw[decide_eq_false h,decide_eq_true (by omega)];rfl
theorem Qn{α:Type} [Inhabited α]{enc:α->Value}{w:World}{b' off m:Nat}{dk:Array α}{os:Array Obj}{k:Nat}(a:k≠b')(b:k<w.heap.size):(sortWorld enc w b' off m dk os).heap[k]? =w.heap[k]? :=by
 unfold sortWorld grow putRow mapBlock Sort.ahead;simp only;rw[Array.getElem?_append_left (by simpa using b),ju,if_neg (λ e=>a e.symm)]
theorem aGX{α:Type} [Inhabited α]{enc:α->Value}{w:World}{b' m:Nat}{dk:Array α}{os:Array Obj}{cur:Array Value}{e:TypeId}(h:w.heap[b']? =some (.cells cur e (0,0))):(sortWorld enc w b' 0 m dk os).heap[b']? =some (.cells (putCells enc 0 dk cur) e (0,0)):=by
 have a:b'<w.heap.size:=by
  rcases fN b' w.heap.size with h1 |h1
  ·exact h1
  ·rw[hA h1]at h;cases h
 unfold sortWorld grow putRow mapBlock Sort.ahead;simp only;rw[Array.getElem?_append_left (by simpa using a),ju,if_pos rfl,h];rfl
theorem cell_of{w:World}{b' k:Nat}{cur:Array Value}{e:TypeId}(h:w.heap[b']? =some (.cells cur e (0,0))):w.cell? ⟨b',k,none⟩=cur[k]? /\w.frozen? ⟨b',k,none⟩=false:=by
 constructor
 ·simp[World.cell?,h]
 ·simp[World.frozen?,h]
theorem SQ{w w':World}{b o:Nat}{v:Value}(h:w'.heap[b]? =w.heap[b]?)(hc:w.cell? ⟨b,o,none⟩=some v):w'.cell? ⟨b,o,none⟩=some v:=by
 unfold World.cell? at hc⊢;rw[h];exact hc
theorem Any.aGO{P:Program}{ρ:Go.Shelf.Ren}{α:Type} [Inhabited α](L:SlLaysF.n6 P ρ)(enc:α->Value)(f:OneCell enc)(Fs:α->α->Int)(c:SWO (ltOf Fs))(g:Nat)(b:Array Value)(b' off cap:Nat)(d:Array α)(w:World)
 (MY:∀args w,(callFunc g args).run P w= .ok (.enter g args) w)(h:CmpLays1 P g b enc Fs b' off d.size w)(i:Holds enc w b' off d)(a:b'<w.heap.size)(j:d.size<4611686018427387904)(k:∀x y,(ltOf Fs) x y=false->(ltOf Fs) y x=false->x=y) :
 Calls P (ρ.f 6) #[.slice (some ⟨b',off,none⟩) d.size cap,.func (.func g) #[] b] w λ e w'=>
  e= .returned (.tuple #[])/\ ∃n os,w'=sortWorld enc w b' off n (d.toList.mergeSort λ x y=>!(ltOf Fs) y x).toArray os:=
 (Any.slices_SortFunc L enc f Fs c g b b' off cap d w MY h i a j).mono λ _ _ ⟨l,d',n,os,m,aj,o⟩=>
  ⟨l,n,os,by rw[o,<-sorted_unique_holds c k d d' m aj]⟩
set_option maxHeartbeats 1000000
theorem aGU{W:World}{gb gh b' cap:Nat}{Y O:Int}(p:0<=Y/\Y<=100000)(r:0<=O/\O<=100000){L:List Int}(B:∀x∈L,1<=x/\x<=Y+O)(E:L≠[])(a:L.length<4611686018427387904)
 (h1:W.cell? ⟨gb,0,none⟩=some (.pointer (some ⟨gh,0,none⟩)))(J:W.cell? ⟨gh,1,none⟩=some (.int .i64 Y))(C:W.cell? ⟨gh,2,none⟩=some (.int .i64 O))(af:gb≠b')(D:gh≠b')
 {cur:Array Value}(f:W.heap[b']? =some (.cells cur 3 (0,0)))(g:cur.toList.take L.length=L.map (Value.int .i64)) :
 Calls Tryz.prog 96 [.slice (some ⟨b',0,none⟩) L.length cap,.func (.func 97) #[] #[.pointer (some ⟨gb,0,none⟩)]].toArray W λ e w'=>e= .returned (.tuple #[])/\bj [b'] W w'/\ ∃s:Array Value,w'.heap[b']? =some (.cells s 3 (0,0))/\s.size=cur.size/\s.toList.take L.length=(kP Y O L).map (Value.int .i64):=by
 obtain⟨i,L',rfl⟩:=List.exists_cons_of_ne_nil E
 haveI:Inhabited (EY Y O):=⟨⟨i,B i (by simp)⟩⟩
 obtain⟨d,aK⟩:∃d:List (EY Y O),d.map Subtype.val=i::L':=⟨(i::L').attachWith _ B,by simp⟩
 rw[<-aK]at g a⊢
 rw[hl]at g a⊢
 have t:∀ {k:Nat}{o:Obj},W.heap[k]? =some o->k<W.heap.size:=λ{k o} h=>by
  rcases fN k W.heap.size with h1 |h1
  ·exact h1
  ·rw[hA h1]at h;cases h
 have u:∀ {b o:Nat}{v:Value},W.cell? ⟨b,o,none⟩=some v->b<W.heap.size:=λ{b o v} h=>World.block_lt_of_cell? W ⟨b,o,none⟩ h
 have w:∀j (aA:j<d.length),cur[j]? =some (wa d[j]):=λ j aA=>by
  have:=congrArg (λ l=>l[j]?) g;simp only[gI,if_pos aA,iT,aH aA,fI,gS]at this;exact this
 have F:Holds (wa (Y:=Y) (O:=O)) W b' 0 d.toArray:=λ j aA=>by
  have aA:j<d.length:=by simpa using aA
  have:=cell_of (k:=j) f;rw[ji,this.1,w j aA];refine⟨?_,this.2⟩;rw[getElem!_pos d.toArray j (by simpa using aA)];simp
 have G:CmpLays1 Tryz.prog 97 #[.pointer (some ⟨gb,0,none⟩)] (wa (Y:=Y) (O:=O)) (oW Y O) b' 0 d.toArray.size W:=λ m os dk _ x y=>by
  have e1:=SQ (Qn (enc:=wa (Y:=Y) (O:=O)) (off:=0) (m:=m) (dk:=dk) (os:=os) af (u h1)) h1;have e2:=SQ (Qn (enc:=wa (Y:=Y) (O:=O)) (off:=0) (m:=m) (dk:=dk) (os:=os) D (u J)) J;have e3:=SQ (Qn (enc:=wa (Y:=Y) (O:=O)) (off:=0) (m:=m) (dk:=dk) (os:=os) D (u C)) C;refine Calls.mono (asY (x:=x.1) (y:=y.1) e1 e2 e3) λ e w' f=>⟨?_,?_⟩
  ·rw[f.1,aiE p r x.2,aiE p r y.2]
   have N:=x.2;have hy:=y.2
   have:ar (eS Y O x.1-eS Y O y.1)=oW Y O x y:=by
    unfold oW ar eS;split<;>split<;>omega
   rw[this]
  ·obtain⟨q,H⟩:=f.2
   exact⟨q,#[],by rw[H,grow_empty]⟩
 have z:=Any.aGO ako (wa (Y:=Y) (O:=O)) (λ _=>rfl) (oW Y O) (aGY Y O) 97 #[.pointer (some ⟨gb,0,none⟩)] b' 0 cap d.toArray W (jH.call 97 (r7 (by kernel_rfl))) G F (t f) (by simpa using a) (aG' p.1 r.1)
 refine Calls.mono (show Calls Tryz.prog 96 _ W _ from z) λ e w' c=>?_
 obtain⟨I,n,os,c⟩:=c
 obtain⟨S,A⟩:∃S,S=d.toArray.toList.mergeSort λ x y=>!(ltOf (oW Y O)) y x:=⟨_,rfl⟩
 rw[<-A]at c
 have P:S.length=d.length:=by rw[A,ly]
 refine⟨I,⟨by rw[c];rfl,by rw[c];rfl,by rw[c];rfl,?_,λ k K M=>by rw[c];exact Qn (by simpa using M) K⟩,putCells wa 0 S.toArray cur,by rw[c];exact aGX f,by simp[putCells],?_⟩
 ·rw[c]
  unfold sortWorld grow putRow mapBlock Sort.ahead
  simp
 ·rw[<-aGQ,List.map_map]
  have hcs:d.length<=cur.size:=by
   have:=congrArg h4 g;simp at this;omega
  rw[show(d.mergeSort λ x y=>!(ltOf (oW Y O)) y x)=S from A.symm]
  refine j4 λ j=>?_
  rw[gI]
  by_cases aA:j<d.length
  ·rw[if_pos aA,iT,aH (by omega:j<S.length),gS]
   unfold putCells
   rw[Array.getElem?_mapIdx,iR (by omega)]
   simp only[fI]
   rw[if_pos ⟨gD _,by simp;omega⟩,Nat.sub_zero,getElem!_pos S.toArray j (by simp;omega)]
   simp[wa]
  ·rw[if_neg aA,iT,gz (by omega)]
   rfl
end Go.Proofs.YteeliipnilghaaaGreat
namespace Go.Proofs.YteeliipnilghaaaGreat
open Go Go.RowKit aq I a8
@[reducible] def Oy:List cD:=[.p (.P 5 1),.p (.B 0),.p (.B 1),.p (.B 2),.p (.R 6)]
@[reducible] def JR:List cD:=[.p (.P 5 1),.p (.B 0),.p (.B 1),.p (.R 6)]
@[reducible] def l5:List bF:=[.c 67 [.B 3],.c 69 [.l 134,.l 3,.l 124,.l 120,.l 121],.c 140 [.B 3,.l 134,.l 3,.l 124,.l 120,.l 121,.M 4],.c 24 [.l 3,.i .i64,.i .i64,.i .i64,.i .i64,.l 3,.i .i64],.m 3 4,.r 3 true,.r 3 false]
noncomputable def r8:Code×Code:=((DZ Tryz.prog 63 0).getD (.skip,.skip))
noncomputable def fA:yC:=(GJ r8.1 r8.2).getD ⟨0,#[],0,0,0,0,0,default,default,default,default,default,0,#[],0,#[]⟩
theorem azP:DZ Tryz.prog 63 0=some r8:=by kernel_rfl
theorem azQ:GJ r8.1 r8.2=some fA:=by kernel_rfl
def Dp(Y O:Int)(a b:List Int):Option (List Int):=match decide (0<=Y)&&decide (Y<=100000)&&decide (0<=O)&&decide (O<=100000)&&decide (a.length<=200000)&&b.isEmpty&&a.all (λ x=>decide (1<=x)&&decide (x<=Y+O))with
 |true=>some (kP Y O a)
 |false=>none
theorem azS{Y O:Int}{a b S:List Int}(h:Dp Y O a b=some S):(0<=Y/\Y<=100000)/\(0<=O/\O<=100000)/\a.length<=200000/\b=[]/\(∀x∈a,1<=x/\x<=Y+O)/\S=kP Y O a:=by
 unfold Dp at h;split at h
 ·rename_i af
  simp only[bC,decide_eq_true_eq,jN,List.isEmpty_iff]at af
  obtain⟨⟨⟨⟨⟨⟨c,J⟩,d⟩,e⟩,f⟩,g⟩,i⟩:=af
  exact⟨⟨c,J⟩,⟨d,e⟩,f,g,i,(dT h).symm⟩
 ·cases h
def JQ(d:dd bk.El Oy×cx bk.El l5):Option (yx bk.El ⟨.nm,[2,3,4,8],JR,l5⟩):=
 (Dp d.2.2.2.2.1.2.1 d.2.2.2.2.1.2.2.1 (List.map (α:=Int×Bool) ke d.2.2.2.2.2.1) d.2.2.2.2.2.2.2.1).map λ S=>((d.1.1,(),(),(),()),(d.2.1,d.2.2.1,d.2.2.2.1,d.2.2.2.2.1,d.2.2.2.2.2.1,d.2.2.2.2.2.2.1,S,()))
theorem az0:fA.h8.op= .next (.tmp 36) false/\fA.h8.dst=some 37/\fA.h8.guard=none:=by refine⟨?_,?_,?_⟩<;>kernel_rfl
theorem azX:fA.ma.op= .extract (.tmp 37) 0/\fA.ma.dst=some 38/\fA.ma.guard=none:=by refine⟨?_,?_,?_⟩<;>kernel_rfl
theorem azY:fA.lv.op= .entry (.tmp 36)/\fA.lv.dst=some 39/\fA.lv.guard=none:=by refine⟨?_,?_,?_⟩<;>kernel_rfl
theorem azZ:fA.km.op= .extract (.tmp 39) 0/\fA.km.dst=some 40/\fA.km.guard=none:=by refine⟨?_,?_,?_⟩<;>kernel_rfl
theorem az1:fA.mb.op= .assign (.tmp 40)/\fA.mb.dst=some 9/\fA.mb.guard=none:=by refine⟨?_,?_,?_⟩<;>kernel_rfl
noncomputable def az4:List Oper:=fA.ops.toList.take 4
noncomputable def JS:Oper:=(fA.ops.toList.drop 4).headD fA.h8
theorem az2:fA.ops.toList=az4++[JS]:=by kernel_rfl
theorem WA:JS.op= .range 70 (.tmp 35)/\JS.dst=some 36/\JS.guard=none:=by refine⟨?_,?_,?_⟩<;>kernel_rfl
noncomputable def Ov:Oper:=fA.xL.toList.headD fA.h8
noncomputable def Ow:Oper:=(fA.xL.toList.drop 1).headD fA.h8
noncomputable def Ox:Oper:=(fA.xL.toList.drop 2).headD fA.h8
theorem az5:fA.xL.toList=[Ov,Ow,Ox]:=by kernel_rfl
theorem ag4:Ov.op= .move (.tmp 8)/\Ov.dst=some 45:=by refine⟨?_,?_⟩<;>kernel_rfl
theorem ag5:Ow.op= .makeFunc (.func 97) #[] #[.tmp 3]/\Ow.dst=some 46:=by refine⟨?_,?_⟩<;>kernel_rfl
theorem ag6:Ox.op= .call { callee:=.value (.func 96),args:=[.tmp 45,.tmp 46].toArray,argTypes:=#[22,147] }/\Ox.dst=some 47:=by refine⟨?_,?_⟩<;>kernel_rfl
theorem aFx{F:Nat->Prop}{w:World}{cs:List Value}{d:Int}(h:(bk.ty 3).rd F w cs d):cs=[.int .i64 d]:=by
 change eZ (λ t=>(fD FF t).ty) F w [.i .i64] _ (d,())at h;obtain⟨u,us,rfl,rfl,rfl⟩:=h;rfl
theorem aFy{F:Nat->Prop}{w:World}(d:Int):(bk.ty 3).rd F w [.int .i64 d] d:=by
 change eZ (λ t=>(fD FF t).ty) F w [.i .i64] _ (d,());exact⟨_,_,rfl,rfl,rfl⟩
theorem Zg{F:Nat->Prop}{w:World}:∀ {l:List (bk.El 3)}{xs:List Value},dx (bk.ty 3) F w xs l->xs=List.map (α:=Int) (Value.int .i64) l
 |[],xs,h=>h
 |d::r,xs,h=>by
  obtain⟨cs,ys,rfl,a,J⟩:=h;rw[aFx a,Zg J];rfl
theorem Zh{F:Nat->Prop}{w:World}:∀(l:List (bk.El 3)),dx (bk.ty 3) F w (List.map (α:=Int) (Value.int .i64) l) l
 |[]=>rfl
 |d::r=>⟨[.int .i64 d],_,rfl,aFy d,Zh r⟩
theorem aGP{Y O:Int}(m:0<=Y)(n:0<=O){l l':List Int}(g:l.Perm l')(h:∀x∈l,1<=x/\x<=Y+O):kP Y O l=kP Y O l':=by
 unfold kP;have i:∀a b c:Int,kM Y O a b=true->kM Y O b c=true->kM Y O a c=true:=λ a b c d J=>by
  simp only[kM,decide_eq_true_eq]at *;omega
 have j:∀a b:Int,(kM Y O a b||kM Y O b a)=true:=λ a b=>by
  simp only[kM,hM,decide_eq_true_eq];omega
 refine List.Perm.eq_of_pairwise (le:=λ a b=>kM Y O a b=true) (λ a b k af d J=>?_) (lp i j l) (lp i j l') (((kd l _).trans g).trans (kd l' _).symm);have k:=h a ((kd l _).mem_iff.1 k);have af:=h b (g.mem_iff.2 ((kd l' _).mem_iff.1 af));have d:eS Y O a<=eS Y O b:=of_decide_eq_true d;have J:eS Y O b<=eS Y O a:=of_decide_eq_true J;unfold eS at d J;by_cases e:Y<a<;>by_cases f:Y<b
 ·rw[if_pos e,if_pos f]at d J;omega
 ·rw[if_pos e,if_neg f]at d;omega
 ·rw[if_neg e,if_pos f]at d J;omega
 ·rw[if_neg e,if_neg f]at d J;omega
theorem aGT(p:Option Addr)(cap:Nat)(a:Value)(w:World):Calls Tryz.prog 96 #[.slice p 0 cap,a] w λ e w'=>e= .returned (.tuple #[])/\w'=w:=
 Go.Proofs.AnyF.slices_SortFunc_none (ρ:=akp) { ako with } p cap a w
theorem axh:∀args w,(callFunc 96 args).run Tryz.prog w= .ok (.enter 96 args) w:=jH.call 96 (r7 (by kernel_rfl))
end Go.Proofs.YteeliipnilghaaaGreat
namespace Go.Proofs.YteeliipnilghaaaGreat
open Go Go.RowKit aq I a8
theorem azU:Ov.guard=none:=by kernel_rfl
theorem azV:Ow.guard=none:=by kernel_rfl
theorem azW:Ox.guard=none:=by kernel_rfl
theorem ahS:∀ {fr:List (Nat×Value)}{t:Nat}{y:Value},eb fr t=some y->(t,y)∈fr
 |[],t,y,h=>by simp[eb]at h
 |p::r,t,y,h=>by
  unfold eb at h;split at h
  ·rename_i af
   simp only[aD]at h
   have:=a_ af
   subst this;subst h
   exact jX
  ·exact ez _ (ahS h)
def Wy(t:b2 bk.El):Option (Nat×List Value):=match fV t,cv t.s.f.fr 35 with
 |true,some (.m j)=>(wm t.s.f [2,3,4,8]).map λ vs=>(j,vs)
 |_,_=>none
theorem ag3{t:b2 bk.El}{j:Nat}{vs:List Value}(h:Wy t=some (j,vs)):fV t=true/\cv t.s.f.fr 35=some (.m j)/\wm t.s.f [2,3,4,8]=some vs:=by
 unfold Wy at h;split at h
 ·rename_i b J
  obtain⟨us,c,a⟩:=cd.1 h
  simp only[b5]at a
  obtain⟨rfl,rfl⟩:=a
  exact⟨b,J,c⟩
 ·cases h
def fW{T:bN}(t:b2 T.El):Bool:=match t.x with
 | .nm=>true
 |_=>false
theorem azz{T:bN}{t:b2 T.El}(h:fW t=true):t.x= .nm:=by
 unfold fW at h;split at h
 ·rename_i e;exact e
 ·cases h
def Ou(t:b2 bk.El):Option ((Nat×Nat)×(Nat× Σ u,List (bk.El u))×List Nat×List Value):=match fW t,cv t.s.f.fr 8,a8.rowAt t.s.bl 6 with
 |true,some (.r i g),some p=>(wm t.s.f [2,3,4,36]).map λ vs=>((i,g),p,t.s.ws,vs)
 |_,_,_=>none
theorem azT{t:b2 bk.El}{i g:Nat}{p:Nat× Σ u,List (bk.El u)}{ws:List Nat}{vs:List Value}(h:Ou t=some ((i,g),p,ws,vs)):t.x= .nm/\cv t.s.f.fr 8=some (.r i g)/\a8.rowAt t.s.bl 6=some p/\t.s.ws=ws/\wm t.s.f [2,3,4,36]=some vs:=by
 unfold Ou at h;split at h
 ·rename_i b J c
  obtain⟨us,d,a⟩:=cd.1 h
  simp only[b5]at a
  obtain⟨⟨rfl,rfl⟩,rfl,rfl,rfl⟩:=a
  exact⟨azz b,J,c,rfl,d⟩
 ·cases h
theorem aw8{b' n c:Nat}(h:0<c):a8.af (.slice (some ⟨b',0,none⟩) n c)=[b']:=by
 cases c with
 |zero=>omega
 |succ c=>rfl
theorem aGR{W:World}{gb gh cap:Nat}{A:Option Addr}{Y O:Int}(h:0<=Y/\Y<=100000)(i:0<=O/\O<=100000){L:List Int}(j:∀x∈L,1<=x/\x<=Y+O)(b:L.length<4611686018427387904)
 (k:W.cell? ⟨gb,0,none⟩=some (.pointer (some ⟨gh,0,none⟩)))(J:W.cell? ⟨gh,1,none⟩=some (.int .i64 Y))(l:W.cell? ⟨gh,2,none⟩=some (.int .i64 O))
 (c:rowIs W 3 (bk.ty 3).size (.slice A L.length cap) L.length (L.map (Value.int .i64)))(af:gb∉a8.af (.slice A L.length cap))(g:gh∉a8.af (.slice A L.length cap)) :
 Calls Tryz.prog 96 [.slice A L.length cap,.func (.func 97) #[] #[.pointer (some ⟨gb,0,none⟩)]].toArray W λ e w'=>e= .returned (.tuple #[])/\bj (a8.af (.slice A L.length cap)) W w'/\rowIs w' 3 (bk.ty 3).size (.slice A L.length cap) L.length ((kP Y O L).map (Value.int .i64)):=by
 have m:(bk.ty 3).size=1:=rfl
 rw[m]at c⊢
 by_cases d:L=[]
 ·subst d
  refine Calls.mono (aGT A cap _ W) λ e w' a=>?_
  obtain⟨f,a⟩:=a
  refine⟨f,a▸bj.refl _ _,?_⟩
  rw[a,show kP Y O []=[] from by simp[kP]]
  exact c
 ·have n:0<L.length:=kV.2 d
  obtain⟨u,C1⟩:=c.own n
  rcases C1 with⟨_,e⟩|⟨b',o,cur,e1,e2,e3,e4,e5,e6,e7⟩
  ·omega
  ·simp only[Value.slice.injEq,true_and]at e1
   obtain⟨rfl,rfl⟩:=e1
   rw[aw8 (by omega)]at af g⊢
   rw[js]at e7
   refine Calls.mono (aGU h i j d b k J l (by simpa using af) (by simpa using g) e3 e7) λ e w' a=>?_
   obtain⟨f,p,q,r,s,t⟩:=a
   refine⟨f,p,.inl ⟨?_,.inr ⟨b',cap,q,rfl,e2,r,e4,e5,s.trans e6,by rw[js];exact t⟩⟩⟩
   rw[hl,kP,ly,js]
theorem KO{T:bN}{F:Nat->Prop}{w:World}{ρ:List Value}{bl:List (aC T.El)}{y:aF T.El}{r:List (aF T.El)}{v:Value}{vs:List Value}(h:a1 T F w ρ bl (y::r) (v::vs)):ao T F w ρ bl y v/\a1 T F w ρ bl r vs:=by
 simp only[a1]at h;obtain⟨u,us,e,a,J⟩:=h;simp only[hh]at e;obtain⟨rfl,rfl⟩:=e;exact⟨a,J⟩
theorem P7{T:bN}{F:Nat->Prop}{w:World}{ρ:List Value}{bl:List (aC T.El)}{y:aF T.El}{r:List (aF T.El)}{vs:List Value}(h:a1 T F w ρ bl (y::r) vs):∃u us,vs=u::us/\ao T F w ρ bl y u/\a1 T F w ρ bl r us:=by
 simpa only[a1]using h
set_option maxRecDepth 100000
set_option maxHeartbeats 4000000
theorem az9:acq aB ⟨165,[]⟩ [2,3,4,7,8] Oy l5 ⟨.nm,[2,3,4,8],JR,l5⟩ JQ r8.1 r8.2:=by
 intro da db eM fo W M0 X ρ a w cC rX eP rest Q k;obtain⟨aa,aw⟩:=aiT azQ;rw[aa,aw];obtain⟨(dR:List Int),u3,u4,u7,u8,aMy⟩:=da;obtain⟨E,G,j,⟨(nF:List Int),(Y:Int),(O:Int),tu⟩,(I:List (Int×Bool)),(uE:List Int),(eY:List Int),v'⟩:=db;obtain⟨(S:List Int),d_,H⟩:=cd.1 fo;obtain⟨k_,hO,M,ays,Jk,U7⟩:=azS (show Dp Y O (I.map ke) eY=some S from d_);subst ays;subst H;obtain⟨p,u⟩:=eP;have u:a1 bk _ w ρ _ [.pp 5 0 1 dR,.b 0 0,.b 1 0,.b 2 0,.r 6 0] [a.tmps.getD 2 undef,a.tmps.getD 3 undef,a.tmps.getD 4 undef,a.tmps.getD 7 undef,a.tmps.getD 8 undef]:=u;obtain⟨J,u⟩:=KO u;obtain⟨al,u⟩:=KO u;obtain⟨a',u⟩:=KO u;obtain⟨hp,u⟩:=KO u;obtain⟨lS,u⟩:=KO u;obtain⟨r0,e4⟩:=p.r_ (i:=4) (B:=.m 3 4 I) rfl;obtain⟨bm,CT,Sf,U6,es,clock,tQ,I7,VV,FW⟩:=p.ok 4 (.m 3 4 I) _ rfl e4;subst CT;obtain rfl:Sf=(tZ:hZ (aB.T.El 3)):=by
  have U0:(aB.T.e 3).key=some (tZ:hZ (aB.T.El 3)):=by kernel_rfl
  exact dT (U6.symm.trans U0)
 have Ji:=Tc I7;have kc:(es.toList.map (·.born)).Nodup:=List.nodup_iff_pairwise_ne.2 (VV.imp λ h=>Nat.ne_of_lt h);obtain⟨C,e6⟩:=p.r_ (i:=6) (B:=.r 3 0 0 ([]:List (bk.El 3))) rfl;obtain⟨nz,ev,aMK,NT,ayG,ayA⟩:=p.Zu (i:=6) (t:=3) (g:=0) (k:=0) (l0:=([]:List (bk.El 3))) rfl e6;have aHo:a.tmps.getD 8 undef=C:=by
  simp only[ao]at lS;obtain⟨_,h',bn,_,bM⟩:=lS;rw[e6]at bn;cases bn;exact bM rfl
 have XO:∀q∈a8.af C,q<w.heap.size:=λ q b=>(p.lt q ⟨6,_,_,rfl,e6,b⟩).1;have H:∀ {k:Nat}{o:Obj}{w:World},w.heap[k]? =some o->k<w.heap.size:=λ{k o w} h=>by
  rcases fN k w.heap.size with h1 |h1
  ·exact h1
  ·rw[hA h1]at h;cases h
 have aw9:bm∉a8.af C:=p.bu 4 6 _ _ _ _ rfl e4 rfl e6 (by decide) bm (dK.2 rfl);refine wp_seq (wp_seq (wp_region_list ?_));rw[az2];refine PW (n:=⟨165,[]⟩) (K:=Wy) (z:=(4,[a.tmps.getD 2 undef,a.tmps.getD 3 undef,a.tmps.getD 4 undef,a.tmps.getD 8 undef])) jH rfl p cC rX (fr:=[(7,.b 2 0),(2,.p (a.tmps.getD 2 undef)),(3,.p (a.tmps.getD 3 undef)),(4,.p (a.tmps.getD 4 undef)),(8,.p (a.tmps.getD 8 undef))]) (λ t y hy=>?_) (by kernel_rfl) (λ t h=>Om (ag3 h).1) λ t ep b_ L U4 ef rT jI=>?_
 ·have:=J4 hy
  simp only[cm,b5,hR,or_false]at this
  rcases this with⟨rfl,rfl⟩|⟨rfl,rfl⟩|⟨rfl,rfl⟩|⟨rfl,rfl⟩|⟨rfl,rfl⟩
  ·exact hp
  ·simp only[ao]
  ·simp only[ao]
  ·simp only[ao]
  ·simp only[ao]
 obtain⟨bn,bx,bM⟩:=ag3 U4;have N:=ND ef.dL.dZ bM;simp only[eu,hK,hh,and_true]at N;obtain⟨g2,g3,g4,g8⟩:=N;have f35:=ef.dL.dZ.get 35 _ bx;simp only[ao]at f35;obtain⟨asv,cG,dX⟩:=f35;obtain⟨u2,bh,bd,_⟩:=rT.L.at_ 4 _ e4;have bd:=bd (by simp[kJ]);rw[bh,bd]at cG;cases cG;have wK:L.heap[bm]? =some (.map es clock):=(jI.block bm (H tQ) (by simp)).trans tQ;have ave:b_.eval (.tmp 35)= .map (some bm):=dX;obtain⟨r,fE⟩:∃r,r=L.heap.size:=⟨_,rfl⟩
 have aL7:w.heap.size<=r:=by rw[fE];exact jI.size
 have cE:bc aB.P JS b_ L (.pointer (some ⟨r,0,none⟩)) (L.alloc (.mapIter (some bm) clock #[] clock)):=by
  rw[fE];simp only[bc,execOp,WA.1,ave];rw[Sem.run_bind,run_range_map (P:=aB.P) L 70 3 4 bm es clock Tryz.underlying70 wK];rfl
 refine fq WA.2.2 cE ?_;rw[WA.2.1];refine wpList_nil ?_;obtain⟨cO,kG⟩:∃cO,cO=L.alloc (.mapIter (some bm) clock #[] clock):=⟨_,rfl⟩
 rw[<-kG];have FR:bj [] L cO:=by rw[kG];exact bj.alloc [] L _
 have JF:cO.heap[r]? =some (.mapIter (some bm) clock #[] clock):=by rw[kG,fE];exact heap_alloc_new L _
 have n2:r<cO.heap.size:=H JF;have Ic:b_.tmps.size=165:=ef.dL.dZ.size;have Sw:b_.defers=[]:=ef.dL.dZ.defers
 refine agY (n:=165) (r:=r) (bm:=bm) (since:=clock) (clock:=clock) (ti:=36) (tn:=37) (tok:=38) (te:=39) (tk:=40) (tv:=9) (es:=es)
  (λ acc T w'=>T.tmps.size=165/\T.defers=[]/\T.tmps.getD 2 undef=a.tmps.getD 2 undef/\T.tmps.getD 3 undef=a.tmps.getD 3 undef/\T.tmps.getD 4 undef=a.tmps.getD 4 undef/\T.tmps.getD 36 undef= .pointer (some ⟨r,0,none⟩)/\Sd w' r bm clock clock es acc/\(acc.map (·.born)).Nodup/\(∀e∈acc,e∈es.toList)/\bj (a8.af C) w w'/\r<w'.heap.size/\
   ∃(l:List Int)(A:Option Addr)(c:Nat),l=acc.map ki/\T.tmps.getD 8 undef= .slice A l.length c/\rowIs w' 3 (bk.ty 3).size (.slice A l.length c) l.length (l.map (Value.int .i64))/\ ∀q∈a8.af (.slice A l.length c),q≠r/\(q∈a8.af C\/(w.heap.size<=q/\q<w'.heap.size)))
  az0 azX azY azZ az1 (by decide) (by decide) FW (cu _) kc (λ acc T w' h=>⟨h.1,h.2.2.2.2.2.1,h.2.2.2.2.2.2.1,h.2.2.2.2.2.2.2.1,h.2.2.2.2.2.2.2.2.1⟩) ?_ ?_ ?_
 ·intro acc e a2 a3 jp qR jJ he zv s JE NG N7 tR
  obtain⟨i1,i2,Wa,Wb,Wc,i4,⟨i5,aze⟩,i6,i7,i8,i9,l,A,c,Ob,U,V,f⟩:=jJ
  have aZ:bj (a8.af C) w qR:=i8.trans NG λ x aa=>.inr (by simp at aa;omega)
  have ax5:∀q∈a8.af (.slice A l.length c),q<jp.heap.size:=λ q b=>(f q b).2.elim (λ h=>dQ (XO q h) i8.size) (·.2)
  have n3:=V.later (w':=qR) λ q b=>NG.block q (ax5 q b) (by simpa using(f q b).1)
  obtain⟨r0,aG2⟩:=p.aj0 (i:=6) (t:=3) (g:=0) (k:=0) (l0:=([]:List (bk.El 3))) (l:=l) (A:=A) (c:=c) rfl e6 aZ (λ q b=>(f q b).2.imp id λ h=>⟨h.1,by rw[N7];exact h.2⟩) n3 (λ F=>Zh l)
  have t9:=JE (by decide)
  rw[Tb I7 e he]at t9
  have N2:l.length<=200000:=by
   have h1:=Xw i6 (Y:=es.toList.map (·.born)) λ x aa=>by
    obtain⟨z,ah,rfl⟩:=jv.1 aa;exact j_ (i7 z ah)
   have J:=congrArg h4 Ji;simp only[hl]at h1 J M;rw[Ob,hl];omega
  have wy:bD 8 l [ki e]=some (l++[ki e]):=by
   unfold bD;rw[if_pos (by simp only[cV,gr];omega)]
  obtain⟨t,gO,cZ⟩:=D.sC (d:=opsL aB (HR aB) fA.oj 165 fA.oj.toList ⟨⟨[(9,.p (.int .i64 (ki e))),(8,.r 6 1),(2,.p (a.tmps.getD 2 undef)),(3,.p (a.tmps.getD 3 undef)),(4,.p (a.tmps.getD 4 undef)),(36,.p (.pointer (some ⟨r,0,none⟩)))],[],[]⟩,(bJ (El:=aB.T.El) id (b6 false l5) false l5 (E,G,j,(nF,Y,O,tu),I,uE,([]:List Int),v')).set 6 (.r 3 1 0 l),[]⟩)
   (K:=Ou) (r:=((6,2),(2,⟨3,(l++[ki e]:List Int)⟩),[6],[a.tmps.getD 2 undef,a.tmps.getD 3 undef,a.tmps.getD 4 undef,.pointer (some ⟨r,0,none⟩)])) (by
    have e1:(opsL aB (HR aB) fA.oj 165 fA.oj.toList ⟨⟨[(9,.p (.int .i64 (ki e))),(8,.r 6 1),(2,.p (a.tmps.getD 2 undef)),(3,.p (a.tmps.getD 3 undef)),(4,.p (a.tmps.getD 4 undef)),(36,.p (.pointer (some ⟨r,0,none⟩)))],[],[]⟩,(bJ (El:=aB.T.El) id (b6 false l5) false l5 (E,G,j,(nF,Y,O,tu),I,uE,([]:List Int),v')).set 6 (.r 3 1 0 l),[]⟩).run Ou=(bD 8 l [ki e]).bind λ m=>some ((6,2),(2,⟨3,m⟩),[6],[a.tmps.getD 2 undef,a.tmps.getD 3 undef,a.tmps.getD 4 undef,.pointer (some ⟨r,0,none⟩)]):=by kernel_rfl
    exact e1.trans (by rw[wy];rfl))
  obtain⟨eh,hj,j2,q3,EI⟩:=azT cZ
  refine wp_region_list ?_
  rw[show fA.oj.toList=fA.oj.toList++[] by simp]
  have Iw:(ρ.set 6 (.slice A l.length c))[6]? =some (.slice A l.length c):=ff (aM.1 e6).1
  refine Pu jH aeT fA.oj.toList gO eh (ah5 (W_ (n:=⟨165,[]⟩) rfl r0 (s.1.trans i1) (s.2.1.trans i2) λ t y hy=>?_)) λ an6 a5 xV aj=>?_
  ·have:=J4 hy
   simp only[cm,b5,hR,or_false]at this
   rcases this with⟨rfl,rfl⟩|⟨rfl,rfl⟩|⟨rfl,rfl⟩|⟨rfl,rfl⟩|⟨rfl,rfl⟩|⟨rfl,rfl⟩
   ·simp only[ao];exact t9
   ·simp only[ao]
    rw[s.2.2 8 (by decide),U]
    exact⟨trivial,_,Iw,cu 1,λ _=>rfl⟩
   ·simp only[ao];rw[s.2.2 2 (by decide)];exact Wa
   ·simp only[ao];rw[s.2.2 3 (by decide)];exact Wb
   ·simp only[ao];rw[s.2.2 4 (by decide)];exact Wc
   ·simp only[ao];rw[s.2.2 36 (by decide)];exact i4
  obtain⟨kk,FV⟩:=aGb j2
  obtain⟨aLU,Iv⟩:=aj.r.mem.r_ FV
  obtain⟨cb,bE,eO,Vr,agw,ayz⟩:=aj.r.mem.Zu FV Iv
  have hN:=Zg ayz
  have f8:=aj.r.dL.dZ.get 8 _ hj
  simp only[ao]at f8
  obtain⟨_,p',Z,_,Wu⟩:=f8
  rw[Iv]at Z
  cases Z
  have Wu:=Wu (congrArg bW FV).symm
  have ayU:=aG2.trans aj.to
  have N:=ND aj.r.dL.dZ EI
  simp only[eu,hK,hh,and_true]at N
  have afK:bj (a8.af (.slice A l.length c)) qR xV:=r0.aeI aj.r.mem aj.to.sz λ q b az=>aj.wr q b λ i hi B h f1 f2=>by
   rw[q3]at hi;simp only[dK]at hi;subst hi;obtain rfl:Value.slice A l.length c=h:=dT (Iw.symm.trans f2);obtain rfl:aC.r (El:=bk.El) 3 1 0 l=B:=dT f1;exact az
  have afL:bj (a8.af C) w xV:=aZ.trans afK λ x aa=>(f x aa).2.imp id (·.1)
  subst Vr
  rw[hN]at agw
  refine wpList_nil ⟨rfl,aj.r.dL.dZ.size,aj.r.dL.dZ.defers,N.1,N.2.1,N.2.2.1,N.2.2.2,⟨?_,(afL.block bm (H tQ) aw9).trans tQ⟩,?_,?_,afL,?_,l++[ki e],cb,bE,?_,Wu,agw,?_⟩
  ·obtain⟨c1,Z,o_⟩:=tR
   exact⟨c1,Z,(afK.block r (H o_) λ h=>(f r h).1 rfl).trans o_⟩
  ·rw[jz,ky]
   exact eK.2 ⟨i6,by simp,λ x aa y hy e1=>by simp at hy;subst hy;subst e1;exact zv aa⟩
  ·intro x aa
   rcases b3.1 aa with aa |aa
   ·exact i7 x aa
   ·simp at aa;subst aa;exact he
  ·exact dQ (by rw[N7];exact i9) aj.to.sz
  ·rw[Ob,jz,ky]
  ·intro q b
   refine⟨λ e1=>?_,?_⟩
   ·subst e1
    obtain⟨B,h,f1,f2,f3⟩:=aj.to.nT 6 _ _ FV Iv q b (by rw[N7];exact i9)
    obtain rfl:Value.slice A l.length c=h:=dT (Iw.symm.trans f2)
    obtain rfl:aC.r (El:=bk.El) 3 1 0 l=B:=dT f1
    exact(f q f3).1 rfl
   ·rcases fN q w.heap.size with h1 |h1
    ·obtain⟨B,h,f1,f2,f3⟩:=ayU.nT 6 _ _ FV Iv q b h1
     rw[e6]at f2
     cases f2
     have f1:some (aC.r (El:=bk.El) 3 0 0 ([]:List (bk.El 3)))=some B:=f1
     cases f1
     exact .inl f3
    ·exact .inr ⟨h1,(aj.r.mem.lt q ⟨6,_,_,FV,Iv,b⟩).1⟩
 ·intro acc a2 a3 jp jJ VS s
  obtain⟨i1,i2,Wa,Wb,Wc,i4,i5,i6,i7,i8,i9,l,A,c,Ob,U,V,f⟩:=jJ
  have Jz:l.Perm (I.map ke):=by
   rw[Ob,<-Ji];exact VS.map ki
  have afP:∀x∈l,1<=x/\x<=Y+O:=λ x aa=>Jk x (Jz.mem_iff.1 aa)
  have N2:l.length<=200000:=by rw[Jz.length_eq];exact M
  have agz:kP Y O l=S:=by rw[U7];exact aGP k_.1 hO.1 Jz afP
  have Ga:(kP Y O l).length=l.length:=by unfold kP;exact ly _
  have U8:l.length=S.length:=by rw[<-Ga];exact congrArg h4 agz
  obtain⟨CZ,cH⟩:=p.r_ (i:=0) (B:=.c 67 [.b 3 0]) rfl
  obtain⟨gb,aHr,qc,Vp,ay1⟩:=p.ok 0 (.c 67 [.b 3 0]) _ rfl cH
  subst qc
  obtain⟨aMt,aMv,Tl,N9,_⟩:=P7 ay1
  subst Tl
  simp only[ao]at N9
  obtain⟨gh,e3,N9⟩:=N9
  subst N9
  obtain⟨aLT,aMC,NK,Vq,ay2⟩:=p.ok 3 _ _ rfl e3
  cases NK
  obtain⟨aMD,aMp,Tl,_,ayq⟩:=P7 ay2
  subst Tl
  obtain⟨aHt,aMq,rK,xG,kF⟩:=P7 ayq
  subst rK
  obtain⟨aHu,aMr,avd,aDO,wQ⟩:=P7 kF
  subst avd
  obtain rfl:aHt= .int .i64 Y:=xG
  obtain rfl:aHu= .int .i64 O:=aDO
  have ak3:a.tmps.getD 3 undef= .pointer (some ⟨gb,0,none⟩):=by
   have zj:=al;simp only[ao]at zj;obtain⟨g',Z,o_⟩:=zj;rw[cH]at Z;cases Z;exact o_
  have aid:gb∉a8.af C:=p.bu 0 6 _ _ _ _ rfl cH rfl e6 (by decide) gb (dK.2 rfl)
  have aii:gh∉a8.af C:=p.bu 3 6 _ _ _ _ rfl e3 rfl e6 (by decide) gh (dK.2 rfl)
  have axF:=(i8.block gb (H Vp) aid).trans Vp
  have agb:=(i8.block gh (H Vq) aii).trans Vq
  have Ql:=aGR (W:=jp) (gb:=gb) (gh:=gh) (cap:=c) (A:=A) k_ hO afP (by omega) ((cell_of (k:=0) axF).1.trans rfl) ((cell_of (k:=1) agb).1.trans rfl) ((cell_of (k:=2) agb).1.trans rfl) V
   (λ h=>(f gb h).2.elim aid λ h=>by have:=H Vp;omega) (λ h=>(f gh h).2.elim aii λ h=>by have:=H Vq;omega)
  refine wp_seq (wp_region_list ?_)
  rw[az5]
  have ad:Fr ⟨165,[]⟩ [(2,a.tmps.getD 2 undef),(3,.pointer (some ⟨gb,0,none⟩)),(4,a.tmps.getD 4 undef),(8,.slice A l.length c)] a3:=⟨s.1.trans i1,s.2.1.trans i2,λ t v aG=>by
   have:=ahS aG;simp only[cm,b5,hR,or_false]at this;rcases this with⟨rfl,rfl⟩|⟨rfl,rfl⟩|⟨rfl,rfl⟩|⟨rfl,rfl⟩
   ·rw[s.2.2 2 (by decide)];exact Wa
   ·rw[s.2.2 3 (by decide)];exact Wb.trans ak3
   ·rw[s.2.2 4 (by decide)];exact Wc
   ·rw[s.2.2 8 (by decide)];exact U⟩
  refine fH (wn azU) (vx ag4.1 (ad.g rfl)) ad ag4.2 rfl λ a4 ad=>fH (wn azV) (anN (xs:=[.tmp 3]) (vs:=[.pointer (some ⟨gb,0,none⟩)]) ag5.1 (by simp only[eu,hK];rw[show a4.eval (.tmp 3)=_ from ad.g rfl])) ad ag5.2 rfl λ a5 ad=>
   ZA (xs:=[.tmp 45,.tmp 46]) (vs:=[.slice A l.length c,.func (.func 97) #[] #[.pointer (some ⟨gb,0,none⟩)]]) (cs:=[]) (wn azW) ag6.1 axh rfl ⟨ad.g rfl,ad.g rfl,trivial⟩ Ql ad ag6.2 rfl λ e w' aw=>?_
  obtain⟨he,afM,agx⟩:=aw
  refine⟨_,he,λ iD ad=>?_⟩
  have awv:bj (a8.af C) w w':=i8.trans afM λ x aa=>(f x aa).2.imp id (·.1)
  have af_:∀q∈a8.af (.slice A l.length c),q∈a8.af C\/(w.heap.size<=q/\q<w'.heap.size):=λ q b=>(f q b).2.imp id λ h=>⟨h.1,dQ h.2 afM.size⟩
  have acw:iD.tmps.getD 8 undef= .slice A l.length c:=ad.get 8 _ rfl
  rw[agz,U8]at agx
  rw[U8]at af_ acw
  have Iw:(ρ.set 6 (.slice A S.length c))[6]? =some (.slice A S.length c):=ff (aM.1 e6).1
  obtain⟨ax',Qs⟩:=p.aj0 (i:=6) (t:=3) (g:=0) (k:=0) (l0:=([]:List (bk.El 3))) (l:=S) (A:=A) (c:=c) rfl e6 awv af_ agx (λ F=>Zh S)
  have awL:R aB W M0 X ⟨165,[]⟩ ⟨[(2,.pp 5 0 1 dR),(3,.b 0 0),(4,.b 1 0),(8,.r 6 1)],[],[]⟩ ((bJ (El:=aB.T.El) id (b6 false l5) false l5 (E,G,j,(nF,Y,O,tu),I,uE,([]:List Int),v')).set 6 (.r 3 1 0 S)) (ρ.set 6 (.slice A S.length c)) iD w':=W_ rfl ax' ad.size ad.defers λ t y hy=>by
   have:=J4 hy;simp only[cm,b5,hR,or_false]at this;rcases this with⟨rfl,rfl⟩|⟨rfl,rfl⟩|⟨rfl,rfl⟩|⟨rfl,rfl⟩
   ·rw[show iD.tmps.getD 2 undef=_ from ad.get 2 _ rfl];exact Qs.v J
   ·rw[show iD.tmps.getD 3 undef=_ from ad.get 3 _ rfl,<-ak3];exact Qs.v al
   ·rw[show iD.tmps.getD 4 undef=_ from ad.get 4 _ rfl];exact Qs.v a'
   ·rw[acw]
    simp only[ao]
    exact⟨trivial,_,Iw,cu 1,λ _=>rfl⟩
  obtain⟨dC,cG,dX⟩:=Zf (pre:=l5) (dp:=(E,G,j,(nF,Y,O,tu),I,uE,([]:List Int),v')) (ss:=[2,3,4,8]) (pas:=JR) (pbs:=l5) (da:=(dR,(),(),(),())) (db:=(E,G,j,(nF,Y,O,tu),I,uE,S,())) awL (by rw[p.len,mX]) (by kernel_rfl) Qs (by kernel_rfl)
  exact wpList_nil (k iD w' dC ad.size ad.defers (cG true) dX)
 ·refine⟨by rw[uC,Ic],Sw,by rw[wl (by decide),g2],by rw[wl (by decide),g3],by rw[wl (by decide),g4],wk (by rw[Ic];decide),⟨⟨clock,cu _,JF⟩,(FR.block bm (H wK) (by simp)).trans wK⟩,by simp,by simp,?_,n2,[],nz,ev,rfl,?_,?_,?_⟩
  ·exact(jI.trans FR (by simp)).mono (by simp)
  ·rw[wl (by decide),g8,aHo,NT];rfl
  ·have:=ayG
   rw[NT,Zg ayA]at this
   refine rowIs.later this λ q b=>?_
   have r2:q<w.heap.size:=XO q (by rw[NT];exact b)
   exact(jI.trans FR (by simp)).block q r2 (by simp)
  ·intro q b
   have b:q∈a8.af C:=by rw[NT];exact b
   exact⟨λ e1=>by have:=XO q b;omega,.inl b⟩
end Go.Proofs.YteeliipnilghaaaGreat
namespace Go.Proofs.YteeliipnilghaaaGreat
open Go Go.RowKit aq I a8
set_option maxRecDepth 100000
theorem az3:yB aB ⟨fp aB.P 63,[]⟩ ((Kq [2,3,4,7,8] Oy l5 ⟨.nm,[2,3,4,8],JR,l5⟩ JQ).run aB 0) r8.1 r8.2:=by
 have e:fp aB.P 63=165:=by kernel_rfl
 rw[e];exact aDm rfl rfl az9
noncomputable def aqE(F:Nat):aN aB:=(aqD F).aiS 63 0 ((Kq [2,3,4,7,8] Oy l5 ⟨.nm,[2,3,4,8],JR,l5⟩ JQ).run aB 0) r8.1 r8.2 (λ _ _=>az3) azP
end Go.Proofs.YteeliipnilghaaaGreat
namespace Go.Proofs.YteeliipnilghaaaGreat
open Go Go.RowKit aq I a8
set_option maxRecDepth 100000
@[reducible] def qE:bF:=.c 24 [.l 3,.i .i64,.i .i64,.i .i64,.i .i64,.l 3,.i .i64]
@[reducible] def aiV:cD:=.a [.l 3,.i .i64,.i .i64,.i .i64,.i .i64,.l 3,.i .i64]
@[reducible] def GN:bF:=.c 69 [.l 134,.l 3,.l 124,.l 120,.l 121]
@[reducible] def XT:cD:=.a [.l 134,.l 3,.l 124,.l 120,.l 121]
abbrev abN:=(List ak×List Int×List (List I.Field)×List (List (List UInt8))×List (List I.Target)×Unit)
abbrev EQ:=(List Int×Int×Int×Int×Int×List Int×Int×Unit)
def CI(F:Nat):Nat->(List Int)->(Int)->(Int)->(List Int)->(List Int)->Option ((Unit×Unit)×List Int×List Int×Unit)
 |0,_,_,_,_,_=>none
 |aO+1,e,f,a,g,b=>
  cond (decide (a<f)) ((idx e a).bind λ Lr=>
(idx b Lr).bind λ c=>
(bD 8 g [c]).bind λ d=>
CI F aO e f (ar (a+1)) d b) (
some (((),()),g,b,()))
noncomputable def aqF(F:Nat):aN aB:=(aqE F).OH 90 0 F ⟨[3,6,7,8],[.p (.R 0),.p (.P 1 1),.p (.i .i64),.p (.i .i64)],[.r 3 false,.r 3 true],[⟨.nm,[3],[.p (.R 0)],[.r 3 false,.r 3 true]⟩],λ k d=>CI F k d.1.2.1 d.1.2.2.1 d.1.2.2.2.1 d.2.1 d.2.2.1⟩ ⟨λ d=>by kernel_rfl,λ k da db=>by kernel_rfl⟩
def Nt(F:Nat)(a:List Int)(c:List Int):Option ((List Int×Unit)×List Int×Unit):=
 (CI F F a (↑a.length:Int) 0 [] c).bind λ b=>
some ((b.2.1,()),b.2.2.1,())
noncomputable def aqG(F:Nat):aN aB:=(aqF F).FJ 90 ⟨[.p (.P 0 1)],[.r 3 true],[.p (.l 3)],[.r 3 true],λ d=>Nt F d.1.1 d.2.1⟩ λ da db=>by kernel_rfl
def Ns(F:Nat)(b:List ak)(c:List Int)(k:List (List I.Field))(l:List (List (List UInt8)))(m:List (List I.Target))(n:List Int)(d:List Int)(e:Int)(o:Int)(f:Int)(g:Int)(h:List Int)(i:Int)(p:List Int):Option ((Unit×Unit)×EQ×List Int×(Unit×List ak×List Int×List (List I.Field)×List (List (List UInt8))×List (List I.Target)×Unit×Unit)×List (Int×Bool)×Unit):=
 (Nt F n p).bind λ j=>
(CG F j.1.1 b c k l m d e o f g h i []).bind λ a=>
some (((),()),(a.2.2.1.1,a.2.2.1.2.1,a.2.2.1.2.2.1,a.2.2.1.2.2.2.1,a.2.2.1.2.2.2.2.1,a.2.2.1.2.2.2.2.2.1,a.2.2.1.2.2.2.2.2.2.1,()),j.2.1,((),a.2.1.2.1,a.2.1.2.2.1,a.2.1.2.2.2.1,a.2.1.2.2.2.2.1,a.2.1.2.2.2.2.2.1,(),()),a.2.2.2.1,())
noncomputable def aqH(F:Nat):aN aB:=(aqG F).FJ 54 ⟨[.p (.B 0),XT,.p (.P 1 1)],[qE,.r 3 true],[.p (.B 2)],[qE,.r 3 true,.c 140 [.B 0,.l 134,.l 3,.l 124,.l 120,.l 121,.M 3],.m 3 4],λ d=>Ns F d.1.2.1.1 d.1.2.1.2.1 d.1.2.1.2.2.1 d.1.2.1.2.2.2.1 d.1.2.1.2.2.2.2.1 d.1.2.2.1 d.2.1.1 d.2.1.2.1 d.2.1.2.2.1 d.2.1.2.2.2.1 d.2.1.2.2.2.2.1 d.2.1.2.2.2.2.2.1 d.2.1.2.2.2.2.2.2.1 d.2.2.1⟩ λ da db=>by kernel_rfl
def CD(F:Nat):Nat->(List Int)->(List Int)->(Int)->(List Int)->(Int)->(Int)->(List Int)->(List Int)->(Int)->(Int)->(Int)->(Int)->(List Int)->(Int)->(List ak)->(List Int)->(List (List I.Field))->(List (List (List UInt8)))->(List (List I.Target))->(List (Int×Int))->Option ((List Int×Unit×Unit×List Int×Unit×Int×Unit)×
 List Int×(Unit×Unit)×EQ×abN×List (Int×Int)×Unit)
 |0,_,_,_,_,_,_,_,_,_,_,_,_,_,_,_,_,_,_,_,_=>none
 |aO+1,d,e,a,f,g,b,h,c,i,j,k,l,m,n,o,p,q,Bl,r,s=>
  cond (decide (b<g)) ((idx f b).bind λ t=>
(idx c (ar (t+1))).bind λ u=>
CD F aO d e (ar (a+ar (3+u))) f g (ar (b+1)) h c i j k l m n o p q Bl r (gC s t a)) (
some ((d,(),(),e,(),a,()),h,((),()),(c,i,j,k,l,m,n,()),(o,p,q,Bl,r,()),s,()))
noncomputable def aqI(F:Nat):aN aB:=(aqH F).fB 63 2 F ⟨[2,3,4,8,10,11,55,56,57],[.p (.P 0 1),.p (.B 1),.p (.B 3),.p (.l 3),.p (.M 4),.p (.i .i64),.p (.l 3),.p (.i .i64),.p (.i .i64)],[.r 3 true,.c 67 [.B 2],qE,GN,.m 3 3],[⟨.nm,[2,3,4,8,10,11],[.p (.P 0 1),.p (.B 1),.p (.B 3),.p (.l 3),.p (.M 4),.p (.i .i64)],[.r 3 true,.c 67 [.B 2],qE,GN,.m 3 3]⟩],λ k d=>CD F k d.1.1 d.1.2.2.2.1 d.1.2.2.2.2.2.1 d.1.2.2.2.2.2.2.1 d.1.2.2.2.2.2.2.2.1 d.1.2.2.2.2.2.2.2.2.1 d.2.1 d.2.2.2.1.1 d.2.2.2.1.2.1 d.2.2.2.1.2.2.1 d.2.2.2.1.2.2.2.1 d.2.2.2.1.2.2.2.2.1 d.2.2.2.1.2.2.2.2.2.1 d.2.2.2.1.2.2.2.2.2.2.1 d.2.2.2.2.1.1 d.2.2.2.2.1.2.1 d.2.2.2.2.1.2.2.1 d.2.2.2.2.1.2.2.2.1 d.2.2.2.2.1.2.2.2.2.1 d.2.2.2.2.2.1⟩ ⟨λ d=>by kernel_rfl,λ k da db=>by kernel_rfl⟩
def tE(F:Nat):Nat->(List Int)->(Int)->(Int)->(List Int)->(Int)->(Int)->(Int)->(Int)->(List Int)->(List Int)->(Int)->(Int)->(Int)->(Int)->(List Int)->(Int)->(List ak)->(List Int)->(List (List I.Field))->(List (List (List UInt8)))->(List (List I.Target))->(List (Int×Int))->(List Int)->Option ((List Int×Unit×Unit×Unit×Int×Unit×List Int×Int×Int×Unit)×
 List Int×(Unit×Unit)×EQ×abN×List (Int×Int)×List Int×Unit)
 |0,_,_,_,_,_,_,_,_,_,_,_,_,_,_,_,_,_,_,_,_,_,_,_=>none
 |aO+1,j,k,a,gn,l,m,n,gp,kT,d,mn,o,p,q,r,s,e,f,g,h,i,b,c=>
  cond (decide (gp<n)) ((idx d (ar (a+gp))).bind λ t=>
cond (decide (3<=gp)) ((idx d a).bind λ u=>
(rY (b4.mk (aP.mk e f g h i)) u (ar (gp-3))).bind λ v=>
cond v ((idx c (ar ((cF b a).getD 0+gp))).bind λ w=>
tE F aO j k a gn l m n (ar (gp+1)) kT d mn o p q r s e f g h i b (c.set (ar ((cF b a).getD 0+gp)).toNat ((cF b t).getD 0))) (
(idx c (ar ((cF b a).getD 0+gp))).bind λ x=>
tE F aO j k a gn l m n (ar (gp+1)) kT d mn o p q r s e f g h i b (c.set (ar ((cF b a).getD 0+gp)).toNat t))) (
(idx c (ar ((cF b a).getD 0+gp))).bind λ y=>
tE F aO j k a gn l m n (ar (gp+1)) kT d mn o p q r s e f g h i b (c.set (ar ((cF b a).getD 0+gp)).toNat t))) (
some ((j,(),(),(),k,(),gn,l,m,()),kT,((),()),(d,mn,o,p,q,r,s,()),(e,f,g,h,i,()),b,c,()))
noncomputable def aqJ(F:Nat):aN aB:=(aqI F).fB 63 6 F ⟨[2,3,4,10,11,14,16,82,83,84,96,97],[.p (.P 0 1),.p (.B 1),.p (.B 3),.p (.M 4),.p (.i .i64),.p (.R 5),.p (.i .i64),.p (.l 3),.p (.i .i64),.p (.i .i64),.p (.i .i64),.p (.i .i64)],[.r 3 true,.c 67 [.B 2],qE,GN,.m 3 3,.r 3 false],[⟨.nm,[2,3,4,10,11,14,82,83,84],[.p (.P 0 1),.p (.B 1),.p (.B 3),.p (.M 4),.p (.i .i64),.p (.R 5),.p (.l 3),.p (.i .i64),.p (.i .i64)],[.r 3 true,.c 67 [.B 2],qE,GN,.m 3 3,.r 3 false]⟩],λ k d=>tE F k d.1.1 d.1.2.2.2.2.1 d.1.2.2.2.2.2.2.1 d.1.2.2.2.2.2.2.2.1 d.1.2.2.2.2.2.2.2.2.1 d.1.2.2.2.2.2.2.2.2.2.1 d.1.2.2.2.2.2.2.2.2.2.2.1 d.1.2.2.2.2.2.2.2.2.2.2.2.1 d.2.1 d.2.2.2.1.1 d.2.2.2.1.2.1 d.2.2.2.1.2.2.1 d.2.2.2.1.2.2.2.1 d.2.2.2.1.2.2.2.2.1 d.2.2.2.1.2.2.2.2.2.1 d.2.2.2.1.2.2.2.2.2.2.1 d.2.2.2.2.1.1 d.2.2.2.2.1.2.1 d.2.2.2.2.1.2.2.1 d.2.2.2.2.1.2.2.2.1 d.2.2.2.2.1.2.2.2.2.1 d.2.2.2.2.2.1 d.2.2.2.2.2.2.1⟩ ⟨λ d=>by kernel_rfl,λ k da db=>by kernel_rfl⟩
def CE(F:Nat):Nat->(List Int)->(Int)->(List Int)->(Int)->(Int)->(List Int)->(List Int)->(Int)->(Int)->(Int)->(Int)->(List Int)->(Int)->(List ak)->(List Int)->(List (List I.Field))->(List (List (List UInt8)))->(List (List I.Target))->(List (Int×Int))->(List Int)->Option ((List Int×Unit×Unit×Int×Unit×Unit)×
 List Int×(Unit×Unit)×EQ×abN×List (Int×Int)×List Int×Unit)
 |0,_,_,_,_,_,_,_,_,_,_,_,_,_,_,_,_,_,_,_,_=>none
 |aO+1,d,Eo,e,f,b,g,c,h,i,j,k,l,m,n,o,p,q,r,s,t=>
  cond (decide (b<f)) ((idx e b).bind λ u=>
(idx c (ar (u+1))).bind λ v=>
(tE F F d Eo u e f b (ar (3+v)) 0 g c h i j k l m n o p q r s t).bind λ a=>
CE F aO a.1.1 a.1.2.2.2.2.1 a.1.2.2.2.2.2.2.1 a.1.2.2.2.2.2.2.2.1 (ar (a.1.2.2.2.2.2.2.2.2.1+1)) a.2.1 a.2.2.2.1.1 a.2.2.2.1.2.1 a.2.2.2.1.2.2.1 a.2.2.2.1.2.2.2.1 a.2.2.2.1.2.2.2.2.1 a.2.2.2.1.2.2.2.2.2.1 a.2.2.2.1.2.2.2.2.2.2.1 a.2.2.2.2.1.1 a.2.2.2.2.1.2.1 a.2.2.2.2.1.2.2.1 a.2.2.2.2.1.2.2.2.1 a.2.2.2.2.1.2.2.2.2.1 a.2.2.2.2.2.1 a.2.2.2.2.2.2.1) (
some ((d,(),(),Eo,(),()),g,((),()),(c,h,i,j,k,l,m,()),(n,o,p,q,r,()),s,t,()))
noncomputable def aqK(F:Nat):aN aB:=(aqJ F).fB 63 4 F ⟨[2,3,4,10,11,14,82,83,84],[.p (.P 0 1),.p (.B 1),.p (.B 3),.p (.M 4),.p (.i .i64),.p (.R 5),.p (.l 3),.p (.i .i64),.p (.i .i64)],[.r 3 true,.c 67 [.B 2],qE,GN,.m 3 3,.r 3 false],[⟨.nm,[2,3,10,11,14],[.p (.P 0 1),.p (.B 1),.p (.M 4),.p (.i .i64),.p (.R 5)],[.r 3 true,.c 67 [.B 2],qE,GN,.m 3 3,.r 3 false]⟩],λ k d=>CE F k d.1.1 d.1.2.2.2.2.1 d.1.2.2.2.2.2.2.1 d.1.2.2.2.2.2.2.2.1 d.1.2.2.2.2.2.2.2.2.1 d.2.1 d.2.2.2.1.1 d.2.2.2.1.2.1 d.2.2.2.1.2.2.1 d.2.2.2.1.2.2.2.1 d.2.2.2.1.2.2.2.2.1 d.2.2.2.1.2.2.2.2.2.1 d.2.2.2.1.2.2.2.2.2.2.1 d.2.2.2.2.1.1 d.2.2.2.2.1.2.1 d.2.2.2.2.1.2.2.1 d.2.2.2.2.1.2.2.2.1 d.2.2.2.2.1.2.2.2.2.1 d.2.2.2.2.2.1 d.2.2.2.2.2.2.1⟩ ⟨λ d=>by kernel_rfl,λ k da db=>by kernel_rfl⟩
def CF(F:Nat):Nat->(Int)->(List Int)->(List Int)->(Int)->(Int)->(List Int)->(Int)->(Int)->(Int)->(Int)->(List Int)->(Int)->(List (Int×Int))->(List Int)->Option ((Unit×Int×List Int×Unit)×(Unit×Unit)×EQ×List (Int×Int)×List Int×Unit)
 |0,_,_,_,_,_,_,_,_,_,_,_,_,_,_=>none
 |aO+1,d,e,f,g,a,h,i,j,k,l,nn,m,b,c=>
  cond (decide (a<g)) ((idx f a).bind λ n=>
(idx c n).bind λ o=>
CF F aO d e f g (ar (a+1)) h i j k l nn m b (c.set n.toNat ((cF b o).getD 0))) (
some (((),d,e,()),((),()),(h,i,j,k,l,nn,m,()),b,c,()))
noncomputable def aqM(F:Nat):aN aB:=(aqK F).fB 63 8 F ⟨[3,10,11,14,137,138,139],[.p (.B 0),.p (.M 2),.p (.i .i64),.p (.l 3),.p (.P 3 1),.p (.i .i64),.p (.i .i64)],[.c 67 [.B 1],qE,.m 3 3,.r 3 true],[⟨.nm,[3,11,14],[.p (.B 0),.p (.i .i64),.p (.l 3)],[.c 67 [.B 1],qE,.m 3 3,.r 3 true]⟩],λ k d=>CF F k d.1.2.2.1 d.1.2.2.2.1 d.1.2.2.2.2.1 d.1.2.2.2.2.2.1 d.1.2.2.2.2.2.2.1 d.2.2.1.1 d.2.2.1.2.1 d.2.2.1.2.2.1 d.2.2.1.2.2.2.1 d.2.2.1.2.2.2.2.1 d.2.2.1.2.2.2.2.2.1 d.2.2.1.2.2.2.2.2.2.1 d.2.2.2.1 d.2.2.2.2.1⟩ ⟨λ d=>by kernel_rfl,λ k da db=>by kernel_rfl⟩
def IF(F:Nat)(i:List ak)(j:List Int)(k:List (List I.Field))(l:List (List (List UInt8)))(m:List (List I.Target))(n:List Int)(o:List Int)(p:Int)(q:Int)(r:Int)(e:Int)(f:List Int)(g:Int)(h:List Int):Option ((Bool×Unit)×EQ×List Int×Unit):=
 (Ns F i j k l m n o p q r e f g h).bind λ a=>
((FM a.2.1.1 a.2.2.2.2.1).bind λ x=>some x).bind λ s=>
cond (decide (a.2.1.2.2.1<s)) (some ((false,()),(a.2.1.1,a.2.1.2.1,a.2.1.2.2.1,a.2.1.2.2.2.1,a.2.1.2.2.2.2.1,a.2.1.2.2.2.2.2.1,a.2.1.2.2.2.2.2.2.1,()),a.2.2.1,())) (
(JQ
 ((n,(),(),(),(),()),((),()),(i,j,k,l,m,()),((),a.2.2.2.1.2.1,a.2.2.2.1.2.2.1,a.2.2.2.1.2.2.2.1,a.2.2.2.1.2.2.2.2.1,a.2.2.2.1.2.2.2.2.2.1,(),()),(a.2.1.1,a.2.1.2.1,a.2.1.2.2.1,a.2.1.2.2.2.1,a.2.1.2.2.2.2.1,a.2.1.2.2.2.2.2.1,a.2.1.2.2.2.2.2.2.1,()),a.2.2.2.2.1,a.2.2.1,[],())).bind λ c=>
(CD F F c.1.1 c.2.2.2.2.2.2.2.1 (ar (c.2.2.2.2.1.2.1+1)) c.2.2.2.2.2.2.2.1 (↑(h4 c.2.2.2.2.2.2.2.1):Int) 0
 c.2.2.2.2.2.2.1 c.2.2.2.2.1.1 c.2.2.2.2.1.2.1 c.2.2.2.2.1.2.2.1 c.2.2.2.2.1.2.2.2.1 c.2.2.2.2.1.2.2.2.2.1
 c.2.2.2.2.1.2.2.2.2.2.1 c.2.2.2.2.1.2.2.2.2.2.2.1 c.2.2.1.1 c.2.2.1.2.1 c.2.2.1.2.2.1 c.2.2.1.2.2.2.1
 c.2.2.1.2.2.2.2.1 [(0,0)]).bind λ b=>
(ui 0 8 (↑(h4 b.2.2.2.1.1):Int)).bind λ t=>
(CE F F b.1.1 b.1.2.2.2.2.2.1 b.1.2.2.2.1 (↑(h4 b.1.2.2.2.1):Int) 0 b.2.1 b.2.2.2.1.1 b.2.2.2.1.2.1 b.2.2.2.1.2.2.1
 b.2.2.2.1.2.2.2.1 b.2.2.2.1.2.2.2.2.1 b.2.2.2.1.2.2.2.2.2.1 b.2.2.2.1.2.2.2.2.2.2.1 b.2.2.2.2.1.1 b.2.2.2.2.1.2.1
 b.2.2.2.2.1.2.2.1 b.2.2.2.2.1.2.2.2.1 b.2.2.2.2.1.2.2.2.2.1 b.2.2.2.2.2.1 t).bind λ ms=>
(CF F F ms.1.2.2.2.1 ms.2.2.2.2.2.2.1 ms.1.1 (↑(h4 ms.1.1):Int) 0 ms.2.2.2.1.1 ms.2.2.2.1.2.1 ms.2.2.2.1.2.2.1
 ms.2.2.2.1.2.2.2.1 ms.2.2.2.1.2.2.2.2.1 ms.2.2.2.1.2.2.2.2.2.1 ms.2.2.2.1.2.2.2.2.2.2.1 ms.2.2.2.2.2.1 ms.2.1).bind λ d=>
some ((true,()),(d.1.2.2.1,d.2.2.1.2.1,d.2.2.1.2.2.1,1,d.1.2.1,([]),d.2.2.1.2.2.2.2.2.2.1,()),d.2.2.2.2.1,()))
noncomputable def aqN(F:Nat):aN aB:=(aqM F).fn 63 ⟨[.p (.B 0),XT,.p (.P 1 1)],[qE,.r 3 true],[.p (.b)],[qE,.r 3 true],λ d=>IF F d.1.2.1.1 d.1.2.1.2.1 d.1.2.1.2.2.1 d.1.2.1.2.2.2.1 d.1.2.1.2.2.2.2.1 d.1.2.2.1 d.2.1.1 d.2.1.2.1 d.2.1.2.2.1 d.2.1.2.2.2.1 d.2.1.2.2.2.2.1 d.2.1.2.2.2.2.2.1 d.2.1.2.2.2.2.2.2.1 d.2.2.1⟩ λ da db=>by kernel_rfl
def wi(F:Nat)(d:List Int)(e:Int)(f:Int)(g:Int)(h:Int)(i:List Int)(j:Int)(n:List ak)(o:List Int)(p:List (List I.Field))(q:List (List (List UInt8)))(r:List (List I.Target))(k:List Int):Option ((EQ×List Int×Int×Unit)×Unit):=
 dj (CH F d e f g h i j n o p q r k) (λ b=>
cond (!decide (b.1.2.1=0)) (some (((([]),0,0,0,0,([]),0,()),([]),b.1.2.1,()),())) (
(nY (aR.mk d e f g h i j)).bind λ c=>
(bD 8 [] k).bind λ l=>
(s0 F (↑l.length:Int)).bind λ s=>
(IF F b.2.1.2.2.2.2.2.2.2.1 b.2.1.2.2.2.2.2.2.2.2.1 b.2.1.2.2.2.2.2.2.2.2.2.1 b.2.1.2.2.2.2.2.2.2.2.2.2.1
 b.2.1.2.2.2.2.2.2.2.2.2.2.2.1 s c.Words c.av c.aL c.aU c.aT c.aS c.Next l).bind λ a=>
cond (!a.1.1) (some (((([]),0,0,0,0,([]),0,()),([]),8,()),())) (
some (((a.2.1.1,a.2.1.2.1,a.2.1.2.2.1,a.2.1.2.2.2.1,a.2.1.2.2.2.2.1,a.2.1.2.2.2.2.2.1,a.2.1.2.2.2.2.2.2.1,()),a.2.2.1,0,()),())))) (λ m=>
cond (!decide (m.1.2.1=0)) (some (((([]),0,0,0,0,([]),0,()),([]),m.1.2.1,()),())) (
(nY (aR.mk d e f g h i j)).bind λ t=>
(bD 8 [] k).bind λ u=>
none))
noncomputable def aqO(F:Nat):aN aB:=(aqN F).fn 30 ⟨[aiV,XT,.p (.l 3)],[],[aiV,.p (.l 3),.p (.i .i64)],[],λ d=>wi F d.1.1.1 d.1.1.2.1 d.1.1.2.2.1 d.1.1.2.2.2.1 d.1.1.2.2.2.2.1 d.1.1.2.2.2.2.2.1 d.1.1.2.2.2.2.2.2.1 d.1.2.1.1 d.1.2.1.2.1 d.1.2.1.2.2.1 d.1.2.1.2.2.2.1 d.1.2.1.2.2.2.2.1 d.1.2.2.1⟩ λ da db=>by kernel_rfl
end Go.Proofs.YteeliipnilghaaaGreat
namespace Go.Proofs.YteeliipnilghaaaGreat
open Go Go.RowKit aq I a8
set_option maxRecDepth 100000
@[reducible] def Ar:bF:=.c 24 [.l 3,.i .i64,.i .i64,.i .i64,.i .i64,.l 3,.i .i64]
@[reducible] def XU:cD:=.a [.l 3,.i .i64,.i .i64,.i .i64,.i .i64,.l 3,.i .i64]
@[reducible] def Py:bF:=.c 30 [.l 134,.l 3,.l 124,.l 120,.l 121]
@[reducible] def aiW:cD:=.a [.l 134,.l 3,.l 124,.l 120,.l 121]
abbrev anX:=(List ak×List Int×List (List I.Field)×List (List (List UInt8))×List (List I.Target)×Unit)
abbrev L0:=(List Int×Int×Int×Int×Int×List Int×Int×Unit)
def yM(F:Nat):Nat->(List Int)->(List Int)->(List Int)->(List Int)->(Int)->(List Int)->(Int)->(Int)->(Int)->(Int)->(List Int)->(Int)->(List ak)->(List Int)->(List (List I.Field))->(List (List (List UInt8)))->(List (List I.Target))->(List Int)->(Int)->(Int)->(Int)->(Int)->(List Int)->(Int)->(List Int)->Option ((List Int×Unit×Unit×Unit×List Int×List Int×Unit×Unit)×
 L0×
  anX×L0×List Int×Unit)
 |0,_,_,_,_,_,_,_,_,_,_,_,_,_,_,_,_,_,_,_,_,_,_,_,_,_=>none
 |aO+1,c,vn,d,a,b,e,f,g,h,i,j,k,l,m,n,o,p,q,r,s,t,u,v,w,x=>
  cond (decide (b<(↑a.length:Int))) ((idx a b).bind λ y=>
(j9 F vn y).bind λ z=>
cond z ((idx a b).bind λ A=>
(bD 8 x [A]).bind λ B=>
yM F aO c vn d a (ar (b+1)) e f g h i j k l m n o p q r s t u v w B) (
yM F aO c vn d a (ar (b+1)) e f g h i j k l m n o p q r s t u v w x)) (
some ((c,(),(),(),vn,d,(),()),(e,f,g,h,i,j,k,()),(l,m,n,o,p,()),(q,r,s,t,u,v,w,()),x,()))
noncomputable def aqP(F:Nat):aN aB:=(aqO F).fB 31 0 F ⟨[2,3,4,6,9,10,11,13,14],[.p (.l 3),.p (.B 0),.p (.B 1),.p (.B 2),.p (.l 3),.p (.l 3),.p (.l 3),.p (.R 3),.p (.i .i64)],[Ar,Py,Ar,.r 3 false],[⟨.nm,[2,3,4,6,9,10,13],[.p (.l 3),.p (.B 0),.p (.B 1),.p (.B 2),.p (.l 3),.p (.l 3),.p (.R 3)],[Ar,Py,Ar,.r 3 false]⟩],λ k d=>yM F k d.1.1 d.1.2.2.2.2.1 d.1.2.2.2.2.2.1 d.1.2.2.2.2.2.2.1 d.1.2.2.2.2.2.2.2.2.1 d.2.1.1 d.2.1.2.1 d.2.1.2.2.1 d.2.1.2.2.2.1 d.2.1.2.2.2.2.1 d.2.1.2.2.2.2.2.1 d.2.1.2.2.2.2.2.2.1 d.2.2.1.1 d.2.2.1.2.1 d.2.2.1.2.2.1 d.2.2.1.2.2.2.1 d.2.2.1.2.2.2.2.1 d.2.2.2.1.1 d.2.2.2.1.2.1 d.2.2.2.1.2.2.1 d.2.2.2.1.2.2.2.1 d.2.2.2.1.2.2.2.2.1 d.2.2.2.1.2.2.2.2.2.1 d.2.2.2.1.2.2.2.2.2.2.1 d.2.2.2.2.1⟩ ⟨λ d=>by kernel_rfl,λ k da db=>by kernel_rfl⟩
def yN(F:Nat):Nat->(List Int)->(List Int)->(List Int)->(Int)->(List Int)->(Int)->(Int)->(Int)->(Int)->(List Int)->(Int)->(List ak)->(List Int)->(List (List I.Field))->(List (List (List UInt8)))->(List (List I.Target))->(List Int)->(Int)->(Int)->(Int)->(Int)->(List Int)->(Int)->(List Int)->Option ((List Int×Unit×Unit×Unit×Unit×Unit)×
 L0×
  anX×L0×List Int×Unit)
 |0,_,_,_,_,_,_,_,_,_,_,_,_,_,_,_,_,_,_,_,_,_,_,_,_=>none
 |aO+1,a,b,c,Lp,d,e,f,g,h,i,j,k,l,m,n,o,sO,p,q,r,s,t,u,v=>
  cond (decide (Lp<(↑c.length:Int))) ((idx c Lp).bind λ w=>
(j9 F b w).bind λ x=>
cond x ((idx c Lp).bind λ y=>
(bD 8 v [y]).bind λ z=>
yN F aO a b c (ar (Lp+1)) d e f g h i j k l m n o sO p q r s t u z) (
yN F aO a b c (ar (Lp+1)) d e f g h i j k l m n o sO p q r s t u v)) (
some ((a,(),(),(),(),()),(d,e,f,g,h,i,j,()),(k,l,m,n,o,()),(sO,p,q,r,s,t,u,()),v,()))
noncomputable def aqQ(F:Nat):aN aB:=(aqP F).fB 31 2 F ⟨[2,3,4,6,9,10,13,15],[.p (.l 3),.p (.B 0),.p (.B 1),.p (.B 2),.p (.l 3),.p (.l 3),.p (.R 3),.p (.i .i64)],[Ar,Py,Ar,.r 3 false],[⟨.nm,[2,3,4,6,13],[.p (.l 3),.p (.B 0),.p (.B 1),.p (.B 2),.p (.R 3)],[Ar,Py,Ar,.r 3 false]⟩],λ k d=>yN F k d.1.1 d.1.2.2.2.2.1 d.1.2.2.2.2.2.1 d.1.2.2.2.2.2.2.2.1 d.2.1.1 d.2.1.2.1 d.2.1.2.2.1 d.2.1.2.2.2.1 d.2.1.2.2.2.2.1 d.2.1.2.2.2.2.2.1 d.2.1.2.2.2.2.2.2.1 d.2.2.1.1 d.2.2.1.2.1 d.2.2.1.2.2.1 d.2.2.1.2.2.2.1 d.2.2.1.2.2.2.2.1 d.2.2.2.1.1 d.2.2.2.1.2.1 d.2.2.2.1.2.2.1 d.2.2.2.1.2.2.2.1 d.2.2.2.1.2.2.2.2.1 d.2.2.2.1.2.2.2.2.2.1 d.2.2.2.1.2.2.2.2.2.2.1 d.2.2.2.2.1⟩ ⟨λ d=>by kernel_rfl,λ k da db=>by kernel_rfl⟩
def H4(F:Nat)(e:List Int)(f:Int)(d:Int)(g:Int)(h:Int)(i:List Int)(j:Int)(k:List ak)(l:List Int)(m:List (List I.Field))(n:List (List (List UInt8)))(o:List (List I.Target))(p:List Int):Option ((L0×List Int×Bool×Unit)×Unit):=
 (H7 F e f d g h i j k l m n o p).bind λ r=>
cond (decide (d<r.1.1)) (some (((e,f,d,g,h,i,j,()),p,false,()),())) (
(H8 F e f d g h i j k l m n o p).bind λ s=>
(oR F (aR.mk e f d g h i j) (aP.mk k l m n o)).bind λ q=>
(yM F F p s.1.1 q.1 q.2.1 0 e f d g h i j k l m n o [] 0 0 0 0 [] 0 []).bind λ a=>
(yN F F a.1.1 a.1.2.2.2.2.1 a.1.2.2.2.2.2.1 0 a.2.1.1 a.2.1.2.1 a.2.1.2.2.1 a.2.1.2.2.2.1 a.2.1.2.2.2.2.1
 a.2.1.2.2.2.2.2.1 a.2.1.2.2.2.2.2.2.1 a.2.2.1.1 a.2.2.1.2.1 a.2.2.1.2.2.1 a.2.2.1.2.2.2.1 a.2.2.1.2.2.2.2.1
 a.2.2.2.1.1 a.2.2.2.1.2.1 a.2.2.2.1.2.2.1 a.2.2.2.1.2.2.2.1 a.2.2.2.1.2.2.2.2.1 a.2.2.2.1.2.2.2.2.2.1
 a.2.2.2.1.2.2.2.2.2.2.1 a.2.2.2.2.1).bind λ b=>
(Fb F b.2.1.1 b.2.1.2.1 b.2.1.2.2.1 b.2.1.2.2.2.1 b.2.1.2.2.2.2.1 b.2.1.2.2.2.2.2.1 b.2.1.2.2.2.2.2.2.1 b.2.2.1.1
 b.2.2.1.2.1 b.2.2.1.2.2.1 b.2.2.1.2.2.2.1 b.2.2.1.2.2.2.2.1 b.2.2.2.2.1 (ar (b.2.1.2.1+1)) b.1.1).bind λ c=>
some (((c.1.1.1,c.1.1.2.1,c.1.1.2.2.1,c.1.1.2.2.2.1,c.1.1.2.2.2.2.1,c.1.1.2.2.2.2.2.1,c.1.1.2.2.2.2.2.2.1,()),c.1.2.1,true,()),()))
noncomputable def HP(F:Nat):aN aB:=(aqQ F).fn 31 ⟨[XU,aiW,.p (.l 3)],[],[XU,.p (.l 3),.p (.b)],[],λ d=>H4 F d.1.1.1 d.1.1.2.1 d.1.1.2.2.1 d.1.1.2.2.2.1 d.1.1.2.2.2.2.1 d.1.1.2.2.2.2.2.1 d.1.1.2.2.2.2.2.2.1 d.1.2.1.1 d.1.2.1.2.1 d.1.2.1.2.2.1 d.1.2.1.2.2.2.1 d.1.2.1.2.2.2.2.1 d.1.2.2.1⟩ λ da db=>by kernel_rfl
def Mk(F:Nat)(c:List Int)(d:Int)(e:Int)(f:Int)(g:Int)(gn:List Int)(h:Int)(i:List ak)(j:List Int)(gp:List (List I.Field))(kT:List (List (List UInt8)))(k:List (List I.Target))(mn:List Int):Option ((Bool×Unit)×Unit):=
 (wi F c d e f g gn h i j gp kT k mn).bind λ a=>
(s7 F (aR.mk c d e f g gn h) (aP.mk i j gp kT k) mn).bind λ l=>
cond (decide (l=0)) ((H4 F c d e f g gn h i j gp kT k mn).bind λ b=>
cond b.1.2.2.1 ((nE F (aR.mk a.1.1.1 a.1.1.2.1 a.1.1.2.2.1 a.1.1.2.2.2.1 a.1.1.2.2.2.2.1 a.1.1.2.2.2.2.2.1 a.1.1.2.2.2.2.2.2.1)
 a.1.2.2.1 l (aR.mk b.1.1.1 b.1.1.2.1 b.1.1.2.2.1 b.1.1.2.2.2.1 b.1.1.2.2.2.2.1 b.1.1.2.2.2.2.2.1 b.1.1.2.2.2.2.2.2.1)).bind λ m=>
cond m ((k1 F a.1.2.1 b.1.2.1).bind λ n=>
some ((n,()),())) (
some ((false,()),()))) (
(nE F (aR.mk a.1.1.1 a.1.1.2.1 a.1.1.2.2.1 a.1.1.2.2.2.1 a.1.1.2.2.2.2.1 a.1.1.2.2.2.2.2.1 a.1.1.2.2.2.2.2.2.1)
 a.1.2.2.1 8 (aR.mk [] 0 0 0 0 [] 0)).bind λ o=>
cond o ((k1 F a.1.2.1 []).bind λ p=>
some ((p,()),())) (
some ((false,()),())))) (
(nE F (aR.mk a.1.1.1 a.1.1.2.1 a.1.1.2.2.1 a.1.1.2.2.2.1 a.1.1.2.2.2.2.1 a.1.1.2.2.2.2.2.1 a.1.1.2.2.2.2.2.2.1)
 a.1.2.2.1 l (aR.mk [] 0 0 0 0 [] 0)).bind λ q=>
cond q ((k1 F a.1.2.1 []).bind λ r=>
some ((r,()),())) (
some ((false,()),())))
@[reducible] noncomputable def Wz(F:Nat):ed bk:=⟨[XU,aiW,.p (.l 3)],[],[.p (.b)],[],λ d=>Mk F d.1.1.1 d.1.1.2.1 d.1.1.2.2.1 d.1.1.2.2.2.1 d.1.1.2.2.2.2.1 d.1.1.2.2.2.2.2.1 d.1.1.2.2.2.2.2.2.1 d.1.2.1.1 d.1.2.1.2.1 d.1.2.1.2.2.1 d.1.2.1.2.2.2.1 d.1.2.1.2.2.2.2.1 d.1.2.2.1⟩
theorem auv(F:Nat):(Wz F).Eq aB (HP F).t.br (HP F).t.LE 9:=λ da db=>by kernel_rfl
theorem asV(F:Nat):j6 aB 9 ((Wz F).run aB):=SZ jH (k6 jH ((HP F).ok jH).ce ((HP F).ok jH).le 100) ((HP F).ok jH).le rfl (auv F)
end Go.Proofs.YteeliipnilghaaaGreat
namespace Go.Proofs.YteeliipnilghaaaGreat
open Go Go.RowKit aq I a8
section
variable{F:Nat->Prop}{w:World}{cs:List Value}
theorem PU{d:bk.El 3}(h:((aq.e9 .i64)).rd F w cs d):(bk.ty 3).rd F w cs d:=by
 obtain rfl:cs=_:=h;change eZ (λ t=>(fD FF t).ty) F w [.i .i64] _ (d,());exact⟨_,_,rfl,rfl,rfl⟩
theorem ajJ{d:bk.El 136}(h:(I.jo).rd F w cs d):(bk.ty 136).rd F w cs d:=by
 obtain rfl:cs=_:=h;change eZ (λ t=>(fD Iz t).ty) F w [.s,.i .i64,.s] _ (d.Name,d.Kind.Kind,d.Kind.ak,());exact⟨_,_,rfl,rfl,_,_,rfl,rfl,_,_,rfl,rfl,rfl⟩
theorem aFC{d:bk.El 128}(h:(I.Ea).rd F w cs d):(bk.ty 128).rd F w cs d:=by
 obtain rfl:cs=_:=h;change eZ (λ t=>(fD M6 t).ty) F w [.i .i64,.s] _ (d.Kind,d.ak,());exact⟨_,_,rfl,rfl,_,_,rfl,rfl,rfl⟩
theorem aFF{d:bk.El 157}(h:(I.D').rd F w cs d):(bk.ty 157).rd F w cs d:=by
 obtain rfl:cs=_:=h;change eZ (λ t=>(fD M4 t).ty) F w [.i .i64,.i .i64,.i .i64,.s] _ (d.From,d.To,d.At,d.ak,());exact⟨_,_,rfl,rfl,_,_,rfl,rfl,_,_,rfl,rfl,_,_,rfl,rfl,rfl⟩
theorem aFD{d:bk.El 131}(h:(I.qQ).rd F w cs d):(bk.ty 131).rd F w cs d:=by
 obtain⟨_,_,_,_,rfl,J,a⟩:=h;change eZ (λ t=>(fD M7 t).ty) F w [.s,.b,.l 128,.i .i64,.s,.i .i64,.i .i64,.s,.l 157] _ (d.Name,d.Static,d.cr,d.Returns.Kind,d.Returns.ak,d.hJ,d.hG,d.Code,d.cy,());exact⟨_,_,rfl,rfl,_,_,rfl,rfl,_,_,rfl,jl (λ _ _=>aFC) J,_,_,rfl,rfl,_,_,rfl,rfl,_,_,rfl,rfl,_,_,rfl,rfl,_,_,rfl,rfl,_,_,rfl,jl (λ _ _=>aFF) a,rfl⟩
theorem aFE{d:bk.El 134}(h:(I.kn).rd F w cs d):(bk.ty 134).rd F w cs d:=by
 obtain⟨_,_,_,_,rfl,J,a⟩:=h;change eZ (λ t=>(fD M5 t).ty) F w [.s,.s,.l 136,.l 131] _ (d.Name,d.cR,d.Fields,d.bf,());exact⟨_,_,rfl,rfl,_,_,rfl,rfl,_,_,rfl,jl (λ _ _=>ajJ) J,_,_,rfl,jl (λ _ _=>aFD) a,rfl⟩
theorem aFB{d:bk.El 124}(h:((bY I.jo)).rd F w cs d):(bk.ty 124).rd F w cs d:=by
 obtain⟨A,c,rfl⟩:=m' h;change eZ (λ t=>(fD Th t).ty) F w [.l 136] _ (d,());exact⟨_,_,rfl,jl (λ _ _=>ajJ) h,rfl⟩
theorem aFH{d:bk.El 9}(h:(jn).rd F w cs d):(bk.ty 9).rd F w cs d:=by
 obtain rfl:cs=_:=h;change eZ (λ t=>(fD M9 t).ty) F w [.s] _ (d,());exact⟨_,_,rfl,rfl,rfl⟩
theorem aFz{d:bk.El 120}(h:((bY jn)).rd F w cs d):(bk.ty 120).rd F w cs d:=by
 obtain⟨A,c,rfl⟩:=m' h;change eZ (λ t=>(fD Ti t).ty) F w [.l 9] _ (d,());exact⟨_,_,rfl,jl (λ _ _=>aFH) h,rfl⟩
theorem aFG{d:bk.El 166}(h:(I.ko).rd F w cs d):(bk.ty 166).rd F w cs d:=by
 obtain rfl:cs=_:=h;change eZ (λ t=>(fD M8 t).ty) F w [.i .i64,.i .i64] _ (d.ak,d.Method,());exact⟨_,_,rfl,rfl,_,_,rfl,rfl,rfl⟩
theorem aFA{d:bk.El 121}(h:((bY I.ko)).rd F w cs d):(bk.ty 121).rd F w cs d:=by
 obtain⟨A,c,rfl⟩:=m' h;change eZ (λ t=>(fD Tg t).ty) F w [.l 166] _ (d,());exact⟨_,_,rfl,jl (λ _ _=>aFG) h,rfl⟩
end
end Go.Proofs.YteeliipnilghaaaGreat
namespace I
theorem cQ{n:Int}(a: -9223372036854775808<=n)(b:n<=9223372036854775807):ar n=n:=by unfold ar;omega
theorem eG{i n:Nat}(hi:i<n)(a:n<=140737488355328):ar ((i:Int)+1)=((i+1 :Nat):Int):=by
 rw[cQ (by omega) (by omega)];omega
theorem bq{α:Type}{l:List α}{i:Nat}{x:α}(h:l[i]? =some x):idx l (i:Int)=some x:=by
 unfold idx;rw[if_pos (by omega)];simpa using h
theorem bH{i n:Nat}(h:i<n):decide ((i:Int)<(n:Int))=true:=decide_eq_true (by omega)
theorem bG(n:Nat):decide ((n:Int)<(n:Int))=false:=decide_eq_false (by omega)
def cn{ρ:Type}:Option ρ->Way ρ Unit
 |some r=>.out r
 |none=>.go ()
def gR{ρ:Type}(o:Option ρ)(y:Option (Way ρ Unit)):Option (Way ρ Unit):=match o with
 |some r=>some (.out r)
 |none=>y
theorem each{α ρ:Type}{l:List α}{L:Nat->Int->Option (Way ρ Unit)}(g:α->Option ρ)(a:l.length<=140737488355328)
 (aj:∀k (i:Nat) x,l[i]? =some x->L (k+1) (i:Int)=gR (g x) (L k (ar ((i:Int)+1))))
 (b:∀k,L (k+1) (l.length:Int)=some (.go ())){F:Nat}(c:l.length<F):L F 0=some (cn (l.findSome? g)):=by
 have key:∀(d i k:Nat),i+d=l.length->d<k->L k (i:Int)=some (cn ((l.drop i).findSome? g)):=by
  intro d;induction d with
  |zero=>
   intro i k h e
   obtain⟨k,rfl⟩:∃k',k=k'+1:=⟨k-1,by omega⟩
   have hi:i=l.length:=by omega
   subst hi
   rw[b];simp[cn]
  |succ d f=>
   intro i k h e
   obtain⟨k,rfl⟩:∃k',k=k'+1:=⟨k-1,by omega⟩
   have hi:i<l.length:=by omega
   rw[aj k i l[i] (aH hi),cw hi,h5]
   cases j:g l[i]with
   |some r=>rfl
   |none=>
    simp only[gR]
    rw[eG hi a]
    exact f (i+1) k (by omega) (by omega)
 have:=key l.length 0 F (by omega) c
 simpa using this
theorem kA{ρ:Type}{n:Nat}{L:Nat->Int->Option (Way ρ Unit)}(g:Nat->Option ρ)(b:n<=140737488355328)
 (aj:∀k (i:Nat),i<n->L (k+1) (i:Int)=gR (g i) (L k (ar ((i:Int)+1))))
 (c:∀k,L (k+1) (n:Int)=some (.go ())){F:Nat}(d:n<F):L F 0=some (cn ((dy n).findSome? g)):=by
 have h:=each (l:=dy n) (L:=L) g (by simpa using b) (λ k i x a=>by
  have hi:i<n:=by have:=(aM.1 a).1;simpa using this
  rw[kW hi]at a;simp only[aD]at a;subst a;exact aj k i hi) (λ k=>by simpa using c k) (F:=F) (by simpa using d)
 exact h
theorem OS{σ:Type}{n:Nat}(T:Nat->Nat->Option σ)(fin:σ)(aj:∀k i,i<n->T (k+1) i=T k (i+1))(a:∀k,T (k+1) n=some fin){F:Nat}(b:n<F):T F 0=some fin:=by
 have key:∀(d i k:Nat),i+d=n->d<k->T k i=some fin:=by
  intro d;induction d with
  |zero=>
   intro i k h c
   obtain⟨k,rfl⟩:∃k',k=k'+1:=⟨k-1,by omega⟩
   have hi:i=n:=by omega
   subst hi
   exact a k
  |succ d e=>
   intro i k h c
   obtain⟨k,rfl⟩:∃k',k=k'+1:=⟨k-1,by omega⟩
   rw[aj k i (by omega)]
   exact e (i+1) k (by omega) (by omega)
 exact key n 0 F (by omega) b
abbrev Small(F n:Nat):Prop:=n<=140737488355328/\n<F
end I
namespace I
def tt(b:UInt8):Bool:=((((decide (97<=(b.toNat:Int)))&&(decide ((b.toNat:Int)<=122)))||((decide (65<=(b.toNat:Int)))&&(decide ((b.toNat:Int)<=90))))||((decide (48<=(b.toNat:Int)))&&(decide ((b.toNat:Int)<=57))))||(decide ((b.toNat:Int)=95))
def fW(s:List UInt8):Bool:=(s.findSome? λ b=>if tt b then none else some ()).isNone&&decide (s≠[])&&decide (s.length<=20)
theorem BW{F:Nat}{s:List UInt8}(h:Small F s.length):oP F s=some (fW s):=by
 unfold oP;have l1:=each (l:=s) (L:=tj s) (λ b=>if tt b then none else some false) h.1 (λ k i x a=>by
  rw[tj,bH (aM.1 a).1,cond_true,bq a,ae];show cond (!tt x) _ _=_
  cases tt x<;>rfl) (λ k=>by rw[tj,bG];rfl) h.2
 rw[l1];unfold fW;have e:∀s:List UInt8,s.findSome? (λ b=>if tt b then none else some false)=(s.findSome? (λ b=>if tt b then none else some ())).map (λ _=>false):=by
  intro s;induction s with
  |nil=>rfl
  |cons b r c=>simp only[h5];cases tt b<;>simp[c]
 rw[e];cases s.findSome? (λ b=>if tt b then none else some ())with
 |some _=>rfl
 |none=>
  simp only[iz,cn,qN,Option.isNone_none,jw]
  congr 1
  rw[hT]
  cases s<;>first |(simp;done)|(simp;omega)
theorem Gh{F:Nat}{s:List UInt8}(h:Small F s.length):n9 F s=some (fW s):=by
 rw[<-BW h];unfold n9 oP bytesOf;rw[if_pos h.1,ae];have e:∀k n,Dg s k n=tj s k n:=by
  intro k;induction k with
  |zero=>intro n;rfl
  |succ k a=>
   intro n
   rw[Dg,tj]
   simp only[a]
   congr 1
   congr 1
   funext b
   have hc:(((((decide ((b.toNat:Int)<97))||(decide (122<(b.toNat:Int))))&&((decide ((b.toNat:Int)<65))||(decide (90<(b.toNat:Int)))))&&((decide ((b.toNat:Int)<48))||(decide (57<(b.toNat:Int)))))&&(!decide ((b.toNat:Int)=95)))= !tt b:=by
    unfold tt;rw[hT];first |(simp;done)|(simp;omega)
   rw[hc];rfl
 rw[e];cases tj s F 0 with
 |none=>rfl
 |some w=>
  cases w with
  |out r=>rfl
  |go u=>
   simp only[qN]
   congr 1
   rw[hT]
   cases s<;>first |(simp;done)|(simp;omega)
def kindOk(k:Kind):Bool:=if k.Kind=3\/k.Kind=4 then fW k.ak else(decide (k.Kind=1)||decide (k.Kind=2))&&decide (k.ak=[])
theorem Wf{F:Nat}{k:Kind}(h:Small F k.ak.length):wY F k=some (kindOk k):=by
 unfold wY Oc kindOk;simp only[ae,Gh h];by_cases a:k.Kind=3\/k.Kind=4
 ·rw[if_pos a]
  rcases a with e |e<;>simp[e]
 ·rw[if_neg a]
  have e3: ¬k.Kind=3:=λ e=>a (.inl e)
  have e4: ¬k.Kind=4:=λ e=>a (.inr e)
  simp[e3,e4]
theorem Ss{F:Nat}{k:Kind}(h:Small F k.ak.length):vM F k=some (kindOk k):=by
 unfold vM kindOk;simp only[BW h,ae];by_cases a:k.Kind=3\/k.Kind=4
 ·rw[if_pos a]
  rcases a with e |e<;>simp[e]
 ·rw[if_neg a]
  have e3: ¬k.Kind=3:=λ e=>a (.inl e)
  have e4: ¬k.Kind=4:=λ e=>a (.inr e)
  by_cases b:k.Kind=1
  ·simp[b]
  ·by_cases J:k.Kind=2
   ·simp[J]
   ·simp[e3,e4,b,J]
def hW(n a b:Int):Bool:=decide (a<=n)&&decide (n<=b)
def tH(h:Handler):Option Int:=if fW h.ak then(if hW h.From 0 200&&hW h.To 0 200&&hW h.At 0 200 then none else some 3)else some 1
def w2(k:Kind):Option Int:=if kindOk k then none else some 7
def DJ(m:Method):Int:=
 if fW m.Name then
  if 4<m.cr.length\/200<m.Code.length\/4<m.cy.length then 2
  else if hW m.hJ 0 10&&hW m.hG 0 10 then
   match m.cr.findSome? w2 with
   |some e=>e
   |none=>if m.Returns=⟨0,[]⟩\/kindOk m.Returns=true then(m.cy.findSome? tH).getD 0 else 7
  else 3
 else 1
structure Method.Fits (F:Nat) (m:Method):Prop where
 name:Small F m.Name.length
 args:Small F m.cr.length
 arg:∀k∈m.cr,Small F k.ak.length
 ret:Small F m.Returns.ak.length
 zn:Small F m.cy.length
 hand:∀h∈m.cy,Small F h.ak.length
structure ak.Fits (F:Nat) (c:ak):Prop where
 name:Small F c.Name.length
 super:Small F c.cR.length
 fields:Small F c.Fields.length
 field:∀f∈c.Fields,Small F f.Name.length/\Small F f.Kind.ak.length
 methods:Small F c.bf.length
 method:∀m∈c.bf,m.Fits F
def Fits(F:Nat)(l:List ak):Prop:=Small F l.length/\ ∀c∈l,c.Fits F
theorem ald{F:Nat}(o:Option Int)(d:Int):ca (α:=Unit) (some (cn o)) (λ _=>some d)=some (o.getD d):=by cases o<;>rfl
theorem ale{o:Option Int}{k:Option Int}:ca (α:=Unit) (some (cn o)) (λ _=>k)=(match o with|some e=>some e |none=>k):=by cases o<;>rfl
theorem azn{F:Nat}{m:Method}(h:m.Fits F):Dj F m=some (DJ m):=by
 have l1:zD F m F 0=some (cn (m.cr.findSome? w2)):=each w2 h.args.1 (λ k i x a=>by
  rw[zD,bH (aM.1 a).1,cond_true,bq a,ae,Wf (h.arg x (bB a)),ae];unfold w2;show cond (!kindOk x) _ _=_
  cases kindOk x<;>rfl) (λ k=>by rw[zD,bG];rfl) h.args.2
 have c:∀ {x:Handler}(_:x∈m.cy)(Y:Option (Way Int Unit)),((n9 F x.ak).bind λ f=>
  cond (!f) (some (.out 1)) ((mM x.From 0 200).bind λ g=>
  cond (!g) (some (.out 3)) ((mM x.To 0 200).bind λ j=>
  cond (!j) (some (.out 3)) ((mM x.At 0 200).bind λ l=>
  cond (!l) (some (.out 3)) Y))))=gR (tH x) Y:=by
  intro x a Y
  rw[Gh (h.hand x a)]
  unfold tH mM
  simp only[ae]
  show cond (!fW x.ak) _ (cond (!hW x.From 0 200) _ (cond (!hW x.To 0 200) _ (cond (!hW x.At 0 200) _ _)))=_
  cases fW x.ak<;>cases hW x.From 0 200<;>cases hW x.To 0 200<;>cases hW x.At 0 200<;>rfl
 have n:Dk F m F 0=some (cn (m.cy.findSome? tH)):=each tH h.zn.1 (λ k i x a=>by
  rw[Dk,bH (aM.1 a).1,cond_true,bq a,ae];exact c (bB a) _) (λ k=>by rw[Dk,bG];rfl) h.zn.2
 have o:r6 F m F 0=some (cn (m.cy.findSome? tH)):=each tH h.zn.1 (λ k i x a=>by
  rw[r6,bH (aM.1 a).1,cond_true,bq a,ae];exact c (bB a) _) (λ k=>by rw[r6,bG];rfl) h.zn.2
 unfold Dj mM DJ;rw[Gh h.name,l1,n,o];have p:=Wf (F:=F) (k:=(⟨m.Returns.Kind,m.Returns.ak⟩:Kind)) h.ret;simp only[ae,p,ald (F:=F),ale];cases fW m.Name with
 |false=>rfl
 |true=>
  simp only[dF,cond_false,if_true]
  by_cases d:4<m.cr.length\/200<m.Code.length\/4<m.cy.length
  ·rw[if_pos d]
   have:((decide (4<(m.cr.length:Int)))||(decide (200<(m.Code.length:Int)))||(decide (4<(m.cy.length:Int))))=true:=by
    simp;omega
   rw[this];rfl
  ·rw[if_neg d]
   have:((decide (4<(m.cr.length:Int)))||(decide (200<(m.Code.length:Int)))||(decide (4<(m.cy.length:Int))))=false:=by
    simp;omega
   rw[this]
   show cond (!hW m.hJ 0 10) _ (cond (!hW m.hG 0 10) _ _)=_
   cases hW m.hJ 0 10<;>cases hW m.hG 0 10<;>try rfl
   simp only[dF,cond_false,Bool.and_self,if_true]
   cases m.cr.findSome? w2 with
   |some e=>rfl
   |none=>
    simp only
    by_cases b:m.Returns=⟨0,[]⟩
    ·rw[if_pos (.inl b),show(decide ((⟨m.Returns.Kind,m.Returns.ak⟩:Kind)=⟨0,[]⟩))=true from decide_eq_true b]
     rfl
    ·rw[show(decide ((⟨m.Returns.Kind,m.Returns.ak⟩:Kind)=⟨0,[]⟩))=false from decide_eq_false b]
     simp only[iy,cond_true]
     show cond (!kindOk m.Returns) _ _=_
     cases q:kindOk m.Returns with
     |true=>rw[if_pos (.inr rfl)];rfl
     |false=>rw[if_neg (by simp[b])];rfl
theorem asg{F:Nat}{m:Method}(h:m.Fits F):BR F m=some (DJ m):=by
 have l1:BS F m F 0=some (cn (m.cr.findSome? w2)):=each w2 h.args.1 (λ k i x c=>by
  rw[BS,bH (aM.1 c).1,cond_true,bq c,ae,Ss (h.arg x (bB c)),ae];unfold w2;cases kindOk x<;>rfl) (λ k=>by rw[BS,bG];rfl) h.args.2
 have j:BT F m F 0=some (cn (m.cy.findSome? tH)):=each tH h.zn.1 (λ k i x c=>by
  rw[BT,bH (aM.1 c).1,cond_true,bq c,ae,BW (h.hand x (bB c))];unfold tH fL;simp only[ae];show cond (!fW x.ak) _ (cond (!hW x.From 0 200) _ (cond (!hW x.To 0 200) _ (cond (!hW x.At 0 200) _ _)))=_
  cases fW x.ak<;>cases hW x.From 0 200<;>cases hW x.To 0 200<;>cases hW x.At 0 200<;>rfl) (λ k=>by rw[BT,bG];rfl) h.zn.2
 unfold BR fL DJ;rw[BW h.name,l1,j];have l:=Ss (F:=F) (k:=(⟨m.Returns.Kind,m.Returns.ak⟩:Kind)) h.ret;simp only[ae,l,ald (F:=F),ale];cases fW m.Name with
 |false=>rfl
 |true=>
  simp only[dF,cond_false,if_true]
  by_cases f:4<m.cr.length\/200<m.Code.length\/4<m.cy.length
  ·rw[if_pos f]
   have:((decide (4<(m.cr.length:Int)))||(decide (200<(m.Code.length:Int)))||(decide (4<(m.cy.length:Int))))=true:=by
    simp;omega
   rw[this];rfl
  ·rw[if_neg f]
   have:((decide (4<(m.cr.length:Int)))||(decide (200<(m.Code.length:Int)))||(decide (4<(m.cy.length:Int))))=false:=by
    simp;omega
   rw[this]
   show cond (!hW m.hJ 0 10) _ (cond (!hW m.hG 0 10) _ _)=_
   cases hW m.hJ 0 10<;>cases hW m.hG 0 10<;>try rfl
   simp only[dF,cond_false,Bool.and_self,if_true]
   cases m.cr.findSome? w2 with
   |some e=>rfl
   |none=>
    simp only
    show cond ((!kindOk m.Returns)&&_) _ _=_
    by_cases d:m.Returns=⟨0,[]⟩
    ·rw[if_pos (.inl d),d]
     simp
    ·have n:((!decide (m.Returns.Kind=0))||(!decide (m.Returns.ak=[])))=true:=by
      rcases o:m.Returns with⟨a,b⟩;rw[o]at d;by_cases g:a=0
      ·by_cases af:b=[]
       ·subst g;subst af;exact absurd rfl d
       ·simp[af]
      ·simp[g]
     rw[n];cases p:kindOk m.Returns with
     |true=>rw[if_pos (.inr rfl)];rfl
     |false=>rw[if_neg (by simp[d])];rfl
end I
namespace I
def ik(f:Field):Option Int:=if fW f.Name then(if kindOk f.Kind then none else some 7)else some 1
def g_(e:Int):Option Int:=if e=0 then none else some e
def gN(m:Method):Option Int:=g_ (DJ m)
def Fo(c:ak):Int:=
 if fW c.Name&&(decide (c.cR=[])||fW c.cR)then
  if 6<c.Fields.length\/8<c.bf.length then 2
  else(c.Fields.findSome? ik).getD ((c.bf.findSome? gN).getD 0)
 else 1
def rF(c:ak):Option Int:=g_ (Fo c)
def ts(l:List ak):Int:=if 10<l.length then 2 else(l.findSome? rF).getD 0
def pk{ρ:Type}(o:Option ρ)(y:Option ρ):Option ρ:=match o with
 |some e=>some e
 |none=>y
theorem XE{e:Int}{Y:Option (Way Int Unit)}:cond (!decide (e=0)) (some (.out e)) Y=gR (g_ e) Y:=by
 unfold g_ gR;by_cases h:e=0
 ·rw[if_pos h,decide_eq_true h];rfl
 ·rw[if_neg h,decide_eq_false h];rfl
theorem adu{a b:Nat}(x y:Nat):((decide ((x:Int)<(a:Int)))||(decide ((y:Int)<(b:Int))))=decide (x<a\/y<b):=by
 rw[hT];simp
theorem oz{o:Option Int}{k:Unit->Option (Way Int Unit)}:cU (α:=Unit) (some (cn o)) k=gR o (k ()):=by cases o<;>rfl
theorem jW{ρ:Type}{o:Option ρ}{k:Unit->Option ρ}:ca (α:=Unit) (some (cn o)) k=pk o (k ()):=by cases o<;>rfl
theorem qO{o:Option Int}{Y:Option (Way Int Unit)}{k:Unit->Option (Way Int Unit)}:cU (α:=Unit) (gR o Y) k=gR o (cU (α:=Unit) Y k):=by cases o<;>rfl
section
variable{F:Nat}
theorem azm{c:ak}(h:c.Fits F):JM F c=some (Fo c):=by
 have ad:∀ {x:Field}(_:x∈c.Fields)(Y:Option (Way Int Unit)),((n9 F x.Name).bind λ j=>
  cond (!j) (some (.out 1)) ((wY F (⟨x.Kind.Kind,x.Kind.ak⟩:Kind)).bind λ l=>
  cond (!l) (some (.out 7)) Y))=gR (ik x) Y:=by
  intro x a Y
  rw[Gh (h.field x a).1,Wf (k:=(⟨x.Kind.Kind,x.Kind.ak⟩:Kind)) (h.field x a).2]
  unfold ik
  simp only[ae]
  show cond (!fW x.Name) _ (cond (!kindOk x.Kind) _ _)=_
  cases fW x.Name<;>cases kindOk x.Kind<;>rfl
 have d:∀ {x:Method}(_:x∈c.bf)(Y:Option (Way Int Unit)),((Dj F (⟨x.Name,x.Static,x.cr,(⟨x.Returns.Kind,x.Returns.ak⟩:Kind),x.hJ,x.hG,x.Code,x.cy⟩:Method)).bind λ f=>
  cond (!decide (f=0)) (some (.out f)) Y)=gR (gN x) Y:=by
  intro x a Y
  have:=azn (F:=F) (m:=(⟨x.Name,x.Static,x.cr,(⟨x.Returns.Kind,x.Returns.ak⟩:Kind),x.hJ,x.hG,x.Code,x.cy⟩:Method)) (h.method x a)
  rw[this,ae]
  exact XE
 have l1:Dh F c F 0=some (cn (c.Fields.findSome? ik)):=each ik h.fields.1 (λ k i x a=>by
  rw[Dh,bH (aM.1 a).1,cond_true,bq a,ae];exact ad (bB a) _) (λ k=>by rw[Dh,bG];rfl) h.fields.2
 have n:wX F c F 0=some (cn (c.Fields.findSome? ik)):=each ik h.fields.1 (λ k i x a=>by
  rw[wX,bH (aM.1 a).1,cond_true,bq a,ae];exact ad (bB a) _) (λ k=>by rw[wX,bG];rfl) h.fields.2
 have o:Di F c F 0=some (cn (c.bf.findSome? gN)):=each gN h.methods.1 (λ k i x a=>by
  rw[Di,bH (aM.1 a).1,cond_true,bq a,ae];exact d (bB a) _) (λ k=>by rw[Di,bG];rfl) h.methods.2
 have q:r5 F c F 0=some (cn (c.bf.findSome? gN)):=each gN h.methods.1 (λ k i x a=>by
  rw[r5,bH (aM.1 a).1,cond_true,bq a,ae];exact d (bB a) _) (λ k=>by rw[r5,bG];rfl) h.methods.2
 unfold JM Fo;rw[Gh h.name,Gh h.super,l1,o,n,q];simp only[ae,jW,show(6 :Int)=((6 :Nat):Int) from rfl,show(8 :Int)=((8 :Nat):Int) from rfl,adu];cases fW c.Name with
 |false=>rfl
 |true=>
  simp only[dF,cond_false,jw]
  have g:∀p:Bool,p=decide (6<c.Fields.length\/8<c.bf.length)->cond p (some (2 :Int)) (pk (c.Fields.findSome? ik) (pk (c.bf.findSome? gN) (some 0)))=
   some (if 6<c.Fields.length\/8<c.bf.length then 2 else(c.Fields.findSome? ik).getD ((c.bf.findSome? gN).getD 0)):=by
   intro p r
   subst r
   by_cases b:6<c.Fields.length\/8<c.bf.length
   ·rw[if_pos b,decide_eq_true b];rfl
   ·rw[if_neg b,decide_eq_false b]
    cases c.Fields.findSome? ik with
    |some e=>rfl
    |none=>cases c.bf.findSome? gN<;>rfl
  by_cases aj:c.cR=[]
  ·rw[decide_eq_true aj]
   simp only[dF,cond_false,Bool.true_or,if_true]
   exact g _ rfl
  ·rw[decide_eq_false aj]
   simp only[iy,cond_true,hX]
   cases fW c.cR with
   |false=>rfl
   |true=>
    simp only[dF,cond_false,if_true]
    exact g _ rfl
theorem azl{l:List ak}(h:Fits F l):JL F l=some (ts l):=by
 have l1:zC F l F 0=some (cn (l.findSome? rF)):=each rF h.1.1 (λ k i x a=>by
  rw[zC,bH (aM.1 a).1,cond_true,bq a,ae,azm (c:=(⟨x.Name,x.cR,x.Fields,x.bf⟩:ak)) (h.2 x (bB a)),ae];exact XE) (λ k=>by rw[zC,bG];rfl) h.1.2
 unfold JL ts;rw[l1,jW];by_cases b:10<l.length
 ·rw[if_pos b,decide_eq_true (show(10 :Int)<(l.length:Int) by omega)];rfl
 ·rw[if_neg b,decide_eq_false (show¬(10 :Int)<(l.length:Int) by omega)]
  cases l.findSome? rF<;>rfl
theorem asf{l:List ak}(h:Fits F l):H2 F l=some (ts l):=by
 have body:∀ {c:ak}(_:c.Fits F),E5 F c F 0=some (cn (c.Fields.findSome? ik))/\yD F c F 0=some (cn (c.Fields.findSome? ik))/\E6 F c F 0=some (cn (c.bf.findSome? gN))/\yE F c F 0=some (cn (c.bf.findSome? gN)):=by
  intro c hc
  have ad:∀ {x:Field}(_:x∈c.Fields)(i:Int)(_:idx c.Fields i=some x)(Y:Option (Way Int Unit)),((oP F x.Name).bind λ o=>
   cond (!o) (some (.out 1)) ((idx c.Fields i).bind λ x=>(vM F (⟨x.Kind.Kind,x.Kind.ak⟩:Kind)).bind λ q=>
   cond (!q) (some (.out 7)) Y))=gR (ik x) Y:=by
   intro x a i hi Y
   rw[BW (hc.field x a).1,hi]
   unfold ik
   simp only[ae]
   rw[Ss (k:=(⟨x.Kind.Kind,x.Kind.ak⟩:Kind)) (hc.field x a).2,ae]
   show cond (!fW x.Name) _ (cond (!kindOk x.Kind) _ _)=_
   cases fW x.Name<;>cases kindOk x.Kind<;>rfl
  have b:∀ {x:Method}(_:x∈c.bf)(Y:Option (Way Int Unit)),((BR F x).bind λ j=>
   cond (!decide (j=0)) (some (.out j)) Y)=gR (gN x) Y:=by
   intro x a Y
   rw[asg (hc.method x a),ae]
   exact XE
  refine⟨each ik hc.fields.1 (λ k i x a=>?_) (λ k=>by rw[E5,bG];rfl) hc.fields.2,each ik hc.fields.1 (λ k i x a=>?_) (λ k=>by rw[yD,bG];rfl) hc.fields.2,
   each gN hc.methods.1 (λ k i x a=>?_) (λ k=>by rw[E6,bG];rfl) hc.methods.2,each gN hc.methods.1 (λ k i x a=>?_) (λ k=>by rw[yE,bG];rfl) hc.methods.2⟩
  ·rw[E5,bH (aM.1 a).1,cond_true,bq a,ae];rw[<-bq a];exact ad (bB a) _ (bq a) _
  ·rw[yD,bH (aM.1 a).1,cond_true,bq a,ae];rw[<-bq a];exact ad (bB a) _ (bq a) _
  ·rw[E6,bH (aM.1 a).1,cond_true,bq a,ae];exact b (bB a) _
  ·rw[yE,bH (aM.1 a).1,cond_true,bq a,ae];exact b (bB a) _
 have l1:BC F l F 0=some (cn (l.findSome? rF)):=each rF h.1.1 (λ k i c a=>by
  have hc:=h.2 c (bB a);obtain⟨r,s,gd,t⟩:=body hc;rw[BC,bH (aM.1 a).1,cond_true,bq a,ae,BW hc.name,BW hc.super,r,gd,s,t];simp only[ae,oz,show(6 :Int)=((6 :Nat):Int) from rfl,show(8 :Int)=((8 :Nat):Int) from rfl,adu];unfold rF Fo;cases fW c.Name with
  |false=>rfl
  |true=>
   simp only[dF,cond_false,jw]
   have m:∀(p:Bool)(Y:Option (Way Int Unit)),p=decide (6<c.Fields.length\/8<c.bf.length)->cU (α:=Unit) (cond p (some (.out (2 :Int))) (gR (c.Fields.findSome? ik) (gR (c.bf.findSome? gN) (some (.go ()))))) (λ _=>Y)=
    gR (g_ (if 6<c.Fields.length\/8<c.bf.length then 2 else(c.Fields.findSome? ik).getD ((c.bf.findSome? gN).getD 0))) Y:=by
    intro p Y u
    subst u
    by_cases d:6<c.Fields.length\/8<c.bf.length
    ·rw[if_pos d,decide_eq_true d];rfl
    ·rw[if_neg d,decide_eq_false d,cond_false]
     have f:∀e,c.Fields.findSome? ik=some e->g_ e=some e:=by
      intro e g;obtain⟨x,_,a⟩:=dN g;unfold ik at a;split at a
      ·split at a
       ·cases a
       ·injection a with a;subst a;rfl
      ·injection a with a;subst a;rfl
     have v:∀e,c.bf.findSome? gN=some e->g_ e=some e:=by
      intro e g;obtain⟨x,_,a⟩:=dN g;unfold gN at a;unfold g_ at a⊢;split at a
      ·cases a
      ·rename_i w;injection a with a;subst a;rw[if_neg w]
     cases ad:c.Fields.findSome? ik with
     |some e=>simp only[ie,f e ad];rfl
     |none=>
      cases b:c.bf.findSome? gN with
      |some e=>simp only[ie,jh,v e b];rfl
      |none=>rfl
   by_cases aj:c.cR=[]
   ·rw[decide_eq_true aj]
    simp only[dF,cond_false,Bool.true_or,if_true]
    exact m _ _ rfl
   ·rw[decide_eq_false aj]
    simp only[iy,cond_true,hX]
    cases fW c.cR with
    |false=>rfl
    |true=>
     simp only[dF,cond_false,if_true]
     exact m _ _ rfl) (λ k=>by rw[BC,bG];rfl) h.1.2
 unfold H2 ts;rw[l1,jW];by_cases n:10<l.length
 ·rw[if_pos n,decide_eq_true (show(10 :Int)<(l.length:Int) by omega)];rfl
 ·rw[if_neg n,decide_eq_false (show¬(10 :Int)<(l.length:Int) by omega)]
  cases l.findSome? rF<;>rfl
end
structure Right (l:List ak):Prop where
 len:l.length<=10
 name:∀c∈l,fW c.Name=true
 fields:∀c∈l,c.Fields.length<=6
 methods:∀c∈l,c.bf.length<=8
 method:∀c∈l,∀m∈c.bf,m.cr.length<=4/\m.cy.length<=4
theorem aBS{m:Method}(h:DJ m=0):m.cr.length<=4/\m.cy.length<=4:=by
 unfold DJ at h;split at h
 ·split at h
  ·exact absurd h (by decide)
  ·rename_i a;exact⟨by omega,by omega⟩
 ·exact absurd h (by decide)
theorem aCZ{e:Int}(h:g_ e=none):e=0:=by
 unfold g_ at h;split at h
 ·assumption
 ·cases h
theorem aC0{e x:Int}(h:g_ e=some x):x≠0:=by
 unfold g_ at h;split at h
 ·cases h
 ·rename_i a;injection h with h;subst h;exact a
theorem azy{s:List UInt8}(h:fW s=true):s≠[]:=by
 unfold fW at h;simp only[bC,decide_eq_true_eq]at h;exact h.1.2
theorem atb{l:List ak}(h:ts l=0):Right l:=by
 unfold ts at h;by_cases f:10<l.length
 ·rw[if_pos f]at h;exact absurd h (by decide)
 ·rw[if_neg f]at h
  have i:∀c∈l,Fo c=0:=by
   intro c hc;cases ad:l.findSome? rF with
   |some e=>
    rw[ad]at h
    simp only[ie]at h
    subst h
    obtain⟨x,_,a⟩:=dN ad
    unfold rF g_ at a
    split at a
    ·cases a
    ·rename_i j;injection a with a;exact absurd a j
   |none=>
    have:=fJ.1 ad c hc
    unfold rF g_ at this
    split at this
    ·assumption
    ·cases this
  have key:∀c∈l,fW c.Name=true/\c.Fields.length<=6/\c.bf.length<=8/\ ∀m∈c.bf,m.cr.length<=4/\m.cy.length<=4:=by
   intro c hc;have b:=i c hc;unfold Fo at b;split at b
   ·rename_i g
    simp only[bC]at g
    split at b
    ·exact absurd b (by decide)
    ·rename_i J
     refine⟨g.1,by omega,by omega,λ m k=>?_⟩
     cases ad:c.Fields.findSome? ik with
     |some e=>
      rw[ad]at b
      simp only[ie]at b
      subst b
      obtain⟨x,_,a⟩:=dN ad
      unfold ik at a
      split at a
      ·split at a
       ·cases a
       ·injection a with a;exact absurd a (by decide)
      ·injection a with a;exact absurd a (by decide)
     |none=>
      rw[ad]at b
      simp only[jh]at b
      cases d:c.bf.findSome? gN with
      |some e=>
       rw[d]at b
       simp only[ie]at b
       subst b
       obtain⟨x,_,a⟩:=dN d
       exact absurd rfl (aC0 a)
      |none=>exact aBS (aCZ (fJ.1 d m k))
   ·exact absurd b (by decide)
  exact⟨by omega,λ c hc=>(key c hc).1,λ c hc=>(key c hc).2.1,λ c hc=>(key c hc).2.2.1,λ c hc=>(key c hc).2.2.2⟩
end I
namespace I
def en{α:Type}(p:α->Bool):List α->Option Nat
 |[]=>none
 |x::r=>if p x then some 0 else(en p r).map (·+1)
theorem Ku{α:Type}{p:α->Bool}:∀ {l:List α}{i:Nat},en p l=some i-> ∃x,l[i]? =some x/\p x=true/\ ∀j y,j<i->l[j]? =some y->p y=false
 |[],i,h=>by simp[en]at h
 |x::r,i,h=>by
  simp only[en]at h;split at h
  ·rename_i a
   injection h with h
   subst h
   exact⟨x,rfl,a,λ j y aA=>absurd aA (by omega)⟩
  ·rename_i a
   cases b:en p r with
   |none=>rw[b]at h;cases h
   |some k=>
    rw[b]at h
    simp only[fI,aD]at h
    subst h
    obtain⟨y,d,J,e⟩:=Ku b
    refine⟨y,by simpa using d,J,λ j z aA c=>?_⟩
    cases j with
    |zero=>
     simp only[de,aD]at c
     subst c
     simpa using a
    |succ j=>exact e j z (by omega) (by simpa using c)
theorem XZ{α:Type}{p:α->Bool}:∀ {l:List α},en p l=none-> ∀x∈l,p x=false
 |[],_,x,a=>by cases a
 |y::r,h,x,a=>by
  simp only[en]at h;split at h
  ·cases h
  ·rename_i b
   have c:en p r=none:=by simpa using h
   rcases cm.1 a with rfl |e
   ·simpa using b
   ·exact XZ c x e
theorem aDv{α:Type}{p:α->Bool}{l:List α}{i:Nat}{x:α}(hi:l[i]? =some x)(a:p x=true)(af:∀j y,j<i->l[j]? =some y->p y=false):en p l=some i:=by
 cases h:en p l with
 |none=>have:=XZ h x (bB hi);rw[a]at this;cases this
 |some j=>
  obtain⟨y,b,J,c⟩:=Ku h
  rcases Nat.lt_trichotomy i j with e |e |e
  ·have:=c i x e hi;rw[a]at this;cases this
  ·rw[e]
  ·have:=af j y e b;rw[J]at this;cases this
theorem XY{α:Type}{p:α->Bool}{l:List α}{i:Nat}(h:en p l=some i):i<l.length:=by
 obtain⟨x,a,_⟩:=Ku h;exact(aM.1 a).1
theorem TP{α ρ:Type}{l:List α}{L:Nat->Int->Option (Way ρ Unit)}(p:α->Bool)(f:Nat->ρ)(a:l.length<=140737488355328)
 (aj:∀k (i:Nat) x,l[i]? =some x->L (k+1) (i:Int)=cond (p x) (some (.out (f i))) (L k (ar ((i:Int)+1))))
 (b:∀k,L (k+1) (l.length:Int)=some (.go ())){F:Nat}(c:l.length<F):L F 0=some (cn ((en p l).map f)):=by
 have key:∀(d i k:Nat),i+d=l.length->d<k->L k (i:Int)=some (cn ((en p (l.drop i)).map λ j=>f (i+j))):=by
  intro d;induction d with
  |zero=>
   intro i k h e
   obtain⟨k,rfl⟩:∃k',k=k'+1:=⟨k-1,by omega⟩
   have hi:i=l.length:=by omega
   subst hi
   rw[b];simp[cn,en]
  |succ d g=>
   intro i k h e
   obtain⟨k,rfl⟩:∃k',k=k'+1:=⟨k-1,by omega⟩
   have hi:i<l.length:=by omega
   rw[aj k i l[i] (aH hi),cw hi,en]
   cases m:p l[i]with
   |true=>simp[cn]
   |false=>
    simp only[cond_false,hv,if_false]
    rw[eG hi a,g (i+1) k (by omega) (by omega)]
    congr 2
    rw[Option.map_map]
    congr 1
    funext j
    simp only[Function.comp]
    congr 1
    omega
 have:=key l.length 0 F (by omega) c
 simpa using this
def fV(nm:List UInt8)(c:ak):Bool:=decide (c.Name=nm)
def cL(l:List ak)(nm:List UInt8):Int:=((en (fV nm) l).map λ n:Nat=>(n:Int)).getD (-1)
theorem yL{F:Nat}{l:List ak}(h:Small F l.length)(nm:List UInt8):oO F l nm=some (cL l nm):=by
 unfold oO cL;have l1:BU l nm F 0=some (cn ((en (fV nm) l).map λ n:Nat=>(n:Int))):=TP (fV nm) _ h.1 (λ k i x a=>by
  rw[BU,bH (aM.1 a).1,cond_true,bq a,ae];rfl) (λ k=>by rw[BU,bG];rfl) h.2
 rw[l1,jW];cases en (fV nm) l<;>rfl
theorem SR{l:List ak}{nm:List UInt8}:cL l nm<l.length:=by
 unfold cL;cases h:en (fV nm) l with
 |none=>simp only[iz,jh];omega
 |some i=>have:=XY h;simp only[fI,ie];omega
theorem atc{l:List ak}{nm:List UInt8}:cL l nm<0↔en (fV nm) l=none:=by
 unfold cL;cases h:en (fV nm) l with
 |none=>simp
 |some i=>simp only[fI,ie];constructor<;>intro h<;>first |omega |cases h
theorem G6{α:Type}{l:List α}{i:Nat}{x:α}(h:l[i]? =some x):l.set i x=l:=by
 obtain⟨a,e⟩:=aM.1 h;rw[<-e,lr]
theorem MO{α:Type}{b:Nat}{l:List α}(h:l.length*b<=140737488355328):(bD b ([]:List α) l).bind (λ l=>some l)=some l:=by
 unfold bD;rw[if_pos (by simpa using h)];simp
theorem aDh{F:Nat}{l:List ak}(g:100<F)(h:Right l):J3 F l=some l:=by
 have c2:∀(eJ:List Method),eJ.length<=8 ->(∀m∈eJ,m.cr.length<=4/\m.cy.length<=4)->ug F eJ (eJ.length:Int) 0=some eJ:=by
  intro eJ f b;refine OS (n:=eJ.length) (λ k i=>ug k eJ (eJ.length:Int) (i:Int)) eJ (λ k i hi=>?_) (λ k=>?_) (F:=F) (by omega)
  ·obtain⟨x,a⟩:∃x,eJ[i]? =some x:=⟨eJ[i],aH hi⟩
   have af:=b x (bB a)
   show ug (k+1) eJ (eJ.length:Int) (i:Int)=_
   rw[ug,bH hi,cond_true,bq a,ae]
   unfold ZJ ZI
   rw[MO (by omega),ae,MO (by omega),ae,ae,ae]
   have e1:eJ.set (i:Int).toNat (⟨x.Name,x.Static,x.cr,(⟨x.Returns.Kind,x.Returns.ak⟩:Kind),x.hJ,x.hG,x.Code,x.cy⟩:Method)=eJ:=G6 (i:=i) a
   simp only[e1,bq a,ae]
   rw[eG hi (by omega)]
  ·show ug (k+1) eJ (eJ.length:Int) (eJ.length:Int)=_
   rw[ug,bG];rfl
 unfold J3;have c1:si F l F [] 0=some l:=by
  refine OS (n:=l.length) (λ k i=>si F l k (l.take i) (i:Int)) l (λ k i hi=>?_) (λ k=>?_) (F:=F) (by have:=h.len;omega)
  ·obtain⟨x,a⟩:∃x,l[i]? =some x:=⟨l[i],aH hi⟩
   have c:=bB a
   have ad:=h.fields x c
   have b:=h.methods x c
   have d:=h.len
   show si F l (k+1) (l.take i) (i:Int)=_
   rw[si,bH hi,cond_true,bq a,ae]
   unfold ZH ZK
   rw[MO (by omega),ae,MO (by omega),ae,c2 x.bf b (h.method x c),ae]
   unfold bD
   rw[if_pos (by simp only[fP,cV,gr];omega)]
   simp only[ae]
   rw[eG hi (by omega)]
   have e:l.take i++[(⟨x.Name,x.cR,x.Fields,x.bf⟩:ak)]=l.take (i+1):=by
    rw[kg,a];rfl
   rw[e]
  ·show si F l (k+1) (l.take l.length) (l.length:Int)=_
   rw[si,bG,jP];rfl
 rw[c1];rfl
def eL:Nat->List ak->List (List UInt8×Int)
 |_,[]=>[]
 |k,c::r=>(c.Name,(k:Int))::eL (k+1) r
theorem GA(nm:List UInt8):∀(l:List ak)(k:Nat),cF (eL k l) nm=(en (fV nm) l).map λ n:Nat=>((n+k:Nat):Int)
 |[],k=>rfl
 |c::r,k=>by
  simp only[eL,cF,en,fV];by_cases h:c.Name=nm
  ·simp[h]
  ·simp only[h,if_false,decide_false,hv]
   rw[GA nm r (k+1),Option.map_map]
   congr 1
   funext j
   simp only[Function.comp]
   congr 1
   omega
theorem aik(c:ak):∀(l:List ak)(k:Nat),eL k (l++[c])=eL k l++[(c.Name,((k+l.length:Nat):Int))]
 |[],k=>by simp[eL]
 |d::r,k=>by
  simp only[jf,eL,cV];rw[aik c r (k+1)];congr 4;omega
theorem Gx{cJ β:Type} [DecidableEq cJ]{k:cJ}{v:β}:∀ {m:List (cJ×β)},cF m k=none->gC m k v=m++[(k,v)]
 |[],_=>rfl
 |p::r,h=>by
  simp only[cF]at h;split at h
  ·cases h
  ·rename_i a
   simp only[gC,if_neg a,jf]
   rw[Gx h]
def BA(l:List ak):Prop:=∀(i j:Nat)(x y:ak),l[i]? =some x->l[j]? =some y->x.Name=y.Name->i=j
theorem aC_{l:List ak}(h:BA l){i:Nat}{x:ak}(hi:l[i]? =some x):cL l x.Name=(i:Int):=by
 unfold cL;rw[aDv (i:=i) hi (by simp[fV]) (λ j y aA hy=>by
  simp only[fV,decide_eq_false_iff_not];intro e;have:=h j i y x hy hi e;omega)]
 rfl
theorem aCo{F:Nat}{l:List ak}(P:100<F)(h:Right l) :
 (BA l/\pd ⟨l,[],[]⟩ F [] 0=some (.go (eL 0 l))/\vJ F l F 0=some (.go ()))\/
 (¬BA l/\(∃m,pd ⟨l,[],[]⟩ F [] 0=some (.out (6,m)))/\vJ F l F 0=some (.out 6)):=by
 have A:=h.len
 have B:vJ F l F 0=some (cn ((dy l.length).findSome? λ i:Nat=>(l[i]?).bind λ x:ak=>if cL l x.Name=(i:Int)then none else some 6)):=kA _ (by omega) (λ k i hi=>by
  obtain⟨x,c⟩:∃x,l[i]? =some x:=⟨l[i],aH hi⟩
  rw[vJ,bH hi,cond_true,bq c,ae,yL ⟨by omega,by omega⟩,ae,c,ae];by_cases e:cL l x.Name=(i:Int)
  ·rw[if_pos e,decide_eq_true e];rfl
  ·rw[if_neg e,decide_eq_false e];rfl) (λ k=>by rw[vJ,bG];rfl) (by omega)
 have key:∀(d i k:Nat),i+d=l.length->d<k->BA (l.take i) ->
  (BA l/\pd ⟨l,[],[]⟩ k (eL 0 (l.take i)) i=some (.go (eL 0 l)))\/(¬BA l/\ ∃m,pd ⟨l,[],[]⟩ k (eL 0 (l.take i)) i=some (.out (6,m))):=by
  intro d
  induction d with
  |zero=>
   intro i k hi H ap
   obtain⟨k,rfl⟩:∃k',k=k'+1:=⟨k-1,by omega⟩
   have e:i=l.length:=by omega
   subst e
   rw[jP]at ap⊢
   left
   refine⟨ap,?_⟩
   rw[pd,bG];rfl
  |succ d I=>
   intro i k hi H ap
   obtain⟨k,rfl⟩:∃k',k=k'+1:=⟨k-1,by omega⟩
   have o:i<l.length:=by omega
   obtain⟨x,c⟩:∃x,l[i]? =some x:=⟨l[i],aH o⟩
   rw[pd,bH o,cond_true,bq c,ae,GA]
   cases p:en (fV x.Name) (l.take i)with
   |some j=>
    right
    obtain⟨y,f,J,_⟩:=Ku p
    refine⟨λ n=>?_,_,rfl⟩
    have K:j<i:=by have:=(aM.1 f).1;simp only[fP]at this;omega
    have hy:l[j]? =some y:=by rw[gI]at f;rw[if_pos K]at f;exact f
    have:=n j i y x hy c (by simpa[fV]using J)
    omega
   |none=>
    simp only[iz,Option.isSome_none,cond_false]
    have r:cF (eL 0 (l.take i)) x.Name=none:=by rw[GA,p];rfl
    rw[Gx r,eG o (by omega)]
    have e1:l.take (i+1)=l.take i++[x]:=by rw[kg,c];rfl
    have e2:eL 0 (l.take i)++[(x.Name,(i:Int))]=eL 0 (l.take (i+1)):=by
     rw[e1,aik];congr 4;simp only[fP];omega
    rw[e2]
    refine I (i+1) k (by omega) (by omega) ?_
    intro a b u v g af s
    rw[gI]at g af
    split at g
    ·split at af
     ·rename_i L Q
      have t:=XZ p
      have C:∀(q:Nat)(z:ak),q<i->l[q]? =some z->z.Name≠x.Name:=λ q z M N e=>by
       have:=t z (bB (i:=q) (by rw[gI,if_pos M];exact N));simp[fV,e]at this
      by_cases w:a=i
      ·by_cases D:b=i
       ·omega
       ·subst w
        rw[c]at g;injection g with g;subst g
        exact absurd s.symm (C b v (by omega) af)
      ·by_cases D:b=i
       ·subst D
        rw[c]at af;injection af with af;subst af
        exact absurd s (C a u (by omega) g)
       ·exact ap a b u v (by rw[gI,if_pos (by omega)];exact g) (by rw[gI,if_pos (by omega)];exact af) s
     ·cases af
    ·cases g
 have E:=key l.length 0 F (by omega) (by omega) (λ i j x y hi=>by simp at hi)
 have O:eL 0 (l.take 0)=[]:=by simp[eL]
 rw[O]at E
 rcases E with⟨n,f⟩|⟨n,f⟩
 ·left
  refine⟨n,f,?_⟩
  rw[B]
  have:((dy l.length).findSome? λ i:Nat=>(l[i]?).bind λ x:ak=>if cL l x.Name=(i:Int)then none else some (6 :Int))=none:=by
   rw[fJ];intro i hi;obtain⟨x,c⟩:∃x,l[i]? =some x:=⟨l[i]'(by simpa using hi),aH _⟩
   rw[c,ae,if_pos (aC_ n c)]
  rw[this];rfl
 ·right
  refine⟨n,f,?_⟩
  rw[B]
  cases ad:((dy l.length).findSome? λ i:Nat=>(l[i]?).bind λ x:ak=>if cL l x.Name=(i:Int)then none else some (6 :Int))with
  |some e=>
   obtain⟨i,_,hi⟩:=dN ad
   cases c:l[i]? with
   |none=>rw[c]at hi;cases hi
   |some x=>
    rw[c,ae]at hi
    split at hi
    ·cases hi
    ·injection hi with hi;subst hi;rfl
  |none=>
   exfalso
   apply n
   have G:∀(i:Nat)(x:ak),l[i]? =some x->cL l x.Name=(i:Int):=by
    intro i x c;have:=fJ.1 ad i (by have:=(aM.1 c).1;simpa using this);rw[c,ae]at this;split at this
    ·assumption
    ·cases this
   intro i j x y c hy e
   have f:=G i x c
   have J:=G j y hy
   rw[e]at f
   omega
end I
namespace I
def Eh{ρ σ:Type}(o:Option ρ)(a:σ):Way ρ σ:=match o with
 |some r=>.out r
 |none=>.go a
def alh{ρ σ:Type}(o:Option ρ)(y:Option (Way ρ σ)):Option (Way ρ σ):=match o with
 |some r=>some (.out r)
 |none=>y
theorem Sy{ρ σ:Type}{n:Nat}(T:Nat->Nat->Option (Way ρ σ))(g:Nat->Option ρ)(fin:σ)(aj:∀k i,i<n->T (k+1) i=alh (g i) (T k (i+1)))(a:∀k,T (k+1) n=some (.go fin)){F:Nat}(b:n<F) :
 T F 0=some (Eh ((dy n).findSome? g) fin):=by
 have key:∀(d i k:Nat),i+d=n->d<k->T k i=some (Eh (((dy n).drop i).findSome? g) fin):=by
  intro d;induction d with
  |zero=>
   intro i k h c
   obtain⟨k,rfl⟩:∃k',k=k'+1:=⟨k-1,by omega⟩
   have hi:i=n:=by omega
   subst hi
   rw[a,ix (by simp)];rfl
  |succ d e=>
   intro i k h c
   obtain⟨k,rfl⟩:∃k',k=k'+1:=⟨k-1,by omega⟩
   have hi:i<n:=by omega
   rw[aj k i hi,cw (by simpa using hi),h5]
   simp only[List.getElem_range]
   cases f:g i with
   |some r=>rfl
   |none=>
    simp only[alh]
    exact e (i+1) k (by omega) (by omega)
 have:=key n 0 F (by omega) b
 simpa using this
theorem Nr{α β cp:Type}(g:α->Option β)(f:β->cp):∀l:List α,l.findSome? (λ c=>(g c).map f)=(l.findSome? g).map f
 |[]=>rfl
 |c::r=>by
  simp only[h5];cases g c with
  |some e=>rfl
  |none=>simp only[iz];exact Nr g f r
def c'(l:List ak):List Int:=l.map λ c=>cL l c.cR
theorem ZO{l:List ak}{i:Nat}{x:ak}(h:l[i]? =some x):(c' l)[i]? =some (cL l x.cR):=by simp[c',h]
def uP(c:ak):Option Int:=if(decide (c.Name=[79,98,106,101,99,116]))==(decide (c.cR=[]))then none else some 4
def qw(l:List ak)(c:ak):Option Int:=if c.cR=[]\/0<=cL l c.cR then none else some 5
section
variable{F:Nat}{l:List ak}
theorem aG9(b:100<F)(h:Right l):BL l F 0=some (cn (l.findSome? uP)):=each uP (by have:=h.len;omega) (λ k i x a=>by
 rw[BL,bH (aM.1 a).1,cond_true,bq a,ae,ae];unfold uP;cases(decide (x.Name=[79,98,106,101,99,116]))==(decide (x.cR=[]))<;>rfl) (λ k=>by rw[BL,bG];rfl) (by have:=h.len;omega)
theorem aG8(b:100<F)(h:Right l)(m:List (List UInt8×Int))(s:List Int):xn ⟨l,m,s⟩ F 0=some (cn ((l.findSome? uP).map λ e=>(e,(⟨l,m,s⟩:bp)))):=by
 have:=each (l:=l) (L:=xn ⟨l,m,s⟩) (λ c=>(uP c).map λ e=>(e,(⟨l,m,s⟩:bp))) (by have:=h.len;omega) (λ k i x a=>by
  rw[xn];show cond (decide ((i:Int)<(l.length:Int))) ((idx l (i:Int)).bind _) _=_
  rw[bH (aM.1 a).1,cond_true,bq a,ae];unfold uP;cases(decide (x.Name=[79,98,106,101,99,116]))==(decide (x.cR=[]))<;>rfl) (λ k=>by
   rw[xn];show cond (decide ((l.length:Int)<(l.length:Int))) _ _=_
   rw[bG];rfl) (F:=F) (by have:=h.len;omega)
 rw[this,Nr]
theorem aB1(c:100<F)(h:Right l):yI F l F 0=some (cn (l.findSome? (qw l))):=each (qw l) (by have:=h.len;omega) (λ k i x a=>by
 have b:=h.len;rw[yI,bH (aM.1 a).1,cond_true,bq a,ae,ae,yL ⟨by omega,by omega⟩,ae];unfold qw;by_cases aj:x.cR=[]
 ·rw[if_pos (.inl aj),decide_eq_true aj];rfl
 ·rw[decide_eq_false aj]
  by_cases hc:0<=cL l x.cR
  ·rw[if_pos (.inr hc),decide_eq_false (show¬cL l x.cR<0 by omega)];rfl
  ·rw[if_neg (by simp[aj,hc]),decide_eq_true (show cL l x.cR<0 by omega)];rfl) (λ k=>by rw[yI,bG];rfl) (by have:=h.len;omega)
theorem atd(h:Right l):cL l []= -1:=by
 unfold cL;cases a:en (fV []) l with
 |none=>rfl
 |some i=>
  obtain⟨x,b,J,_⟩:=Ku a
  have:=azy (h.name x (bB b))
  simp[fV]at J
  exact absurd J this
theorem aB0(t:100<F)(h:Right l):∃o:Option (Int×bp),o.map (·.1)=l.findSome? (qw l)/\mT ⟨l,eL 0 l,[]⟩ F [] 0=some (Eh o (c' l)):=by
 have d:=h.len;refine⟨(dy l.length).findSome? λ i=>((l[i]?).bind (qw l)).map λ e=>(e,(⟨l,eL 0 l,(c' l).take i⟩:bp)),?_,?_⟩
 ·have e1:∀(n:Nat),n<=l.length->((List.range' (l.length-n) n).findSome? λ i=>((l[i]?).bind (qw l)).map λ e=>(e,(⟨l,eL 0 l,(c' l).take i⟩:bp))).map (·.1)=(l.drop (l.length-n)).findSome? (qw l):=by
   intro n;induction n with
   |zero=>intro _;simp
   |succ n g=>
    intro f
    have hi:l.length- (n+1)<l.length:=by omega
    rw[List.range'_succ,h5,cw hi,h5,aH hi,ae]
    cases qw l l[l.length- (n+1)]with
    |some e=>rfl
    |none=>
     simp only[iz]
     rw[show l.length- (n+1)+1=l.length-n by omega]
     exact g (by omega)
  have:=e1 l.length (cu _);simpa[List.range_eq_range']using this
 ·refine Sy (n:=l.length) (λ k i=>mT ⟨l,eL 0 l,[]⟩ k ((c' l).take i) (i:Int)) _ (c' l) (λ k i hi=>?_) (λ k=>?_) (F:=F) (by omega)
  ·obtain⟨x,c⟩:∃x,l[i]? =some x:=⟨l[i],aH hi⟩
   show mT ⟨l,eL 0 l,[]⟩ (k+1) ((c' l).take i) (i:Int)=_
   rw[mT]
   show cond (decide ((i:Int)<(l.length:Int))) (cU (α:=List Int) ((idx l (i:Int)).bind _) _) _=_
   rw[bH hi,cond_true,bq c,ae,c,ae]
   have a:cF (eL 0 l) x.cR=(en (fV x.cR) l).map λ n:Nat=>((n+0 :Nat):Int):=GA x.cR l 0
   have e3:(c' l).take (i+1)=(c' l).take i++[cL l x.cR]:=by rw[kg,ZO c];rfl
   have m:bD 8 ((c' l).take i) [cL l x.cR]=some ((c' l).take (i+1)):=by
    unfold bD;rw[if_pos (by simp only[fP,cV,gr];omega),e3]
   have fin:∀n:Int,n=cL l x.cR->cU (α:=List Int) (cU (α:=Int) (ρ:=Int×bp) (some (.go n)) λ(p:Int)=>(bD 8 ((c' l).take i) [p]).bind λ q=>some (.go q)) (λ(r:List Int)=>mT ⟨l,eL 0 l,[]⟩ k r (ar ((i:Int)+1)))=mT ⟨l,eL 0 l,[]⟩ k ((c' l).take (i+1)) ((i+1 :Nat):Int):=by
    intro n f;subst f;rw[ox,m,ae,ox,eG hi (by omega)]
   unfold qw
   by_cases aj:x.cR=[]
   ·rw[if_pos (.inl aj),decide_eq_true aj,cond_true]
    exact fin (-1) (by rw[aj,atd h])
   ·rw[decide_eq_false aj,cond_false]
    cases b:en (fV x.cR) l with
    |none=>
     have u:cL l x.cR<0:=atc.2 b
     rw[if_neg (by simp[aj];omega),a,b]
     rfl
    |some j=>
     have s:cL l x.cR=(j:Int):=by unfold cL;rw[b];rfl
     rw[if_pos (.inr (by omega)),a,b]
     exact fin _ (by rw[s];simp)
  ·show mT ⟨l,eL 0 l,[]⟩ (k+1) ((c' l).take l.length) (l.length:Int)=_
   rw[mT]
   show cond (decide ((l.length:Int)<(l.length:Int))) _ _=_
   rw[bG,cond_false,hF (by simp[c'])]
def dq(S:List Int):Nat->Int->Option (List Int)
 |0,n=>if n<0 then some []else none
 |k+1,n=>if n<0 then some []else(idx S n).bind λ m=>(dq S k m).map (n:: ·)
theorem ak1{S:List Int}:∀ {k:Nat}{n:Int}{c:List Int},dq S k n=some c->dq S (k+1) n=some c
 |0,n,c,h=>by
  simp only[dq]at h⊢;split at h
  ·rename_i a;rw[if_pos a];exact h
  ·cases h
 |k+1,n,c,h=>by
  rw[dq]at h⊢;split at h
  ·rename_i a;rw[if_pos a];exact h
  ·rename_i a
   rw[if_neg a]
   cases hi:idx S n with
   |none=>rw[hi]at h;cases h
   |some m=>
    rw[hi,ae]at h
    rw[ae]
    cases b:dq S k m with
    |none=>rw[b]at h;cases h
    |some d=>rw[b]at h;rw[ak1 b];exact h
theorem Qy{S:List Int}{k k':Nat}{n:Int}{c:List Int}(h:dq S k n=some c)(a:k<=k'):dq S k' n=some c:=by
 obtain⟨d,rfl⟩:∃d,k'=k+d:=⟨k'-k,by omega⟩
 clear a;induction d with
 |zero=>exact h
 |succ d b=>exact ak1 b
theorem aHm{S:List Int}{k k':Nat}{n:Int}{c a:List Int}(h:dq S k n=some c)(h':dq S k' n=some a):c=a:=by
 have b:=Qy h (Nat.le_max_left k k');have J:=Qy h' (Nat.le_max_right k k');rw[b]at J;exact dT J
theorem ak0{S:List Int}:∀ {k:Nat}{n:Int}{c:List Int},dq S k n=some c->c.length<=k/\dq S c.length n=some c
 |0,n,c,h=>by
  simp only[dq]at h;split at h
  ·rename_i a
   injection h with h
   subst h
   simp[dq,a]
  ·cases h
 |k+1,n,c,h=>by
  have e:=h;rw[dq]at h;split at h
  ·rename_i a
   injection h with h
   subst h
   simp[dq,a]
  ·rename_i a
   cases hi:idx S n with
   |none=>rw[hi]at h;cases h
   |some m=>
    rw[hi,ae]at h
    cases b:dq S k m with
    |none=>rw[b]at h;cases h
    |some f=>
     rw[b]at h
     simp only[fI,aD]at h
     subst h
     obtain⟨d,J⟩:=ak0 b
     refine⟨by simpa using d,?_⟩
     rw[cV,dq,if_neg a,hi,ae,J];rfl
theorem Qz{S:List Int}:∀ {k:Nat}{n:Int}{c:List Int},dq S k n=some c-> ∀x∈c,(0<=x/\x<S.length)/\ ∃k' a,dq S k' x=some a/\a.length<=c.length/\a≠[]
 |0,n,c,h,x,b=>by
  simp only[dq]at h;split at h
  ·injection h with h;subst h;cases b
  ·cases h
 |k+1,n,c,h,x,b=>by
  have f:=h;rw[dq]at h;split at h
  ·injection h with h;subst h;cases b
  ·rename_i j
   cases hi:idx S n with
   |none=>rw[hi]at h;cases h
   |some m=>
    rw[hi,ae]at h
    cases d:dq S k m with
    |none=>rw[d]at h;cases h
    |some a=>
     rw[d]at h
     simp only[fI,aD]at h
     subst h
     obtain⟨o,p,_⟩:=lk hi
     rcases cm.1 b with rfl |e
     ·exact⟨⟨by omega,by omega⟩,k+1,_,f,cu _,by simp⟩
     ·obtain⟨g,k',c2,J,q,i⟩:=Qz d x e
      exact⟨g,k',c2,J,by simp only[cV];omega,i⟩
theorem akZ{S:List Int}:∀ {k:Nat}{n:Int}{c:List Int},dq S k n=some c->c.Nodup
 |0,n,c,h=>by
  simp only[dq]at h;split at h
  ·injection h with h;subst h;simp
  ·cases h
 |k+1,n,c,h=>by
  have b:=h;rw[dq]at h;split at h
  ·injection h with h;subst h;simp
  ·cases hi:idx S n with
   |none=>rw[hi]at h;cases h
   |some m=>
    rw[hi,ae]at h
    cases a:dq S k m with
    |none=>rw[a]at h;cases h
    |some f=>
     rw[a]at h
     simp only[fI,aD]at h
     subst h
     refine iO.2 ⟨λ d=>?_,akZ a⟩
     obtain⟨_,k',c2,J,e,_⟩:=Qz a n d
     have:=aHm b J
     subst this
     simp only[cV]at e
     omega
theorem XX:∀(n:Nat)(c:List Nat),c.Nodup->(∀x∈c,x<n)->c.length<=n
 |0,c,_,h=>by
  cases c with
  |nil=>simp
  |cons x r=>exact absurd (h x (by simp)) (by omega)
 |n+1,c,aK,h=>by
  by_cases b:n∈c
  ·have d:=XX n (c.erase n) (aK.erase n) (λ x a=>by
    have J:=(aK.mem_erase_iff).1 a;have:=h x J.2;omega)
   rw[la b]at d;omega
  ·have:=XX n c aK (λ x a=>by
    have d:=h x a;have:x≠n:=λ e=>b (e▸a);omega)
   omega
theorem akY{S:List Int}{k:Nat}{n:Int}{c:List Int}(h:dq S k n=some c):c.length<=S.length:=by
 have d:=Qz h;have aK:=akZ h;have:=XX S.length (c.map Int.toNat) (by
  rw[List.Nodup,List.pairwise_map];refine lb ?_ aK;intro a b f af g e;have i:=(d a f).1;have J:=(d b af).1;exact g (by omega)) (λ x j=>by
  obtain⟨y,hy,rfl⟩:=jv.1 j;have i:=(d y hy).1;omega)
 simpa using this
theorem aHl{S:List Int}{k:Nat}{n:Int}(a:S.length<=k):dq S k n=dq S S.length n:=by
 cases h:dq S k n with
 |some c=>
  obtain⟨_,J⟩:=ak0 h
  exact(Qy J (akY h)).symm
 |none=>
  cases h':dq S S.length n with
  |none=>rfl
  |some c=>rw[Qy h' a]at h;cases h
theorem as9{m:List (List UInt8×Int)}{S:List Int}{k:Nat}{n:Int}{c:List Int}(h:dq S k n=some c)(hc:c.length<=1000)(i:1001<F):sb F ⟨l,m,S⟩ n=some c:=by
 have key:∀(k:Nat)(n:Int)(c acc:List Int)(f:Nat),dq S k n=some c->c.length<f->acc.length+c.length<=1000 ->sc ⟨l,m,S⟩ f acc n=some (acc++c):=by
  intro k;induction k with
  |zero=>
   intro n c acc f h ad _
   obtain⟨f,rfl⟩:∃a,f=a+1:=⟨f-1,by omega⟩
   simp only[dq]at h
   split at h
   ·injection h with h
    subst h
    rw[sc,decide_eq_false (by omega)]
    simp
   ·cases h
  |succ k d=>
   intro n c acc f h ad e
   obtain⟨f,rfl⟩:∃a,f=a+1:=⟨f-1,by omega⟩
   rw[dq]at h
   split at h
   ·injection h with h
    subst h
    rw[sc,decide_eq_false (by omega)]
    simp
   ·rename_i j
    cases hi:idx S n with
    |none=>rw[hi]at h;cases h
    |some x=>
     rw[hi,ae]at h
     cases b:dq S k x with
     |none=>rw[b]at h;cases h
     |some g=>
      rw[b]at h
      simp only[fI,aD]at h
      subst h
      simp only[cV]at ad e
      rw[sc,decide_eq_true (by omega),cond_true]
      unfold bD
      rw[if_pos (by simp only[cV,gr];omega)]
      show((some (acc++[n])).bind λ o=>(idx S n).bind λ p=>_)=_
      rw[ae,hi,ae,d x g (acc++[n]) f b (by omega) (by simp only[dS,cV,gr];omega)]
      simp
 unfold sb;rw[key k n c [] F h (by omega) (by simp;omega)];rfl
end
end I
namespace I
section
variable{F:Nat}{l:List ak}
theorem G9:(c' l).length=l.length:=by simp[c']
theorem xR{n:Int}(a:0<=n)(c:n<l.length):∃x,idx l n=some x/\idx (c' l) n=some (cL l x.cR):=by
 obtain⟨x,b⟩:∃x,l[n.toNat]? =some x:=⟨l[n.toNat]'(by omega),aH _⟩
 refine⟨x,?_,?_⟩
 ·unfold idx;rw[if_pos a,b]
 ·unfold idx;rw[if_pos a,ZO b]
def Z1(o:Option (List Int))(acc:List Int):Way (List Int) (List Int):=match o with
 |some c=>.go (c.reverse++acc)
 |none=>.out []
def dt(l:List ak)(n:Int):List Int:=(dq (c' l) l.length n).getD []
theorem Qx(r:1100<F)(h:Right l){n:Int}(i:n<l.length):yR F l n=some (dt l n).reverse:=by
 have e:=h.len;have key:∀(d:Nat)(acc:List Int)(n:Int)(f:Nat),acc.length+d=l.length+1 ->d+1<f->n<l.length->Ch F l f n acc=some (Z1 (dq (c' l) d n) acc):=by
  intro d;induction d with
  |zero=>
   intro acc n f j ad g
   obtain⟨f,rfl⟩:∃b,f=b+1:=⟨f-1,by omega⟩
   rw[Ch,dq]
   by_cases a:n<0
   ·rw[if_pos a,decide_eq_false (by omega)];rfl
   ·rw[if_neg a,decide_eq_true (by omega),cond_true,decide_eq_true (by omega)];rfl
  |succ d m=>
   intro acc n f j ad g
   obtain⟨f,rfl⟩:∃b,f=b+1:=⟨f-1,by omega⟩
   rw[Ch,dq]
   by_cases a:n<0
   ·rw[if_pos a,decide_eq_false (by omega)];rfl
   ·obtain⟨x,o,aj⟩:=xR (l:=l) (n:=n) (by omega) g
    rw[if_neg a,decide_eq_true (by omega),cond_true,decide_eq_false (by omega),cond_false]
    unfold bD
    rw[if_pos (by simp only[cV,gr];omega)]
    show((some ([n]++acc)).bind λ p=>(idx l n).bind λ q=>_)=_
    rw[ae,o,ae,yL ⟨by omega,by omega⟩,ae,aj,ae,m ([n]++acc) _ f (by simp only[dS,cV,gr];omega) (by omega) SR]
    cases dq (c' l) d (cL l x.cR)with
    |none=>rfl
    |some c=>simp[Z1]
 unfold yR;rw[key (l.length+1) [] n F (by simp) (by omega) i,aHl (k:=l.length+1) (by rw[G9];omega),G9];unfold dt;cases dq (c' l) l.length n with
 |none=>rfl
 |some c=>simp[Z1,ca]
def v8(l:List ak)(i:Nat):Option Int:=if(dq (c' l) l.length (i:Int)).isSome then none else some 4
theorem Z0{S:List Int}{k:Nat}{n:Int}{c:List Int}(h:dq S k n=some c)(d:0<=n):∃r,c=n::r:=by
 cases k with
 |zero=>simp only[dq]at h;rw[if_neg (by omega)]at h;cases h
 |succ k=>
  rw[dq,if_neg (by omega)]at h
  cases hi:idx S n with
  |none=>rw[hi]at h;cases h
  |some m=>
   rw[hi,ae]at h
   cases a:dq S k m with
   |none=>rw[a]at h;cases h
   |some b=>rw[a]at h;simp only[fI,aD]at h;exact⟨b,h.symm⟩
theorem atB(a:1100<F)(h:Right l):BM F l F 0=some (cn ((dy l.length).findSome? (v8 l))):=kA _ (by have:=h.len;omega) (λ k i hi=>by
 rw[BM,bH hi,cond_true,Qx a h (by omega),ae];unfold v8 dt;cases b:dq (c' l) l.length (i:Int)with
 |none=>rfl
 |some c=>
  obtain⟨r,rfl⟩:=Z0 b (by omega)
  rw[decide_eq_false (by simp;omega)]
  rfl) (λ k=>by rw[BM,bG];rfl) (by have:=h.len;omega)
theorem adt(h:Right l)(m:List (List UInt8×Int))(s:List Int):∀(d i f:Nat)(n:Int),i+d=l.length->d<f->0<=n->n<l.length-> ∃r,ud ⟨l,m,s⟩ (c' l) f n i=some r/\(r<0↔(dq (c' l) d n).isSome=true)
 |0,i,f,n,hi,ad,c,e=>by
  obtain⟨f,rfl⟩:∃b,f=b+1:=⟨f-1,by omega⟩
  have:i=l.length:=by omega
  subst this;refine⟨n,?_,?_⟩
  ·rw[ud]
   show cond (decide ((l.length:Int)<(l.length:Int))) _ _=_
   rw[bG];rfl
  ·rw[dq,if_neg (by omega)];simp;omega
 |d+1,i,f,n,hi,ad,c,e=>by
  obtain⟨f,rfl⟩:∃b,f=b+1:=⟨f-1,by omega⟩
  obtain⟨x,k,aj⟩:=xR (l:=l) (n:=n) c e;have g:=h.len;rw[ud];have hc:decide ((i:Int)<((⟨l,m,s⟩:bp).l.length:Int))=true:=bH (n:=l.length) (by omega);rw[hc,cond_true,aj,ae,dq,if_neg (by omega),aj,ae];by_cases a:cL l x.cR<0
  ·rw[decide_eq_true a,cond_true]
   refine⟨_,rfl,?_⟩
   have:dq (c' l) d (cL l x.cR)=some []:=by cases d<;>simp[dq,a]
   rw[this];simp[a]
  ·rw[decide_eq_false a,cond_false,eG (n:=l.length) (by omega) (by omega)]
   obtain⟨r,j,J⟩:=adt h m s d (i+1) f (cL l x.cR) (by omega) (by omega) (by omega) SR
   refine⟨r,j,J.trans ?_⟩
   simp
theorem atA(d:1100<F)(h:Right l)(m:List (List UInt8×Int))(s:List Int):sa F ⟨l,m,s⟩ (c' l) F 0=some (cn (((dy l.length).findSome? (v8 l)).map λ e=>(e,(⟨l,m,c' l⟩:bp)))):=by
 have a:=h.len;have:=kA (n:=l.length) (L:=sa F ⟨l,m,s⟩ (c' l)) (λ i=>(v8 l i).map λ e=>(e,(⟨l,m,c' l⟩:bp))) (by omega) (λ k i hi=>by
  rw[sa];have hc:decide ((i:Int)<((⟨l,m,s⟩:bp).l.length:Int))=true:=bH (n:=l.length) hi;obtain⟨r,c,J⟩:=adt h m s l.length 0 F (i:Int) (by omega) (by omega) (by omega) (by omega);rw[hc,cond_true,show(0 :Int)=((0 :Nat):Int) from rfl,c];simp only[ae];unfold v8;cases b:(dq (c' l) l.length (i:Int)).isSome with
  |true=>rw[if_pos rfl,decide_eq_false (show¬((0 :Nat):Int)<=r from λ aw=>by have:=J.2 b;omega)];rfl
  |false=>rw[if_neg (by simp),decide_eq_true (show((0 :Nat):Int)<=r from by
   rcases Int.lt_or_le r 0 with aw |aw
   ·have:=J.1 aw;rw[b]at this;cases this
   ·exact aw)];rfl) (λ k=>by
    rw[sa];show cond (decide ((l.length:Int)<(l.length:Int))) _ _=_
    rw[bG];rfl) (F:=F) (by omega)
 rw[this,Nr]
structure hY (l:List ak):Prop where
 right:Right l
 aMi:BA l
 aMf:∀c∈l,c.cR=[]\/0<=cL l c.cR
 up:∀i,i<l.length-> ∃c,dq (c' l) l.length (i:Int)=some c
 top:∀c∈l,uP c=none
 obj:0<=cL l [79,98,106,101,99,116]
theorem hY.chain(h:hY l){n:Int}(b:0<=n)(d:n<l.length):dq (c' l) l.length n=some (dt l n)/\(dt l n).length<=10/\(∀x∈dt l n,0<=x/\x<l.length):=by
 obtain⟨c,hc⟩:=h.up n.toNat (by omega);rw[show((n.toNat:Nat):Int)=n by omega]at hc;have e:dt l n=c:=by unfold dt;rw[hc];rfl
 rw[e];refine⟨hc,?_,λ x a=>?_⟩
 ·have:=akY hc;rw[G9]at this;have:=h.right.len;omega
 ·have:=(Qz hc x a).1;rw[G9]at this;exact this
theorem hY.WY(h:hY l)(c:1100<F)(m:List (List UInt8×Int)){n:Int}(a:0<=n)(b:n<l.length):sb F ⟨l,m,c' l⟩ n=some (dt l n):=by
 obtain⟨hc,d,_⟩:=h.chain a b;exact as9 (l:=l) hc (by omega) (by omega)
def nP(l:List ak)(i:Int):List Field:=((idx l i).map (·.Fields)).getD []
def fx(l:List ak)(n:Int):List Field:=(dt l n).reverse.flatMap (nP l)
theorem TR(h:Right l)(i:Int):(nP l i).length<=6:=by
 unfold nP;cases a:idx l i with
 |none=>simp
 |some x=>
  obtain⟨_,_,J⟩:=lk a
  exact h.fields x (bB J)
theorem TS(h:Right l):∀r:List Int,(r.flatMap (nP l)).length<=6*r.length
 |[]=>by simp
 |x::r=>by
  have a:=TR h x;have J:=TS h r;simp only[ig,dS,cV];omega
theorem aeU(h:Right l)(m:List (List UInt8×Int))(s:List Int):∀(rem:List Int)(acc:List Field),(∀x∈rem,0<=x/\x<l.length)->acc.length+6*rem.length<=1000 ->zL ⟨l,m,s⟩ rem acc=some (acc++rem.flatMap (nP l))
 |[],acc,_,_=>by simp[zL]
 |x::rem,acc,a,b=>by
  obtain⟨c,hc,_⟩:=xR (l:=l) (a x (by simp)).1 (a x (by simp)).2;have ad:nP l x=c.Fields:=by unfold nP;rw[hc];rfl
  have d:=TR h x;rw[ad]at d;simp only[cV]at b;rw[zL];show((idx l x).bind λ e=>_)=_
  rw[hc,ae];unfold bD;rw[if_pos (by omega),ae,aeU h m s rem _ (λ y hy=>a y (by simp[hy])) (by simp only[dS];omega),ig,ad];simp
theorem hY.WZ(h:hY l)(c:1100<F)(m:List (List UInt8×Int)){n:Int}(a:0<=n)(b:n<l.length):uf F ⟨l,m,c' l⟩ n=some (fx l n):=by
 obtain⟨_,f,d⟩:=h.chain a b;unfold uf;have:=h.WY c m a b;simp only at this⊢;rw[this,ae];unfold KW;rw[ae,aeU h.right m (c' l) _ [] (λ x e=>d x (by simpa using e)) (by simp;omega)];simp[fx]
theorem hY.Zj(h:hY l)(d:1100<F){n:Int}(e:0<=n)(b:n<l.length):BB F l n=some (fx l n):=by
 obtain⟨_,j,f⟩:=h.chain e b;unfold BB;rw[Qx d h.right b,ae];have:td l (dt l n).reverse F [] 0=some (fx l n):=by
  refine OS (n:=(dt l n).reverse.length) (λ k i=>td l (dt l n).reverse k (((dt l n).reverse.take i).flatMap (nP l)) (i:Int)) (fx l n) (λ k i hi=>?_) (λ k=>?_) (F:=F) (by simp;omega)
  ·obtain⟨x,a⟩:∃x,(dt l n).reverse[i]? =some x:=⟨(dt l n).reverse[i],aH hi⟩
   have af:=f x (by simpa using bB a)
   obtain⟨c,hc,_⟩:=xR (l:=l) af.1 af.2
   have ad:nP l x=c.Fields:=by unfold nP;rw[hc];rfl
   have J:=TR h.right x
   rw[ad]at J
   have g:=TS h.right ((dt l n).reverse.take i)
   simp only[fP,kq]at g hi
   show td l (dt l n).reverse (k+1) (((dt l n).reverse.take i).flatMap (nP l)) (i:Int)=_
   rw[td,bH (by simpa using hi),cond_true,bq a,ae,hc,ae]
   unfold bD
   rw[if_pos (by omega),ae,eG (n:=(dt l n).length) hi (by omega),kg,a,List.flatMap_append]
   simp[ad]
  ·show td l (dt l n).reverse (k+1) (((dt l n).reverse.take (dt l n).reverse.length).flatMap (nP l)) ((dt l n).reverse.length:Int)=_
   rw[td,bG,jP];rfl
 rw[this];rfl
end
end I
namespace I
section
variable{F:Nat}{l:List ak}
abbrev bN:=List (List UInt8)×List Target
def o9(nm:List UInt8)(x:List UInt8):Bool:=decide (nm=x)
def vQ(p:bN)(nm:List UInt8)(t:Target):bN:=match en (o9 nm) p.1 with
 |some k=>(p.1,p.2.set k t)
 |none=>(p.1++[nm],p.2++[t])
def rA(ci:Int):List Method->Nat->bN->bN
 |[],_,p=>p
 |m::r,k,p=>rA ci r (k+1) (vQ p m.Name ⟨ci,k⟩)
def eJ(l:List ak)(i:Int):List Method:=((idx l i).map (·.bf)).getD []
def yX(l:List ak):List Int->bN->bN
 |[],p=>p
 |ci::r,p=>yX l r (rA ci (eJ l ci) 0 p)
def hf(l:List ak)(n:Int):bN:=yX l (dt l n).reverse ([],[])
theorem SA{p:bN}{nm:List UInt8}{t:Target}(h:p.1.length=p.2.length):(vQ p nm t).1.length=(vQ p nm t).2.length/\(vQ p nm t).1.length<=p.1.length+1:=by
 unfold vQ;cases en (o9 nm) p.1 with
 |some k=>simp[h]
 |none=>simp[h]
theorem Sz{ci:Int}:∀ {r:List Method}{k:Nat}{p:bN},p.1.length=p.2.length->(rA ci r k p).1.length=(rA ci r k p).2.length/\(rA ci r k p).1.length<=p.1.length+r.length
 |[],_,p,h=>⟨h,cu _⟩
 |m::r,k,p,h=>by
  obtain⟨a,J⟩:=SA (nm:=m.Name) (t:=⟨ci,k⟩) h;obtain⟨b,c⟩:=Sz (ci:=ci) (r:=r) (k:=k+1) a;exact⟨b,by simp only[rA,cV];omega⟩
theorem azp{ns:List (List UInt8)}(h:Small F ns.length)(nm:List UInt8):K6 F ns nm=some (((en (o9 nm) ns).map λ n:Nat=>(n:Int)).getD (-1)):=by
 unfold K6;have l1:AO ns nm F 0=some (cn ((en (o9 nm) ns).map λ n:Nat=>(n:Int))):=TP (o9 nm) _ h.1 (λ k i x a=>by
  rw[AO,bH (aM.1 a).1,cond_true,bq a,ae];rfl) (λ k=>by rw[AO,bG];rfl) h.2
 rw[l1,jW];cases en (o9 nm) ns<;>rfl
theorem akC(g:1100<F)(ci:Int)(c:ak)(hc:c.bf.length<=8):∀(d i f:Nat)(p:bN),i+d=c.bf.length->d<f->p.1.length=p.2.length->p.1.length+d<=1000 ->
 zR F ci c f p.1 p.2 (i:Int)=some (rA ci (c.bf.drop i) i p)
 |0,i,f,p,hi,ad,e,_=>by
  obtain⟨f,rfl⟩:∃b,f=b+1:=⟨f-1,by omega⟩
  have:i=c.bf.length:=by omega
  subst this;rw[zR,bG,ix (cu _)];rfl
 |d+1,i,f,p,hi,ad,e,j=>by
  obtain⟨f,rfl⟩:∃b,f=b+1:=⟨f-1,by omega⟩
  have a:i<c.bf.length:=by omega
  obtain⟨h,J⟩:=SA (nm:=c.bf[i].Name) (t:=⟨ci,i⟩) e;have next:=akC g ci c hc d (i+1) f (vQ p c.bf[i].Name ⟨ci,i⟩) (by omega) (by omega) h (by omega)
  rw[zR,bH a,cond_true,bq (aH a),ae,azp ⟨by omega,by omega⟩,ae,cw a,rA,<-next];unfold vQ;cases C7:en (o9 c.bf[i].Name) p.1 with
  |some k=>
   have m:=XY C7
   simp only[fI,ie]
   rw[decide_eq_true (show(0 :Int)<=(k:Int) by omega),cond_true,bq (aH (show k<p.2.length by omega)),ae,ae,ae,eG a (by omega)]
   simp
  |none=>
   simp only[iz,jh]
   rw[decide_eq_false (show¬(0 :Int)<= -1 by decide),cond_false]
   unfold bD
   rw[if_pos (by simp only[cV,gr];omega),ae,if_pos (by simp only[cV,gr];omega),ae,ae,eG a (by omega)]
theorem ah7(h:Right l)(i:Int):(eJ l i).length<=8:=by
 unfold eJ;cases a:idx l i with
 |none=>simp
 |some x=>
  obtain⟨_,_,J⟩:=lk a
  exact h.methods x (bB J)
theorem akB(b:1100<F)(h:Right l)(m:List (List UInt8×Int))(s:List Int):∀(rem:List Int)(p:bN),(∀x∈rem,0<=x/\x<l.length)->p.1.length=p.2.length->p.1.length+8*rem.length<=900 ->
 zQ F ⟨l,m,s⟩ rem p.1 p.2=some (yX l rem p)
 |[],p,_,_,_=>by simp[zQ,yX]
 |x::rem,p,a,d,g=>by
  obtain⟨c,hc,_⟩:=xR (l:=l) (a x (by simp)).1 (a x (by simp)).2;have e:eJ l x=c.bf:=by unfold eJ;rw[hc];rfl
  have i:=ah7 h x;have f:=i;rw[e]at f;simp only[cV]at g;obtain⟨j,n⟩:=Sz (ci:=x) (r:=eJ l x) (k:=0) d;rw[zQ];show(dB (α:=(List (List UInt8))×(List Target)) ((idx l x).bind λ o=>_) _)=_
  rw[hc,ae];have:=akC b x c f c.bf.length 0 F p (by omega) (by omega) d (by omega);rw[show((0 :Nat):Int)=0 from rfl]at this;rw[this,fK,ae,ae,yX,<-e];exact akB b h m s rem _ (λ y hy=>a y (by simp[hy])) j (by omega)
theorem hY.aBC(h:hY l)(a:1100<F)(m:List (List UInt8×Int)){n:Int}(b:0<=n)(c:n<l.length):DF F ⟨l,m,c' l⟩ n=some (hf l n):=by
 obtain⟨_,f,d⟩:=h.chain b c;unfold DF;have:=h.WY a m b c;simp only at this⊢;rw[this,ae];unfold KW;rw[ae,akB a h.right m (c' l) _ ([],[]) (λ x e=>d x (by simpa using e)) rfl (by simp;omega)];rfl
theorem aG4(ns:List (List UInt8))(m:Method)(h:Small F ns.length):rp ns m F 0=some (((en (o9 m.Name) ns).getD ns.length:Nat):Int):=by
 have key:∀(d i f:Nat),i+d=ns.length->d<f->rp ns m f (i:Int)=some ((i+(en (o9 m.Name) (ns.drop i)).getD d:Nat):Int):=by
  intro d;induction d with
  |zero=>
   intro i f hi ad
   obtain⟨f,rfl⟩:∃b,f=b+1:=⟨f-1,by omega⟩
   have:i=ns.length:=by omega
   subst this
   rw[rp,bG,ix (cu _)];rfl
  |succ d c=>
   intro i f hi ad
   obtain⟨f,rfl⟩:∃b,f=b+1:=⟨f-1,by omega⟩
   have a:i<ns.length:=by omega
   rw[rp,bH a,cond_true,bq (aH a),ae,cw a,en]
   by_cases e:ns[i]=m.Name
   ·rw[decide_eq_true e,if_pos (by simp[o9,e])];simp
   ·rw[decide_eq_false e,if_neg (by simp[o9];exact λ h=>e h.symm)]
    simp only[iy,cond_true]
    rw[eG a h.1,c (i+1) f (by omega) (by omega)]
    congr 2
    cases en (o9 m.Name) (ns.drop (i+1))with
    |none=>simp;omega
    |some k=>simp;omega
 have:=key ns.length 0 F (by omega) h.2;simpa using this
theorem akI(j:1100<F)(hb:List Int)(n:Nat)(ci:Int)(c:ak)(a:hb[n]? =some ci)(e:idx l ci=some c)(hc:c.bf.length<=8):∀(d i f:Nat)(p:bN),i+d=c.bf.length->d<f->p.1.length=p.2.length->p.1.length+d<=1000 ->
 Cf F l hb (n:Int) f p.2 p.1 (i:Int)=some ((rA ci (c.bf.drop i) i p).2,(rA ci (c.bf.drop i) i p).1)
 |0,i,f,p,hi,ad,g,_=>by
  obtain⟨f,rfl⟩:∃h,f=h+1:=⟨f-1,by omega⟩
  have:i=c.bf.length:=by omega
  subst this;rw[Cf,bq a,ae,e,ae,bG,ix (cu _)];rfl
 |d+1,i,f,p,hi,ad,g,o=>by
  obtain⟨f,rfl⟩:∃h,f=h+1:=⟨f-1,by omega⟩
  have b:i<c.bf.length:=by omega
  obtain⟨m,J⟩:=SA (nm:=c.bf[i].Name) (t:=⟨ci,i⟩) g;have next:=akI j hb n ci c a e hc d (i+1) f (vQ p c.bf[i].Name ⟨ci,i⟩) (by omega) (by omega) m (by omega)
  rw[Cf,bq a,ae,e,ae,bH b,cond_true,ae,e,ae,bq (aH b),ae,aG4 p.1 _ ⟨by omega,by omega⟩,ae,cw b,rA,<-next];unfold vQ;cases C7:en (o9 c.bf[i].Name) p.1 with
  |some k=>
   have q:=XY C7
   simp only[ie]
   rw[decide_eq_false (show¬((k:Nat):Int)=(p.1.length:Int) by omega),cond_false,ae]
   simp only[bq a,ae]
   rw[bq (aH (show k<p.2.length by omega)),ae,ae,eG b (by omega)]
   simp
  |none=>
   simp only[jh,decide_true,cond_true]
   unfold bD
   rw[if_pos (by simp only[cV,gr];omega),ae,if_pos (by simp only[cV,gr];omega),ae,ae]
   simp only[bq a,ae]
   rw[bq (i:=p.1.length) (x:=(⟨0,0⟩:Target)) (by rw[g];simp),ae,ae,eG b (by omega)]
   simp[g,List.set_append]
theorem hY.aF2(h:hY l)(m:1100<F){n:Int}(v:0<=n)(o:n<l.length):H_ F l n=some (hf l n):=by
 obtain⟨_,B,w⟩:=h.chain v o;unfold H_;rw[Qx m h.right o,ae];have key:∀(d i f:Nat)(p:bN),i+d=(dt l n).reverse.length->d<f->p.1.length=p.2.length->p.1.length+8*d<=900 ->Cd F l (dt l n).reverse f p.2 p.1 (i:Int)=some ((yX l ((dt l n).reverse.drop i) p).2,(yX l ((dt l n).reverse.drop i) p).1):=by
  intro d;induction d with
  |zero=>
   intro i f p hi ad _ _
   obtain⟨f,rfl⟩:∃b,f=b+1:=⟨f-1,by omega⟩
   have:i=(dt l n).reverse.length:=by omega
   subst this
   rw[Cd,bG,ix (cu _)];rfl
  |succ d y=>
   intro i f p hi ad q C
   obtain⟨f,rfl⟩:∃b,f=b+1:=⟨f-1,by omega⟩
   have a:i<(dt l n).reverse.length:=by omega
   obtain⟨ci,e⟩:∃x,(dt l n).reverse[i]? =some x:=⟨(dt l n).reverse[i],aH a⟩
   have af:=w ci (by simpa using bB e)
   obtain⟨c,hc,_⟩:=xR (l:=l) af.1 af.2
   have g:eJ l ci=c.bf:=by unfold eJ;rw[hc];rfl
   have z:=ah7 h.right ci
   have s:=z
   rw[g]at s
   obtain⟨t,A⟩:=Sz (ci:=ci) (r:=eJ l ci) (k:=0) q
   have u:=akI (l:=l) m (dt l n).reverse i ci c e hc s c.bf.length 0 F p (by omega) (by omega) q (by omega)
   rw[show((0 :Nat):Int)=0 from rfl]at u
   have j:(dt l n).reverse[i]=ci:=by
    have:=aH a;rw[e]at this;exact(dT this).symm
   rw[Cd,bH a,cond_true,u,fK,ae,ae,eG (n:=(dt l n).length) (by simpa using a) (by omega),cw a,j,yX,g]
   rw[g]at t A
   exact y (i+1) f _ (by omega) (by omega) t (by omega)
 have:=key (dt l n).reverse.length 0 F ([],[]) (by omega) (by simp;omega) rfl (by simp;omega);rw[show((0 :Nat):Int)=0 from rfl,fK]at this;simp only at this;rw[this];rfl
end
end I
namespace I
theorem vP{α β:Type}{l:List α}(T:Nat->List β->Nat->Option (List β))(g:α->List β)(B M:Nat)(a:∀x∈l,(g x).length<=B)
 (aj:∀k (i:Nat) x acc,l[i]? =some x->acc.length+B<=M->T (k+1) acc i=T k (acc++g x) (i+1))(b:∀k acc,T (k+1) acc l.length=some acc){F:Nat}(c:l.length<F){acc:List β}(e:acc.length+B*l.length<=M) :
 T F acc 0=some (acc++l.flatMap g):=by
 have key:∀(d i k:Nat)(acc:List β),i+d=l.length->d<k->acc.length+B*d<=M->T k acc i=some (acc++(l.drop i).flatMap g):=by
  intro d;induction d with
  |zero=>
   intro i k acc h f _
   obtain⟨k,rfl⟩:∃k',k=k'+1:=⟨k-1,by omega⟩
   have hi:i=l.length:=by omega
   subst hi
   rw[b,ix (cu _)];simp
  |succ d j=>
   intro i k acc h f m
   obtain⟨k,rfl⟩:∃k',k=k'+1:=⟨k-1,by omega⟩
   have hi:i<l.length:=by omega
   have af:=a l[i] (hC hi)
   rw[Nat.mul_succ]at m
   rw[aj k i l[i] acc (aH hi) (by omega),j (i+1) k _ (by omega) (by omega) (by simp only[dS];omega),cw hi,ig,gT]
 have:=key l.length 0 F acc (by omega) c e
 simpa using this
theorem aiG{α β:Type}{g:α->Option β}{a:α}:[a].findSome? g=g a:=by rw[h5];cases g a<;>rfl
theorem ID{α β cp:Type}(f:α->List β)(g:β->Option cp):∀l:List α,(l.flatMap f).findSome? g=l.findSome? λ x=>(f x).findSome? g
 |[]=>rfl
 |x::r=>by
  rw[ig,kQ,h5,ID f g r];cases(f x).findSome? g<;>rfl
theorem zf{α β:Type}{g:α->List β}{B:Nat}:∀ {l:List α},(∀x∈l,(g x).length<=B)->(l.flatMap g).length<=B*l.length
 |[],_=>by simp
 |x::r,h=>by
  have a:=h x (by simp);have J:=zf (l:=r) (λ y hy=>h y (by simp[hy]));simp only[ig,dS,cV,Nat.mul_succ];omega
def ea(k:Kind):List (List UInt8):=if k.ak=[]then[]else[k.ak]
def mt(m:Method):List (List UInt8):=m.cr.flatMap ea++ea m.Returns++m.cy.map (·.ak)
def hL(c:ak):List (List UInt8):=c.Fields.flatMap (λ f=>ea f.Kind)++c.bf.flatMap mt
def sH(l:List ak):List (List UInt8):=l.flatMap hL
def jY(l:List ak)(s:List UInt8):Option Int:=if 0<=cL l s then none else some 5
theorem w4(k:Kind):(ea k).length<=1:=by unfold ea;split<;>simp
section
variable{F:Nat}{l:List ak}
theorem ah8(h:Right l){c:ak}(hc:c∈l){m:Method}(a:m∈c.bf):(mt m).length<=9:=by
 have b:=h.method c hc m a;have J:=zf (l:=m.cr) (g:=ea) (B:=1) (λ k _=>w4 k);have d:=w4 m.Returns;unfold mt;simp only[dS,hl];omega
theorem adq(h:Right l){c:ak}(hc:c∈l):(hL c).length<=78:=by
 have b:=zf (l:=c.Fields) (g:=λ f=>ea f.Kind) (B:=1) (λ f _=>w4 f.Kind);have J:=zf (l:=c.bf) (g:=mt) (B:=9) (λ m a=>ah8 h hc a);have d:=h.fields c hc;have e:=h.methods c hc;unfold hL;simp only[dS];omega
theorem h3{b:Nat}{α:Type}{acc r:List α}(h:(acc.length+r.length)*b<=140737488355328):bD b acc r=some (acc++r):=by unfold bD;rw[if_pos h]
theorem ZV{acc:List (List UInt8)}(h:acc.length<=5000)(k:Kind):DG k acc=some (acc++ea k):=by
 unfold DG ea;by_cases e:k.ak=[]
 ·rw[decide_eq_true e,if_pos e];simp
 ·rw[decide_eq_false e,if_neg e]
  simp only[iy,cond_true]
  rw[h3 (by simp only[cV,gr];omega)];rfl
theorem aG7(A:1100<F)(h:Right l)(m:List (List UInt8×Int))(s:List Int):xp F ⟨l,m,s⟩ F [] 0=some (sH l):=by
 have j:=h.len;have:=vP (l:=l) (λ k acc i=>xp F ⟨l,m,s⟩ k acc (i:Int)) hL 78 2000 (λ c hc=>adq h hc) (λ k i c acc a b=>by
  have hc:=bB a;have C:=h.fields c hc;have D:=h.methods c hc;have hi:=(aM.1 a).1
  have p:∀acc:List (List UInt8),acc.length<=2000 ->xq c F acc 0=some (acc++c.Fields.flatMap λ f=>ea f.Kind):=λ acc o=>
   vP (l:=c.Fields) (λ k acc i=>xq c k acc (i:Int)) (λ f=>ea f.Kind) 1 3000 (λ f _=>w4 f.Kind) (λ k i f acc a b=>by
    have hi:=(aM.1 a).1;rw[xq,bH hi,cond_true,bq a,ae,ZV (by omega),ae,eG hi (by omega)]) (λ k acc=>by rw[xq,bG];rfl) (by omega) (by omega)
  have q:∀acc:List (List UInt8),acc.length<=2100 ->sg F c F acc 0=some (acc++c.bf.flatMap mt):=λ acc o=>
   vP (l:=c.bf) (λ k acc i=>sg F c k acc (i:Int)) mt 9 3000 (λ m d=>ah8 h hc d) (λ k i m acc a b=>by
    have d:=bB a;have hi:=(aM.1 a).1;obtain⟨E,G⟩:=h.method c hc m d;have t:xr m F acc 0=some (acc++m.cr.flatMap ea):=vP (l:=m.cr) (λ k acc i=>xr m k acc (i:Int)) ea 1 3100 (λ k _=>w4 k) (λ k i x acc a b=>by
     have hi:=(aM.1 a).1;rw[xr,bH hi,cond_true,bq a,ae,ZV (by omega),ae,eG hi (by omega)]) (λ k acc=>by rw[xr,bG];rfl) (by omega) (by omega)
    have u:=zf (l:=m.cr) (g:=ea) (B:=1) (λ k _=>w4 k);have v:=w4 m.Returns
    have w:∀acc:List (List UInt8),acc.length<=3200 ->sh m F acc 0=some (acc++m.cy.flatMap λ h=>[h.ak]):=λ acc o=>
     vP (l:=m.cy) (λ k acc i=>sh m k acc (i:Int)) (λ h=>[h.ak]) 1 3300 (λ k _=>by simp) (λ k i x acc a b=>by
      have hi:=(aM.1 a).1;rw[sh,bH hi,cond_true,bq a,ae,h3 (by simp only[cV,gr];omega),ae,eG hi (by omega)]) (λ k acc=>by rw[sh,bG];rfl) (by omega) (by omega)
    rw[sg,bH hi,cond_true,bq a,ae,t,ae,ZV (k:=(⟨m.Returns.Kind,m.Returns.ak⟩:Kind)) (by simp only[dS];omega),ae,
     w _ (by simp only[dS];have:(ea (⟨m.Returns.Kind,m.Returns.ak⟩:Kind)).length<=1:=w4 _;omega),ae,ae,eG hi (by omega)]
    have e:(m.cy.flatMap λ h=>[h.ak])=m.cy.map (·.ak):=by
     induction m.cy with
     |nil=>rfl
     |cons x r y=>rw[ig,y];rfl
    rw[e];unfold mt;simp only[gT]) (λ k acc=>by rw[sg,bG];rfl) (by omega) (by omega)
  have u:=zf (l:=c.Fields) (g:=λ f=>ea f.Kind) (B:=1) (λ f _=>w4 f.Kind);rw[xp];have z:decide ((i:Int)<((⟨l,m,s⟩:bp).l.length:Int))=true:=bH (n:=l.length) hi;rw[z,cond_true];show(dB (α:=List (List UInt8)) ((idx l (i:Int)).bind λ H=>_) _)=_
  rw[bq a,ae,p acc (by omega),ae,q _ (by simp only[dS];omega),ae,ae,eG hi (by omega)];unfold hL;simp only[gT]) (λ k acc=>by
   rw[xp];show cond (decide ((l.length:Int)<(l.length:Int))) _ _=_
   rw[bG];rfl) (F:=F) (by omega) (acc:=[]) (by simp;omega)
 simpa[sH]using this
theorem XB(s:List UInt8):(cF (eL 0 l) s).isSome=decide (0<=cL l s):=by
 rw[GA];unfold cL;cases en (fV s) l with
 |none=>simp
 |some i=>simp
theorem aG5(d:1100<F)(h:Right l)(s:List Int):J2 F ⟨l,eL 0 l,s⟩=some (((sH l).findSome? (jY l)).getD 0):=by
 have a:=h.len;unfold J2;have f:=aG7 d h (eL 0 l) s;have m:(sH l).length<=780:=by
  have:=zf (l:=l) (g:=hL) (B:=78) (λ c hc=>adq h hc);unfold sH;omega
 rw[f,ae];have j:zS ⟨l,eL 0 l,s⟩ (sH l) F 0=some (cn ((sH l).findSome? (jY l))):=each (jY l) (by omega) (λ k i x b=>by
  rw[zS,bH (aM.1 b).1,cond_true,bq b,ae];show cond (!(cF (eL 0 l) x).isSome) _ _=_
  rw[XB];unfold jY;by_cases e:0<=cL l x
  ·rw[decide_eq_true e,if_pos e];rfl
  ·rw[decide_eq_false e,if_neg e];rfl) (λ k=>by rw[zS,bG];rfl) (by omega)
 rw[j];cases(sH l).findSome? (jY l)<;>rfl
def n_(l:List ak)(k:Kind):Option Int:=(ea k).findSome? (jY l)
theorem akJ{s:List UInt8}:jY l s=none\/jY l s=some 5:=by unfold jY;split<;>simp
theorem tD{α:Type}{g:α->Option Int}{e:Int}(a:∀x,g x=none\/g x=some e):∀r:List α,r.findSome? g=none\/r.findSome? g=some e
 |[]=>.inl rfl
 |x::r=>by
  rw[h5];rcases a x with h |h
  ·rw[h];exact tD a r
  ·rw[h];exact .inr rfl
theorem azR(k:Kind):n_ l k=if k.ak=[]\/0<=cL l k.ak then none else some 5:=by
 unfold n_ ea jY;by_cases e:k.ak=[]
 ·simp[e]
 ·by_cases e2:0<=cL l k.ak<;>simp[e,e2]
theorem Su(h:Small F l.length){a:List Kind}(b:Small F a.length):Cg F l a=some (a.findSome? (n_ l)).isNone:=by
 unfold Cg;have l1:=each (l:=a) (L:=yQ F a l) (λ k=>(n_ l k).map λ _=>false) b.1 (λ k i x c=>by
  rw[yQ,bH (aM.1 c).1,cond_true,bq c,ae,ae,yL h,ae,azR];by_cases e:x.ak=[]
  ·rw[if_pos (.inl e),decide_eq_true e];rfl
  ·rw[decide_eq_false e]
   by_cases e2:0<=cL l x.ak
   ·rw[if_pos (.inr e2),decide_eq_false (show¬cL l x.ak<0 by omega)];rfl
   ·rw[if_neg (by simp[e,e2]),decide_eq_true (show cL l x.ak<0 by omega)];rfl) (λ k=>by rw[yQ,bG];rfl) b.2
 rw[l1,Nr];cases a.findSome? (n_ l)<;>rfl
theorem Wm{o:Option Int}(h:o=none\/o=some 5)(Y:Option (Way Int Unit)):cond (!o.isNone) (some (.out 5)) Y=gR o Y:=by rcases h with h |h<;>rw[h]<;>rfl
theorem Wx(k:Kind):n_ l k=none\/n_ l k=some 5:=tD (λ _=>akJ) _
theorem Lh{o a:Option Int}{Y:Option (Way Int Unit)}:gR o (gR a Y)=gR (o.or a) Y:=by cases o<;>rfl
theorem aG6(s:1100<F)(h:Right l):yJ F l F 0=some (cn ((sH l).findSome? (jY l))):=by
 have d:=h.len;have:=each (l:=l) (L:=yJ F l) (λ c=>(hL c).findSome? (jY l)) (by omega) (λ k n c b=>by
  have hc:=bB b;have t:=h.fields c hc;have u:=h.methods c hc;have o:BN F l (n:Int) F 0=some (cn (c.Fields.findSome? λ f=>n_ l f.Kind)):=each (l:=c.Fields) (λ f=>n_ l f.Kind) (by omega) (λ k i f hy=>by
   rw[BN,bq b,ae,bH (aM.1 hy).1,cond_true,ae,bq hy,ae,Su ⟨by omega,by omega⟩ ⟨by simp,by simp;omega⟩,ae];have e:[(⟨f.Kind.Kind,f.Kind.ak⟩:Kind)].findSome? (n_ l)=n_ l f.Kind:=aiG;rw[e];exact Wm (Wx _) _) (λ k=>by rw[BN,bq b,ae,bG];rfl) (by omega)
  have p:BO F l (n:Int) F 0=some (cn (c.bf.findSome? λ m=>(mt m).findSome? (jY l))):=each (l:=c.bf) (λ m=>(mt m).findSome? (jY l)) (by omega) (λ k i m hy=>by
   have q:=bB hy;obtain⟨v,w⟩:=h.method c hc m q;have r:BP F l m F 0=some (cn (m.cy.findSome? λ x=>jY l x.ak)):=each (l:=m.cy) (λ x=>jY l x.ak) (by omega) (λ k i x g=>by
    rw[BP,bH (aM.1 g).1,cond_true,bq g,ae,yL ⟨by omega,by omega⟩,ae];unfold jY;by_cases e2:0<=cL l x.ak
    ·rw[if_pos e2,decide_eq_false (show¬cL l x.ak<0 by omega)];rfl
    ·rw[if_neg e2,decide_eq_true (show cL l x.ak<0 by omega)];rfl) (λ k=>by rw[BP,bG];rfl) (by omega)
   have e:[(⟨m.Returns.Kind,m.Returns.ak⟩:Kind)].findSome? (n_ l)=n_ l m.Returns:=aiG;rw[BO,bq b,ae,bH (aM.1 hy).1,cond_true,ae,bq hy,ae,Su ⟨by omega,by omega⟩ ⟨by omega,by omega⟩,ae,Su ⟨by omega,by omega⟩ ⟨by simp,by simp;omega⟩,ae,r,e,oz];rw[Wm (Wx _),Wm (tD (λ k=>Wx k) _),Lh,Lh,qO,ox];congr 1;unfold mt;rw[kQ,kQ,ID,List.findSome?_map];cases j:m.cr.findSome? (n_ l)with
   |some a=>
    have:(m.cr.findSome? λ x=>(ea x).findSome? (jY l))=some a:=j
    rw[this];rfl
   |none=>
    have:(m.cr.findSome? λ x=>(ea x).findSome? (jY l))=none:=j
    rw[this];rfl) (λ k=>by rw[BO,bq b,ae,bG];rfl) (by omega)
  rw[yJ,bH (aM.1 b).1,cond_true,o,p,oz,oz,Lh,qO,ox];congr 1;unfold hL;rw[kQ,ID,ID];rfl) (λ k=>by rw[yJ,bG];rfl) (F:=F) (by omega)
 rw[this,sH,ID]
end
end I
