/- Part 6 of the proof that is ended in the last text: small logic, what the functions compute, walks, plain laws. -/
import Derived.Test.YteeliipnilghaaaGreatGs5
import Derived.Maps.RangeRun
import Derived.KernelRfl
import Derived.Test.YteeliipnilghaaaGreatProg
import Derived.Test.YteeliipnilghaaaGreatChecked
import Derived.Shelf.SlSortCmp.Whole1
import Derived.Sort.LotA
import Derived.Shelf.SlSortCmp.NoneTotal
open Array renaming getD_eq_getD_getElem?->eh,getElem?_eq_getElem->iU,getElem?_eq_none->hG,getElem?_modify->jr,getElem?_setIfInBounds->ff,getElem?_toList->ha
open Bool renaming and_eq_true->ca,eq_iff_iff->h5,false_eq_true->gT,false_or->hK,not_eq_true'->gG,not_false->hF,not_true->c7,or_eq_true->hA,true_and->jF,true_or->lr
open Classical renaming byContradiction->kd
open List renaming Pairwise.imp_of_mem->ke,all_eq_true->jM,append_nil->gH,cons.injEq->hq,cons_append->hX,drop_eq_getElem_cons->cw,drop_of_length_le->iA,exists_of_findSome?_eq_some->dX,ext_getElem?->jZ,findSome?_cons->ih,findSome?_eq_none_iff->fZ,flatMap_cons->hz,getElem?_cons_zero->de,getElem?_eq_getElem->aR,getElem?_eq_none->fk,getElem?_eq_some_iff->ba,getElem?_map->iY,getElem?_range->kC,getElem?_set_self->fE,getElem?_take->gK,length->hr,length_append->dj,length_cons->cT,length_erase_of_mem->kI,length_map->gJ,length_mergeSort->k6,length_nil->gI,length_pos_iff->kA,length_reverse->kh,length_take->fe,map_append->ja,map_cons->ea,map_map->lq,map_nil->hP,map_singleton->ko,mem_append->cg,mem_cons->cG,mem_cons_of_mem->eD,mem_cons_self->iz,mem_erase_of_ne->lp,mem_filter->iF,mem_iff_getElem->il,mem_map->ho,mem_map_of_mem->jq,mem_of_getElem?->b_,mem_singleton->dm,mergeSort_perm->j0,nodup_append->eT,nodup_cons->hJ,nodup_iff_pairwise_ne->j7,nodup_nil->kK,not_mem_nil->hI,pairwise_mergeSort->kM,perm_ext_iff_of_nodup->jJ,range->dR,set_getElem_self->kW,take->k1,take_add_one->j8,take_length->iH,take_of_length_le->hp
open Nat renaming beq->cx,blt->eN,eq_of_beq_eq_true->bF,le_of_ble_eq_true->cJ,le_refl->cP,le_trans->fR,lt_of_lt_of_le->ez,lt_or_ge->fO,mul_one->jl,zero_add->ji,zero_le->fY
open Option renaming bind_some->ae,getD_none->je,getD_some->ij,isSome_none->kH,map->dL,map_eq_some_iff->cF,map_none->iE,map_some->fs,some.inj->ee,some.injEq->aM
open Prod renaming fst->j2,mk.injEq->cI
noncomputable section
namespace a7
open Go Go.RowKit aw I Go.ChangeMaps
section
variable{P:Program}{ops:Array Oper}{o:Oper}{rest:List Oper}{a:Act}{w w':World}{v:Value}{Q:Exit->Act->World->Prop}
theorem eZ(b:o.guard=none)(hy:bc P o a w v w')(k:wpList P ops Q rest (a.put o.dst v) w'):wpList P ops Q (o::rest) a w:=by refine wpList_plain b λ c E1=>?_;unfold Oper.wp;rw[show(execOp a.eval o).run P w= .ok (.value v) w' from hy];exact E1 _ _ k
structure UJ (w:World) (r bm since clock:Nat) (es:Array MapEntry) (acc:List MapEntry):Prop where
 it:∃e0,since<=e0/\w.heap[r]? =some (.mapIter (some bm) since ⟨acc.map (·.born)⟩ e0)
 mp:w.heap[bm]? =some (.map es clock)
theorem aG1{l:List MapEntry}(h:(l.map (·.born)).Nodup):∀ {x y:MapEntry},x∈l->y∈l->x.born=y.born->x=y:=by
 induction l with
 |nil=>intro x y ad;simp at ad
 |cons z r c=>intro x y ad hy e;rw[ea]at h;have b:=hJ.1 h;rcases cG.1 ad with ex |FA;rcases cG.1 hy with Bl |yV;rw[ex,Bl];refine absurd ?_ b.1;rw[<-ex,e];exact jq (f:=(·.born)) yV;rcases cG.1 hy with Bl |yV;refine absurd ?_ b.1;rw[<-Bl,<-e];exact jq (f:=(·.born)) FA;exact c b.2 FA yV e
theorem Z_{α β:Type}{f:α->β}:∀ {l:List α},(l.map f).Nodup->l.Nodup
 |[],_=>kK
 |a::r,h=>by have b:=hJ.1 (show(f a::r.map f).Nodup from h);exact hJ.2 ⟨λ c=>b.1 (jq c),Z_ b.2⟩
theorem Z4:∀ {o Y:List Nat},o.Nodup->(∀a∈o,a∈Y)->o.length<=Y.length
 |[],Y,_,_=>fY _
 |a::r,Y,c,aj=>by have c:=hJ.1 c;have d:a∈Y:=aj a (by simp);have f:=Z4 (o:=r) (Y:=Y.erase a) c.2 λ b ag=>(lp λ e=>by subst e;exact c.1 ag).2 (aj b (by simp[ag]));rw[kI d]at f;have:0<Y.length:=List.length_pos_of_mem d;simp only[cT];omega
theorem aDA{es:List MapEntry}{acc:List MapEntry}(c:(es.map (·.born)).Nodup)(f:(acc.map (·.born)).Nodup)(aj:∀e∈acc,e∈es)(g:∀e∈es,e.born∈acc.map (·.born)):acc.Perm es:=by
 have b:acc.Nodup:=Z_ f;have ne:es.Nodup:=Z_ c;refine(jJ b ne).2 λ e=>⟨aj e,λ d=>?_⟩
 obtain⟨x,ad,e1⟩:=ho.1 (g e d);have:=aG1 c (aj x ad) d e1;exact this▸ad
def ab2(x4 EF gD mA:Nat)(tok:Nat)(jm oj nz lR om:Oper)(c:Code):Code:= .block x4 (.loop (.seq (.region gD #[jm,oj] false) (.seq (.cond (.tmp tok) .skip (.exit x4)) (.block EF (.seq (.region mA #[nz,lR,om] false) c)))))
theorem wX{d:Option Nat}{v:Value}:(a.put d v).tmps.size=a.tmps.size:=by cases d<;>simp[Act.put]
theorem yn{d t:Nat}{v:Value}(h:d≠t):(a.put (some d) v).tmps.getD t undef=a.tmps.getD t undef:=by simp only[Act.put,eh,ff,ly h]
theorem ym{d:Nat}{v:Value}(h:d<a.tmps.size):(a.put (some d) v).tmps.getD d undef=v:=by rw[Bv h,lz rfl]
theorem ES{t:Nat}:a.eval (.tmp t)=a.tmps.getD t undef:=rfl
def vC(l:List Nat)(a b:Act):Prop:=b.tmps.size=a.tmps.size/\b.defers=a.defers/\∀t,t∉l->b.tmps.getD t undef=a.tmps.getD t undef
theorem vC.refl{l:List Nat}{a:Act}:vC l a a:=⟨rfl,rfl,λ _ _=>rfl⟩
theorem vC.put{l:List Nat}{a b:Act}{d:Nat}{v:Value}(h:vC l a b)(aK:d∈l):vC l a (b.put (some d) v):=⟨wX.trans h.1,h.2.1,λ t c=>by rw[yn (λ(e:d=t)=>c (by rw[<-e];exact aK))];exact h.2.2 t c⟩
theorem aj0{n x4 EF gD mA r bm since clock ti tn tok te tk tv:Nat}{jm oj nz lR om:Oper}{c:Code}{es:Array MapEntry}(j:List MapEntry->Act->World->Prop)
 (oU:jm.op= .next (.tmp ti) false/\jm.dst=some tn/\jm.guard=none)(a1:oj.op= .extract (.tmp tn) 0/\oj.dst=some tok/\oj.guard=none)
 (L:nz.op= .entry (.tmp ti)/\nz.dst=some te/\nz.guard=none)(b5:lR.op= .extract (.tmp te) 0/\lR.dst=some tk/\lR.guard=none)(sl:om.op= .assign (.tmp tk)/\om.dst=some tv/\om.guard=none)
 (ag:(eN tn n&&eN tok n&&eN te n&&eN tk n)=true)(bY:(!(cx tn ti)&& !(cx tok ti)&& !(cx te ti)&& !(cx tk ti)&& !(cx tok tn)&& !(cx tk te))=true)
 (q:∀x∈es.toList,x.born<since)(Ft:since<=clock)(jy:(es.toList.map (·.born)).Nodup)
 (M:∀acc a w,j acc a w->a.tmps.size=n/\a.tmps.getD ti undef= .pointer (some ⟨r,0,none⟩)/\UJ w r bm since clock es acc/\(acc.map (·.born)).Nodup/\∀e∈acc,e∈es.toList)
 (N:∀acc e a d w w',j acc a w->e∈es.toList->e.born∉acc.map (·.born)->vC [tn,tok,te,tk,tv] a d->(tv<n->d.tmps.getD tv undef=e.key)->a_ [r] w w'->w'.heap.size=w.heap.size->(∃e0,since<=e0/\w'.heap[r]? =some (.mapIter (some bm) since ⟨(acc++[e]).map (·.born)⟩ e0)) ->
  c.wp P (λ x d w'=>x= .normal/\j (acc++[e]) d w') d w')
 (E':∀acc a d w,j acc a w->acc.Perm es.toList->vC [tn,tok] a d->Q .normal d w)(aH:j [] a w):(ab2 x4 EF gD mA tok jm oj nz lR om c).wp P Q a w:=by
 simp only[ca,gG]at ag bY
 obtain⟨⟨⟨D,E⟩,O⟩,R⟩:=ag
 have D:tn<n:=cJ D
 have E:tok<n:=cJ E
 have O:te<n:=cJ O
 have R:tk<n:=cJ R
 obtain⟨⟨⟨⟨⟨S,T⟩,Gb⟩,MJ⟩,aQL⟩,n6⟩:=bY
 have S:tn≠ti:=λ e=>by subst e;simp at S
 have T:tok≠ti:=λ e=>by subst e;simp at T
 have Gb:te≠ti:=λ e=>by subst e;simp at Gb
 obtain⟨By,s,t⟩:=oU
 obtain⟨u,y,A⟩:=a1
 obtain⟨U,V,W⟩:=L
 obtain⟨ua,oT,kg⟩:=b5
 obtain⟨X,Z,aAL⟩:=sl
 unfold ab2
 refine wp_block (wp_loop_ghost (λ m a w=>∃acc,j acc a w/\m=es.size-acc.length) _ ⟨[],aH,rfl⟩ λ m a w hm=>?_)
 obtain⟨acc,hi,Iw⟩:=hm
 obtain⟨sz,BP,⟨⟨e0,n0,F⟩,G⟩,aA,aj⟩:=M acc a w hi
 refine wp_seq (wp_region_list ?_)
 have kj:a.eval (.tmp ti)= .pointer (some ⟨r,0,none⟩):=BP
 rcases run_next_at (P:=P) w jm.type r bm since e0 ⟨acc.map (·.born)⟩ es clock F G q n0 with⟨ak,H⟩|⟨e,l,c0,I,H⟩
 ·have cC:bc P jm a w (.tuple #[.bool false]) w:=by
   simp only[bc,execOp,By,kj,Sem.run_bind,H,Result.andThen];rfl
  refine eZ t cC ?_;rw[s];refine eZ A (Ou (vs:=[.bool false]) (i:=0) (v:=.bool false) u (by rw[ES,ym (by rw[sz];exact D)]) rfl) ?_;rw[y];have XJ:(((a.put (some tn) (.tuple #[.bool false])).put (some tok) (.bool false)).eval (.tmp tok))= .bool false:=by rw[ES,ym (by rw[wX,sz];exact E)]
  refine wp_seq (wp_cond_split XJ (λ h=>by cases h) λ _=>wp_exit ?_);simp only[Exit.then,Exit.inBlock,if_true];refine E' acc a _ w hi (aDA jy aA aj λ e l=>?_) ((vC.refl.put (by simp)).put (by simp));have n1:leftOf es ⟨acc.map (·.born)⟩= #[]:=Array.eq_empty_of_size_eq_zero ak;apply kd;intro hc;have:e∈(leftOf es ⟨acc.map (·.born)⟩).toList:=by unfold leftOf;simp only[Array.toList_filter,iF];exact⟨l,by simpa using hc⟩
  rw[n1]at this;simp at this
 ·have XH:e∈es.toList/\e.born∉acc.map (·.born):=by
   unfold leftOf at l;simp only[Array.toList_filter,iF]at l;exact⟨l.1,by simpa using l.2⟩
  obtain⟨wj,BJ⟩:=XH;obtain⟨b,f⟩:∃b,b=setBlock c0 r (.mapIter (some bm) since ((⟨acc.map (·.born)⟩:Array Nat).push e.born) clock):=⟨_,rfl⟩
  rw[<-f]at H;have Iu:c0.heap=w.heap:=by rcases I with rfl |rfl<;>rfl
  have IB:r<w.heap.size:=by rcases fO r w.heap.size with h |h;exact h;rw[hG h]at F;cases F
  have aCl:((⟨acc.map (·.born)⟩:Array Nat).push e.born)=⟨(acc++[e]).map (·.born)⟩:=by simp
  have lJ:b.heap[r]? =some (.mapIter (some bm) since ((⟨acc.map (·.born)⟩:Array Nat).push e.born) clock):=by rw[f];simp only[setBlock,Iu];rw[ff,lz rfl,lz IB]
  have B:∀k,k≠r->b.heap[k]? =w.heap[k]? :=λ k hk=>by rw[f];simp only[setBlock,Iu];rw[ff,ly (λ e=>hk e.symm)]
  have aA4:bm≠r:=λ e=>by rw[e,F]at G;cases G
  have Ma:b.heap.size=w.heap.size:=by rw[f];simp[setBlock,Iu]
  have kZ:a_ [r] w b:=⟨by rw[f];rcases I with rfl |rfl<;>rfl,by rw[f];rcases I with rfl |rfl<;>rfl,by rw[f];rcases I with rfl |rfl<;>rfl,by rw[Ma];exact cP _,λ k _ hk=>B k (by simpa using hk)⟩
  have cC:bc P jm a w (.tuple #[.bool true,e.key,e.val]) b:=by simp only[bc,execOp,By,kj,Sem.run_bind,H,Result.andThen];rfl
  refine eZ t cC ?_;rw[s];refine eZ A (Ou (vs:=[.bool true,e.key,e.val]) (i:=0) (v:=.bool true) u (by rw[ES,ym (by rw[sz];exact D)]) rfl) ?_;rw[y];have XJ:(((a.put (some tn) (.tuple #[.bool true,e.key,e.val])).put (some tok) (.bool true)).eval (.tmp tok))= .bool true:=by rw[ES,ym (by rw[wX,sz];exact E)]
  refine wp_seq (wp_cond_split XJ (λ _=>wp_skip ?_) λ h=>by cases h);refine wp_block (wp_seq (wp_region_list ?_));obtain⟨p,K⟩:∃p,p=(a.put (some tn) (.tuple #[.bool true,e.key,e.val])).put (some tok) (.bool true):=⟨_,rfl⟩
  rw[<-K];have g:p.tmps.size=n:=by rw[K,wX,wX,sz]
  have aCL:p.eval (.tmp ti)= .pointer (some ⟨r,0,none⟩):=by rw[K,ES,yn T,yn S];exact BP
  have aBr:=run_entry_at (P:=P) b r bm since ⟨acc.map (·.born)⟩ es clock e lJ (by rw[B bm aA4];exact G) wj jy;have rS:bc P nz p b (.tuple #[e.key,e.val]) b:=by simp only[bc,execOp,U,aCL,Sem.run_bind,aBr,Result.andThen];rfl
  refine eZ W rS ?_;rw[V];refine eZ kg (Ou (vs:=[e.key,e.val]) (i:=0) (v:=e.key) ua (by rw[ES,ym (by rw[g];exact O)]) rfl) ?_;rw[oT];refine eZ aAL (Al X (v:=e.key) (by rw[ES,ym (by rw[wX,g];exact R)])) ?_;rw[Z];have h7:vC [tn,tok,te,tk,tv] a (((p.put (some te) (.tuple #[e.key,e.val])).put (some tk) e.key).put (some tv) e.key):=by rw[K];exact((((vC.refl.put (by simp)).put (by simp)).put (by simp)).put (by simp)).put (by simp)
  have:=N acc e a _ w b hi wj BJ h7 (λ Mc=>ym (by rw[wX,wX,g];exact Mc)) kZ Ma ⟨clock,Ft,by rw[lJ,aCl]⟩;refine Code.wp_mono (λ x d w' C=>?_) this;obtain⟨rfl,C⟩:=C;refine⟨es.size- (acc++[e]).length,?_,acc++[e],C,rfl⟩;have bz:acc.length<es.size:=by
   have h1:((acc++[e]).map (·.born)).Nodup:=(M _ _ _ C).2.2.2.1;have J:=Z4 h1 (Y:=es.toList.map (·.born)) λ x ad=>by obtain⟨z,ah,rfl⟩:=ho.1 ad;exact jq ((M _ _ _ C).2.2.2.2 z ah)
   simp at J;omega
  simp;omega
end
open Go Go.RowKit aw I
section
variable{E:Env}
def afe(E:Env)(n:cE)(ss:List Nat)(pas:List cy)(pbs:List bJ)(ec:lE)(fn:dy E.T.El pas×cK E.T.El pbs->Option (Aw E.T.El ec))(x r:Code):Prop:=
 ∀da db fc,fn (da,db)=some fc->∀(W:World)(M0:List Nat)(X:Nat->Prop)(ρ:List Value)(a:Act)(w:World),a.tmps.size=n.n->a.defers=n.ds->Told E W M0 X ss pas pbs da db ρ a w false ->
  ∀(rest:Code)(Q:Exit->Act->World->Prop),(∀(b:Act)(w':World)(c:List Value),b.tmps.size=n.n->b.defers=n.ds->Told E W M0 X ec.ss ec.eM ec.dw fc.1 fc.2 c b w' true ->
   To X (bN id (ch false pbs) false pbs db) (bN id (ch true ec.dw) true ec.dw fc.2) ρ c w w'->rest.wp E.P Q b w')->(Code.seq x (.seq r rest)).wp E.P Q a w
@[reducible] def MW{T:bQ}(ss:List Nat)(pas:List cy)(pbs:List bJ)(ec:lE)(fn:dy T.El pas×cK T.El pbs->Option (Aw T.El ec)):f' T:=⟨ss,pas,pbs,[ec],λ _ d=>fn d⟩
theorem aHt(D:E.cZ=[]){n:cE}{ss:List Nat}{pas:List cy}{pbs:List bJ}{ec:lE}{fn:dy E.T.El pas×cK E.T.El pbs->Option (Aw E.T.El ec)}{x r:Code}(ad:ec.x= .nm)(aK:afe E n ss pas pbs ec fn x r):AD E n ((MW ss pas pbs ec fn).run E 0) x r:=by
 intro rest s t b W M0 X b0 ρ0 w0 ρ a w Q h k;have F:∀ {G:Nat->Prop}{bl':List (aG E.T.El)}{ρ':List Value}{w':World},∀g y,cH E.cZ g=some y->av E.T (bi G bl' ρ' w') w' ρ' bl' y (.pointer (some ⟨g,0,none⟩)):=λ{_ _ _ _} g y m=>by rw[D]at m;simp[cH]at m
 unfold f'.run at b;split at b
 ·rename_i ys H;cases o:hx [] (MW ss pas pbs ec fn).pas (MW ss pas pbs ec fn).pbs s.bl ys with
  |mk bl cC=>
  rw[o]at b;simp only at b;obtain⟨e,f,jD,I⟩:=yh h.r.mem o (Cx h.r (cur:=[]) trivial H);split at b
  ·rename_i d sel q u;simp only[ca]at q;obtain⟨K,Xr,L⟩:=q;obtain⟨da,db⟩:=d;obtain⟨fc,M,J⟩:=amq b;obtain⟨d',e1,e2⟩:=J;simp only[aM]at e1;subst e1;obtain⟨aj,_,N⟩:=vZ f vN u;obtain⟨O,c⟩:=EW vN u;obtain⟨ev,bO⟩:=N (bi (kV X bl e sel) (bN id (ch false pbs) false pbs db) (hD e sel) w) λ k c=>aj.Ju c;have P:=aj.enter f bO;have R:=ev _ I;have v:(⟨Ka ec.x,⟨⟨xH ec.ss (gZ (jV sel bl.length) (fU bl sel ec.dw) ec.eM fc.1),[],[]⟩,hd bl sel ec.dw fc.2,sel++s.ws⟩⟩:b9 E.T.El)=t:=e2;refine aK da db fc M w _ _ _ a w h.r.dZ.et.size h.r.dZ.et.defers ⟨P,R⟩ rest Q λ S w' T U V z Y=>?_;obtain⟨A,eu⟩:=RO K (w:=ec) (by simp);obtain⟨Z,du,eH,eR⟩:=back (gq:=ch true ec.dw) f aj O (λ j i B p h h' C=>by obtain⟨B',e1,e2,_⟩:=c j i p h C;rw[h']at e1;cases e1;exact QS A C e2) A (λ i hi=>by obtain⟨j,ax,rfl⟩:=il.1 hi;obtain⟨B,e1,_⟩:=c j _ _ (aR ax) (aR (by have:=aj.len;rw[o_]at this;simp only[hD,gJ]at this;omega:j<pbs.length));exact(ba.1 e1).1) (λ j=>rfl) z.1 Y;have ID:=eR ec.eM fc.1 _ z.2;have q4:h3 s.bl ρ w w' sel:=by have:=h3.nil.bE jD eH;rwa [gH]at this
   have:=k (gX e sel T) S w' (by subst v;exact⟨⟨Z,⟨⟨U,V,λ t y hy=>Ug ID hy⟩,λ p l=>by simp at l,λ p l=>by simp at l⟩,F⟩,h.to.trans (jD.trans du),h.wr.bE h.to q4⟩);rw[<-v]at this;rw[ad]at this;exact this
  ·exact b.elim
 ·exact b.elim
end
section
variable{E:Env}{bw:fP E}{W:World}{M0:List Nat}{X:Nat->Prop}{n:cE}{b0:List (aG E.T.El)}{ρ0:List Value}{w0:World}{ops:Array Oper}{Q:Exit->Act->World->Prop}
theorem RR(a1:dr E)(i:mP E bw){rest:List Oper}:∀(os:List Oper){s:fg E.T.El}{t:b9 E.T.El}{ρ:List Value}{a:Act}{w:World},(opsL E bw ops n.n os s).out t->t.x= .nm->j' E W M0 X n b0 ρ0 w0 s ρ a w->(∀ρ' j w',j' E W M0 X n b0 ρ0 w0 t.s ρ' j w'->wpList E.P ops Q rest j w')->wpList E.P ops Q (os++rest) a w
 |[],s,t,ρ,a,w,c,_,h,k=>by have c:(⟨.nm,s⟩:b9 E.T.El)=t:=c;subst c;exact k ρ a w h
 |o::r,s,t,ρ,a,w,c,f,h,k=>by
  simp only[opsL]at c;show wpList E.P ops Q (o::(r++rest)) a w
  split at c
  ·obtain⟨q,l,J⟩:=D.la c;rw[Gl]at J;obtain⟨d,aK,u,m,hy⟩:=aaB (ops:=ops) a1 h.r l;have next:=RR a1 i r J f (ρ:=ρ) (a:=a.put (some d) u) (w:=w) ⟨m,h.to,h.wr⟩ k
   refine wpList_step λ K p=>?_;rcases hy with⟨e,hy⟩|⟨e,hy⟩
   ·rw[lz e];unfold Oper.wp;rw[show(execOp a.eval o).run E.P w=_ from hy.now];show K (a.put o.dst u) w
    rw[aK];exact p _ _ next
   ·rw[ly (by simp[e]),aK,<-hy];exact p _ _ next
  ·exact c.elim
  ·obtain⟨b,l,J⟩:=D.la c;have ad:=aen a1 i h.r l
   have ad:=ad (wpList E.P ops Q (r++rest)) Q λ ρ' j w' m v e=>by
    have aj:=h.next m v e;cases g:b.x with
    |nm=>rw[g]at J;simp only[Gl,RK]at J;exact RR a1 i r J f aj k
    |ex id=>rw[g]at J;have J:(⟨.ex id,b.s.f,b.s.bl,b.s.ws++s.ws⟩:b9 E.T.El)=t:=J;subst J;cases f
    |rt=>rw[g]at J;have J:(⟨.rt,b.s.f,b.s.bl,b.s.ws++s.ws⟩:b9 E.T.El)=t:=J;subst J;cases f
    |iX y=>rw[g]at J;have J:(⟨.iX y,b.s.f,b.s.bl,b.s.ws++s.ws⟩:b9 E.T.El)=t:=J;subst J;cases f
   unfold wpList;split;rename_i e;rw[lz e]at ad;exact .inl ad;rename_i e;rw[ly e]at ad;exact ad
def Kl(E:Env):fP E:=λ _ _ _=>.no
theorem ahS:mP E (Kl E):=⟨λ _ _ _ _ h=>h.elim⟩
theorem aAb(b:E.cZ=[]){c:Nat->Prop}{bl':List (aG E.T.El)}{ρ':List Value}{w':World}:∀g y,cH E.cZ g=some y->av E.T (bi c bl' ρ' w') w' ρ' bl' y (.pointer (some ⟨g,0,none⟩)):=λ g y a=>by rw[b]at a;simp[cH]at a
theorem ZH(c:E.cZ=[]){bl:List (aG E.T.El)}{ρ:List Value}{a:Act}{w:World}{fr:List (Nat×aL E.T.El)}(d:Mem E.T W M0 X bl ρ w)(e:a.tmps.size=n.n)(J:a.defers=n.ds)(f:∀t y,cH fr t=some y->av E.T (bi X bl ρ w) w ρ bl y (a.tmps.getD t undef)):R E W M0 X n ⟨fr,[],[]⟩ bl ρ a w:=⟨d,⟨⟨e,J,f⟩,λ p b=>by simp at b,λ p b=>by simp at b⟩,aAb c⟩
theorem ak8{f:cA E.T.El}{bl:List (aG E.T.El)}{ρ:List Value}{a:Act}{w:World}(h:R E W M0 X n f bl ρ a w):j' E W M0 X n bl ρ w ⟨f,bl,[]⟩ ρ a w:=⟨h,.refl,.nil⟩
end
structure AE where
 ab3:Nat
 ops:Array Oper
 x4:Nat
 EF:Nat
 gD:Nat
 mA:Nat
 tok:Nat
 jm:Oper
 oj:Oper
 nz:Oper
 lR:Oper
 om:Oper
 c5:Nat
 qh:Array Oper
 fc:Nat
 zM:Array Oper
def AE.x(d:AE):Code:=.seq (.region d.ab3 d.ops false) (ab2 d.x4 d.EF d.gD d.mA d.tok d.jm d.oj d.nz d.lR d.om (.region d.c5 d.qh false))
def AE.r(d:AE):Code:=.region d.fc d.zM false
def Jh:Code->Code->Option AE
 | .seq (.region ab3 ops false) (.block x4 (.loop (.seq (.region gD ⟨[jm,oj]⟩ false) (.seq (.cond (.tmp tok) .skip (.exit a)) (.block EF (.seq (.region mA ⟨[nz,lR,om]⟩ false) (.region c5 qh false))))))),.region fc zM false=>match cx x4 a with
   |true=>some ⟨ab3,ops,x4,EF,gD,mA,tok,jm,oj,nz,lR,om,c5,qh,fc,zM⟩
   |false=>none
 |_,_=>none
theorem al4{x r:Code}{d:AE}(h:Jh x r=some d):x=d.x/\r=d.r:=by unfold Jh at h;split at h;split at h;rename_i ag;cases h;rw[<-bF ag];exact⟨rfl,rfl⟩;cases h;cases h
section
variable{E:Env}{bw:fP E}{W:World}{M0:List Nat}{X:Nat->Prop}{n:cE}{ops:Array Oper}{Q:Exit->Act->World->Prop}
theorem Mem.ahI{bl bl':List (aG E.T.El)}{ρ ρ':List Value}{w w':World}(h:Mem E.T W M0 X bl ρ w)(h':Mem E.T W M0 X bl' ρ' w')(aj:w.heap.size<=w'.heap.size)(ag:∀k,k<w.heap.size->w'.heap[k]? =w.heap[k]?):a_ [] w w':=⟨h'.bU.os.trans h.bU.os.symm,h'.bU.tape.trans h.bU.tape.symm,h'.bU.output.trans h.bU.output.symm,aj,λ k a _=>ag k a⟩
theorem Sm(a1:dr E)(e:E.cZ=[]){bl:List (aG E.T.El)}{ρ:List Value}{a:Act}{w:World}{fr:List (Nat×aL E.T.El)}{os rest:List Oper}{α:Type}{K:b9 E.T.El->Option α}{z:α}
 (c:Mem E.T W M0 X bl ρ w)(f:a.tmps.size=n.n)(J:a.defers=n.ds)(g:∀t y,cH fr t=some y->av E.T (bi X bl ρ w) w ρ bl y (a.tmps.getD t undef))
 (h:(opsL E (Kl E) ops n.n os ⟨⟨fr,[],[]⟩,bl,[]⟩).run K=some z)(j:∀t,K t=some z->t.x= .nm/\t.s.ws=[])
 (k:∀t ρ' b w',K t=some z->R E W M0 X n t.s.f t.s.bl ρ' b w'->To X bl t.s.bl ρ ρ' w w'->a_ [] w w'->wpList E.P ops Q rest b w'):wpList E.P ops Q (os++rest) a w:=by
 obtain⟨t,l,d⟩:=D.uY h
 obtain⟨ad,m⟩:=j t d
 refine RR a1 ahS os l ad (ak8 (ZH e c f J g)) λ ρ' b w' aj=>?_
 refine k t ρ' b w' d aj.r aj.to (c.ahI aj.r.mem aj.to.sz λ q o=>aj.wr q o λ i hi=>?_)
 rw[m]at hi
 simp at hi
end
def jW(W:List Int):List Int->Int->Option Int
 |[],n=>some n
 |k::r,n=>(idx W (ap (k+1))).bind λ v=>jW W r (ap (n+ap (3+v)))
theorem anV{W:List Int}{x:Int}:∀ {l:List Int}{n:Int},jW W (l++[x]) n=(jW W l n).bind λ m=>(idx W (ap (x+1))).bind λ v=>some (ap (m+ap (3+v)))
 |[],n=>rfl
 |k::r,n=>by
  simp only[hX,jW];cases idx W (ap (k+1))with
  |none=>rfl
  |some v=>exact anV
theorem anU{W:List Int}:∀ {l:List Int}{n m:Int},jW W l n=some m->∀x∈l,∃v,idx W (ap (x+1))=some v
 |[],n,m,_,x,ad=>by simp at ad
 |k::r,n,m,h,x,ad=>by obtain⟨v,a,J⟩:=fz h;rcases cG.1 ad with rfl |ad;exact⟨v,a⟩;exact anU J x ad
theorem acx{W:List Int}{l l':List Int}(h:l.Perm l'):∀n,jW W l n=jW W l' n:=by
 induction h with
 |nil=>intro n;rfl
 |cons x _ c=>
  intro n;simp only[jW];cases idx W (ap (x+1))with
  |none=>rfl
  |some v=>exact c _
 |swap x y l=>
  intro n;simp only[jW];cases ad:idx W (ap (x+1))with
  |none=>
   cases hy:idx W (ap (y+1))with
   |none=>rfl
   |some v=>simp[ad]
  |some u=>
   cases hy:idx W (ap (y+1))with
   |none=>simp[hy]
   |some v=>simp only[ae,ad,hy];congr 1;unfold ap;omega
 |trans _ _ a b=>intro n;rw[a,b]
def lN(e:MapEntry):Int:=match e.key with
 | .int _ x=>x
 |_=>0
theorem MA{α:Type}:∀ {fr:List (Nat×α)}{t:Nat}{y:α},cH fr t=some y->(t,y)∈fr
 |[],t,y,h=>by simp[cH]at h
 |p::r,t,y,h=>by unfold cH at h;split at h;rename_i ag;simp only[aM]at h;have:=bF ag;subst this;subst h;exact iz;exact eD _ (MA h)
def oS{El:Nat->Type}(f:cA El)(s:Nat):Option Value:=match cH f.fr s with
 |some (.p v)=>some v
 |_=>none
theorem aAc{El:Nat->Type}{f:cA El}{s:Nat}{v:Value}(h:oS f s=some v):cH f.fr s=some (.p v):=by unfold oS at h;split at h;rename_i e;simp only[aM]at h;rw[e,h];cases h
def yo{El:Nat->Type}(f:cA El):List Nat->Option (List Value)
 |[]=>some []
 |s::r=>(oS f s).bind λ v=>(yo f r).bind λ vs=>some (v::vs)
theorem P8{T:bQ}{F:Nat->Prop}{w:World}{ρ:List Value}{bl:List (aG T.El)}{n:cE}{f:cA T.El}{a:Act}(b:tw T F w ρ bl n f.fr a):∀ {ss:List Nat}{vs:List Value},yo f ss=some vs->ss.map (λ s=>a.tmps.getD s undef)=vs
 |[],vs,h=>by simp only[yo,aM]at h;subst h;rfl
 |s::r,vs,h=>by obtain⟨v,d,J⟩:=fz h;obtain⟨us,e,c⟩:=fz J;simp only[aM]at c;subst c;have:=b.get s _ (aAc d);simp only[av]at this;rw[ea,this,P8 b e]
def rowAt{El:Nat->Type}(bl:List (aG El))(i:Nat):Option (Nat× Σ t,List (El t)):=match bl[i]? with
 |some (.r t g _ l)=>some (g,⟨t,l⟩)
 |_=>none
theorem aKm{El:Nat->Type}{bl:List (aG El)}{i t g:Nat}{l:List (El t)}(h:rowAt bl i=some (g,⟨t,l⟩)):∃k,bl[i]? =some (.r t g k l):=by unfold rowAt at h;split at h;rename_i e;simp only[aM,cI,Sigma.mk.injEq]at h;obtain⟨rfl,rfl,h⟩:=h;cases h;exact⟨_,e⟩;cases h
section
variable{T:bQ}{W w w':World}{M0:List Nat}{X:Nat->Prop}{bl bl':List (aG T.El)}{ρ ρ':List Value}
theorem Mem.ahF{M:List Nat}(h:Mem T W M0 X bl ρ w)(h':Mem T W M0 X bl' ρ' w')(aj:w.heap.size<=w'.heap.size)(ag:∀k,k<w.heap.size->k∉M->w'.heap[k]? =w.heap[k]?):a_ M w w':=⟨h'.bU.os.trans h.bU.os.symm,h'.bU.tape.trans h.bU.tape.symm,h'.bU.output.trans h.bU.output.symm,aj,ag⟩
theorem Mem.ab8(b:Mem T W M0 X bl ρ w){i t g k:Nat}{l0:List (T.El t)}{a:Value}(hi:bl[i]? =some (.r t g k l0))(d:ρ[i]? =some a):∃A c xs,a= .slice A l0.length c/\rowIs w t (T.ty t).size a l0.length xs/\dN (T.ty t) (bi X bl ρ w) w xs l0:=b.ok i _ _ hi d
theorem Mem.ane(b:Mem T W M0 X bl ρ w){i t g k:Nat}{l0 l:List (T.El t)}{a:Value}{A:Option Addr}{c:Nat}{xs:List Value}
 (hi:bl[i]? =some (.r t g k l0))(d:ρ[i]? =some a)(f:a_ (a7.ag a) w w')(h:∀k∈a7.ag (.slice A l.length c),k∈a7.ag a\/(w.heap.size<=k/\k<w'.heap.size))
 (m:rowIs w' t (T.ty t).size (.slice A l.length c) l.length xs)(ad:∀F,dN (T.ty t) F w' xs l) :
 Mem T W M0 X (bl.set i (.r t (g+1) 0 l)) (ρ.set i (.slice A l.length c)) w'/\To X bl (bl.set i (.r t (g+1) 0 l)) ρ (ρ.set i (.slice A l.length c)) w w':=by
 have n:ms a:=by obtain⟨p,e0,_,e,_⟩:=b.ab8 hi d;rw[e];trivial
 have j:=b.Gw (B':=.r t (g+1) 0 l) (h':=.slice A l.length c) hi d f h ⟨λ o=>absurd n o,by simp[b1],λ e=>by simp[b1]at e⟩
 exact⟨b.df hi d f h j ⟨A,c,xs,rfl,m,ad _⟩,j⟩
end
section
variable{E:Env}
structure tu (T:bQ) where
 pas:List cy
 pbs:List bJ
 R:Type
 v:R->Value
 YZ:Value->Option R
 fn:dy T.El pas×cK T.El pbs->Option R
def tu.run(E:Env)(c:tu E.T)(ys:List (aL E.T.El))(bl:List (aG E.T.El)):D (fS E.T.El):=match hx [] c.pas c.pbs bl ys with
 |(a,b)=>match jx a [] false c.pas c.pbs b with
  |some (d,_)=>.op (c.fn d) λ x=>.ok ⟨.ret (.p (c.v x)),a,[]⟩
  |none=>.no
def tu.fin{T:bQ}(c:tu T)(r:fS T.El):Option c.R:=match r.e,r.ws with
 | .ret (.p u),[]=>c.YZ u
 |_,_=>none
def tu.Eq(E:Env)(bw:fP E)(LE:mQ E)(f:Nat)(c:tu E.T):Prop:=∀(da:dy E.T.El c.pas)(db:cK E.T.El c.pbs),(pV E bw LE f (gZ id (ch false c.pbs) c.pas da) (bN id (ch false c.pbs) false c.pbs db)).run c.fin=c.fn (da,db)
theorem aw5{f:Nat}{bw:fP E}{LE:mQ E}(a1:dr E)(q:mP E bw)(s:xN E LE)(t:E.cZ=[]){c:tu E.T}(hi:∀u x,c.YZ u=some x->u=c.v x)(z:c.Eq E bw LE f):kQ E f (c.run E):=by
 intro ys A r a W M0 X ρ0 w vs B _ C;unfold tu.run at a;cases n:hx [] c.pas c.pbs A ys with
 |mk bl S=>
 rw[n]at a;obtain⟨ρ,l,jD,F⟩:=yh B n C;simp only at a;split at a
 ·rename_i d sel G;obtain⟨da,db⟩:=d;obtain⟨x,H,J⟩:=a;have J:(⟨.ret (.p (c.v x)),bl,[]⟩:fS E.T.El)=r:=J;subst J;obtain⟨aj,_,I⟩:=vZ l vN G;obtain⟨ev,bO⟩:=I (bi (kV X bl ρ sel) (bN id (ch false c.pbs) false c.pbs db) (hD ρ sel) w) λ k b=>aj.Ju b;have o:=aj.enter l bO;obtain⟨T,K,j⟩:=D.uY ((z da db).trans H);have L:∀ {M bl' ρ' w'},Km E M bl' ρ' w':=λ{_ _ _ _} g y p=>by rw[t]at p;simp[cH]at p
  have hc:=((PP a1 q s).ok _ _ _ _ K).2 _ _ _ _ _ vs o L (ev vs F);refine hc.mono λ e w' N=>?_;obtain⟨DB,hR,O,mF,h⟩:=N;unfold tu.fin at j;split at j
  ·rename_i u nn P;have Q:=hi _ _ j;subst Q;have m:a_ [] w w':=o.ahF hR O.sz λ k b _=>mF k b λ i hi=>by rw[P]at hi;simp at hi
   refine⟨ρ,l.fo m,jD.trans (Mem.u' m),λ k b _=>m.block k b (by simp),?_⟩;rw[nn]at h;cases e with
   |returned v=>
    simp only[AZ,av]at h;have R:av E.T (bi X bl ρ w') w' ρ bl (.p (c.v x)) v:=by simp only[av];exact h
    exact R
   |panicked _=>exact h.elim
   |_=>exact h.elim
  ·cases j
 ·exact a.elim
def aS.rd(s:aS E)(f:Nat)(c:tu E.T)(a:c.Eq E s.t.bw s.t.LE f)(hi:∀u x,c.YZ u=some x->u=c.v x)(b:fJ E.cm f=true:=by kernel_rfl):aS E:=⟨s.t.f f (c.run E),λ h=>(s.ok h).qM b (aw5 h (m' h (s.ok h).ce (s.ok h).le 100) (s.ok h).le s.cZ hi a),s.cZ⟩
theorem cX.Ok.azJ{t:cX E}(a1:dr E)(h:t.Ok){f:Nat}(b:fJ E.cm f=true){c:iN E.T}(hc:kQ E f (c.run E)):(t.yj f c).Ok:=by refine h.qM b λ ys bl r a=>?_;split at a;exact hc ys bl r a;exact((m' a1 h.ce h.le 100).ok f ys bl r a).2
def aS.dM(s:aS E)(f:Nat)(c:iN E.T)(hc:kQ E f (c.run E))(a:fJ E.cm f=true:=by kernel_rfl):aS E:=⟨s.t.yj f c,λ h=>(s.ok h).azJ h a hc,s.cZ⟩
structure DE (T:bQ) where
 ss:List Nat
 pas:List cy
 pbs:List bJ
 out:Nat
 R:Type
 v:R->Value
 fn:dy T.El pas×cK T.El pbs->Option R
def DE.run(E:Env)(c:DE E.T)(s:fg E.T.El):D (b9 E.T.El):=match rl E s.bl s.f [] (c.ss.map .tmp)with
 |some ys=>match hx [] c.pas c.pbs s.bl ys with
  |(a,b)=>match jx a [] false c.pas c.pbs b with
   |some (d,_)=>.op (c.fn d) λ x=>.ok ⟨.nm,⟨⟨[(c.out,.p (c.v x))],[],[]⟩,a,s.ws⟩⟩
   |none=>.no
 |none=>.no
def DE.AA(E:Env)(n:cE)(c:DE E.T)(x r:Code):Prop:=
 ∀da db fc,c.fn (da,db)=some fc->∀(W:World)(M0:List Nat)(X:Nat->Prop)(ρ:List Value)(a:Act)(w:World),a.tmps.size=n.n->a.defers=n.ds->Told E W M0 X c.ss c.pas c.pbs da db ρ a w false ->
  ∀(rest:Code)(Q:Exit->Act->World->Prop),(∀(b:Act)(w':World),b.tmps.size=n.n->b.defers=n.ds->b.tmps.getD c.out undef=c.v fc->a_ [] w w'->rest.wp E.P Q b w')->(Code.seq x (.seq r rest)).wp E.P Q a w
theorem aw4(o:E.cZ=[]){n:cE}{c:DE E.T}{x r:Code}(aK:c.AA E n x r):AD E n (c.run E) x r:=by
 intro rest s t b W M0 X b0 ρ0 w0 ρ a w Q h k;have u:∀ {v:Nat->Prop}{bl':List (aG E.T.El)}{ρ':List Value}{w':World},∀g y,cH E.cZ g=some y->av E.T (bi v bl' ρ' w') w' ρ' bl' y (.pointer (some ⟨g,0,none⟩)):=λ{_ _ _ _} g y l=>by rw[o]at l;simp[cH]at l
 unfold DE.run at b;split at b
 ·rename_i ys z;cases m:hx [] c.pas c.pbs s.bl ys with
  |mk bl O=>
  rw[m]at b;simp only at b;obtain⟨e,f,jD,A⟩:=yh h.r.mem m (Cx h.r (cur:=[]) trivial z);split at b
  ·rename_i d sel B;obtain⟨da,db⟩:=d;obtain⟨fc,C,J⟩:=b;have J:(⟨.nm,⟨⟨[(c.out,.p (c.v fc))],[],[]⟩,bl,s.ws⟩⟩:b9 E.T.El)=t:=J;obtain⟨aj,_,D⟩:=vZ f vN B;obtain⟨ev,bO⟩:=D (bi (kV X bl e sel) (bN id (ch false c.pbs) false c.pbs db) (hD e sel) w) λ k F=>aj.Ju F;have G:=aj.enter f bO;have H:=ev _ A;refine aK da db fc C w _ _ _ a w h.r.dZ.et.size h.r.dZ.et.defers ⟨G,H⟩ rest Q λ I w' K L M i=>?_
   have:=k e I w' (by
    subst J;refine⟨⟨f.fo i,⟨⟨K,L,λ t y hy=>?_⟩,λ p j=>by simp at j,λ p j=>by simp at j⟩,u⟩,h.to.trans (jD.trans (Mem.u' i)),?_⟩;have:=MA hy;simp only[dm,cI]at this;obtain⟨rfl,rfl⟩:=this;simp only[av];exact M
    ·have:=h.wr.bE h.to (s':=[]) (w'':=w') (bl':=s.bl) (ρ':=ρ) λ q N _=>i.block q N (by simp)
     exact this)
   rw[<-J]at this;exact this
  ·exact b.elim
 ·exact b.elim
end
end a7
namespace Go.Proofs.YteeliipnilghaaaGreat
open Go Go.RowKit aw I a7
@[reducible] def vd:List bJ:=[.c 140 [.B 1,.l 134,.l 3,.l 124,.l 120,.l 121,.M 2],.c 24 [.l 3,lS,lS,lS,lS,.l 3,lS],.m 3 4]
noncomputable def vf:Code×Code:=((Gm Tryz.prog 55 0).getD (.skip,.skip))
def iG:AE:=(Jh vf.1 vf.2).getD ⟨0,#[],0,0,0,0,0,default,default,default,default,default,0,#[],0,#[]⟩
theorem aLT:Gm Tryz.prog 55 0=some vf:=by kernel_rfl
theorem aLV:Jh vf.1 vf.2=some iG:=by kernel_rfl
def aLX(d:dy bf.El [.p (.B 0),lL]×cK bf.El vd):List Int:=List.map (α:=Int×Bool) j2 d.2.2.2.1
def acQ:DE bf:=⟨[0,3],[.p (.B 0),lL],vd,2,Int,.int .i64,λ d=>jW d.2.2.1.1 (aLX d) d.1.2.1⟩
theorem aLW:iG.jm.op= .next (.tmp 9) false/\iG.jm.dst=some 10/\iG.jm.guard=none:=by refine⟨?_,?_,?_⟩<;>kernel_rfl
theorem aLY:iG.oj.op= .extract (.tmp 10) 0/\iG.oj.dst=some 11/\iG.oj.guard=none:=by refine⟨?_,?_,?_⟩<;>kernel_rfl
theorem aLZ:iG.nz.op= .entry (.tmp 9)/\iG.nz.dst=some 12/\iG.nz.guard=none:=by refine⟨?_,?_,?_⟩<;>kernel_rfl
theorem aL0:iG.lR.op= .extract (.tmp 12) 0/\iG.lR.dst=some 13/\iG.lR.guard=none:=by refine⟨?_,?_,?_⟩<;>kernel_rfl
theorem aL1:iG.om.op= .assign (.tmp 13)/\iG.om.dst=some 4/\iG.om.guard=none:=by refine⟨?_,?_,?_⟩<;>kernel_rfl
def aL4:List Oper:=iG.ops.toList.take 4
def NS:Oper:=(iG.ops.toList.drop 4).headD iG.jm
theorem aL2:iG.ops.toList=aL4++[NS]:=by kernel_rfl
theorem acT:NS.op= .range 70 (.tmp 8)/\NS.dst=some 9/\NS.guard=none:=by refine⟨?_,?_,?_⟩<;>kernel_rfl
def gU{T:bQ}(t:b9 T.El):Bool:=match t.x,t.s.ws with
 | .nm,[]=>true
 |_,_=>false
theorem QO{T:bQ}{t:b9 T.El}(h:gU t=true):t.x= .nm/\t.s.ws=[]:=by unfold gU at h;split at h;rename_i a J;exact⟨a,J⟩;cases h
def acR(t:b9 bf.El):Option (Nat×Nat×Nat×Value):=match gU t,cH t.s.f.fr 8,cH t.s.f.fr 0,cH t.s.f.fr 3 with
 |true,some (.m j),some (.b i o),some (.p u)=>some (j,i,o,u)
 |_,_,_,_=>none
theorem aox{t:b9 bf.El}{j i o:Nat}{u:Value}(h:acR t=some (j,i,o,u)):gU t=true/\cH t.s.f.fr 8=some (.m j)/\cH t.s.f.fr 0=some (.b i o)/\cH t.s.f.fr 3=some (.p u):=by unfold acR at h;split at h;rename_i a J b c;simp only[aM,cI]at h;obtain⟨rfl,rfl,rfl,rfl⟩:=h;exact⟨a,J,b,c⟩;cases h
def S'(t:b9 bf.El):Option (Value×Nat×Nat×Value):=match gU t,cH t.s.f.fr 9,cH t.s.f.fr 0,cH t.s.f.fr 3 with
 |true,some (.p v),some (.b i o),some (.p u)=>some (v,i,o,u)
 |_,_,_,_=>none
theorem aoy{t:b9 bf.El}{v:Value}{i o:Nat}{u:Value}(h:S' t=some (v,i,o,u)):gU t=true/\cH t.s.f.fr 9=some (.p v)/\cH t.s.f.fr 0=some (.b i o)/\cH t.s.f.fr 3=some (.p u):=by unfold S' at h;split at h;rename_i a J b c;simp only[aM,cI]at h;obtain⟨rfl,rfl,rfl,rfl⟩:=h;exact⟨a,J,b,c⟩;cases h
theorem afw{T:bQ}{F F':Nat->Prop}{w w':World}{ρ ρ':List Value}{bl bl':List (aG T.El)}{i o:Nat}{v a:Value}(b:oK T ρ ρ' bl bl')(h:av T F w ρ bl (.b i o) v)(h':av T F' w' ρ' bl' (.b i o) a):a=v:=by simp only[av]at h h';obtain⟨g,e1,e2⟩:=h;obtain⟨g',e3,e4⟩:=h';obtain⟨u,c,d,_⟩:=b.at_ i _ e1;have:=d (by simp[ms]);rw[c,this]at e3;cases e3;rw[e2,e4]
theorem VA{F:Nat->Prop}{w:World}:∀ {es:List MapEntry}{d:List (Int×Bool)},kR (kt:=3) (vt:=4) bf F w wy es d->es.map lN=d.map j2
 |[],[],_=>rfl
 |[],_::_,h=>h.elim
 |_::_,[],h=>h.elim
 |e::es,p::d,h=>by obtain⟨a,_,b⟩:=h;rw[ea,ea,VA b];congr 1;unfold lN;rw[a];rfl
theorem Zx{El:Nat->Type}{s t u:Nat}{x y z:aL El}(h:cH [(s,x),(t,y)] u=some z):(u=s/\z=x)\/(u=t/\z=y):=by simp only[cH]at h;split at h;rename_i ag;simp only[aM]at h;exact .inl ⟨(bF ag).symm,h.symm⟩;split at h;rename_i ag;simp only[aM]at h;exact .inr ⟨(bF ag).symm,h.symm⟩;cases h
theorem Vz{F:Nat->Prop}{w:World}:∀ {es:List MapEntry}{d:List (Int×Bool)},kR (kt:=3) (vt:=4) bf F w wy es d->∀e∈es,e.key= .int .i64 (lN e)
 |[],_,_,e,he=>by simp at he
 |_::_,[],h,_,_=>h.elim
 |x::es,p::d,h,e,he=>by obtain⟨a,_,b⟩:=h;rcases cG.1 he with rfl |he;unfold lN;rw[a];rfl;exact Vz b e he
theorem aFF{El:Nat->Type}{b c d a u:Nat}{e f g i z:aL El}(h:cH [(b,e),(c,f),(d,g),(a,i)] u=some z):(u=b/\z=e)\/(u=c/\z=f)\/(u=d/\z=g)\/(u=a/\z=i):=by unfold cH at h;split at h;rename_i ag;simp only[aM]at h;exact .inl ⟨(bF ag).symm,h.symm⟩;unfold cH at h;split at h;rename_i ag;simp only[aM]at h;exact .inr (.inl ⟨(bF ag).symm,h.symm⟩);exact .inr (.inr (Zx h))
def acS(t:b9 bf.El):Option (List Value):=match gU t with
 |true=>yo t.s.f [2]
 |false=>none
theorem aoz{t:b9 bf.El}{z}(h:acS t=some z):gU t=true/\yo t.s.f [2]=some z:=by unfold acS at h;split at h;rename_i a;exact⟨a,h⟩;cases h
set_option maxRecDepth 100000
theorem aMb:acQ.AA aE ⟨29,[]⟩ vf.1 vf.2:=by
 intro da db fc fV W M0 X ρ a w cq uh eW rest Q k;obtain⟨ad,au⟩:=al4 aLV;rw[ad,au];obtain⟨aQ4,(f:Int),aQ5⟩:=da;obtain⟨M,⟨(g:List Int),N⟩,(j:List (Int×Bool)),O⟩:=db;obtain⟨S,Xw⟩:∃S:Int,S=fc:=⟨fc,rfl⟩
 subst Xw;have eu:jW g (j.map j2) f=some S:=fV;obtain⟨A,l⟩:=eW;have l:aZ bf _ w ρ _ [.b 0 0,.p (.int .i64 f)] [a.tmps.getD 0 undef,a.tmps.getD 3 undef]:=l;simp only[aZ]at l;obtain⟨v0,l0,b8,C,v3,k7,e3,aq,e4⟩:=l;simp only[hq]at b8;obtain⟨rfl,rfl⟩:=b8;simp only[hq]at e3;obtain⟨rfl,rfl⟩:=e3;obtain⟨BG,e2⟩:=A.ux (i:=2) (B:=.m 3 4 j) rfl;obtain⟨bm,E8,UK,Xv,es,clock,wj,Lz,Yl,Ih⟩:=A.ok 2 (.m 3 4 j) _ rfl e2;subst E8;obtain rfl:UK=(wy:jd (aE.T.El 3)):=by
  have Xp:(aE.T.e 3).key=some (wy:jd (aE.T.El 3)):=by kernel_rfl
  exact ee (Xv.symm.trans Xp)
 have LN:=VA Lz;have jy:(es.toList.map (·.born)).Nodup:=j7.2 (Yl.imp λ h=>Nat.ne_of_lt h);refine wp_seq (wp_seq (wp_region_list ?_));rw[aL2];refine Sm (n:=⟨29,[]⟩) (K:=acR) (z:=(2,0,0,.int .i64 f)) kY rfl A cq uh (fr:=[(0,.b 0 0),(3,.p (.int .i64 f))]) (λ t y hy=>?_) (by kernel_rfl) (λ t h=>QO (aox h).1) λ t eP q b Xt D uc E=>?_;rcases Zx hy with⟨rfl,rfl⟩|⟨rfl,rfl⟩;exact C;exact aq;obtain⟨bh,bs,bL,eL⟩:=aox Xt;have s:∀ {k:Nat}{o:Obj}{w:World},w.heap[k]? =some o->k<w.heap.size:=λ{k o w} h=>by rcases fO k w.heap.size with h1 |h1;exact h1;rw[hG h1]at h;cases h
 have f8:=D.dZ.et.get 8 _ bs;simp only[av]at f8;obtain⟨av_,g1,g2⟩:=f8;obtain⟨u2,bj,R,_⟩:=uc.L.at_ 2 _ e2;have R:=R (by simp[ms]);rw[bj,R]at g1;cases g1;have f0:q.tmps.getD 0 undef=a.tmps.getD 0 undef:=afw uc.L C (D.dZ.et.get 0 _ bL);have f3:q.tmps.getD 3 undef= .int .i64 f:=by simpa only[av]using D.dZ.et.get 3 _ eL
 have F:b.heap[bm]? =some (.map es clock):=(E.block bm (s wj) (by simp)).trans wj;have T:q.eval (.tmp 8)= .map (some bm):=g2;obtain⟨r,gz⟩:∃r,r=b.heap.size:=⟨_,rfl⟩
 have cC:bc aE.P NS q b (.pointer (some ⟨r,0,none⟩)) (b.alloc (.mapIter (some bm) clock #[] clock)):=by rw[gz];simp only[bc,execOp,acT.1,T];rw[Sem.run_bind,run_range_map (P:=aE.P) b 70 3 4 bm es clock Tryz.underlying70 F];rfl
 refine eZ acT.2.2 cC ?_;rw[acT.2.1];refine wpList_nil ?_;obtain⟨G,U⟩:∃G,G=b.alloc (.mapIter (some bm) clock #[] clock):=⟨_,rfl⟩
 rw[<-U];have Ic:a_ [] b G:=by rw[U];exact a_.alloc [] b _
 have Md:G.heap[r]? =some (.mapIter (some bm) clock #[] clock):=by rw[U,gz];exact heap_alloc_new b _
 have lJ:r<G.heap.size:=s Md;have KH:q.tmps.size=29:=D.dZ.et.size;have UT:q.defers=[]:=D.dZ.et.defers
 refine aj0 (n:=29) (r:=r) (bm:=bm) (since:=clock) (clock:=clock) (ti:=9) (tn:=10) (tok:=11) (te:=12) (tk:=13) (tv:=4) (es:=es)
  (λ acc u w'=>u.tmps.size=29/\u.defers=[]/\u.tmps.getD 0 undef=a.tmps.getD 0 undef/\u.tmps.getD 9 undef= .pointer (some ⟨r,0,none⟩)/\UJ w' r bm clock clock es acc/\(acc.map (·.born)).Nodup/\(∀e∈acc,e∈es.toList)/\a_ [] b w'/\∃m,u.tmps.getD 3 undef= .int .i64 m/\jW g (acc.map lN) f=some m)
  aLW aLY aLZ aL0 aL1 (by decide) (by decide) Ih (cP _) jy (λ acc u w' h=>⟨h.1,h.2.2.2.1,h.2.2.2.2.1,h.2.2.2.2.2.1,h.2.2.2.2.2.2.1⟩) ?_ ?_ ?_
 ·intro acc e a2 a3 jY s0 V Y BJ c Mc Qb QC wk;obtain⟨Z,i2,i3,i4,⟨i5,aDc⟩,i6,i7,i8,m,i9,p⟩:=V;have H:a_ [] b s0:=i8.trans Qb λ x ad=>.inr (by simp at ad;omega);have ul:=A.fo (E.trans H (by simp));have t4:=Mc (by decide);rw[Vz Lz e Y]at t4;obtain⟨v,l⟩:=anU eu (lN e) (by rw[<-LN];exact jq Y);refine wp_region_list ?_;rw[show iG.qh.toList=iG.qh.toList++[] by simp];refine Sm (n:=⟨29,[]⟩) (K:=S') (z:=(.pointer (some ⟨r,0,none⟩),0,0,.int .i64 (I.ap (m+I.ap (3+v))))) kY rfl ul (c.1.trans Z) (c.2.1.trans i2) (fr:=[(4,.p (.int .i64 (lN e))),(3,.p (.int .i64 m)),(9,.p (.pointer (some ⟨r,0,none⟩))),(0,.b 0 0)]) (λ t y hy=>?_) ?_ (λ t h=>QO (aoy h).1) λ t' arw a5 zW Xu d J L=>?_;rcases aFF hy with⟨rfl,rfl⟩|⟨rfl,rfl⟩|⟨rfl,rfl⟩|⟨rfl,rfl⟩;simpa only[av]using t4;simp only[av];rw[c.2.2 3 (by decide)];exact i9;simp only[av];rw[c.2.2 9 (by decide)];exact i4;have:=(Mem.u' (X:=X) (bl:=bN (El:=aE.T.El) id (ch false vd) false vd (M,(g,N),j,O)) (ρ:=ρ) (E.trans H (by simp))).v C;rw[c.2.2 0 (by decide),i3];exact this
  ·have e:(opsL aE (Kl aE) iG.qh 29 iG.qh.toList ⟨⟨[(4,.p (.int .i64 (lN e))),(3,.p (.int .i64 m)),(9,.p (.pointer (some ⟨r,0,none⟩))),(0,.b 0 0)],[],[]⟩,bN id (ch false vd) false vd (M,(g,N),j,O),[]⟩).run S'=(idx g (I.ap (lN e+1))).bind λ v=>some (.pointer (some ⟨r,0,none⟩),0,0,.int .i64 (I.ap (m+I.ap (3+v)))):=by kernel_rfl
   exact e.trans (by rw[l];rfl)
  ·obtain⟨cO,ef,eI,iC⟩:=aoy Xu;refine wpList_nil ⟨rfl,d.dZ.et.size,d.dZ.et.defers,?_,by simpa only[av]using d.dZ.et.get 9 _ ef,⟨?_,?_⟩,?_,?_,H.trans L (by simp),_,by simpa only[av]using d.dZ.et.get 3 _ iC,?_⟩;have:=(Mem.u' (X:=X) (bl:=bN (El:=aE.T.El) id (ch false vd) false vd (M,(g,N),j,O)) (ρ:=ρ) (E.trans H (by simp))).v C;exact afw J.L this (d.dZ.et.get 0 _ eI);obtain⟨e0,mu,q8⟩:=wk;exact⟨e0,mu,(L.block r (s q8) (by simp)).trans q8⟩;have Qh:s0.heap[bm]? =some (.map es clock):=(H.block bm (s F) (by simp)).trans F;exact(L.block bm (s Qh) (by simp)).trans Qh;rw[ja,ko];exact eT.2 ⟨i6,by simp,λ x ad y hy e1=>by simp at hy;subst hy;subst e1;exact BJ ad⟩;intro x ad;rcases cg.1 ad with ad |ad;exact i7 x ad;simp at ad;subst ad;exact Y;rw[ja,ko,anV,p,ae,l,ae]
 ·intro acc a2 a3 jY V Yi c;obtain⟨Z,i2,i3,i4,i5,i6,i7,i8,m,i9,p⟩:=V;have aB7:m=S:=by have h1:=acx (W:=g) (Yi.map lN) f;rw[p,LN,eu]at h1;exact ee h1
  subst aB7;have Xq:=E.trans i8 (by simp);refine wp_seq (wp_region_list ?_);rw[show iG.zM.toList=iG.zM.toList++[] by simp];refine Sm (n:=⟨29,[]⟩) (K:=acS) (z:=[.int .i64 m]) kY rfl (A.fo Xq) (c.1.trans Z) (c.2.1.trans i2) (fr:=[(3,.p (.int .i64 m)),(0,.b 0 0)]) (λ t y hy=>?_) (by kernel_rfl) (λ t h=>QO (aoz h).1) λ t' arw a5 zW Xu d J L=>?_;rcases Zx hy with⟨rfl,rfl⟩|⟨rfl,rfl⟩;simp only[av];rw[c.2.2 3 (by decide)];exact i9;have:=(Mem.u' (X:=X) (bl:=bN (El:=aE.T.El) id (ch false vd) false vd (M,(g,N),j,O)) (ρ:=ρ) Xq).v C;rw[c.2.2 0 (by decide),i3];exact this;have vb:=P8 d.dZ.et (aoz Xu).2;simp only[ea,hP,hq,and_true]at vb;exact wpList_nil (k a5 zW d.dZ.et.size d.dZ.et.defers vb (Xq.trans L (by simp)))
 ·refine⟨by rw[wX,KH],UT,by rw[yn (by decide),f0],ym (by rw[KH];decide),⟨⟨clock,cP _,Md⟩,(Ic.block bm (s F) (by simp)).trans F⟩,by simp,by simp,Ic,f,by rw[yn (by decide),f3],rfl⟩
set_option maxRecDepth 100000
theorem aL3:AD aE ⟨fW aE.P 55,[]⟩ (acQ.run aE) vf.1 vf.2:=by
 have e:fW aE.P 55=29:=by kernel_rfl
 rw[e];exact aw4 rfl aMb
def at3(F:Nat):aS aE:=(at2 F).al3 55 0 (acQ.run aE) vf.1 vf.2 (λ _ _=>aL3) aLT
def Y0:Value->Option Int
 | .int .i64 x=>some x
 |_=>none
theorem aDB(u:Value)(x:Int)(h:Y0 u=some x):u= .int .i64 x:=by unfold Y0 at h;split at h;cases h;rfl;cases h
def EV(h:List Int)(m:List (Int×Bool)):Option Int:=jW h (m.map j2) 0
def aLU:tu bf:=⟨[.p (.B 0)],vd,Int,.int .i64,Y0,λ d=>(EV d.2.2.1.1 d.2.2.2.1).bind λ x=>some x⟩
def Uo(F:Nat):aS aE:=(at3 F).rd 55 aLU (λ da db=>by kernel_rfl) aDB
def aez(F:Nat):Nat->(List Int)->(Int)->(Int)->(List Int)->Option ((Unit×Unit)×List Int×Unit)
 |0,_,_,_,_=>none
 |aQ+1,b,c,a,d=>cond (decide (a<c)) ((idx b a).bind λ e=>
(bE 8 d [e]).bind λ f=>
aez F aQ (b) (c) (ap (a+1)) (f)) (
some (((),()),((d),())))
def akZ(F:Nat):f' bf:=⟨[0,3,6,7],[lO,.p (.R 0),lL,lL],[.r 109 false],[⟨.nm,[3],[.p (.R 0)],[.r 109 false]⟩],λ k d=>aez F k d.1.1 d.1.2.2.1 d.1.2.2.2.1 d.2.1⟩
theorem azu(F:Nat):(akZ F).Eq aE (Uo F).t.bw ((Uo F).t.LE 39) (fW aE.P 39) 0 (io aE.P 39 0):=⟨λ d=>by kernel_rfl,λ k da db=>by kernel_rfl⟩
def Up(F:Nat):aS aE:=(Uo F).gm 39 0 F (akZ F) (azu F)
def aro(F:Nat)(a:List Int):Option ((List Int×Unit)×Unit):=(aez F F a (↑a.length:Int) 0 []).bind λ b=>
some (((b.snd.fst),()),())
def akm(F:Nat):er bf:=⟨[lO],[],[.p (.l 109)],[],λ d=>aro F d.1.1⟩
theorem azt(F:Nat):(akm F).Eq aE (Up F).t.bw (Up F).t.LE 39:=λ da db=>by kernel_rfl
def at4(F:Nat):aS aE:=(Up F).H7 39 (akm F) (azt F)
def Uq(F:Nat):aS aE:=(at4 F).dM 39 (QY F) (afZ F)
def Bt(F:Nat)(c:List Int)(d:Int)(e:Int)(f:Int)(g:Int)(h:List Int)(i:Int)(j:List al)(k:List Int)(l:List (List I.Field))(m:List (List (List UInt8)))(n:List (List I.Target))(o:List Int):Option ((Unit×Int×Unit)×(List Int×Int×Int×Int×Int×List Int×Int×List al×List Int×List (List I.Field)×List (List (List UInt8))×List (List I.Target)×List Int×List Int×Unit×Unit)×List (Int×Bool)×Unit⊕
 (Unit×Int×Unit)×Unit):=
 dd (lc (mj F (aP.mk c d e f g h i) (aN.mk j k l m n))) (λ a=>
cond (decide (a.snd=0)) ((Hd F
 (bp.mk (aP.mk a.fst.H.wO a.fst.H.ai a.fst.H.az a.fst.H.aI a.fst.H.aD a.fst.H.aJ a.fst.H.Next)
  (b4.mk (aN.mk a.fst.S.K.aV a.fst.S.K.aT a.fst.S.K.Fields a.fst.S.K.Names a.fst.S.K.aU)) a.fst.ai a.fst.az a.fst.dO)
 o).bind λ p=>
some (.inl (((),((p),())),(((a.fst.H.wO),((a.fst.H.ai),((a.fst.H.az),((a.fst.H.aI),((a.fst.H.aD),((a.fst.H.aJ),((a.fst.H.Next),((a.fst.S.K.aV),((a.fst.S.K.aT),((a.fst.S.K.Fields),((a.fst.S.K.Names),((a.fst.S.K.aU),((a.fst.ai),((a.fst.az),((),()))))))))))))))),((a.fst.dO),()))))) (
some (.inl (((),((a.snd),())),(((a.fst.H.wO),((a.fst.H.ai),((a.fst.H.az),((a.fst.H.aI),((a.fst.H.aD),((a.fst.H.aJ),((a.fst.H.Next),((a.fst.S.K.aV),((a.fst.S.K.aT),((a.fst.S.K.Fields),((a.fst.S.K.Names),((a.fst.S.K.aU),((a.fst.ai),((a.fst.az),((),()))))))))))))))),((a.fst.dO),())))))) (λ b=>
cond (decide (b=0)) (none) (
some (.inr (((),((b),())),()))))
def akj(F:Nat):l_ bf:=⟨[.a [.l 3,lS,lS,lS,lS,.l 3,lS],.a [.l 134,.l 3,.l 124,.l 120,.l 121],lO],[],[⟨[.p (.B 0),lL],[.c 72 [.l 3,lS,lS,lS,lS,.l 3,lS,.l 134,.l 3,.l 124,.l 120,.l 121,.l 3,.l 3,.M 1],.m 3 4]⟩,⟨[.p .hB,lL],[]⟩],λ d=>Bt F d.1.1.1 d.1.1.2.1 d.1.1.2.2.1 d.1.1.2.2.2.1 d.1.1.2.2.2.2.1 d.1.1.2.2.2.2.2.1 d.1.1.2.2.2.2.2.2.1 d.1.2.1.1 d.1.2.1.2.1 d.1.2.1.2.2.1 d.1.2.1.2.2.2.1 d.1.2.1.2.2.2.2.1 d.1.2.2.1⟩
theorem ayC(F:Nat):(akj F).Eq aE (Uq F).t.bw (Uq F).t.LE 53:=λ da db=>by kernel_rfl
def Ur(F:Nat):aS aE:=(Uq F).jN 53 (akj F) (ayC F)
def Wp(F:Nat):Nat->(List Int)->(Int)->(Int)->(List Int)->Option ((Unit×Unit)×List Int×Unit)
 |0,_,_,_,_=>none
 |aQ+1,b,c,a,d=>cond (decide (a<c)) ((idx b a).bind λ e=>
(bE 8 d [e]).bind λ f=>
Wp F aQ (b) (c) (ap (a+1)) (f)) (
some (((),()),((d),())))
def akQ(F:Nat):f' bf:=⟨[3,6,7,8],[.p (.R 0),.p (.l 109),lL,lL],[.r 3 false],[⟨.nm,[3],[.p (.R 0)],[.r 3 false]⟩],λ k d=>Wp F k d.1.2.1 d.1.2.2.1 d.1.2.2.2.1 d.2.1⟩
theorem ayE(F:Nat):(akQ F).Eq aE (Ur F).t.bw ((Ur F).t.LE 90) (fW aE.P 90) 0 (io aE.P 90 0):=⟨λ d=>by kernel_rfl,λ k da db=>by kernel_rfl⟩
def Us(F:Nat):aS aE:=(Ur F).gm 90 0 F (akQ F) (ayE F)
def aia(F:Nat)(a:List Int):Option ((List Int×Unit)×Unit):=(Wp F F a (↑a.length:Int) 0 []).bind λ b=>
some (((b.snd.fst),()),())
def akk(F:Nat):er bf:=⟨[.p (.l 109)],[],[lO],[],λ d=>aia F d.1.1⟩
theorem ayD(F:Nat):(akk F).Eq aE (Us F).t.bw (Us F).t.LE 90:=λ da db=>by kernel_rfl
def Ut(F:Nat):aS aE:=(Us F).fn 90 (akk F) (ayD F)
def Bs(F:Nat):Nat->(Int)->(Int)->(Int)->(List al)->(List Int)->(List (List I.Field))->(List (List (List UInt8)))->(List (List I.Target))->(List Int)->(Int)->(Int)->(Int)->(Int)->(List Int)->(Int)->(List (Int×Bool))->(List Int)->Option ((Unit×Unit×Unit)×
 (Unit×List al×List Int×List (List I.Field)×List (List (List UInt8))×List (List I.Target)×Unit×Unit)×(List Int×Int×Int×Int×Int×List Int×Int×Unit)×List (Int×Bool)×List Int×Unit)
 |0,_,_,_,_,_,_,_,_,_,_,_,_,_,_,_,_,_=>none
 |aQ+1,c,i,a,d,e,f,g,h,b,j,Ds,Dt,k,l,m,n,o=>cond (decide (a<i)) ((idx b c).bind λ p=>
(sp (b4.mk (aN.mk d e f g h)) p a).bind λ q=>
cond (q) ((idx b (ap (ap (c+3)+a))).bind λ r=>
(bE 8 o [r]).bind λ s=>
Bs F aQ (c) (i) (ap (a+1)) (d) (e) (f) (g) (h) (b) (j) (Ds) (Dt) (k) (l) (m) (n) (s)) (
Bs F aQ (c) (i) (ap (a+1)) (d) (e) (f) (g) (h) (b) (j) (Ds) (Dt) (k) (l) (m) (n) (o))) (
some (((),((),())),(((),((d),((e),((f),((g),((h),((),()))))))),(((b),((j),((Ds),((Dt),((k),((l),((m),()))))))),((n),((o),()))))))
def akP(F:Nat):f' bf:=⟨[0,4,5,48,49],[.p (.B 0),.p (.R 3),lL,lL,lL],[.c 140 [.B 1,.l 134,.l 3,.l 124,.l 120,.l 121,.M 2],.c 24 [.l 3,lS,lS,lS,lS,.l 3,lS],.m 3 4,.r 3 false],[⟨.nm,[0,4],[.p (.B 0),.p (.R 3)],[.c 140 [.B 1,.l 134,.l 3,.l 124,.l 120,.l 121,.M 2],.c 24 [.l 3,lS,lS,lS,lS,.l 3,lS],.m 3 4,.r 3 false]⟩],λ k d=>Bs F k d.1.2.2.1 d.1.2.2.2.1 d.1.2.2.2.2.1 d.2.1.2.1 d.2.1.2.2.1 d.2.1.2.2.2.1 d.2.1.2.2.2.2.1 d.2.1.2.2.2.2.2.1 d.2.2.1.1 d.2.2.1.2.1 d.2.2.1.2.2.1 d.2.2.1.2.2.2.1 d.2.2.1.2.2.2.2.1 d.2.2.1.2.2.2.2.2.1 d.2.2.1.2.2.2.2.2.2.1 d.2.2.2.1 d.2.2.2.2.1⟩
theorem ayB(F:Nat):(akP F).Eq aE (Ut F).t.bw ((Ut F).t.LE 89) (fW aE.P 89) 2 (io aE.P 89 2):=⟨λ d=>by kernel_rfl,λ k da db=>by kernel_rfl⟩
def Uu(F:Nat):aS aE:=(Ut F).gm 89 2 F (akP F) (ayB F)
def yl(F:Nat):Nat->(List al)->(List Int)->(List (List I.Field))->(List (List (List UInt8)))->(List (List I.Target))->(List Int)->(Int)->(Int)->(Int)->(Int)->(List Int)->(Int)->(List (Int×Bool))->(List Int)->Option (Unit×(Unit×List al×List Int×List (List I.Field)×List (List (List UInt8))×List (List I.Target)×Unit×Unit)×(List Int×Int×Int×Int×Int×List Int×Int×Unit)×List (Int×Bool)×List Int×Unit)
 |0,_,_,_,_,_,_,_,_,_,_,_,_,_,_=>none
 |aQ+1,f,g,h,i,j,d,k,l,m,n,o,p,e,b=>cond (decide (0<(↑b.length:Int))) ((idx b (ap ((↑b.length:Int)-1))).bind λ c=>
(if(0 :Int)<=0/\0<=ap ((↑b.length:Int)-1)/\ap ((↑b.length:Int)-1)<=(↑b.length:Int)then some ()else none).bind λ r=>
cond (decide (c=0)||(cB e c).getD false) (yl F aQ (f) (g) (h) (i) (j) (d) (k) (l) (m) (n) (o) (p) (e) (k1 (ap ((↑b.length:Int)-1)).toNat b)) (
(idx d (ap (c+1))).bind λ q=>
(Bs F F c q 0 f g h i j d k l m n o p (gP e c true) (k1 (ap ((↑b.length:Int)-1)).toNat b)).bind λ a=>
yl F aQ (a.snd.fst.snd.fst) (a.snd.fst.snd.snd.fst) (a.snd.fst.snd.snd.snd.fst) (a.snd.fst.snd.snd.snd.snd.fst) (a.snd.fst.snd.snd.snd.snd.snd.fst) (a.snd.snd.fst.fst) (a.snd.snd.fst.snd.fst) (a.snd.snd.fst.snd.snd.fst) (a.snd.snd.fst.snd.snd.snd.fst) (a.snd.snd.fst.snd.snd.snd.snd.fst) (a.snd.snd.fst.snd.snd.snd.snd.snd.fst) (a.snd.snd.fst.snd.snd.snd.snd.snd.snd.fst) (a.snd.snd.snd.fst) (a.snd.snd.snd.snd.fst))) (
some ((),(((),((f),((g),((h),((i),((j),((),()))))))),(((d),((k),((l),((m),((n),((o),((p),()))))))),((e),((b),()))))))
def akO(F:Nat):f' bf:=⟨[0,4],[.p (.B 0),.p (.R 3)],[.c 140 [.B 1,.l 134,.l 3,.l 124,.l 120,.l 121,.M 2],.c 24 [.l 3,lS,lS,lS,lS,.l 3,lS],.m 3 4,.r 3 false],[⟨.nm,[],[],[.c 140 [.B 1,.l 134,.l 3,.l 124,.l 120,.l 121,.M 2],.c 24 [.l 3,lS,lS,lS,lS,.l 3,lS],.m 3 4,.r 3 false]⟩],λ k d=>yl F k d.2.1.2.1 d.2.1.2.2.1 d.2.1.2.2.2.1 d.2.1.2.2.2.2.1 d.2.1.2.2.2.2.2.1 d.2.2.1.1 d.2.2.1.2.1 d.2.2.1.2.2.1 d.2.2.1.2.2.2.1 d.2.2.1.2.2.2.2.1 d.2.2.1.2.2.2.2.2.1 d.2.2.1.2.2.2.2.2.2.1 d.2.2.2.1 d.2.2.2.2.1⟩
theorem ayA(F:Nat):(akO F).Eq aE (Uu F).t.bw ((Uu F).t.LE 89) (fW aE.P 89) 0 (io aE.P 89 0):=⟨λ d=>by kernel_rfl,λ k da db=>by kernel_rfl⟩
def Uv(F:Nat):aS aE:=(Uu F).gm 89 0 F (akO F) (ayA F)
def ET(F:Nat)(b:List Int)(c:List al)(d:List Int)(e:List (List I.Field))(C7:List (List (List UInt8)))(kE:List (List I.Target))(f:List Int)(g:Int)(h:Int)(i:Int)(j:Int)(k:List Int)(l:Int)(C8:List (Int×Bool)):Option (Unit×(Unit×List al×List Int×List (List I.Field)×List (List (List UInt8))×List (List I.Target)×Unit×Unit)×(List Int×Int×Int×Int×Int×List Int×Int×Unit)×List (Int×Bool)×Unit):=(bE 8 [] b).bind λ C9=>
(yl F F c d e C7 kE f g h i j k l C8 C9).bind λ a=>
some ((),(((),((a.snd.fst.snd.fst),((a.snd.fst.snd.snd.fst),((a.snd.fst.snd.snd.snd.fst),((a.snd.fst.snd.snd.snd.snd.fst),((a.snd.fst.snd.snd.snd.snd.snd.fst),((),()))))))),(((a.snd.snd.fst.fst),((a.snd.snd.fst.snd.fst),((a.snd.snd.fst.snd.snd.fst),((a.snd.snd.fst.snd.snd.snd.fst),((a.snd.snd.fst.snd.snd.snd.snd.fst),((a.snd.snd.fst.snd.snd.snd.snd.snd.fst),((a.snd.snd.fst.snd.snd.snd.snd.snd.snd.fst),()))))))),((a.snd.snd.snd.fst),()))))
def aki(F:Nat):er bf:=⟨[.p (.B 0),lO],[.c 140 [.B 1,.l 134,.l 3,.l 124,.l 120,.l 121,.M 2],.c 24 [.l 3,lS,lS,lS,lS,.l 3,lS],.m 3 4],[],[.c 140 [.B 1,.l 134,.l 3,.l 124,.l 120,.l 121,.M 2],.c 24 [.l 3,lS,lS,lS,lS,.l 3,lS],.m 3 4],λ d=>ET F d.1.2.1 d.2.1.2.1 d.2.1.2.2.1 d.2.1.2.2.2.1 d.2.1.2.2.2.2.1 d.2.1.2.2.2.2.2.1 d.2.2.1.1 d.2.2.1.2.1 d.2.2.1.2.2.1 d.2.2.1.2.2.2.1 d.2.2.1.2.2.2.2.1 d.2.2.1.2.2.2.2.2.1 d.2.2.1.2.2.2.2.2.2.1 d.2.2.2.1⟩
theorem ayz(F:Nat):(aki F).Eq aE (Uv F).t.bw (Uv F).t.LE 89:=λ da db=>by kernel_rfl
def Uw(F:Nat):aS aE:=(Uv F).fn 89 (aki F) (ayz F)
def ah_(F:Nat)(b:List al)(c:List Int)(d:List (List I.Field))(e:List (List (List UInt8)))(f:List (List I.Target))(qv:List Int)(g:List Int)(h:Int)(i:Int)(j:Int)(k:Int)(l:List Int)(m:Int):Option ((Unit×Unit)×(List Int×Int×Int×Int×Int×List Int×Int×Unit)×(Unit×List al×List Int×List (List I.Field)×List (List (List UInt8))×List (List I.Target)×Unit×Unit)×List (Int×Bool)×Unit):=(aia F qv).bind λ n=>
(ET F n.fst.fst b c d e f g h i j k l m []).bind λ a=>
some (((),()),(((a.snd.snd.fst.fst),((a.snd.snd.fst.snd.fst),((a.snd.snd.fst.snd.snd.fst),((a.snd.snd.fst.snd.snd.snd.fst),((a.snd.snd.fst.snd.snd.snd.snd.fst),((a.snd.snd.fst.snd.snd.snd.snd.snd.fst),((a.snd.snd.fst.snd.snd.snd.snd.snd.snd.fst),()))))))),(((),((a.snd.fst.snd.fst),((a.snd.fst.snd.snd.fst),((a.snd.fst.snd.snd.snd.fst),((a.snd.fst.snd.snd.snd.snd.fst),((a.snd.fst.snd.snd.snd.snd.snd.fst),((),()))))))),((a.snd.snd.snd.fst),()))))
def akh(F:Nat):er bf:=⟨[.p (.B 0),.a [.l 134,.l 3,.l 124,.l 120,.l 121],.p (.l 109)],[.c 24 [.l 3,lS,lS,lS,lS,.l 3,lS]],[.p (.B 1)],[.c 24 [.l 3,lS,lS,lS,lS,.l 3,lS],.c 140 [.B 0,.l 134,.l 3,.l 124,.l 120,.l 121,.M 2],.m 3 4],λ d=>ah_ F d.1.2.1.1 d.1.2.1.2.1 d.1.2.1.2.2.1 d.1.2.1.2.2.2.1 d.1.2.1.2.2.2.2.1 d.1.2.2.1 d.2.1.1 d.2.1.2.1 d.2.1.2.2.1 d.2.1.2.2.2.1 d.2.1.2.2.2.2.1 d.2.1.2.2.2.2.2.1 d.2.1.2.2.2.2.2.2.1⟩
theorem ayy(F:Nat):(akh F).Eq aE (Uw F).t.bw (Uw F).t.LE 54:=λ da db=>by kernel_rfl
def Ux(F:Nat):aS aE:=(Uw F).fn 54 (akh F) (ayy F)
def az4(F:Nat)(b:List Int)(c:Int)(d:Int)(e:Int)(f:Int)(g:List Int)(h:Int)(l:List al)(m:List Int)(n:List (List I.Field))(nE:List (List (List UInt8)))(oA:List (List I.Target))(i:List Int):Option ((Int×Int×Unit)×Unit):=dd (Bt F b c d e f g h l m n nE oA i) (λ a=>
cond (!decide (a.fst.snd.fst=0)) (some (((0),((a.fst.snd.fst),())),())) (
(aro F i).bind λ o=>
(ah_ F a.snd.fst.snd.snd.snd.snd.snd.snd.snd.fst a.snd.fst.snd.snd.snd.snd.snd.snd.snd.snd.fst a.snd.fst.snd.snd.snd.snd.snd.snd.snd.snd.snd.fst a.snd.fst.snd.snd.snd.snd.snd.snd.snd.snd.snd.snd.fst
 a.snd.fst.snd.snd.snd.snd.snd.snd.snd.snd.snd.snd.snd.fst o.fst.fst b c d e f g h).bind λ j=>
((EV j.snd.fst.fst j.snd.snd.snd.fst).bind λ x=>some x).bind λ p=>
some (((p),((0),())),()))) (λ k=>
cond (!decide (k.fst.snd.fst=0)) (some (((0),((k.fst.snd.fst),())),())) (
none))
def akg(F:Nat):er bf:=⟨[.a [.l 3,lS,lS,lS,lS,.l 3,lS],.a [.l 134,.l 3,.l 124,.l 120,.l 121],lO],[],[lL,lL],[],λ d=>az4 F d.1.1.1 d.1.1.2.1 d.1.1.2.2.1 d.1.1.2.2.2.1 d.1.1.2.2.2.2.1 d.1.1.2.2.2.2.2.1 d.1.1.2.2.2.2.2.2.1 d.1.2.1.1 d.1.2.1.2.1 d.1.2.1.2.2.1 d.1.2.1.2.2.2.1 d.1.2.1.2.2.2.2.1 d.1.2.2.1⟩
theorem ayx(F:Nat):(akg F).Eq aE (Ux F).t.bw (Ux F).t.LE 22:=λ da db=>by kernel_rfl
def OO(F:Nat):aS aE:=(Ux F).fn 22 (akg F) (ayx F)
set_option maxRecDepth 100000
@[reducible] def IJ:iN bf:=⟨[],[],[.p .b],[],Bool,λ _=>some true,λ _ r=>((r,()),())⟩
theorem ayv:IJ.Eq nP (H8 nP (OO 2000).t.l8 (λ _ _=>none) 100) (λ _ _=>none) 24:=λ da db=>by kernel_rfl
theorem awz:kQ nP 24 (IJ.run nP):=
 have a:xN nP (λ _ _=>none):=λ g fn c _ _ _=>wC (λ _=>rfl) c
 have hc:=((OO 2000).ok kY).ce
 have b:OP nP (OO 2000).t.l8:=⟨hc.cm,λ g h d=>(Pn g h)▸hc.ok g h d⟩
 λ ys bl r e=>HW Pw (m' Pw b a 100) a rfl (c:=IJ.iu) (er.Eq.v ayv) ys bl r (zN e)
theorem aKB:IJ.run aE=IJ.run nP:=by kernel_rfl
def Uy(F:Nat):aS aE:=(OO F).add 24 (IJ.run aE) (aKB▸(Pn 24 _)▸awz)
def KB(F:Nat)(b:Int)(a:List Int):Option (Unit×(Unit×Unit)×List Int×Unit):=cond (!decide (b=0)) ((kU F a b).bind λ c=>
cond (!c) ((bE 8 a [b]).bind λ d=>
some ((),(((),()),((d),())))) (
some ((),(((),()),((a),()))))) (
some ((),(((),()),((a),()))))
def aj'(F:Nat):er bf:=⟨[lL,.p (.B 0)],[.c 22 [.R 1],.r 3 false],[],[.c 22 [.R 1],.r 3 false],λ d=>KB F d.1.1 d.2.2.1⟩
theorem ayq(F:Nat):(aj' F).Eq aE (Uy F).t.bw (Uy F).t.LE 91:=λ da db=>by kernel_rfl
def Uz(F:Nat):aS aE:=(Uy F).fn 91 (aj' F) (ayq F)
def Ed(F:Nat):Nat->(List Int)->(Int)->(List Int)->(Int)->(Int)->(Int)->(Int)->(List Int)->(Int)->(List al)->(List Int)->(List (List I.Field))->(List (List (List UInt8)))->(List (List I.Target))->(List Int)->Option ((Unit×Unit×Unit×(Unit×Unit)×Unit)×
 (List Int×Int×Int×Int×Int×List Int×Int×Unit)×(List al×List Int×List (List I.Field)×List (List (List UInt8))×List (List I.Target)×Unit)×(Unit×Unit)×List Int×Unit)
 |0,_,_,_,_,_,_,_,_,_,_,_,_,_,_,_=>none
 |aQ+1,a,b,c,d,e,f,g,h,i,j,k,l,m,n,o=>cond (decide (b<(↑a.length:Int))) ((idx a b).bind λ p=>
(KB F p o).bind λ q=>
Ed F aQ (a) (ap (b+1)) (c) (d) (e) (f) (g) (h) (i) (j) (k) (l) (m) (n) (q.snd.snd.fst)) (
some (((),((),((),(((),()),())))),(((c),((d),((e),((f),((g),((h),((i),()))))))),(((j),((k),((l),((m),((n),()))))),(((),()),((o),()))))))
def akG(F:Nat):f' bf:=⟨[2,3,4,7,8,9],[lO,.p (.B 0),.p (.B 1),.p (.B 2),.f 91 [.B 2],lL],[.c 24 [.l 3,lS,lS,lS,lS,.l 3,lS],.c 30 [.l 134,.l 3,.l 124,.l 120,.l 121],.c 22 [.R 3],.r 3 false],[⟨.nm,[3,4,7,8],[.p (.B 0),.p (.B 1),.p (.B 2),.f 91 [.B 2]],[.c 24 [.l 3,lS,lS,lS,lS,.l 3,lS],.c 30 [.l 134,.l 3,.l 124,.l 120,.l 121],.c 22 [.R 3],.r 3 false]⟩],λ k d=>Ed F k d.1.1 d.1.2.2.2.2.2.1 d.2.1.1 d.2.1.2.1 d.2.1.2.2.1 d.2.1.2.2.2.1 d.2.1.2.2.2.2.1 d.2.1.2.2.2.2.2.1 d.2.1.2.2.2.2.2.2.1 d.2.2.1.1 d.2.2.1.2.1 d.2.2.1.2.2.1 d.2.2.1.2.2.2.1 d.2.2.1.2.2.2.2.1 d.2.2.2.2.1⟩
theorem ayr(F:Nat):(akG F).Eq aE (Uz F).t.bw ((Uz F).t.LE 56) (fW aE.P 56) 0 (io aE.P 56 0):=⟨λ d=>by kernel_rfl,λ k da db=>by kernel_rfl⟩
def UA(F:Nat):aS aE:=(Uz F).gm 56 0 F (akG F) (ayr F)
def Eg(F:Nat):Nat->(Int)->(List Int)->(Int)->(List Int)->(Int)->(Int)->(Int)->(Int)->(List Int)->(Int)->(List al)->(List Int)->(List (List I.Field))->(List (List (List UInt8)))->(List (List I.Target))->(List Int)->Option ((Unit×Unit×Unit×(Unit×Unit)×Int×Unit)×
 (List Int×Int×Int×Int×Int×List Int×Int×Unit)×(List al×List Int×List (List I.Field)×List (List (List UInt8))×List (List I.Target)×Unit)×(Unit×Unit)×List Int×Unit)
 |0,_,_,_,_,_,_,_,_,_,_,_,_,_,_,_,_=>none
 |aQ+1,d,a,b,c,e,f,g,C7,kE,h,i,j,k,l,m,n=>cond (decide (b<(↑a.length:Int))) ((idx a b).bind λ C8=>
(idx c C8).bind λ C9=>
(KB F C9 n).bind λ o=>
Eg F aQ (d) (a) (ap (b+1)) (c) (e) (f) (g) (C7) (kE) (h) (i) (j) (k) (l) (m) (o.snd.snd.fst)) (
some (((),((),((),(((),()),((d),()))))),(((c),((e),((f),((g),((C7),((kE),((h),()))))))),(((i),((j),((k),((l),((m),()))))),(((),()),((n),()))))))
def akI(F:Nat):f' bf:=⟨[3,4,7,8,10,11,12],[.p (.B 0),.p (.B 1),.p (.B 2),.f 91 [.B 2],lL,lO,lL],[.c 24 [.l 3,lS,lS,lS,lS,.l 3,lS],.c 30 [.l 134,.l 3,.l 124,.l 120,.l 121],.c 22 [.R 3],.r 3 false],[⟨.nm,[3,4,7,8,10],[.p (.B 0),.p (.B 1),.p (.B 2),.f 91 [.B 2],lL],[.c 24 [.l 3,lS,lS,lS,lS,.l 3,lS],.c 30 [.l 134,.l 3,.l 124,.l 120,.l 121],.c 22 [.R 3],.r 3 false]⟩],λ k d=>Eg F k d.1.2.2.2.2.1 d.1.2.2.2.2.2.1 d.1.2.2.2.2.2.2.1 d.2.1.1 d.2.1.2.1 d.2.1.2.2.1 d.2.1.2.2.2.1 d.2.1.2.2.2.2.1 d.2.1.2.2.2.2.2.1 d.2.1.2.2.2.2.2.2.1 d.2.2.1.1 d.2.2.1.2.1 d.2.2.1.2.2.1 d.2.2.1.2.2.2.1 d.2.2.1.2.2.2.2.1 d.2.2.2.2.1⟩
theorem ayt(F:Nat):(akI F).Eq aE (UA F).t.bw ((UA F).t.LE 56) (fW aE.P 56) 4 (io aE.P 56 4):=⟨λ d=>by kernel_rfl,λ k da db=>by kernel_rfl⟩
def UB(F:Nat):aS aE:=(UA F).gm 56 4 F (akI F) (ayt F)
def Ef(F:Nat):Nat->(Int)->(List Int)->(Int)->(Int)->(Int)->(Int)->(List Int)->(Int)->(List al)->(List Int)->(List (List I.Field))->(List (List (List UInt8)))->(List (List I.Target))->(List Int)->Option ((Unit×Unit)×(List Int×Int×Int×Int×Int×List Int×Int×Unit)×(List al×List Int×List (List I.Field)×List (List (List UInt8))×List (List I.Target)×Unit)×(Unit×Unit)×List Int×Unit)
 |0,_,_,_,_,_,_,_,_,_,_,_,_,_,_=>none
 |aQ+1,b,c,d,e,f,g,h,i,j,k,l,m,o,n=>cond (decide (b<(↑n.length:Int))) ((idx n b).bind λ p=>
(qJ F (aP.mk c d e f g h i) (aN.mk j k l m o) p).bind λ q=>
(Eg F F b q 0 c d e f g h i j k l m o n).bind λ a=>
Ef F aQ (ap (a.fst.snd.snd.snd.snd.fst+1)) (a.snd.fst.fst) (a.snd.fst.snd.fst) (a.snd.fst.snd.snd.fst) (a.snd.fst.snd.snd.snd.fst) (a.snd.fst.snd.snd.snd.snd.fst) (a.snd.fst.snd.snd.snd.snd.snd.fst) (a.snd.fst.snd.snd.snd.snd.snd.snd.fst) (a.snd.snd.fst.fst) (a.snd.snd.fst.snd.fst) (a.snd.snd.fst.snd.snd.fst) (a.snd.snd.fst.snd.snd.snd.fst) (a.snd.snd.fst.snd.snd.snd.snd.fst) (a.snd.snd.snd.snd.fst)) (
some (((),()),(((c),((d),((e),((f),((g),((h),((i),()))))))),(((j),((k),((l),((m),((o),()))))),(((),()),((n),()))))))
def akH(F:Nat):f' bf:=⟨[3,4,7,8,10],[.p (.B 0),.p (.B 1),.p (.B 2),.f 91 [.B 2],lL],[.c 24 [.l 3,lS,lS,lS,lS,.l 3,lS],.c 30 [.l 134,.l 3,.l 124,.l 120,.l 121],.c 22 [.R 3],.r 3 false],[⟨.nm,[7],[.p (.B 2)],[.c 24 [.l 3,lS,lS,lS,lS,.l 3,lS],.c 30 [.l 134,.l 3,.l 124,.l 120,.l 121],.c 22 [.R 3],.r 3 false]⟩],λ k d=>Ef F k d.1.2.2.2.2.1 d.2.1.1 d.2.1.2.1 d.2.1.2.2.1 d.2.1.2.2.2.1 d.2.1.2.2.2.2.1 d.2.1.2.2.2.2.2.1 d.2.1.2.2.2.2.2.2.1 d.2.2.1.1 d.2.2.1.2.1 d.2.2.1.2.2.1 d.2.2.1.2.2.2.1 d.2.2.1.2.2.2.2.1 d.2.2.2.2.1⟩
theorem ays(F:Nat):(akH F).Eq aE (UB F).t.bw ((UB F).t.LE 56) (fW aE.P 56) 2 (io aE.P 56 2):=⟨λ d=>by kernel_rfl,λ k da db=>by kernel_rfl⟩
def UC(F:Nat):aS aE:=(UB F).gm 56 2 F (akH F) (ays F)
def KA(F:Nat)(b:List Int)(c:Int)(Ty:Int)(d:Int)(e:Int)(f:List Int)(g:Int)(h:List al)(i:List Int)(j:List (List I.Field))(k:List (List (List UInt8)))(l:List (List I.Target))(m:List Int):Option ((List Int×Unit)×Unit):=(Ed F F m 0 b c Ty d e f g h i j k l []).bind λ a=>
(Ef F F 0 a.snd.fst.fst a.snd.fst.snd.fst a.snd.fst.snd.snd.fst a.snd.fst.snd.snd.snd.fst a.snd.fst.snd.snd.snd.snd.fst a.snd.fst.snd.snd.snd.snd.snd.fst a.snd.fst.snd.snd.snd.snd.snd.snd.fst
 a.snd.snd.fst.fst a.snd.snd.fst.snd.fst a.snd.snd.fst.snd.snd.fst a.snd.snd.fst.snd.snd.snd.fst a.snd.snd.fst.snd.snd.snd.snd.fst a.snd.snd.snd.snd.fst).bind λ n=>
some (((n.snd.snd.snd.snd.fst),()),())
def aj_(F:Nat):er bf:=⟨[.a [.l 3,lS,lS,lS,lS,.l 3,lS],.a [.l 134,.l 3,.l 124,.l 120,.l 121],lO],[],[lO],[],λ d=>KA F d.1.1.1 d.1.1.2.1 d.1.1.2.2.1 d.1.1.2.2.2.1 d.1.1.2.2.2.2.1 d.1.1.2.2.2.2.2.1 d.1.1.2.2.2.2.2.2.1 d.1.2.1.1 d.1.2.1.2.1 d.1.2.1.2.2.1 d.1.2.1.2.2.2.1 d.1.2.1.2.2.2.2.1 d.1.2.2.1⟩
theorem ayp(F:Nat):(aj_ F).Eq aE (UC F).t.bw (UC F).t.LE 56:=λ da db=>by kernel_rfl
def UD(F:Nat):aS aE:=(UC F).fn 56 (aj_ F) (ayp F)
def Ea(F:Nat):Nat->(List Int)->(Int)->(Int)->(List Int)->(Int)->(Int)->(Int)->(Int)->(List Int)->(Int)->Option ((Int×Unit)×(List Int×Int×Int×Int×Int×List Int×Int×Unit)×Unit)
 |0,_,_,_,_,_,_,_,_,_,_=>none
 |aQ+1,a,d,b,c,e,f,g,h,i,j=>cond (decide (b<(↑a.length:Int))) ((idx a b).bind λ k=>
(idx c (ap (k+1))).bind λ l=>
Ea F aQ (a) (ap (d+ap (3+l))) (ap (b+1)) (c) (e) (f) (g) (h) (i) (j)) (
some (((d),()),(((c),((e),((f),((g),((h),((i),((j),()))))))),())))
def akF(F:Nat):f' bf:=⟨[3,7,8,9],[.p (.B 0),lO,lL,lL],[.c 24 [.l 3,lS,lS,lS,lS,.l 3,lS]],[⟨.nm,[8],[lL],[.c 24 [.l 3,lS,lS,lS,lS,.l 3,lS]]⟩],λ k d=>Ea F k d.1.2.1 d.1.2.2.1 d.1.2.2.2.1 d.2.1.1 d.2.1.2.1 d.2.1.2.2.1 d.2.1.2.2.2.1 d.2.1.2.2.2.2.1 d.2.1.2.2.2.2.2.1 d.2.1.2.2.2.2.2.2.1⟩
theorem ayo(F:Nat):(akF F).Eq aE (UD F).t.bw ((UD F).t.LE 23) (fW aE.P 23) 0 (io aE.P 23 0):=⟨λ d=>by kernel_rfl,λ k da db=>by kernel_rfl⟩
def UE(F:Nat):aS aE:=(UD F).gm 23 0 F (akF F) (ayo F)
def Kz(F:Nat)(a:List Int)(b:Int)(eg:Int)(c:Int)(d:Int)(e:List Int)(f:Int)(g:List al)(h:List Int)(i:List (List I.Field))(j:List (List (List UInt8)))(k:List (List I.Target))(l:List Int):Option ((Int×Unit)×Unit):=(KA F a b eg c d e f g h i j k l).bind λ m=>
(Ea F F m.fst.fst 0 0 a b eg c d e f).bind λ n=>
some (((n.fst.fst),()),())
def aj9(F:Nat):er bf:=⟨[.a [.l 3,lS,lS,lS,lS,.l 3,lS],.a [.l 134,.l 3,.l 124,.l 120,.l 121],lO],[],[lL],[],λ d=>Kz F d.1.1.1 d.1.1.2.1 d.1.1.2.2.1 d.1.1.2.2.2.1 d.1.1.2.2.2.2.1 d.1.1.2.2.2.2.2.1 d.1.1.2.2.2.2.2.2.1 d.1.2.1.1 d.1.2.1.2.1 d.1.2.1.2.2.1 d.1.2.1.2.2.2.1 d.1.2.1.2.2.2.2.1 d.1.2.2.1⟩
theorem ayn(F:Nat):(aj9 F).Eq aE (UE F).t.bw (UE F).t.LE 23:=λ da db=>by kernel_rfl
def at7(F:Nat):aS aE:=(UE F).fn 23 (aj9 F) (ayn F)
set_option maxHeartbeats 4000000
set_option maxRecDepth 20000
theorem ahP{o:Oper}{a:Act}{w:World}{x:Operand}{b:Nat}(c:o.op= .fieldAddr 24 x 1)(ad:a.eval x= .pointer (some ⟨b,0,none⟩)):bc Tryz.prog o a w (.pointer (some ⟨b,1,none⟩)) w:=T9 (P:=Tryz.prog) (p:=0) (j:=1) Tryz.underlying24 (f:=_) (by rfl) Tryz.sizeOf3 rfl c ad
theorem azw{o:Oper}{a:Act}{w:World}{x:Operand}{b:Nat}(c:o.op= .fieldAddr 24 x 2)(ad:a.eval x= .pointer (some ⟨b,0,none⟩)):bc Tryz.prog o a w (.pointer (some ⟨b,2,none⟩)) w:=T9 (P:=Tryz.prog) (p:=0) (j:=2) Tryz.underlying24 (f:=_) (by rfl) Tryz.sizeOf3 rfl c ad
def zD(Y O x:Int):Int:=cond (decide (Y<x)) x (ap (ap (x+Y)+O))
theorem awH{W:World}{gb gh:Nat}{Y O x:Int}(d:W.cell? ⟨gb,0,none⟩=some (.pointer (some ⟨gh,0,none⟩)))(J:W.cell? ⟨gh,1,none⟩=some (.int .i64 Y))(i:W.cell? ⟨gh,2,none⟩=some (.int .i64 O)) :
 Calls Tryz.prog 98 [.int .i64 x,.pointer (some ⟨gb,0,none⟩)].toArray W λ e w'=>e= .returned (.int .i64 (zD Y O x))/\(w'=W\/w'=W.drew):=by
 refine enter Tryz.func98 rfl Tryz.ntmps98 rfl λ a b=>?_
 refine wp_seq_k λ K f=>wp_region_list (gE wn (Al rfl rfl) b rfl rfl λ a b=>wpList_nil (f _ _ ?_))
 refine wp_seq_k λ K f=>wp_seq_k λ j k=>wp_region_list (gE wn (xF rfl (b.g rfl)) b rfl rfl λ a b=>gE wn (Am Tryz.isAgg67 rfl (b.g rfl) d) b rfl rfl λ a b=>gE wn (Ov rfl (b.g rfl)) b rfl rfl λ a b=>gE wn (ahP rfl (b.g rfl)) b rfl rfl λ a b=>gE wn (Am Tryz.isAgg3 rfl (b.g rfl) J) b rfl rfl λ a b=>gE wn (aq5 rfl (b.g rfl) (b.g rfl)) b rfl rfl λ a b=>wpList_nil (k _ _ ?_))
 refine wp_cond_split (b.g rfl) (λ ag=>?_) λ ag=>?_
 ·refine wp_seq_k λ g h=>wp_region_list (gE wn (xF rfl (b.g rfl)) b rfl rfl λ a b=>gE wn (Al rfl (b.g rfl)) b rfl rfl λ a b=>wpList_nil (h _ _ ?_));refine wp_ret ?_;show bodyPost Tryz.prog Tryz.f98 (λ e w'=>e= .returned (.int .i64 (zD Y O x))/\(w'=W\/w'=W.drew)) .ret a W
  refine CJ Tryz.results98 b rfl ?_;exact⟨by unfold zD;rw[ag];rfl,.inl rfl⟩
 ·refine wp_skip (f _ _ ?_);refine wp_seq_k λ g h=>wp_region_quiet (C:=λ w'=>w'=W.drew) (by kernel_rfl) (by kernel_rfl) rfl ?_
  refine sO wn (λ w c=>xF rfl (b.g rfl)) b rfl rfl λ a b=>sO wn (λ w c=>Am Tryz.isAgg67 rfl (b.g rfl) (by subst c;exact d)) b rfl rfl λ a b=>sO wn (λ w c=>Ov rfl (b.g rfl)) b rfl rfl λ a b=>
   sO wn (λ w c=>ahP rfl (b.g rfl)) b rfl rfl λ a b=>sO wn (λ w c=>Am Tryz.isAgg3 rfl (b.g rfl) (by subst c;exact J)) b rfl rfl λ a b=>sO wn (λ w c=>aeq rfl (b.g rfl) (b.g rfl)) b rfl rfl λ a b=>
   sO wn (λ w c=>Am Tryz.isAgg67 rfl (b.g rfl) (by subst c;exact d)) b rfl rfl λ a b=>sO wn (λ w c=>Ov rfl (b.g rfl)) b rfl rfl λ a b=>
   sO wn (λ w c=>azw rfl (b.g rfl)) b rfl rfl λ a b=>sO wn (λ w c=>Am Tryz.isAgg3 rfl (b.g rfl) (by subst c;exact i)) b rfl rfl λ a b=>sO wn (λ w c=>aeq rfl (b.g rfl) (b.g rfl)) b rfl rfl λ a b=>
   sO wn (λ w c=>Al rfl (b.g rfl)) b rfl rfl λ a b=>?_
  show∀w',w'=W.drew->_
  intro w' c;subst c;refine h _ _ (wp_ret ?_);refine CJ Tryz.results98 b rfl ?_;exact⟨by unfold zD;rw[ag];rfl,.inr rfl⟩
theorem aiR:∀args w,(callFunc 98 args).run Tryz.prog w= .ok (.enter 98 args) w:=kY.call 98 (uu (by kernel_rfl))
theorem afW{W:World}{gb gh:Nat}{Y O z:Int}(b:W.cell? ⟨gb,0,none⟩=some (.pointer (some ⟨gh,0,none⟩)))(J:W.cell? ⟨gh,1,none⟩=some (.int .i64 Y))(c:W.cell? ⟨gh,2,none⟩=some (.int .i64 O))(q:Nat) :
 Calls Tryz.prog 98 [.int .i64 z,.pointer (some ⟨gb,0,none⟩)].toArray (W.drewN q) λ e w'=>e= .returned (.int .i64 (zD Y O z))/\∃d,w'=W.drewN d:=by
 have f:(W.drewN q).cell? ⟨gb,0,none⟩=some (.pointer (some ⟨gh,0,none⟩)):=by rw[World.cell?_drewN];exact b
 have g:(W.drewN q).cell? ⟨gh,1,none⟩=some (.int .i64 Y):=by rw[World.cell?_drewN];exact J
 have i:(W.drewN q).cell? ⟨gh,2,none⟩=some (.int .i64 O):=by rw[World.cell?_drewN];exact c
 have aK:(W.drewN q).drew=W.drewN (q+1):=rfl
 have h:=awH (x:=z) f g i
 rw[aK]at h
 exact Calls.mono h λ e w' a=>⟨a.1,a.2.elim (λ e=>⟨q,e⟩) λ e=>⟨q+1,e⟩⟩
theorem awE{W:World}{gb gh:Nat}{Y O x y:Int}(f:W.cell? ⟨gb,0,none⟩=some (.pointer (some ⟨gh,0,none⟩)))(J:W.cell? ⟨gh,1,none⟩=some (.int .i64 Y))(g:W.cell? ⟨gh,2,none⟩=some (.int .i64 O)) :
 Calls Tryz.prog 97 [.int .i64 x,.int .i64 y,.pointer (some ⟨gb,0,none⟩)].toArray W λ e w'=>e= .returned (.int .i64 (ap (zD Y O x-zD Y O y)))/\∃q,w'=W.drewN q:=by
 refine enter Tryz.func97 rfl Tryz.ntmps97 rfl λ a b=>?_
 refine wp_seq_k λ K c=>wp_region_list (gE wn (Al rfl rfl) b rfl rfl λ a b=>wpList_nil (c _ _ ?_))
 refine wp_seq_k λ K c=>wp_region_list (gE wn (aq9 (xs:=[.tmp 2]) (vs:=[.pointer (some ⟨gb,0,none⟩)]) rfl (by simp only[ea,hP];rw[show a.eval (.tmp 2)=_ from b.g rfl])) b rfl rfl λ a b=>gE wn (Al rfl (b.g rfl)) b rfl rfl λ a b=>wpList_nil (c _ _ ?_))
 refine wp_seq_k λ K c=>wp_region_list (gE wn (xF rfl (b.g rfl)) b rfl rfl λ a b=>gE wn (xF rfl (b.g rfl)) b rfl rfl λ a b=>ace (xs:=[.tmp 9]) (vs:=[.int .i64 x]) (cs:=[.pointer (some ⟨gb,0,none⟩)]) wn rfl aiR (b.g rfl) ⟨b.g rfl,trivial⟩ (afW (z:=x) f J g 0) b rfl rfl λ e w' d=>?_)
 obtain⟨rfl,q,rfl⟩:=d
 refine⟨_,rfl,λ a b=>gE wn (xF rfl (b.g rfl)) b rfl rfl λ a b=>gE wn (xF rfl (b.g rfl)) b rfl rfl λ a b=>ace (xs:=[.tmp 12]) (vs:=[.int .i64 y]) (cs:=[.pointer (some ⟨gb,0,none⟩)]) wn rfl aiR (b.g rfl) ⟨b.g rfl,trivial⟩ (afW (z:=y) f J g q) b rfl rfl λ e w' d=>?_⟩
 obtain⟨rfl,h,rfl⟩:=d
 refine⟨_,rfl,λ a b=>gE wn (arc rfl (b.g rfl) (b.g rfl)) b rfl rfl λ a b=>gE wn (Al rfl (b.g rfl)) b rfl rfl λ a b=>wpList_nil (c _ _ ?_)⟩
 refine wp_ret ?_
 refine CJ Tryz.results97 b rfl ?_
 exact⟨rfl,h,rfl⟩
open Go Go.Shelf
def anL:Ren:=⟨λ f=>match f with|6=>96 |15=>125 |14=>124 |28=>157 |29=>158 |20=>149 |21=>150 |22=>151 |23=>152 |24=>153 |25=>154 |26=>155 |27=>156 |46=>167 |47=>168 |48=>169 |49=>170 |50=>171 |57=>173 |f=>f,
 λ t=>match t with|22=>22 |24=>3 |25=>147 |3=>3 |39=>175 |0=>0 |53=>199 |55=>201 |4=>4 |46=>193 |45=>192 |50=>94 |5=>5 |9=>9 |66=>205 |70=>109 |76=>210 |77=>211 |t=>t,λ g=>g⟩
theorem anK:SlLaysF.n6 Tryz.prog anL:={
 mixed:=by kernel_rfl
 f6:=⟨Tryz.f96.name,by kernel_rfl,by kernel_rfl⟩
 f14:=⟨Tryz.f124.name,by kernel_rfl,by kernel_rfl⟩
 f15:=by kernel_rfl
 f20:=⟨Tryz.f149.name,by kernel_rfl,by kernel_rfl⟩
 f21:=⟨Tryz.f150.name,by kernel_rfl,by kernel_rfl⟩
 f22:=⟨Tryz.f151.name,by kernel_rfl,by kernel_rfl⟩
 f23:=⟨Tryz.f152.name,by kernel_rfl,by kernel_rfl⟩
 f24:=⟨Tryz.f153.name,by kernel_rfl,by kernel_rfl⟩
 f25:=⟨Tryz.f154.name,by kernel_rfl,by kernel_rfl⟩
 f26:=⟨Tryz.f155.name,by kernel_rfl,by kernel_rfl⟩
 f27:=⟨Tryz.f156.name,by kernel_rfl,by kernel_rfl⟩
 f28:=by kernel_rfl
 f29:=by kernel_rfl
 f46:=⟨Tryz.f167.name,by kernel_rfl,by kernel_rfl⟩
 f47:=by kernel_rfl
 f48:=by kernel_rfl
 f49:=⟨Tryz.f170.name,by kernel_rfl,by kernel_rfl⟩
 f50:=⟨Tryz.f171.name,by kernel_rfl,by kernel_rfl⟩
 f57:=⟨Tryz.f173.name,by kernel_rfl,by kernel_rfl⟩
 t0:=by kernel_rfl
 a0:=λ w=>by kernel_rfl
 z0:=λ w=>by kernel_rfl
 v0:=λ w=>by kernel_rfl
 t3:=by kernel_rfl
 a3:=λ w=>by kernel_rfl
 z3:=λ w=>by kernel_rfl
 v3:=λ w=>by kernel_rfl
 t4:=by kernel_rfl
 a4:=λ w=>by kernel_rfl
 z4:=λ w=>by kernel_rfl
 v4:=λ w=>by kernel_rfl
 t5:=by kernel_rfl
 a5:=λ w=>by kernel_rfl
 z5:=λ w=>by kernel_rfl
 v5:=λ w=>by kernel_rfl
 t9:=by kernel_rfl
 a9:=λ w=>by kernel_rfl
 z9:=λ w=>by kernel_rfl
 v9:=λ w=>by kernel_rfl
 t22:=by kernel_rfl
 a22:=λ w=>by kernel_rfl
 z22:=λ w=>by kernel_rfl
 v22:=λ w=>by kernel_rfl
 a24:=λ w=>by kernel_rfl
 z24:=λ w=>by kernel_rfl
 t25:=by kernel_rfl
 a25:=λ w=>by kernel_rfl
 z25:=λ w=>by kernel_rfl
 v25:=λ w=>by kernel_rfl
 t39:=by kernel_rfl
 a39:=λ w=>by kernel_rfl
 z39:=λ w=>by kernel_rfl
 v39:=λ w=>by kernel_rfl
 t45:=by kernel_rfl
 a45:=λ w=>by kernel_rfl
 z45:=λ w=>by kernel_rfl
 v45:=λ w=>by kernel_rfl
 t46:=by kernel_rfl
 a46:=λ w=>by kernel_rfl
 z46:=λ w=>by kernel_rfl
 v46:=λ w=>by kernel_rfl
 t50:=by kernel_rfl
 a50:=λ w=>by kernel_rfl
 z50:=λ w=>by kernel_rfl
 v50:=λ w=>by kernel_rfl
 t53:=by kernel_rfl
 a53:=λ w=>by kernel_rfl
 z53:=λ w=>by kernel_rfl
 v53:=λ w=>by kernel_rfl
 t55:=by kernel_rfl
 a55:=λ w=>by kernel_rfl
 z55:=λ w=>by kernel_rfl
 v55:=λ w=>by kernel_rfl
 t66:=by kernel_rfl
 a66:=λ w=>by kernel_rfl
 z66:=λ w=>by kernel_rfl
 v66:=λ w=>by kernel_rfl
 t70:=by kernel_rfl
 a70:=λ w=>by kernel_rfl
 z70:=λ w=>by kernel_rfl
 v70:=λ w=>by kernel_rfl
 t76:=by kernel_rfl
 a76:=λ w=>by kernel_rfl
 z76:=λ w=>by kernel_rfl
 v76:=λ w=>by kernel_rfl
 t77:=by kernel_rfl
 a77:=λ w=>by kernel_rfl
 z77:=λ w=>by kernel_rfl
 v77:=λ w=>by kernel_rfl }
open Go Go.RowKit aw I a7 Go.Sort Go.Proofs
def fB(Y O x:Int):Int:=if Y<x then x else x+Y+O
def mw(Y O:Int)(x y:Int):Bool:=decide (fB Y O x<=fB Y O y)
def mC(Y O:Int)(l:List Int):List Int:=l.mergeSort (mw Y O)
abbrev Hq(Y O:Int):Type:={ x:Int // 1<=x/\x<=Y+O }
def qO(Y O:Int)(x y:Hq Y O):Int:=fB Y O x.1-fB Y O y.1
def yd{Y O:Int}(x:Hq Y O):Value:=.int .i64 x.1
theorem alO{Y O x:Int}(a:0<=Y/\Y<=100000)(b:0<=O/\O<=100000)(ad:1<=x/\x<=Y+O):zD Y O x=fB Y O x:=by unfold zD fB;by_cases h:Y<x;rw[lu h,lz h];rfl;rw[lx h,ly h,lK];unfold ap;omega
theorem aLd(Y O:Int):SWO (ltOf (qO Y O)) where
 irrefl x:=by simp[ltOf,qO]
 trans x y z a J:=by have a:fB Y O x.1-fB Y O y.1<0:=of_decide_eq_true a;have J:fB Y O y.1-fB Y O z.1<0:=of_decide_eq_true J;exact lu (show fB Y O x.1-fB Y O z.1<0 by omega)
 ntrans x y z a J:=by have a: ¬fB Y O x.1-fB Y O y.1<0:=of_decide_eq_false a;have J: ¬fB Y O y.1-fB Y O z.1<0:=of_decide_eq_false J;exact lx (show¬fB Y O x.1-fB Y O z.1<0 by omega)
theorem aLr{Y O:Int}(b:0<=Y)(c:0<=O)(x y:Hq Y O)(a:ltOf (qO Y O) x y=false)(J:ltOf (qO Y O) y x=false):x=y:=by
 obtain⟨x,ad⟩:=x;obtain⟨y,hy⟩:=y;simp only[ltOf,qO,decide_eq_false_iff_not,fB]at a J;apply Subtype.ext;show x=y
 split at a<;>split at a<;>simp_all<;>omega
theorem aK5{Y O:Int}(l:List (Hq Y O)):(l.mergeSort λ x y=>!(ltOf (qO Y O)) y x).map Subtype.val=mC Y O (l.map Subtype.val):=by unfold mC;refine List.map_mergeSort λ a _ b _=>?_;unfold ltOf qO mw;by_cases h:fB Y O a.1<=fB Y O b.1;rw[lu h,lx (by omega)];rfl;rw[lx h,lu (by omega)];rfl
theorem SV{α:Type} [Inhabited α]{enc:α->Value}{w:World}{cd off m:Nat}{dk:Array α}{os:Array Obj}{k:Nat}(a:k≠cd)(b:k<w.heap.size):(sortWorld enc w cd off m dk os).heap[k]? =w.heap[k]? :=by unfold sortWorld grow putRow mapBlock Sort.ahead;simp only;rw[Array.getElem?_append_left (by simpa using b),jr,ly (λ e=>a e.symm)]
theorem aLc{α:Type} [Inhabited α]{enc:α->Value}{w:World}{cd m:Nat}{dk:Array α}{os:Array Obj}{cur:Array Value}{e:TypeId}(h:w.heap[cd]? =some (.cells cur e (0,0))):(sortWorld enc w cd 0 m dk os).heap[cd]? =some (.cells (putCells enc 0 dk cur) e (0,0)):=by
 have a:cd<w.heap.size:=by rcases fO cd w.heap.size with h1 |h1;exact h1;rw[hG h1]at h;cases h
 unfold sortWorld grow putRow mapBlock Sort.ahead;simp only;rw[Array.getElem?_append_left (by simpa using a),jr,lz rfl,h];rfl
theorem cell_of{w:World}{cd k:Nat}{cur:Array Value}{e:TypeId}(h:w.heap[cd]? =some (.cells cur e (0,0))):w.cell? ⟨cd,k,none⟩=cur[k]? /\w.frozen? ⟨cd,k,none⟩=false:=by constructor;simp[World.cell?,h];simp[World.frozen?,h]
theorem Vd{w w':World}{b o:Nat}{v:Value}(h:w'.heap[b]? =w.heap[b]?)(hc:w.cell? ⟨b,o,none⟩=some v):w'.cell? ⟨b,o,none⟩=some v:=by unfold World.cell? at hc⊢;rw[h];exact hc
theorem Any.aK3{P:Program}{ρ:Go.Shelf.Ren}{α:Type} [Inhabited α](L:SlLaysF.n6 P ρ)(enc:α->Value)(h:OneCell enc)(a:α->α->Int)(f:SWO (ltOf a))(g:Nat)(c:Array Value)(cd off cap:Nat)(d:Array α)(w:World)
 (Pv:∀args w,(callFunc g args).run P w= .ok (.enter g args) w)(i:CmpLays1 P g c enc a cd off d.size w)(j:Holds enc w cd off d)(b:cd<w.heap.size)(k:d.size<4611686018427387904)(l:∀x y,(ltOf a) x y=false->(ltOf a) y x=false->x=y) :
 Calls P (ρ.f 6) #[.slice (some ⟨cd,off,none⟩) d.size cap,.func (.func g) #[] c] w λ e w'=>e= .returned (.tuple #[])/\∃n os,w'=sortWorld enc w cd off n (d.toList.mergeSort λ x y=>!(ltOf a) y x).toArray os:=
 (Any.slices_SortFunc L enc h a f g c cd off cap d w Pv i j b k).mono λ _ _ ⟨m,d',n,os,o,aj,p⟩=>⟨m,n,os,by rw[p,<-sorted_unique_holds f l d d' o aj]⟩
set_option maxHeartbeats 1000000
theorem aK9{W:World}{gb gh cd cap:Nat}{Y O:Int}(p:0<=Y/\Y<=100000)(r:0<=O/\O<=100000){L:List Int}(B:∀x∈L,1<=x/\x<=Y+O)(E:L≠[])(a:L.length<4611686018427387904)
 (h1:W.cell? ⟨gb,0,none⟩=some (.pointer (some ⟨gh,0,none⟩)))(J:W.cell? ⟨gh,1,none⟩=some (.int .i64 Y))(C:W.cell? ⟨gh,2,none⟩=some (.int .i64 O))(ag:gb≠cd)(D:gh≠cd)
 {cur:Array Value}(f:W.heap[cd]? =some (.cells cur 3 (0,0)))(g:cur.toList.take L.length=L.map (Value.int .i64)) :
 Calls Tryz.prog 96 [.slice (some ⟨cd,0,none⟩) L.length cap,.func (.func 97) #[] #[.pointer (some ⟨gb,0,none⟩)]].toArray W λ e w'=>e= .returned (.tuple #[])/\a_ [cd] W w'/\∃s:Array Value,w'.heap[cd]? =some (.cells s 3 (0,0))/\s.size=cur.size/\s.toList.take L.length=(mC Y O L).map (Value.int .i64):=by
 obtain⟨i,L',rfl⟩:=List.exists_cons_of_ne_nil E
 haveI:Inhabited (Hq Y O):=⟨⟨i,B i (by simp)⟩⟩
 obtain⟨d,aK⟩:∃d:List (Hq Y O),d.map Subtype.val=i::L':=⟨(i::L').attachWith _ B,by simp⟩
 rw[<-aK]at g a⊢
 rw[gJ]at g a⊢
 have t:∀ {k:Nat}{o:Obj},W.heap[k]? =some o->k<W.heap.size:=λ{k o} h=>by rcases fO k W.heap.size with h1 |h1;exact h1;rw[hG h1]at h;cases h
 have u:∀ {b o:Nat}{v:Value},W.cell? ⟨b,o,none⟩=some v->b<W.heap.size:=λ{b o v} h=>World.block_lt_of_cell? W ⟨b,o,none⟩ h
 have w:∀j (ax:j<d.length),cur[j]? =some (yd d[j]):=λ j ax=>by have:=congrArg (λ l=>l[j]?) g;simp only[gK,lz ax,iY,aR ax,fs,ha]at this;exact this
 have F:Holds (yd (Y:=Y) (O:=O)) W cd 0 d.toArray:=λ j ax=>by
  have ax:j<d.length:=by simpa using ax
  have:=cell_of (k:=j) f;rw[ji,this.1,w j ax];refine⟨?_,this.2⟩;rw[getElem!_pos d.toArray j (by simpa using ax)];simp
 have G:CmpLays1 Tryz.prog 97 #[.pointer (some ⟨gb,0,none⟩)] (yd (Y:=Y) (O:=O)) (qO Y O) cd 0 d.toArray.size W:=λ m os dk _ x y=>by
  have e1:=Vd (SV (enc:=yd (Y:=Y) (O:=O)) (off:=0) (m:=m) (dk:=dk) (os:=os) ag (u h1)) h1;have e2:=Vd (SV (enc:=yd (Y:=Y) (O:=O)) (off:=0) (m:=m) (dk:=dk) (os:=os) D (u J)) J;have e3:=Vd (SV (enc:=yd (Y:=Y) (O:=O)) (off:=0) (m:=m) (dk:=dk) (os:=os) D (u C)) C;refine Calls.mono (awE (x:=x.1) (y:=y.1) e1 e2 e3) λ e w' f=>⟨?_,?_⟩
  ·rw[f.1,alO p r x.2,alO p r y.2];have ad:=x.2;have hy:=y.2;have:ap (fB Y O x.1-fB Y O y.1)=qO Y O x y:=by unfold qO ap fB;split<;>split<;>omega
   rw[this]
  ·obtain⟨q,H⟩:=f.2;exact⟨q,#[],by rw[H,grow_empty]⟩
 have z:=Any.aK3 anK (yd (Y:=Y) (O:=O)) (λ _=>rfl) (qO Y O) (aLd Y O) 97 #[.pointer (some ⟨gb,0,none⟩)] cd 0 cap d.toArray W (kY.call 97 (uu (by kernel_rfl))) G F (t f) (by simpa using a) (aLr p.1 r.1)
 refine Calls.mono (show Calls Tryz.prog 96 _ W _ from z) λ e w' c=>?_
 obtain⟨I,n,os,c⟩:=c
 obtain⟨S,A⟩:∃S,S=d.toArray.toList.mergeSort λ x y=>!(ltOf (qO Y O)) y x:=⟨_,rfl⟩
 rw[<-A]at c
 have N:S.length=d.length:=by rw[A,k6]
 refine⟨I,⟨by rw[c];rfl,by rw[c];rfl,by rw[c];rfl,?_,λ k K M=>by rw[c];exact SV (by simpa using M) K⟩,putCells yd 0 S.toArray cur,by rw[c];exact aLc f,by simp[putCells],?_⟩
 ·rw[c];unfold sortWorld grow putRow mapBlock Sort.ahead;simp
 ·rw[<-aK5,lq];have hcs:d.length<=cur.size:=by have:=congrArg hr g;simp at this;omega
  rw[show(d.mergeSort λ x y=>!(ltOf (qO Y O)) y x)=S from A.symm];refine jZ λ j=>?_;rw[gK];by_cases ax:j<d.length;rw[lz ax,iY,aR (by omega:j<S.length),ha];unfold putCells;rw[Array.getElem?_mapIdx,iU (by omega)];simp only[fs];rw[lz ⟨fY _,by simp;omega⟩,Nat.sub_zero,getElem!_pos S.toArray j (by simp;omega)];simp[yd];rw[ly ax,iY,fk (by omega)];rfl
@[reducible] def QX:List cy:=[.p (.P 5 1),.p (.B 0),.p (.B 1),.p (.B 2),.p (.R 6)]
@[reducible] def Mn:List cy:=[.p (.P 5 1),.p (.B 0),.p (.B 1),.p (.R 6)]
@[reducible] def n':List bJ:=[.c 67 [.B 3],.c 69 [.l 134,.l 3,.l 124,.l 120,.l 121],.c 140 [.B 3,.l 134,.l 3,.l 124,.l 120,.l 121,.M 4],.c 24 [.l 3,lS,lS,lS,lS,.l 3,lS],.m 3 4,.r 3 true,.r 3 false]
noncomputable def uv:Code×Code:=((Gm Tryz.prog 63 0).getD (.skip,.skip))
def gl:AE:=(Jh uv.1 uv.2).getD ⟨0,#[],0,0,0,0,0,default,default,default,default,default,0,#[],0,#[]⟩
theorem aDM:Gm Tryz.prog 63 0=some uv:=by kernel_rfl
theorem aDN:Jh uv.1 uv.2=some gl:=by kernel_rfl
def FN(Y O:Int)(a b:List Int):Option (List Int):=match decide (0<=Y)&&decide (Y<=100000)&&decide (0<=O)&&decide (O<=100000)&&decide (a.length<=200000)&&b.isEmpty&&a.all (λ x=>decide (1<=x)&&decide (x<=Y+O))with
 |true=>some (mC Y O a)
 |false=>none
theorem aDP{Y O:Int}{a b S:List Int}(h:FN Y O a b=some S):(0<=Y/\Y<=100000)/\(0<=O/\O<=100000)/\a.length<=200000/\b=[]/\(∀x∈a,1<=x/\x<=Y+O)/\S=mC Y O a:=by unfold FN at h;split at h;rename_i ag;simp only[ca,decide_eq_true_eq,jM,List.isEmpty_iff]at ag;obtain⟨⟨⟨⟨⟨⟨c,J⟩,d⟩,e⟩,f⟩,g⟩,i⟩:=ag;exact⟨⟨c,J⟩,⟨d,e⟩,f,g,i,(ee h).symm⟩;cases h
def II(d:dy bf.El QX×cK bf.El n'):Option (Aw bf.El ⟨.nm,[2,3,4,8],Mn,n'⟩):=(FN d.2.2.2.2.1.2.1 d.2.2.2.2.1.2.2.1 (List.map (α:=Int×Bool) j2 d.2.2.2.2.2.1) d.2.2.2.2.2.2.2.1).map λ S=>((d.1.1,(),(),(),()),(d.2.1,d.2.2.1,d.2.2.2.1,d.2.2.2.2.1,d.2.2.2.2.2.1,d.2.2.2.2.2.2.1,S,()))
theorem aDX:gl.jm.op= .next (.tmp 36) false/\gl.jm.dst=some 37/\gl.jm.guard=none:=by refine⟨?_,?_,?_⟩<;>kernel_rfl
theorem aDU:gl.oj.op= .extract (.tmp 37) 0/\gl.oj.dst=some 38/\gl.oj.guard=none:=by refine⟨?_,?_,?_⟩<;>kernel_rfl
theorem aDV:gl.nz.op= .entry (.tmp 36)/\gl.nz.dst=some 39/\gl.nz.guard=none:=by refine⟨?_,?_,?_⟩<;>kernel_rfl
theorem aDW:gl.lR.op= .extract (.tmp 39) 0/\gl.lR.dst=some 40/\gl.lR.guard=none:=by refine⟨?_,?_,?_⟩<;>kernel_rfl
theorem aDY:gl.om.op= .assign (.tmp 40)/\gl.om.dst=some 9/\gl.om.guard=none:=by refine⟨?_,?_,?_⟩<;>kernel_rfl
def aD1:List Oper:=gl.ops.toList.take 4
def Mo:Oper:=(gl.ops.toList.drop 4).headD gl.jm
theorem aDZ:gl.ops.toList=aD1++[Mo]:=by kernel_rfl
theorem Y9:Mo.op= .range 70 (.tmp 35)/\Mo.dst=some 36/\Mo.guard=none:=by refine⟨?_,?_,?_⟩<;>kernel_rfl
def QU:Oper:=gl.zM.toList.headD gl.jm
def QV:Oper:=(gl.zM.toList.drop 1).headD gl.jm
def QW:Oper:=(gl.zM.toList.drop 2).headD gl.jm
theorem aD2:gl.zM.toList=[QU,QV,QW]:=by kernel_rfl
theorem aj6:QU.op= .move (.tmp 8)/\QU.dst=some 45:=by refine⟨?_,?_⟩<;>kernel_rfl
theorem aj7:QV.op= .makeFunc (.func 97) #[] #[.tmp 3]/\QV.dst=some 46:=by refine⟨?_,?_⟩<;>kernel_rfl
theorem aj8:QW.op= .call { callee:=.value (.func 96),args:=[.tmp 45,.tmp 46].toArray,argTypes:=#[22,147] }/\QW.dst=some 47:=by refine⟨?_,?_⟩<;>kernel_rfl
theorem aJH{F:Nat->Prop}{w:World}{cs:List Value}{d:Int}(h:(bf.ty 3).rd F w cs d):cs=[.int .i64 d]:=by change fC (λ t=>(gf EP t).ty) F w [.i .i64] _ (d,())at h;obtain⟨u,us,rfl,rfl,rfl⟩:=h;rfl
theorem aJI{F:Nat->Prop}{w:World}(d:Int):(bf.ty 3).rd F w [.int .i64 d] d:=by change fC (λ t=>(gf EP t).ty) F w [.i .i64] _ (d,());exact⟨_,_,rfl,rfl,rfl⟩
theorem abR{F:Nat->Prop}{w:World}:∀ {l:List (bf.El 3)}{xs:List Value},dN (bf.ty 3) F w xs l->xs=List.map (α:=Int) (Value.int .i64) l
 |[],xs,h=>h
 |d::r,xs,h=>by obtain⟨cs,ys,rfl,a,J⟩:=h;rw[aJH a,abR J];rfl
theorem abS{F:Nat->Prop}{w:World}:∀(l:List (bf.El 3)),dN (bf.ty 3) F w (List.map (α:=Int) (Value.int .i64) l) l
 |[]=>rfl
 |d::r=>⟨[.int .i64 d],_,rfl,aJI d,abS r⟩
theorem aK4{Y O:Int}(m:0<=Y)(n:0<=O){l l':List Int}(g:l.Perm l')(h:∀x∈l,1<=x/\x<=Y+O):mC Y O l=mC Y O l':=by
 unfold mC;have i:∀a b c:Int,mw Y O a b=true->mw Y O b c=true->mw Y O a c=true:=λ a b c d J=>by simp only[mw,decide_eq_true_eq]at *;omega
 have j:∀a b:Int,(mw Y O a b||mw Y O b a)=true:=λ a b=>by simp only[mw,hA,decide_eq_true_eq];omega
 refine List.Perm.eq_of_pairwise (le:=λ a b=>mw Y O a b=true) (λ a b k ag d J=>?_) (kM i j l) (kM i j l') (((j0 l _).trans g).trans (j0 l' _).symm);have k:=h a ((j0 l _).mem_iff.1 k);have ag:=h b (g.mem_iff.2 ((j0 l' _).mem_iff.1 ag));have d:fB Y O a<=fB Y O b:=of_decide_eq_true d;have J:fB Y O b<=fB Y O a:=of_decide_eq_true J;unfold fB at d J;by_cases e:Y<a<;>by_cases f:Y<b;rw[lz e,lz f]at d J;omega;rw[lz e,ly f]at d;omega;rw[ly e,lz f]at d J;omega;rw[ly e,ly f]at d J;omega
theorem aK8(p:Option Addr)(cap:Nat)(a:Value)(w:World):Calls Tryz.prog 96 #[.slice p 0 cap,a] w λ e w'=>e= .returned (.tuple #[])/\w'=w:=Go.Proofs.AnyF.slices_SortFunc_none (ρ:=anL) { anK with } p cap a w
theorem aBc:∀args w,(callFunc 96 args).run Tryz.prog w= .ok (.enter 96 args) w:=kY.call 96 (uu (by kernel_rfl))
theorem aDR:QU.guard=none:=by kernel_rfl
theorem aDS:QV.guard=none:=by kernel_rfl
theorem aDT:QW.guard=none:=by kernel_rfl
theorem akV:∀ {fr:List (Nat×Value)}{t:Nat}{y:Value},ey fr t=some y->(t,y)∈fr
 |[],t,y,h=>by simp[ey]at h
 |p::r,t,y,h=>by unfold ey at h;split at h;rename_i ag;simp only[aM]at h;have:=bF ag;subst this;subst h;exact iz;exact eD _ (akV h)
def Y7(t:b9 bf.El):Option (Nat×List Value):=match gU t,cH t.s.f.fr 35 with
 |true,some (.m j)=>(yo t.s.f [2,3,4,8]).map λ vs=>(j,vs)
 |_,_=>none
theorem aj5{t:b9 bf.El}{j:Nat}{vs:List Value}(h:Y7 t=some (j,vs)):gU t=true/\cH t.s.f.fr 35=some (.m j)/\yo t.s.f [2,3,4,8]=some vs:=by unfold Y7 at h;split at h;rename_i b J;obtain⟨us,c,a⟩:=cF.1 h;simp only[cI]at a;obtain⟨rfl,rfl⟩:=a;exact⟨b,J,c⟩;cases h
def gV{T:bQ}(t:b9 T.El):Bool:=match t.x with
 | .nm=>true
 |_=>false
theorem aDw{T:bQ}{t:b9 T.El}(h:gV t=true):t.x= .nm:=by unfold gV at h;split at h;rename_i e;exact e;cases h
def QT(t:b9 bf.El):Option ((Nat×Nat)×(Nat× Σ u,List (bf.El u))×List Nat×List Value):=match gV t,cH t.s.f.fr 8,a7.rowAt t.s.bl 6 with
 |true,some (.r i g),some p=>(yo t.s.f [2,3,4,36]).map λ vs=>((i,g),p,t.s.ws,vs)
 |_,_,_=>none
theorem aDQ{t:b9 bf.El}{i g:Nat}{p:Nat× Σ u,List (bf.El u)}{ws:List Nat}{vs:List Value}(h:QT t=some ((i,g),p,ws,vs)):t.x= .nm/\cH t.s.f.fr 8=some (.r i g)/\a7.rowAt t.s.bl 6=some p/\t.s.ws=ws/\yo t.s.f [2,3,4,36]=some vs:=by unfold QT at h;split at h;rename_i b J c;obtain⟨us,d,a⟩:=cF.1 h;simp only[cI]at a;obtain⟨⟨rfl,rfl⟩,rfl,rfl,rfl⟩:=a;exact⟨aDw b,J,c,rfl,d⟩;cases h
theorem aA2{cd n c:Nat}(h:0<c):a7.ag (.slice (some ⟨cd,0,none⟩) n c)=[cd]:=by
 cases c with
 |zero=>omega
 |succ c=>rfl
theorem aK6{W:World}{gb gh cap:Nat}{A:Option Addr}{Y O:Int}(h:0<=Y/\Y<=100000)(i:0<=O/\O<=100000){L:List Int}(j:∀x∈L,1<=x/\x<=Y+O)(b:L.length<4611686018427387904)
 (k:W.cell? ⟨gb,0,none⟩=some (.pointer (some ⟨gh,0,none⟩)))(J:W.cell? ⟨gh,1,none⟩=some (.int .i64 Y))(l:W.cell? ⟨gh,2,none⟩=some (.int .i64 O))
 (c:rowIs W 3 (bf.ty 3).size (.slice A L.length cap) L.length (L.map (Value.int .i64)))(ag:gb∉a7.ag (.slice A L.length cap))(g:gh∉a7.ag (.slice A L.length cap)) :
 Calls Tryz.prog 96 [.slice A L.length cap,.func (.func 97) #[] #[.pointer (some ⟨gb,0,none⟩)]].toArray W λ e w'=>e= .returned (.tuple #[])/\a_ (a7.ag (.slice A L.length cap)) W w'/\rowIs w' 3 (bf.ty 3).size (.slice A L.length cap) L.length ((mC Y O L).map (Value.int .i64)):=by
 have m:(bf.ty 3).size=1:=rfl
 rw[m]at c⊢
 by_cases d:L=[]
 ·subst d;refine Calls.mono (aK8 A cap _ W) λ e w' a=>?_;obtain⟨f,a⟩:=a;refine⟨f,a▸a_.refl _ _,?_⟩;rw[a,show mC Y O []=[] from by simp[mC]];exact c
 ·have n:0<L.length:=kA.2 d;obtain⟨v,o⟩:=c.own n;rcases o with⟨_,e⟩|⟨cd,p,cur,e1,e2,e3,e4,e5,e6,e7⟩;omega;simp only[Value.slice.injEq,true_and]at e1;obtain⟨rfl,rfl⟩:=e1;rw[aA2 (by omega)]at ag g⊢;rw[jl]at e7;refine Calls.mono (aK9 h i j d b k J l (by simpa using ag) (by simpa using g) e3 e7) λ e w' a=>?_;obtain⟨f,q,r,s,t,u⟩:=a;refine⟨f,q,.inl ⟨?_,.inr ⟨cd,cap,r,rfl,e2,s,e4,e5,t.trans e6,by rw[jl];exact u⟩⟩⟩;rw[gJ,mC,k6,jl]
theorem Nn{T:bQ}{F:Nat->Prop}{w:World}{ρ:List Value}{bl:List (aG T.El)}{y:aL T.El}{r:List (aL T.El)}{v:Value}{vs:List Value}(h:aZ T F w ρ bl (y::r) (v::vs)):av T F w ρ bl y v/\aZ T F w ρ bl r vs:=by simp only[aZ]at h;obtain⟨u,us,e,a,J⟩:=h;simp only[hq]at e;obtain⟨rfl,rfl⟩:=e;exact⟨a,J⟩
theorem Sz{T:bQ}{F:Nat->Prop}{w:World}{ρ:List Value}{bl:List (aG T.El)}{y:aL T.El}{r:List (aL T.El)}{vs:List Value}(h:aZ T F w ρ bl (y::r) vs):∃u us,vs=u::us/\av T F w ρ bl y u/\aZ T F w ρ bl r us:=by simpa only[aZ]using h
set_option maxRecDepth 100000
set_option maxHeartbeats 4000000
theorem aD8:afe aE ⟨165,[]⟩ [2,3,4,7,8] QX n' ⟨.nm,[2,3,4,8],Mn,n'⟩ II uv.1 uv.2:=by
 intro da db fc fV W M0 X ρ a w cq uh eW rest Q k;obtain⟨ad,au⟩:=al4 aDN;rw[ad,au];obtain⟨(ed:List Int),u3,u4,u7,u8,aQ6⟩:=da;obtain⟨G,H,p,⟨(pJ:List Int),(Y:Int),(O:Int),vQ⟩,(L:List (Int×Bool)),(sR:List Int),(fK:List Int),yc⟩:=db;obtain⟨(S:List Int),eu,I⟩:=cF.1 fV;obtain⟨gw,hO,N,aCo,LP,Xw⟩:=aDP (show FN Y O (L.map j2) fK=some S from eu);subst aCo;subst I;obtain⟨s,C⟩:=eW;have C:aZ bf _ w ρ _ [.pp 5 0 1 ed,.b 0 0,.b 1 0,.b 2 0,.r 6 0] [a.tmps.getD 2 undef,a.tmps.getD 3 undef,a.tmps.getD 4 undef,a.tmps.getD 7 undef,a.tmps.getD 8 undef]:=C;obtain⟨J,C⟩:=Nn C;obtain⟨aq,C⟩:=Nn C;obtain⟨a6,C⟩:=Nn C;obtain⟨iv,C⟩:=Nn C;obtain⟨nY,C⟩:=Nn C;obtain⟨ul,e4⟩:=s.ux (i:=4) (B:=.m 3 4 L) rfl;obtain⟨bm,E8,UK,Xv,es,clock,wj,Lz,Yl,Ih⟩:=s.ok 4 (.m 3 4 L) _ rfl e4;subst E8;obtain rfl:UK=(wy:jd (aE.T.El 3)):=by
  have Xp:(aE.T.e 3).key=some (wy:jd (aE.T.El 3)):=by kernel_rfl
  exact ee (Xv.symm.trans Xp)
 have LN:=VA Lz;have jy:(es.toList.map (·.born)).Nodup:=j7.2 (Yl.imp λ h=>Nat.ne_of_lt h);obtain⟨E,e6⟩:=s.ux (i:=6) (B:=.r 3 0 0 ([]:List (bf.El 3))) rfl;obtain⟨pD,e0,aRi,Qp,aCB,aCw⟩:=s.ab8 (i:=6) (t:=3) (g:=0) (k:=0) (l0:=([]:List (bf.El 3))) rfl e6;have aLK:a.tmps.getD 8 undef=E:=by simp only[av]at nY;obtain⟨_,h',bh,_,bL⟩:=nY;rw[e6]at bh;cases bh;exact bL rfl
 have V:∀q∈a7.ag E,q<w.heap.size:=λ q b=>(s.lt q ⟨6,_,_,rfl,e6,b⟩).1;have I:∀ {k:Nat}{o:Obj}{w:World},w.heap[k]? =some o->k<w.heap.size:=λ{k o w} h=>by rcases fO k w.heap.size with h1 |h1;exact h1;rw[hG h1]at h;cases h
 have aA3:bm∉a7.ag E:=s.bC 4 6 _ _ _ _ rfl e4 rfl e6 (by decide) bm (dm.2 rfl);refine wp_seq (wp_seq (wp_region_list ?_));rw[aDZ];refine Sm (n:=⟨165,[]⟩) (K:=Y7) (z:=(4,[a.tmps.getD 2 undef,a.tmps.getD 3 undef,a.tmps.getD 4 undef,a.tmps.getD 8 undef])) kY rfl s cq uh (fr:=[(7,.b 2 0),(2,.p (a.tmps.getD 2 undef)),(3,.p (a.tmps.getD 3 undef)),(4,.p (a.tmps.getD 4 undef)),(8,.p (a.tmps.getD 8 undef))]) (λ t y hy=>?_) (by kernel_rfl) (λ t h=>QO (aj5 h).1) λ t eP b' M Xt eC uc kZ=>?_;have:=MA hy;simp only[cG,cI,hI,or_false]at this;rcases this with⟨rfl,rfl⟩|⟨rfl,rfl⟩|⟨rfl,rfl⟩|⟨rfl,rfl⟩|⟨rfl,rfl⟩;exact iv;simp only[av];simp only[av];simp only[av];simp only[av];obtain⟨bh,bs,bL⟩:=aj5 Xt;have T:=P8 eC.dZ.et bL;simp only[ea,hP,hq,and_true]at T;obtain⟨g2,g3,g4,g8⟩:=T;have f35:=eC.dZ.et.get 35 _ bs;simp only[av]at f35;obtain⟨av_,cO,ef⟩:=f35;obtain⟨u2,bj,bd,_⟩:=uc.L.at_ 4 _ e4;have bd:=bd (by simp[ms]);rw[bj,bd]at cO;cases cO;have yI:M.heap[bm]? =some (.map es clock):=(kZ.block bm (I wj) (by simp)).trans wj;have ay4:b'.eval (.tmp 35)= .map (some bm):=ef;obtain⟨r,gz⟩:∃r,r=M.heap.size:=⟨_,rfl⟩
 have aQw:w.heap.size<=r:=by rw[gz];exact kZ.size
 have cC:bc aE.P Mo b' M (.pointer (some ⟨r,0,none⟩)) (M.alloc (.mapIter (some bm) clock #[] clock)):=by rw[gz];simp only[bc,execOp,Y9.1,ay4];rw[Sem.run_bind,run_range_map (P:=aE.P) M 70 3 4 bm es clock Tryz.underlying70 yI];rfl
 refine eZ Y9.2.2 cC ?_;rw[Y9.2.1];refine wpList_nil ?_;obtain⟨cQ,mo⟩:∃cQ,cQ=M.alloc (.mapIter (some bm) clock #[] clock):=⟨_,rfl⟩
 rw[<-mo];have Ic:a_ [] M cQ:=by rw[mo];exact a_.alloc [] M _
 have Md:cQ.heap[r]? =some (.mapIter (some bm) clock #[] clock):=by rw[mo,gz];exact heap_alloc_new M _
 have lJ:r<cQ.heap.size:=I Md;have KH:b'.tmps.size=165:=eC.dZ.et.size;have UT:b'.defers=[]:=eC.dZ.et.defers
 refine aj0 (n:=165) (r:=r) (bm:=bm) (since:=clock) (clock:=clock) (ti:=36) (tn:=37) (tok:=38) (te:=39) (tk:=40) (tv:=9) (es:=es)
  (λ acc U w'=>U.tmps.size=165/\U.defers=[]/\U.tmps.getD 2 undef=a.tmps.getD 2 undef/\U.tmps.getD 3 undef=a.tmps.getD 3 undef/\U.tmps.getD 4 undef=a.tmps.getD 4 undef/\U.tmps.getD 36 undef= .pointer (some ⟨r,0,none⟩)/\UJ w' r bm clock clock es acc/\(acc.map (·.born)).Nodup/\(∀e∈acc,e∈es.toList)/\a_ (a7.ag E) w w'/\r<w'.heap.size/\
   ∃(l:List Int)(A:Option Addr)(c:Nat),l=acc.map lN/\U.tmps.getD 8 undef= .slice A l.length c/\rowIs w' 3 (bf.ty 3).size (.slice A l.length c) l.length (l.map (Value.int .i64))/\∀q∈a7.ag (.slice A l.length c),q≠r/\(q∈a7.ag E\/(w.heap.size<=q/\q<w'.heap.size)))
  aDX aDU aDV aDW aDY (by decide) (by decide) Ih (cP _) jy (λ acc U w' h=>⟨h.1,h.2.2.2.2.2.1,h.2.2.2.2.2.2.1,h.2.2.2.2.2.2.2.1,h.2.2.2.2.2.2.2.2.1⟩) ?_ ?_ ?_
 ·intro acc e a2 a3 jY s0 k0 he BJ u Mc Qb QC wk;obtain⟨i1,i2,YJ,YK,YL,i4,⟨i5,aDc⟩,i6,i7,i8,i9,l,A,c,QF,Z,i11,f⟩:=k0;have a1:a_ (a7.ag E) w s0:=i8.trans Qb λ x ad=>.inr (by simp at ad;omega);have aB1:∀q∈a7.ag (.slice A l.length c),q<jY.heap.size:=λ q b=>(f q b).2.elim (λ h=>ez (V q h) i8.size) (·.2);have p7:=i11.later (w':=s0) λ q b=>Qb.block q (aB1 q b) (by simpa using(f q b).1);obtain⟨ul,aLi⟩:=s.ane (i:=6) (t:=3) (g:=0) (k:=0) (l0:=([]:List (bf.El 3))) (l:=l) (A:=A) (c:=c) rfl e6 a1 (λ q b=>(f q b).2.imp id λ h=>⟨h.1,by rw[QC];exact h.2⟩) p7 (λ F=>abS l);have t9:=Mc (by decide);rw[Vz Lz e he]at t9
  have Qw:l.length<=200000:=by
   have h1:=Z4 i6 (Y:=es.toList.map (·.born)) λ x ad=>by obtain⟨z,ah,rfl⟩:=ho.1 ad;exact jq (i7 z ah)
   have J:=congrArg hr LN;simp only[gJ]at h1 J N;rw[QF,gJ];omega
  have yx:bE 8 l [lN e]=some (l++[lN e]):=by unfold bE;rw[lz (by simp only[cT,gI];omega)]
  obtain⟨t,dA,cS⟩:=D.uY (d:=opsL aE (Kl aE) gl.qh 165 gl.qh.toList ⟨⟨[(9,.p (.int .i64 (lN e))),(8,.r 6 1),(2,.p (a.tmps.getD 2 undef)),(3,.p (a.tmps.getD 3 undef)),(4,.p (a.tmps.getD 4 undef)),(36,.p (.pointer (some ⟨r,0,none⟩)))],[],[]⟩,(bN (El:=aE.T.El) id (ch false n') false n' (G,H,p,(pJ,Y,O,vQ),L,sR,([]:List Int),yc)).set 6 (.r 3 1 0 l),[]⟩)
   (K:=QT) (r:=((6,2),(2,⟨3,(l++[lN e]:List Int)⟩),[6],[a.tmps.getD 2 undef,a.tmps.getD 3 undef,a.tmps.getD 4 undef,.pointer (some ⟨r,0,none⟩)])) (by
    have e1:(opsL aE (Kl aE) gl.qh 165 gl.qh.toList ⟨⟨[(9,.p (.int .i64 (lN e))),(8,.r 6 1),(2,.p (a.tmps.getD 2 undef)),(3,.p (a.tmps.getD 3 undef)),(4,.p (a.tmps.getD 4 undef)),(36,.p (.pointer (some ⟨r,0,none⟩)))],[],[]⟩,(bN (El:=aE.T.El) id (ch false n') false n' (G,H,p,(pJ,Y,O,vQ),L,sR,([]:List Int),yc)).set 6 (.r 3 1 0 l),[]⟩).run QT=(bE 8 l [lN e]).bind λ m=>some ((6,2),(2,⟨3,m⟩),[6],[a.tmps.getD 2 undef,a.tmps.getD 3 undef,a.tmps.getD 4 undef,.pointer (some ⟨r,0,none⟩)]):=by kernel_rfl
    exact e1.trans (by rw[yx];rfl))
  obtain⟨dY,gv,ii,l4,oF⟩:=aDQ cS;refine wp_region_list ?_;rw[show gl.qh.toList=gl.qh.toList++[] by simp];have KY:(ρ.set 6 (.slice A l.length c))[6]? =some (.slice A l.length c):=fE (ba.1 e6).1;refine RR kY ahS gl.qh.toList dA dY (ak8 (ZH (n:=⟨165,[]⟩) rfl ul (u.1.trans i1) (u.2.1.trans i2) λ t y hy=>?_)) λ arw a5 zW aj=>?_;have:=MA hy;simp only[cG,cI,hI,or_false]at this;rcases this with⟨rfl,rfl⟩|⟨rfl,rfl⟩|⟨rfl,rfl⟩|⟨rfl,rfl⟩|⟨rfl,rfl⟩|⟨rfl,rfl⟩;simp only[av];exact t9;simp only[av];rw[u.2.2 8 (by decide),Z];exact⟨trivial,_,KY,cP 1,λ _=>rfl⟩;simp only[av];rw[u.2.2 2 (by decide)];exact YJ;simp only[av];rw[u.2.2 3 (by decide)];exact YK;simp only[av];rw[u.2.2 4 (by decide)];exact YL;simp only[av];rw[u.2.2 36 (by decide)];exact i4;obtain⟨kk,Ig⟩:=aKm ii;obtain⟨aQj,EL⟩:=aj.r.mem.ux Ig;obtain⟨ck,bI,fx,XR,ajt,aCv⟩:=aj.r.mem.ab8 Ig EL;have iS:=abR aCv;have f8:=aj.r.dZ.et.get 8 _ gv;simp only[av]at f8;obtain⟨_,sk,mu,_,Y3⟩:=f8;rw[EL]at mu;cases mu;have Y3:=Y3 (congrArg b1 Ig).symm;have aCN:=aLi.trans aj.to;have T:=P8 aj.r.dZ.et oF;simp only[ea,hP,hq,and_true]at T;have aiB:a_ (a7.ag (.slice A l.length c)) s0 zW:=ul.ahF aj.r.mem aj.to.sz λ q b aA=>aj.wr q b λ i hi B h f1 f2=>by rw[l4]at hi;simp only[dm]at hi;subst hi;obtain rfl:Value.slice A l.length c=h:=ee (KY.symm.trans f2);obtain rfl:aG.r (El:=bf.El) 3 1 0 l=B:=ee f1;exact aA
  have aiC:a_ (a7.ag E) w zW:=a1.trans aiB λ x ad=>(f x ad).2.imp id (·.1);subst XR;rw[iS]at ajt;refine wpList_nil ⟨rfl,aj.r.dZ.et.size,aj.r.dZ.et.defers,T.1,T.2.1,T.2.2.1,T.2.2.2,⟨?_,(aiC.block bm (I wj) aA3).trans wj⟩,?_,?_,aiC,?_,l++[lN e],ck,bI,?_,Y3,ajt,?_⟩;obtain⟨c1,mu,q8⟩:=wk;exact⟨c1,mu,(aiB.block r (I q8) λ h=>(f r h).1 rfl).trans q8⟩;rw[ja,ko];exact eT.2 ⟨i6,by simp,λ x ad y hy e1=>by simp at hy;subst hy;subst e1;exact BJ ad⟩;intro x ad;rcases cg.1 ad with ad |ad;exact i7 x ad;simp at ad;subst ad;exact he;exact ez (by rw[QC];exact i9) aj.to.sz;rw[QF,ja,ko];intro q b;refine⟨λ e1=>?_,?_⟩;subst e1;obtain⟨B,h,f1,f2,f3⟩:=aj.to.pY 6 _ _ Ig EL q b (by rw[QC];exact i9);obtain rfl:Value.slice A l.length c=h:=ee (KY.symm.trans f2);obtain rfl:aG.r (El:=bf.El) 3 1 0 l=B:=ee f1;exact(f q f3).1 rfl;rcases fO q w.heap.size with h1 |h1;obtain⟨B,h,f1,f2,f3⟩:=aCN.pY 6 _ _ Ig EL q b h1;rw[e6]at f2;cases f2;have f1:some (aG.r (El:=bf.El) 3 0 0 ([]:List (bf.El 3)))=some B:=f1;cases f1;exact .inl f3;exact .inr ⟨h1,(aj.r.mem.lt q ⟨6,_,_,Ig,EL,b⟩).1⟩
 ·intro acc a2 a3 jY k0 Yi u;obtain⟨i1,i2,YJ,YK,YL,i4,i5,i6,i7,i8,i9,l,A,c,QF,Z,i11,f⟩:=k0;have L7:l.Perm (L.map j2):=by rw[QF,<-LN];exact Yi.map lN
  have aiG:∀x∈l,1<=x/\x<=Y+O:=λ x ad=>LP x (L7.mem_iff.1 ad);have Qw:l.length<=200000:=by rw[L7.length_eq];exact N
  have ajx:mC Y O l=S:=by rw[Xw];exact aK4 gw.1 hO.1 L7 aiG
  have Iy:(mC Y O l).length=l.length:=by unfold mC;exact k6 _
  have Xx:l.length=S.length:=by rw[<-Iy];exact congrArg hr ajx
  obtain⟨Fg,b8⟩:=s.ux (i:=0) (B:=.c 67 [.b 3 0]) rfl;obtain⟨gb,aLN,sn,XP,aCW⟩:=s.ok 0 (.c 67 [.b 3 0]) _ rfl b8;subst sn;obtain⟨aQ1,aQ3,VJ,IC,_⟩:=Sz aCW;subst VJ;simp only[av]at IC;obtain⟨gh,e3,IC⟩:=IC;subst IC;obtain⟨aQh,aLO,Qg,XQ,aCX⟩:=s.ok 3 _ _ rfl e3;cases Qg;obtain⟨aQ',aQW,VJ,_,aCn⟩:=Sz aCX;subst VJ;obtain⟨aLQ,aQX,tS,rp,k4⟩:=Sz aCn;subst tS;obtain⟨aLR,aQY,ay3,aH0,yO⟩:=Sz k4;subst ay3;obtain rfl:aLQ= .int .i64 Y:=rp;obtain rfl:aLR= .int .i64 O:=aH0;have aor:a.tmps.getD 3 undef= .pointer (some ⟨gb,0,none⟩):=by have Bw:=aq;simp only[av]at Bw;obtain⟨g',mu,q8⟩:=Bw;rw[b8]at mu;cases mu;exact q8
  have ali:gb∉a7.ag E:=s.bC 0 6 _ _ _ _ rfl b8 rfl e6 (by decide) gb (dm.2 rfl);have alr:gh∉a7.ag E:=s.bC 3 6 _ _ _ _ rfl e3 rfl e6 (by decide) gh (dm.2 rfl);have aBy:=(i8.block gb (I XP) ali).trans XP;have ai7:=(i8.block gh (I XQ) alr).trans XQ
  have NJ:=aK6 (W:=jY) (gb:=gb) (gh:=gh) (cap:=c) (A:=A) gw hO aiG (by omega) ((cell_of (k:=0) aBy).1.trans rfl) ((cell_of (k:=1) ai7).1.trans rfl) ((cell_of (k:=2) ai7).1.trans rfl) i11
   (λ h=>(f gb h).2.elim ali λ h=>by have:=I XP;omega) (λ h=>(f gh h).2.elim alr λ h=>by have:=I XQ;omega)
  refine wp_seq (wp_region_list ?_);rw[aD2];have j:Fr ⟨165,[]⟩ [(2,a.tmps.getD 2 undef),(3,.pointer (some ⟨gb,0,none⟩)),(4,a.tmps.getD 4 undef),(8,.slice A l.length c)] a3:=⟨u.1.trans i1,u.2.1.trans i2,λ t v aF=>by
   have:=akV aF;simp only[cG,cI,hI,or_false]at this;rcases this with⟨rfl,rfl⟩|⟨rfl,rfl⟩|⟨rfl,rfl⟩|⟨rfl,rfl⟩;rw[u.2.2 2 (by decide)];exact YJ;rw[u.2.2 3 (by decide)];exact YK.trans aor;rw[u.2.2 4 (by decide)];exact YL
   ·rw[u.2.2 8 (by decide)];exact Z⟩
  refine gE (wn aDR) (xF aj6.1 (j.g rfl)) j aj6.2 rfl λ a4 j=>gE (wn aDS) (aq9 (xs:=[.tmp 3]) (vs:=[.pointer (some ⟨gb,0,none⟩)]) aj7.1 (by simp only[ea,hP];rw[show a4.eval (.tmp 3)=_ from j.g rfl])) j aj7.2 rfl λ a5 j=>ace (xs:=[.tmp 45,.tmp 46]) (vs:=[.slice A l.length c,.func (.func 97) #[] #[.pointer (some ⟨gb,0,none⟩)]]) (cs:=[]) (wn aDT) aj8.1 aBc rfl ⟨j.g rfl,j.g rfl,trivial⟩ NJ j aj8.2 rfl λ e w' au=>?_;obtain⟨he,aiD,aju⟩:=au;refine⟨_,he,λ iP j=>?_⟩;have aAq:a_ (a7.ag E) w w':=i8.trans aiD λ x ad=>(f x ad).2.imp id (·.1);have ai2:∀q∈a7.ag (.slice A l.length c),q∈a7.ag E\/(w.heap.size<=q/\q<w'.heap.size):=λ q b=>(f q b).2.imp id λ h=>⟨h.1,ez h.2 aiD.size⟩
  have afk:iP.tmps.getD 8 undef= .slice A l.length c:=j.get 8 _ rfl;rw[ajx,Xx]at aju;rw[Xx]at ai2 afk;have KY:(ρ.set 6 (.slice A S.length c))[6]? =some (.slice A S.length c):=fE (ba.1 e6).1;obtain⟨aB6,S1⟩:=s.ane (i:=6) (t:=3) (g:=0) (k:=0) (l0:=([]:List (bf.El 3))) (l:=S) (A:=A) (c:=c) rfl e6 aAq ai2 aju (λ F=>abS S);have aAG:R aE W M0 X ⟨165,[]⟩ ⟨[(2,.pp 5 0 1 ed),(3,.b 0 0),(4,.b 1 0),(8,.r 6 1)],[],[]⟩ ((bN (El:=aE.T.El) id (ch false n') false n' (G,H,p,(pJ,Y,O,vQ),L,sR,([]:List Int),yc)).set 6 (.r 3 1 0 S)) (ρ.set 6 (.slice A S.length c)) iP w':=ZH rfl aB6 j.size j.defers λ t y hy=>by have:=MA hy;simp only[cG,cI,hI,or_false]at this;rcases this with⟨rfl,rfl⟩|⟨rfl,rfl⟩|⟨rfl,rfl⟩|⟨rfl,rfl⟩;rw[show iP.tmps.getD 2 undef=_ from j.get 2 _ rfl];exact S1.v J;rw[show iP.tmps.getD 3 undef=_ from j.get 3 _ rfl,<-aor];exact S1.v aq;rw[show iP.tmps.getD 4 undef=_ from j.get 4 _ rfl];exact S1.v a6;rw[afk];simp only[av];exact⟨trivial,_,KY,cP 1,λ _=>rfl⟩
  obtain⟨dQ,cO,ef⟩:=abQ (pre:=n') (dp:=(G,H,p,(pJ,Y,O,vQ),L,sR,([]:List Int),yc)) (ss:=[2,3,4,8]) (pas:=Mn) (pbs:=n') (da:=(ed,(),(),(),())) (db:=(G,H,p,(pJ,Y,O,vQ),L,sR,S,())) aAG (by rw[s.len,o_]) (by kernel_rfl) S1 (by kernel_rfl);exact wpList_nil (k iP w' dQ j.size j.defers (cO true) ef)
 ·refine⟨by rw[wX,KH],UT,by rw[yn (by decide),g2],by rw[yn (by decide),g3],by rw[yn (by decide),g4],ym (by rw[KH];decide),⟨⟨clock,cP _,Md⟩,(Ic.block bm (I yI) (by simp)).trans yI⟩,by simp,by simp,?_,lJ,[],pD,e0,rfl,?_,?_,?_⟩;exact(kZ.trans Ic (by simp)).mono (by simp);rw[yn (by decide),g8,aLK,Qp];rfl;have:=aCB;rw[Qp,abR aCw]at this;refine rowIs.later this λ q b=>?_;have um:q<w.heap.size:=V q (by rw[Qp];exact b);exact(kZ.trans Ic (by simp)).block q um (by simp)
  ·intro q b;have b:q∈a7.ag E:=by rw[Qp];exact b
   exact⟨λ e1=>by have:=V q b;omega,.inl b⟩
set_option maxRecDepth 100000
theorem aD0:AD aE ⟨fW aE.P 63,[]⟩ ((MW [2,3,4,7,8] QX n' ⟨.nm,[2,3,4,8],Mn,n'⟩ II).run aE 0) uv.1 uv.2:=by
 have e:fW aE.P 63=165:=by kernel_rfl
 rw[e];exact aHt rfl rfl aD8
def at8(F:Nat):aS aE:=(at7 F).al3 63 0 ((MW [2,3,4,7,8] QX n' ⟨.nm,[2,3,4,8],Mn,n'⟩ II).run aE 0) uv.1 uv.2 (λ _ _=>aD0) aDM
set_option maxRecDepth 100000
@[reducible] def CE:bJ:=.c 24 [.l 3,lS,lS,lS,lS,.l 3,lS]
@[reducible] def aQQ:cy:=.a [.l 3,lS,lS,lS,lS,.l 3,lS]
@[reducible] def Jl:bJ:=.c 69 [.l 134,.l 3,.l 124,.l 120,.l 121]
@[reducible] def aHu:cy:=.a [.l 134,.l 3,.l 124,.l 120,.l 121]
abbrev aew:=(List al×List Int×List (List I.Field)×List (List (List UInt8))×List (List I.Target)×Unit)
abbrev Hb:=(List Int×Int×Int×Int×Int×List Int×Int×Unit)
def EU(F:Nat):Nat->(List Int)->(Int)->(Int)->(List Int)->(List Int)->Option ((Unit×Unit)×List Int×List Int×Unit)
 |0,_,_,_,_,_=>none
 |aQ+1,c,d,a,e,b=>cond (decide (a<d)) ((idx c a).bind λ f=>
(idx b f).bind λ g=>
(bE 8 e [g]).bind λ h=>
EU F aQ c d (ap (a+1)) h b) (
some (((),()),e,b,()))
def at9(F:Nat):aS aE:=(at8 F).Q6 90 0 F ⟨[3,6,7,8],[.p (.R 0),.p (.P 1 1),lL,lL],[.r 3 false,.r 3 true],[⟨.nm,[3],[.p (.R 0)],[.r 3 false,.r 3 true]⟩],λ k d=>EU F k d.1.2.1 d.1.2.2.1 d.1.2.2.2.1 d.2.1 d.2.2.1⟩ ⟨λ d=>by kernel_rfl,λ k da db=>by kernel_rfl⟩
def PY(F:Nat)(a:List Int)(c:List Int):Option ((List Int×Unit)×List Int×Unit):=(EU F F a (↑a.length:Int) 0 [] c).bind λ b=>
some ((b.2.1,()),b.2.2.1,())
def at'(F:Nat):aS aE:=(at9 F).H7 90 ⟨[.p (.P 0 1)],[.r 3 true],[lO],[.r 3 true],λ d=>PY F d.1.1 d.2.1⟩ λ da db=>by kernel_rfl
def K'(F:Nat)(c:List al)(d:List Int)(e:List (List I.Field))(f:List (List (List UInt8)))(g:List (List I.Target))(h:List Int)(i:List Int)(j:Int)(k:Int)(l:Int)(m:Int)(n:List Int)(o:Int)(p:List Int):Option ((Unit×Unit)×Hb×List Int×(Unit×List al×List Int×List (List I.Field)×List (List (List UInt8))×List (List I.Target)×Unit×Unit)×List (Int×Bool)×Unit):=(PY F h p).bind λ b=>
(ET F b.1.1 c d e f g i j k l m n o []).bind λ a=>
some (((),()),(a.2.2.1.1,a.2.2.1.2.1,a.2.2.1.2.2.1,a.2.2.1.2.2.2.1,a.2.2.1.2.2.2.2.1,a.2.2.1.2.2.2.2.2.1,a.2.2.1.2.2.2.2.2.2.1,()),b.2.1,((),a.2.1.2.1,a.2.1.2.2.1,a.2.1.2.2.2.1,a.2.1.2.2.2.2.1,a.2.1.2.2.2.2.2.1,(),()),a.2.2.2.1,())
def aua(F:Nat):aS aE:=(at' F).H7 54 ⟨[.p (.B 0),aHu,.p (.P 1 1)],[CE,.r 3 true],[.p (.B 2)],[CE,.r 3 true,.c 140 [.B 0,.l 134,.l 3,.l 124,.l 120,.l 121,.M 3],.m 3 4],λ d=>K' F d.1.2.1.1 d.1.2.1.2.1 d.1.2.1.2.2.1 d.1.2.1.2.2.2.1 d.1.2.1.2.2.2.2.1 d.1.2.2.1 d.2.1.1 d.2.1.2.1 d.2.1.2.2.1 d.2.1.2.2.2.1 d.2.1.2.2.2.2.1 d.2.1.2.2.2.2.2.1 d.2.1.2.2.2.2.2.2.1 d.2.2.1⟩ λ da db=>by kernel_rfl
set_option maxRecDepth 100000
def Bp(F:Nat):Nat->(List Int)->(List Int)->(Int)->(List Int)->(Int)->(Int)->(List Int)->(List Int)->(Int)->(Int)->(Int)->(Int)->(List Int)->(Int)->(List al)->(List Int)->(List (List I.Field))->(List (List (List UInt8)))->(List (List I.Target))->(List (Int×Int))->Option ((List Int×Unit×Unit×List Int×Unit×Int×Unit)×
 List Int×(Unit×Unit)×Hb×aew×List (Int×Int)×Unit)
 |0,_,_,_,_,_,_,_,_,_,_,_,_,_,_,_,_,_,_,_,_=>none
 |aQ+1,c,d,tf,e,f,a,g,b,h,i,j,k,l,m,n,o,p,q,Ds,Dt=>cond (decide (a<f)) ((idx e a).bind λ r=>
(idx b (ap (r+1))).bind λ s=>
Bp F aQ c d (ap (tf+ap (3+s))) e f (ap (a+1)) g b h i j k l m n o p q Ds (gP Dt r tf)) (
some ((c,(),(),d,(),tf,()),g,((),()),(b,h,i,j,k,l,m,()),(n,o,p,q,Ds,()),Dt,()))
def aub(F:Nat):aS aE:=(aua F).gm 63 2 F ⟨[2,3,4,8,10,11,55,56,57],[.p (.P 0 1),.p (.B 1),.p (.B 3),lO,.p (.M 4),lL,lO,lL,lL],[.r 3 true,.c 67 [.B 2],CE,Jl,.m 3 3],[⟨.nm,[2,3,4,8,10,11],[.p (.P 0 1),.p (.B 1),.p (.B 3),lO,.p (.M 4),lL],[.r 3 true,.c 67 [.B 2],CE,Jl,.m 3 3]⟩],λ k d=>Bp F k d.1.1 d.1.2.2.2.1 d.1.2.2.2.2.2.1 d.1.2.2.2.2.2.2.1 d.1.2.2.2.2.2.2.2.1 d.1.2.2.2.2.2.2.2.2.1 d.2.1 d.2.2.2.1.1 d.2.2.2.1.2.1 d.2.2.2.1.2.2.1 d.2.2.2.1.2.2.2.1 d.2.2.2.1.2.2.2.2.1 d.2.2.2.1.2.2.2.2.2.1 d.2.2.2.1.2.2.2.2.2.2.1 d.2.2.2.2.1.1 d.2.2.2.2.1.2.1 d.2.2.2.2.1.2.2.1 d.2.2.2.2.1.2.2.2.1 d.2.2.2.2.1.2.2.2.2.1 d.2.2.2.2.2.1⟩ ⟨λ d=>by kernel_rfl,λ k da db=>by kernel_rfl⟩
def vX(F:Nat):Nat->(List Int)->(Int)->(Int)->(List Int)->(Int)->(Int)->(Int)->(Int)->(List Int)->(List Int)->(Int)->(Int)->(Int)->(Int)->(List Int)->(Int)->(List al)->(List Int)->(List (List I.Field))->(List (List (List UInt8)))->(List (List I.Target))->(List (Int×Int))->(List Int)->Option ((List Int×Unit×Unit×Unit×Int×Unit×List Int×Int×Int×Unit)×
 List Int×(Unit×Unit)×Hb×aew×List (Int×Int)×List Int×Unit)
 |0,_,_,_,_,_,_,_,_,_,_,_,_,_,_,_,_,_,_,_,_,_,_,_=>none
 |aQ+1,k,l,b,m,n,o,p,a,q,e,r,s,t,u,nE,oA,f,g,h,i,j,c,d=>cond (decide (a<p)) ((idx e (ap (b+a))).bind λ v=>
cond (decide (3<=a)) ((idx e b).bind λ w=>
(sp (b4.mk (aN.mk f g h i j)) w (ap (a-3))).bind λ x=>
cond x ((idx d (ap ((cB c b).getD 0+a))).bind λ y=>
vX F aQ k l b m n o p (ap (a+1)) q e r s t u nE oA f g h i j c (d.set (ap ((cB c b).getD 0+a)).toNat ((cB c v).getD 0))) (
(idx d (ap ((cB c b).getD 0+a))).bind λ z=>
vX F aQ k l b m n o p (ap (a+1)) q e r s t u nE oA f g h i j c (d.set (ap ((cB c b).getD 0+a)).toNat v))) (
(idx d (ap ((cB c b).getD 0+a))).bind λ A=>
vX F aQ k l b m n o p (ap (a+1)) q e r s t u nE oA f g h i j c (d.set (ap ((cB c b).getD 0+a)).toNat v))) (
some ((k,(),(),(),l,(),m,n,o,()),q,((),()),(e,r,s,t,u,nE,oA,()),(f,g,h,i,j,()),c,d,()))
def auc(F:Nat):aS aE:=(aub F).gm 63 6 F ⟨[2,3,4,10,11,14,16,82,83,84,96,97],[.p (.P 0 1),.p (.B 1),.p (.B 3),.p (.M 4),lL,.p (.R 5),lL,lO,lL,lL,lL,lL],[.r 3 true,.c 67 [.B 2],CE,Jl,.m 3 3,.r 3 false],[⟨.nm,[2,3,4,10,11,14,82,83,84],[.p (.P 0 1),.p (.B 1),.p (.B 3),.p (.M 4),lL,.p (.R 5),lO,lL,lL],[.r 3 true,.c 67 [.B 2],CE,Jl,.m 3 3,.r 3 false]⟩],λ k d=>vX F k d.1.1 d.1.2.2.2.2.1 d.1.2.2.2.2.2.2.1 d.1.2.2.2.2.2.2.2.1 d.1.2.2.2.2.2.2.2.2.1 d.1.2.2.2.2.2.2.2.2.2.1 d.1.2.2.2.2.2.2.2.2.2.2.1 d.1.2.2.2.2.2.2.2.2.2.2.2.1 d.2.1 d.2.2.2.1.1 d.2.2.2.1.2.1 d.2.2.2.1.2.2.1 d.2.2.2.1.2.2.2.1 d.2.2.2.1.2.2.2.2.1 d.2.2.2.1.2.2.2.2.2.1 d.2.2.2.1.2.2.2.2.2.2.1 d.2.2.2.2.1.1 d.2.2.2.2.1.2.1 d.2.2.2.2.1.2.2.1 d.2.2.2.2.1.2.2.2.1 d.2.2.2.2.1.2.2.2.2.1 d.2.2.2.2.2.1 d.2.2.2.2.2.2.1⟩ ⟨λ d=>by kernel_rfl,λ k da db=>by kernel_rfl⟩
def Bq(F:Nat):Nat->(List Int)->(Int)->(List Int)->(Int)->(Int)->(List Int)->(List Int)->(Int)->(Int)->(Int)->(Int)->(List Int)->(Int)->(List al)->(List Int)->(List (List I.Field))->(List (List (List UInt8)))->(List (List I.Target))->(List (Int×Int))->(List Int)->Option ((List Int×Unit×Unit×Int×Unit×Unit)×
 List Int×(Unit×Unit)×Hb×aew×List (Int×Int)×List Int×Unit)
 |0,_,_,_,_,_,_,_,_,_,_,_,_,_,_,_,_,_,_,_,_=>none
 |aQ+1,d,e,f,g,b,h,c,Ty,i,j,k,l,m,n,o,p,q,r,s,t=>cond (decide (b<g)) ((idx f b).bind λ u=>
(idx c (ap (u+1))).bind λ v=>
(vX F F d e u f g b (ap (3+v)) 0 h c Ty i j k l m n o p q r s t).bind λ a=>
Bq F aQ a.1.1 a.1.2.2.2.2.1 a.1.2.2.2.2.2.2.1 a.1.2.2.2.2.2.2.2.1 (ap (a.1.2.2.2.2.2.2.2.2.1+1)) a.2.1 a.2.2.2.1.1 a.2.2.2.1.2.1 a.2.2.2.1.2.2.1 a.2.2.2.1.2.2.2.1 a.2.2.2.1.2.2.2.2.1 a.2.2.2.1.2.2.2.2.2.1 a.2.2.2.1.2.2.2.2.2.2.1 a.2.2.2.2.1.1 a.2.2.2.2.1.2.1 a.2.2.2.2.1.2.2.1 a.2.2.2.2.1.2.2.2.1 a.2.2.2.2.1.2.2.2.2.1 a.2.2.2.2.2.1 a.2.2.2.2.2.2.1) (
some ((d,(),(),e,(),()),h,((),()),(c,Ty,i,j,k,l,m,()),(n,o,p,q,r,()),s,t,()))
def aud(F:Nat):aS aE:=(auc F).gm 63 4 F ⟨[2,3,4,10,11,14,82,83,84],[.p (.P 0 1),.p (.B 1),.p (.B 3),.p (.M 4),lL,.p (.R 5),lO,lL,lL],[.r 3 true,.c 67 [.B 2],CE,Jl,.m 3 3,.r 3 false],[⟨.nm,[2,3,10,11,14],[.p (.P 0 1),.p (.B 1),.p (.M 4),lL,.p (.R 5)],[.r 3 true,.c 67 [.B 2],CE,Jl,.m 3 3,.r 3 false]⟩],λ k d=>Bq F k d.1.1 d.1.2.2.2.2.1 d.1.2.2.2.2.2.2.1 d.1.2.2.2.2.2.2.2.1 d.1.2.2.2.2.2.2.2.2.1 d.2.1 d.2.2.2.1.1 d.2.2.2.1.2.1 d.2.2.2.1.2.2.1 d.2.2.2.1.2.2.2.1 d.2.2.2.1.2.2.2.2.1 d.2.2.2.1.2.2.2.2.2.1 d.2.2.2.1.2.2.2.2.2.2.1 d.2.2.2.2.1.1 d.2.2.2.2.1.2.1 d.2.2.2.2.1.2.2.1 d.2.2.2.2.1.2.2.2.1 d.2.2.2.2.1.2.2.2.2.1 d.2.2.2.2.2.1 d.2.2.2.2.2.2.1⟩ ⟨λ d=>by kernel_rfl,λ k da db=>by kernel_rfl⟩
def yk(F:Nat):Nat->(Int)->(List Int)->(List Int)->(Int)->(Int)->(List Int)->(Int)->(Int)->(Int)->(Int)->(List Int)->(Int)->(List (Int×Int))->(List Int)->Option ((Unit×Int×List Int×Unit)×(Unit×Unit)×Hb×List (Int×Int)×List Int×Unit)
 |0,_,_,_,_,_,_,_,_,_,_,_,_,_,_=>none
 |aQ+1,d,eg,e,f,a,g,h,i,j,k,l,m,b,c=>cond (decide (a<f)) ((idx e a).bind λ n=>
(idx c n).bind λ o=>
yk F aQ d eg e f (ap (a+1)) g h i j k l m b (c.set n.toNat ((cB b o).getD 0))) (
some (((),d,eg,()),((),()),(g,h,i,j,k,l,m,()),b,c,()))
def H_(F:Nat)(j:List al)(k:List Int)(l:List (List I.Field))(m:List (List (List UInt8)))(n:List (List I.Target))(o:List Int)(p:List Int)(q:Int)(r:Int)(s:Int)(f:Int)(g:List Int)(h:Int)(i:List Int):Option ((Bool×Unit)×Hb×List Int×Unit):=(K' F j k l m n o p q r s f g h i).bind λ a=>
((EV a.2.1.1 a.2.2.2.2.1).bind λ x=>some x).bind λ TE=>
cond (decide (a.2.1.2.2.1<TE)) (some ((false,()),(a.2.1.1,a.2.1.2.1,a.2.1.2.2.1,a.2.1.2.2.2.1,a.2.1.2.2.2.2.1,a.2.1.2.2.2.2.2.1,a.2.1.2.2.2.2.2.2.1,()),a.2.2.1,())) (
(II
 ((o,(),(),(),(),()),((),()),(j,k,l,m,n,()),((),a.2.2.2.1.2.1,a.2.2.2.1.2.2.1,a.2.2.2.1.2.2.2.1,a.2.2.2.1.2.2.2.2.1,a.2.2.2.1.2.2.2.2.2.1,(),()),(a.2.1.1,a.2.1.2.1,a.2.1.2.2.1,a.2.1.2.2.2.1,a.2.1.2.2.2.2.1,a.2.1.2.2.2.2.2.1,a.2.1.2.2.2.2.2.2.1,()),a.2.2.2.2.1,a.2.2.1,[],())).bind λ c=>
(Bp F F c.1.1 c.2.2.2.2.2.2.2.1 (ap (c.2.2.2.2.1.2.1+1)) c.2.2.2.2.2.2.2.1 (↑(hr c.2.2.2.2.2.2.2.1):Int) 0
 c.2.2.2.2.2.2.1 c.2.2.2.2.1.1 c.2.2.2.2.1.2.1 c.2.2.2.2.1.2.2.1 c.2.2.2.2.1.2.2.2.1 c.2.2.2.2.1.2.2.2.2.1
 c.2.2.2.2.1.2.2.2.2.2.1 c.2.2.2.2.1.2.2.2.2.2.2.1 c.2.2.1.1 c.2.2.1.2.1 c.2.2.1.2.2.1 c.2.2.1.2.2.2.1
 c.2.2.1.2.2.2.2.1 [(0,0)]).bind λ b=>
(ri 0 8 (↑(hr b.2.2.2.1.1):Int)).bind λ t=>
(Bq F F b.1.1 b.1.2.2.2.2.2.1 b.1.2.2.2.1 (↑(hr b.1.2.2.2.1):Int) 0 b.2.1 b.2.2.2.1.1 b.2.2.2.1.2.1 b.2.2.2.1.2.2.1
 b.2.2.2.1.2.2.2.1 b.2.2.2.1.2.2.2.2.1 b.2.2.2.1.2.2.2.2.2.1 b.2.2.2.1.2.2.2.2.2.2.1 b.2.2.2.2.1.1 b.2.2.2.2.1.2.1
 b.2.2.2.2.1.2.2.1 b.2.2.2.2.1.2.2.2.1 b.2.2.2.2.1.2.2.2.2.1 b.2.2.2.2.2.1 t).bind λ d=>
(yk F F d.1.2.2.2.1 d.2.2.2.2.2.2.1 d.1.1 (↑(hr d.1.1):Int) 0 d.2.2.2.1.1 d.2.2.2.1.2.1 d.2.2.2.1.2.2.1
 d.2.2.2.1.2.2.2.1 d.2.2.2.1.2.2.2.2.1 d.2.2.2.1.2.2.2.2.2.1 d.2.2.2.1.2.2.2.2.2.2.1 d.2.2.2.2.2.1 d.2.1).bind λ e=>
some ((true,()),(e.1.2.2.1,e.2.2.1.2.1,e.2.2.1.2.2.1,1,e.1.2.1,([]),e.2.2.1.2.2.2.2.2.2.1,()),e.2.2.2.2.1,()))
def az3(F:Nat)(d:List Int)(e:Int)(f:Int)(g:Int)(h:Int)(i:List Int)(vn:Int)(m:List al)(n:List Int)(o:List (List I.Field))(p:List (List (List UInt8)))(q:List (List I.Target))(j:List Int):Option ((Hb×List Int×Int×Unit)×Unit):=dd (Bt F d e f g h i vn m n o p q j) (λ b=>
cond (!decide (b.1.2.1=0)) (some (((([]),0,0,0,0,([]),0,()),([]),b.1.2.1,()),())) (
(nh (aP.mk d e f g h i vn)).bind λ c=>
(bE 8 [] j).bind λ k=>
(rV F (↑k.length:Int)).bind λ r=>
(H_ F b.2.1.2.2.2.2.2.2.2.1 b.2.1.2.2.2.2.2.2.2.2.1 b.2.1.2.2.2.2.2.2.2.2.2.1 b.2.1.2.2.2.2.2.2.2.2.2.2.1
 b.2.1.2.2.2.2.2.2.2.2.2.2.2.1 r c.wO c.ai c.az c.aI c.aD c.aJ c.Next k).bind λ a=>
cond (!a.1.1) (some (((([]),0,0,0,0,([]),0,()),([]),8,()),())) (
some (((a.2.1.1,a.2.1.2.1,a.2.1.2.2.1,a.2.1.2.2.2.1,a.2.1.2.2.2.2.1,a.2.1.2.2.2.2.2.1,a.2.1.2.2.2.2.2.2.1,()),a.2.2.1,0,()),())))) (λ l=>
cond (!decide (l.1.2.1=0)) (some (((([]),0,0,0,0,([]),0,()),([]),l.1.2.1,()),())) (
(nh (aP.mk d e f g h i vn)).bind λ s=>
(bE 8 [] j).bind λ t=>
none))
def aup(F:Nat):aS aE:=aud F
set_option maxRecDepth 100000
@[reducible] def RZ:bJ:=.c 24 [.l 3,lS,lS,lS,lS,.l 3,lS]
abbrev arm:=(List Int×Int×Int×Int×Int×List Int×Int×Unit)
def K_(F:Nat):Nat->(Int)->(List Int)->(Int)->(Int)->(List Int)->(Int)->(Int)->(Int)->(Int)->(List Int)->(Int)->(List (Int×Int))->(List Int)->(List Int)->Option ((Unit×Int×Unit×Unit)×(Unit×Unit)×arm×List (Int×Int)×List Int×List Int×Unit)
 |0,_,_,_,_,_,_,_,_,_,_,_,_,_,_=>none
 |aQ+1,d,e,f,a,g,h,i,j,k,l,m,b,n,c=>cond (decide (a<f)) ((idx e a).bind λ o=>
(idx c o).bind λ p=>
K_ F aQ d e f (ap (a+1)) g h i j k l m b n (c.set o.toNat ((cB b p).getD 0))) (
some (((),d,(),()),((),()),(g,h,i,j,k,l,m,()),b,n,c,()))
def aur(F:Nat):aS aE:=(aup F).gm 63 8 F ⟨[3,10,11,14,137,138,139],[.p (.B 0),.p (.M 2),lL,.p (.R 3),.p (.P 4 1),lL,lL],[.c 67 [.B 1],RZ,.m 3 3,.r 3 false,.r 3 true],[⟨.nm,[3,11,14],[.p (.B 0),lL,.p (.R 3)],[.c 67 [.B 1],RZ,.m 3 3,.r 3 false,.r 3 true]⟩],λ k d=>K_ F k d.1.2.2.1 d.1.2.2.2.2.1 d.1.2.2.2.2.2.1 d.1.2.2.2.2.2.2.1 d.2.2.1.1 d.2.2.1.2.1 d.2.2.1.2.2.1 d.2.2.1.2.2.2.1 d.2.2.1.2.2.2.2.1 d.2.2.1.2.2.2.2.2.1 d.2.2.1.2.2.2.2.2.2.1 d.2.2.2.1 d.2.2.2.2.1 d.2.2.2.2.2.1⟩ ⟨λ d=>by kernel_rfl,λ k da db=>by kernel_rfl⟩
def Br(F:Nat)(f:List al)(g:List Int)(h:List (List I.Field))(i:List (List (List UInt8)))(lv:List (List I.Target))(j:List Int)(k:List Int)(l:Int)(m:Int)(n:Int)(o:Int)(p:List Int)(q:Int)(r:List Int):Option ((Bool×Unit)×(Unit×Int×Int×Int×Int×List Int×Int×Unit)×List Int×List Int×Unit⊕(Bool×Unit)×arm×List Int×Unit):=(K' F f g h i lv j k l m n o p q r).bind λ a=>
((EV a.2.1.1 a.2.2.2.2.1).bind λ x=>some x).bind λ s=>
cond (decide (a.2.1.2.2.1<s)) (some (.inr ((false,()),(a.2.1.1,a.2.1.2.1,a.2.1.2.2.1,a.2.1.2.2.2.1,a.2.1.2.2.2.2.1,a.2.1.2.2.2.2.2.1,a.2.1.2.2.2.2.2.2.1,()),a.2.2.1,()))) (
(II
 ((j,(),(),(),(),()),((),()),(f,g,h,i,lv,()),((),a.2.2.2.1.2.1,a.2.2.2.1.2.2.1,a.2.2.2.1.2.2.2.1,a.2.2.2.1.2.2.2.2.1,a.2.2.2.1.2.2.2.2.2.1,(),()),(a.2.1.1,a.2.1.2.1,a.2.1.2.2.1,a.2.1.2.2.2.1,a.2.1.2.2.2.2.1,a.2.1.2.2.2.2.2.1,a.2.1.2.2.2.2.2.2.1,()),a.2.2.2.2.1,a.2.2.1,[],())).bind λ c=>
(Bp F F c.1.1 c.2.2.2.2.2.2.2.1 (ap (c.2.2.2.2.1.2.1+1)) c.2.2.2.2.2.2.2.1 (↑(hr c.2.2.2.2.2.2.2.1):Int) 0 c.2.2.2.2.2.2.1
 c.2.2.2.2.1.1 c.2.2.2.2.1.2.1 c.2.2.2.2.1.2.2.1 c.2.2.2.2.1.2.2.2.1 c.2.2.2.2.1.2.2.2.2.1 c.2.2.2.2.1.2.2.2.2.2.1
 c.2.2.2.2.1.2.2.2.2.2.2.1 c.2.2.1.1 c.2.2.1.2.1 c.2.2.1.2.2.1 c.2.2.1.2.2.2.1 c.2.2.1.2.2.2.2.1 [(0,0)]).bind λ b=>
(ri 0 8 (↑(hr b.2.2.2.1.1):Int)).bind λ t=>
(Bq F F b.1.1 b.1.2.2.2.2.2.1 b.1.2.2.2.1 (↑(hr b.1.2.2.2.1):Int) 0 b.2.1 b.2.2.2.1.1 b.2.2.2.1.2.1 b.2.2.2.1.2.2.1
 b.2.2.2.1.2.2.2.1 b.2.2.2.1.2.2.2.2.1 b.2.2.2.1.2.2.2.2.2.1 b.2.2.2.1.2.2.2.2.2.2.1 b.2.2.2.2.1.1 b.2.2.2.2.1.2.1
 b.2.2.2.2.1.2.2.1 b.2.2.2.2.1.2.2.2.1 b.2.2.2.2.1.2.2.2.2.1 b.2.2.2.2.2.1 t).bind λ d=>
(K_ F F d.1.2.2.2.1 d.1.1 (↑(hr d.1.1):Int) 0 d.2.2.2.1.1 d.2.2.2.1.2.1 d.2.2.2.1.2.2.1 d.2.2.2.1.2.2.2.1
 d.2.2.2.1.2.2.2.2.1 d.2.2.2.1.2.2.2.2.2.1 d.2.2.2.1.2.2.2.2.2.2.1 d.2.2.2.2.2.1 d.2.2.2.2.2.2.1 d.2.1).bind λ e=>
some (.inl ((true,()),((),e.2.2.1.2.1,e.2.2.1.2.2.1,1,e.1.2.1,([]),e.2.2.1.2.2.2.2.2.2.1,()),e.2.2.2.2.2.1,e.2.2.2.2.1,())))
def aus(F:Nat):aS aE:=(aur F).jN 63 ⟨[.p (.B 0),.a [.l 134,.l 3,.l 124,.l 120,.l 121],.p (.P 1 1)],[RZ,.r 3 true],[⟨[lQ],[.c 24 [.R 2,lS,lS,lS,lS,.l 3,lS],.r 3 true,.r 3 false]⟩,⟨[lQ],[RZ,.r 3 true]⟩],λ d=>Br F d.1.2.1.1 d.1.2.1.2.1 d.1.2.1.2.2.1 d.1.2.1.2.2.2.1 d.1.2.1.2.2.2.2.1 d.1.2.2.1 d.2.1.1 d.2.1.2.1 d.2.1.2.2.1 d.2.1.2.2.2.1 d.2.1.2.2.2.2.1 d.2.1.2.2.2.2.2.1 d.2.1.2.2.2.2.2.2.1 d.2.2.1⟩ λ da db=>by kernel_rfl
def aut(F:Nat):aS aE:=(aus F).tT 35
set_option maxRecDepth 100000
@[reducible] def amb:cy:=.a [.l 3,lS,lS,lS,lS,.l 3,lS]
@[reducible] def amc:cy:=.a [.l 134,.l 3,.l 124,.l 120,.l 121]
abbrev arn:=(List Int×Int×Int×Int×Int×List Int×Int×Unit)
def Bo(F:Nat)(s:List al)(t:List Int)(u:List (List I.Field))(v:List (List (List UInt8)))(w:List (List I.Target))(x:List Int)(m:Int)(n:Int)(o:Int)(p:Int)(A:Int)(B:Int)(y:List Int)(C:Int)(D:List Int)(z:List Int):Option ((Int×Bool×Unit)×arn×Unit×List Int×Unit):=(qV (aP.mk D o p A B y C) m n false).bind λ c=>
cond c.2.1 (some ((c.1,true,()),(c.2.2.wO,o,p,c.2.2.aI,c.2.2.aD,y,c.2.2.Next,()),(),z,())) (
cond (!decide (ap (ap (ap (ap (o+p)+1)-c.2.2.aD)-ap (c.2.2.aI-1))<0)) ((An F s t u v w x o p c.2.2.aI c.2.2.aD y c.2.2.Next c.2.2.wO z).bind λ b=>
(qV (aP.mk b.2.2.1 b.2.1.2.1 b.2.1.2.2.1 b.2.1.2.2.2.1 b.2.1.2.2.2.2.1 b.2.1.2.2.2.2.2.1 b.2.1.2.2.2.2.2.2.1) m n false).bind λ h=>
cond h.2.1 (some ((h.1,true,()),(h.2.2.wO,b.2.1.2.1,b.2.1.2.2.1,h.2.2.aI,h.2.2.aD,b.2.1.2.2.2.2.2.1,h.2.2.Next,()),(),b.2.2.2.1,())) (
(qV (aP.mk h.2.2.wO b.2.1.2.1 b.2.1.2.2.1 h.2.2.aI h.2.2.aD b.2.1.2.2.2.2.2.1 h.2.2.Next) m n true).bind λ f=>
cond f.2.1 (some ((f.1,true,()),(f.2.2.wO,b.2.1.2.1,b.2.1.2.2.1,f.2.2.aI,f.2.2.aD,b.2.1.2.2.2.2.2.1,f.2.2.Next,()),(),b.2.2.2.1,())) (
cond (decide (ap (ap (ap (ap (o+p)+1)-c.2.2.aD)-ap (c.2.2.aI-1))<0)) (some ((0,false,()),(f.2.2.wO,b.2.1.2.1,b.2.1.2.2.1,f.2.2.aI,f.2.2.aD,b.2.1.2.2.2.2.2.1,f.2.2.Next,()),(),b.2.2.2.1,())) (
dd (Br F s t u v w x f.2.2.wO b.2.1.2.1 b.2.1.2.2.1 f.2.2.aI f.2.2.aD b.2.1.2.2.2.2.2.1 f.2.2.Next b.2.2.2.1) (λ d=>
cond (!d.1.1) (some ((0,false,()),(d.2.2.2.1,d.2.1.2.1,d.2.1.2.2.1,d.2.1.2.2.2.1,d.2.1.2.2.2.2.1,d.2.1.2.2.2.2.2.1,d.2.1.2.2.2.2.2.2.1,()),(),d.2.2.1,())) (
(qV (aP.mk d.2.2.2.1 d.2.1.2.1 d.2.1.2.2.1 d.2.1.2.2.2.1 d.2.1.2.2.2.2.1 d.2.1.2.2.2.2.2.1 d.2.1.2.2.2.2.2.2.1) m n true).bind λ q=>
some ((q.1,q.2.1,()),(q.2.2.wO,d.2.1.2.1,d.2.1.2.2.1,q.2.2.aI,q.2.2.aD,d.2.1.2.2.2.2.2.1,q.2.2.Next,()),(),d.2.2.1,()))) (λ j=>
cond (!j.1.1) (some ((0,false,()),(j.2.1.1,j.2.1.2.1,j.2.1.2.2.1,j.2.1.2.2.2.1,j.2.1.2.2.2.2.1,j.2.1.2.2.2.2.2.1,j.2.1.2.2.2.2.2.2.1,()),(),j.2.2.1,())) (
none)))))) (
dd (Br F s t u v w x c.2.2.wO o p c.2.2.aI c.2.2.aD y c.2.2.Next z) (λ a=>
cond (!a.1.1) (some ((0,false,()),(a.2.2.2.1,a.2.1.2.1,a.2.1.2.2.1,a.2.1.2.2.2.1,a.2.1.2.2.2.2.1,a.2.1.2.2.2.2.2.1,a.2.1.2.2.2.2.2.2.1,()),(),a.2.2.1,())) (
(qV (aP.mk a.2.2.2.1 a.2.1.2.1 a.2.1.2.2.1 a.2.1.2.2.2.1 a.2.1.2.2.2.2.1 a.2.1.2.2.2.2.2.1 a.2.1.2.2.2.2.2.2.1) m n false).bind λ i=>
cond i.2.1 (some ((i.1,true,()),(i.2.2.wO,a.2.1.2.1,a.2.1.2.2.1,i.2.2.aI,i.2.2.aD,a.2.1.2.2.2.2.2.1,i.2.2.Next,()),(),a.2.2.1,())) (
(qV (aP.mk i.2.2.wO a.2.1.2.1 a.2.1.2.2.1 i.2.2.aI i.2.2.aD a.2.1.2.2.2.2.2.1 i.2.2.Next) m n true).bind λ g=>
cond g.2.1 (some ((g.1,true,()),(g.2.2.wO,a.2.1.2.1,a.2.1.2.2.1,g.2.2.aI,g.2.2.aD,a.2.1.2.2.2.2.2.1,g.2.2.Next,()),(),a.2.2.1,())) (
cond (decide (ap (ap (ap (ap (o+p)+1)-c.2.2.aD)-ap (c.2.2.aI-1))<0)) (some ((0,false,()),(g.2.2.wO,a.2.1.2.1,a.2.1.2.2.1,g.2.2.aI,g.2.2.aD,a.2.1.2.2.2.2.2.1,g.2.2.Next,()),(),a.2.2.1,())) (
dd (Br F s t u v w x g.2.2.wO a.2.1.2.1 a.2.1.2.2.1 g.2.2.aI g.2.2.aD a.2.1.2.2.2.2.2.1 g.2.2.Next a.2.2.1) (λ e=>
cond (!e.1.1) (some ((0,false,()),(e.2.2.2.1,e.2.1.2.1,e.2.1.2.2.1,e.2.1.2.2.2.1,e.2.1.2.2.2.2.1,e.2.1.2.2.2.2.2.1,e.2.1.2.2.2.2.2.2.1,()),(),e.2.2.1,())) (
(qV (aP.mk e.2.2.2.1 e.2.1.2.1 e.2.1.2.2.1 e.2.1.2.2.2.1 e.2.1.2.2.2.2.1 e.2.1.2.2.2.2.2.1 e.2.1.2.2.2.2.2.2.1) m n true).bind λ r=>
some ((r.1,r.2.1,()),(r.2.2.wO,e.2.1.2.1,e.2.1.2.2.1,r.2.2.aI,r.2.2.aD,e.2.1.2.2.2.2.2.1,r.2.2.Next,()),(),e.2.2.1,()))) (λ k=>
cond (!k.1.1) (some ((0,false,()),(k.2.1.1,k.2.1.2.1,k.2.1.2.2.1,k.2.1.2.2.2.1,k.2.1.2.2.2.2.1,k.2.1.2.2.2.2.2.1,k.2.1.2.2.2.2.2.2.1,()),(),k.2.2.1,())) (
none))))))) (λ l=>
cond (!l.1.1) (some ((0,false,()),(l.2.1.1,l.2.1.2.1,l.2.1.2.2.1,l.2.1.2.2.2.1,l.2.1.2.2.2.2.1,l.2.1.2.2.2.2.2.1,l.2.1.2.2.2.2.2.2.1,()),(),l.2.2.1,())) (
none))))
def auu(F:Nat):aS aE:=(aut F).fn 58 ⟨[.p (.B 0),amc,.p (.P 2 1),lL,lL],[.c 24 [.R 1,lS,lS,lS,lS,.l 3,lS],.r 3 true,.r 3 true],[lL,lQ],[.c 24 [.l 3,lS,lS,lS,lS,.l 3,lS],.d,.r 3 true],λ d=>Bo F d.1.2.1.1 d.1.2.1.2.1 d.1.2.1.2.2.1 d.1.2.1.2.2.2.1 d.1.2.1.2.2.2.2.1 d.1.2.2.1 d.1.2.2.2.1 d.1.2.2.2.2.1 d.2.1.2.1 d.2.1.2.2.1 d.2.1.2.2.2.1 d.2.1.2.2.2.2.1 d.2.1.2.2.2.2.2.1 d.2.1.2.2.2.2.2.2.1 d.2.2.1 d.2.2.2.1⟩ λ da db=>by kernel_rfl
def vY(F:Nat)(f:List Int)(g:Int)(h:Int)(i:Int)(j:Int)(k:List Int)(l:Int)(t:List al)(u:List Int)(v:List (List I.Field))(w:List (List (List UInt8)))(x:List (List I.Target))(m:List Int)(n:Int)(o:Int):Option ((arn×List Int×Int×Bool×Int×Unit)×Unit):=dd (Bt F f g h i j k l t u v w x m) (λ a=>
cond (decide (a.1.2.1=0)) ((BC
 (b4.mk
  (aN.mk a.2.1.2.2.2.2.2.2.2.1 a.2.1.2.2.2.2.2.2.2.2.1 a.2.1.2.2.2.2.2.2.2.2.2.1 a.2.1.2.2.2.2.2.2.2.2.2.2.1
   a.2.1.2.2.2.2.2.2.2.2.2.2.2.1))
 n o).bind λ q=>
cond (!decide (q=0)) (some (((([]),0,0,0,0,([]),0,()),([]),0,false,q,()),())) (
(nh (aP.mk f g h i j k l)).bind λ d=>
(bE 8 [] m).bind λ r=>
(rV F (↑r.length:Int)).bind λ y=>
(Bo F a.2.1.2.2.2.2.2.2.2.1 a.2.1.2.2.2.2.2.2.2.2.1 a.2.1.2.2.2.2.2.2.2.2.2.1 a.2.1.2.2.2.2.2.2.2.2.2.2.1
 a.2.1.2.2.2.2.2.2.2.2.2.2.2.1 y n o d.ai d.az d.aI d.aD d.aJ d.Next d.wO r).bind λ b=>
some (((b.2.1.1,b.2.1.2.1,b.2.1.2.2.1,b.2.1.2.2.2.1,b.2.1.2.2.2.2.1,b.2.1.2.2.2.2.2.1,b.2.1.2.2.2.2.2.2.1,()),b.2.2.2.1,b.1.1,b.1.2.1,0,()),()))) (
cond (!decide (a.1.2.1=0)) (some (((([]),0,0,0,0,([]),0,()),([]),0,false,a.1.2.1,()),())) (
(nh (aP.mk f g h i j k l)).bind λ e=>
(bE 8 [] m).bind λ s=>
(rV F (↑s.length:Int)).bind λ z=>
(Bo F a.2.1.2.2.2.2.2.2.2.1 a.2.1.2.2.2.2.2.2.2.2.1 a.2.1.2.2.2.2.2.2.2.2.2.1 a.2.1.2.2.2.2.2.2.2.2.2.2.1
 a.2.1.2.2.2.2.2.2.2.2.2.2.2.1 z n o e.ai e.az e.aI e.aD e.aJ e.Next e.wO s).bind λ c=>
some (((c.2.1.1,c.2.1.2.1,c.2.1.2.2.1,c.2.1.2.2.2.1,c.2.1.2.2.2.2.1,c.2.1.2.2.2.2.2.1,c.2.1.2.2.2.2.2.2.1,()),c.2.2.2.1,c.1.1,c.1.2.1,0,()),())))) (λ p=>
cond (decide (p.1.2.1=0)) none (
cond (!decide (p.1.2.1=0)) (some (((([]),0,0,0,0,([]),0,()),([]),0,false,p.1.2.1,()),())) (
(nh (aP.mk f g h i j k l)).bind λ lv=>
(bE 8 [] m).bind λ A=>
none)))
def auv(F:Nat):aS aE:=(auu F).fn 25 ⟨[amb,amc,lO,lL,lL],[],[amb,lO,lL,lQ,lL],[],λ d=>vY F d.1.1.1 d.1.1.2.1 d.1.1.2.2.1 d.1.1.2.2.2.1 d.1.1.2.2.2.2.1 d.1.1.2.2.2.2.2.1 d.1.1.2.2.2.2.2.2.1 d.1.2.1.1 d.1.2.1.2.1 d.1.2.1.2.2.1 d.1.2.1.2.2.2.1 d.1.2.1.2.2.2.2.1 d.1.2.2.1 d.1.2.2.2.1 d.1.2.2.2.2.1⟩ λ da db=>by kernel_rfl
set_option maxRecDepth 100000
@[reducible] def aQR:bJ:=.c 24 [.l 3,lS,lS,lS,lS,.l 3,lS]
@[reducible] def aHv:cy:=.a [.l 3,lS,lS,lS,lS,.l 3,lS]
@[reducible] def aQS:bJ:=.c 30 [.l 134,.l 3,.l 124,.l 120,.l 121]
@[reducible] def aHw:cy:=.a [.l 134,.l 3,.l 124,.l 120,.l 121]
abbrev arj:=(List al×List Int×List (List I.Field)×List (List (List UInt8))×List (List I.Target)×Unit)
abbrev Ox:=(List Int×Int×Int×Int×Int×List Int×Int×Unit)
def AO(F:Nat):Nat->(List Int)->(List Int)->(List Int)->(List Int)->(Int)->(List Int)->(Int)->(Int)->(Int)->(Int)->(List Int)->(Int)->(List al)->(List Int)->(List (List I.Field))->(List (List (List UInt8)))->(List (List I.Target))->(List Int)->(Int)->(Int)->(Int)->(Int)->(List Int)->(Int)->(List Int)->Option ((List Int×Unit×Unit×Unit×List Int×List Int×Unit×Unit)×
 Ox×
  arj×Ox×List Int×Unit)
 |0,_,_,_,_,_,_,_,_,_,_,_,_,_,_,_,_,_,_,_,_,_,_,_,_,_=>none
 |aQ+1,d,c,e,a,b,f,g,h,i,j,k,lv,l,m,n,o,p,q,r,s,t,u,v,w,x=>cond (decide (b<(↑a.length:Int))) ((idx a b).bind λ y=>
(kU F c y).bind λ z=>
cond z ((idx a b).bind λ A=>
(bE 8 x [A]).bind λ B=>
AO F aQ d c e a (ap (b+1)) f g h i j k lv l m n o p q r s t u v w B) (
AO F aQ d c e a (ap (b+1)) f g h i j k lv l m n o p q r s t u v w x)) (
some ((d,(),(),(),c,e,(),()),(f,g,h,i,j,k,lv,()),(l,m,n,o,p,()),(q,r,s,t,u,v,w,()),x,()))
def AP(F:Nat):Nat->(List Int)->(List Int)->(List Int)->(Int)->(List Int)->(Int)->(Int)->(Int)->(Int)->(List Int)->(Int)->(List al)->(List Int)->(List (List I.Field))->(List (List (List UInt8)))->(List (List I.Target))->(List Int)->(Int)->(Int)->(Int)->(Int)->(List Int)->(Int)->(List Int)->Option ((List Int×Unit×Unit×Unit×Unit×Unit)×
 Ox×
  arj×Ox×List Int×Unit)
 |0,_,_,_,_,_,_,_,_,_,_,_,_,_,_,_,_,_,_,_,_,_,_,_,_=>none
 |aQ+1,a,b,c,d,e,f,g,h,i,j,k,l,m,n,o,p,q,r,s,t,u,v,w,x=>cond (decide (d<(↑c.length:Int))) ((idx c d).bind λ y=>
(kU F b y).bind λ z=>
cond z ((idx c d).bind λ C7=>
(bE 8 x [C7]).bind λ kE=>
AP F aQ a b c (ap (d+1)) e f g h i j k l m n o p q r s t u v w kE) (
AP F aQ a b c (ap (d+1)) e f g h i j k l m n o p q r s t u v w x)) (
some ((a,(),(),(),(),()),(e,f,g,h,i,j,k,()),(l,m,n,o,p,()),(q,r,s,t,u,v,w,()),x,()))
def r4(F:Nat)(e:List Int)(f:Int)(d:Int)(g:Int)(h:Int)(i:List Int)(j:Int)(C8:List al)(C9:List Int)(k:List (List I.Field))(l:List (List (List UInt8)))(m:List (List I.Target))(n:List Int):Option ((Ox×List Int×Bool×Unit)×Unit):=(Kz F e f d g h i j C8 C9 k l m n).bind λ o=>
cond (decide (d<o.1.1)) (some (((e,f,d,g,h,i,j,()),n,false,()),())) (
(KA F e f d g h i j C8 C9 k l m n).bind λ p=>
(qK F (aP.mk e f d g h i j) (aN.mk C8 C9 k l m)).bind λ qv=>
(AO F F n p.1.1 qv.1 qv.2.1 0 e f d g h i j C8 C9 k l m [] 0 0 0 0 [] 0 []).bind λ a=>
(AP F F a.1.1 a.1.2.2.2.2.1 a.1.2.2.2.2.2.1 0 a.2.1.1 a.2.1.2.1 a.2.1.2.2.1 a.2.1.2.2.2.1 a.2.1.2.2.2.2.1
 a.2.1.2.2.2.2.2.1 a.2.1.2.2.2.2.2.2.1 a.2.2.1.1 a.2.2.1.2.1 a.2.2.1.2.2.1 a.2.2.1.2.2.2.1 a.2.2.1.2.2.2.2.1
 a.2.2.2.1.1 a.2.2.2.1.2.1 a.2.2.2.1.2.2.1 a.2.2.2.1.2.2.2.1 a.2.2.2.1.2.2.2.2.1 a.2.2.2.1.2.2.2.2.2.1
 a.2.2.2.1.2.2.2.2.2.2.1 a.2.2.2.2.1).bind λ b=>
(tD F b.2.1.1 b.2.1.2.1 b.2.1.2.2.1 b.2.1.2.2.2.1 b.2.1.2.2.2.2.1 b.2.1.2.2.2.2.2.1 b.2.1.2.2.2.2.2.2.1 b.2.2.1.1
 b.2.2.1.2.1 b.2.2.1.2.2.1 b.2.2.1.2.2.2.1 b.2.2.1.2.2.2.2.1 b.2.2.2.2.1 (ap (b.2.1.2.1+1)) b.1.1).bind λ c=>
some (((c.1.1.1,c.1.1.2.1,c.1.1.2.2.1,c.1.1.2.2.2.1,c.1.1.2.2.2.2.1,c.1.1.2.2.2.2.2.1,c.1.1.2.2.2.2.2.2.1,()),c.1.2.1,true,()),()))
def avP(F:Nat)(c:List Int)(d:Int)(e:Int)(f:Int)(g:Int)(h:List Int)(i:Int)(j:List al)(k:List Int)(l:List (List I.Field))(m:List (List (List UInt8)))(n:List (List I.Target))(o:List Int):Option ((Bool×Unit)×Unit):=(az3 F c d e f g h i j k l m n o).bind λ a=>
(tx F (aP.mk c d e f g h i) (aN.mk j k l m n) o).bind λ p=>
cond (decide (p=0)) ((r4 F c d e f g h i j k l m n o).bind λ b=>
cond b.1.2.2.1 ((ma F (aP.mk a.1.1.1 a.1.1.2.1 a.1.1.2.2.1 a.1.1.2.2.2.1 a.1.1.2.2.2.2.1 a.1.1.2.2.2.2.2.1 a.1.1.2.2.2.2.2.2.1)
 a.1.2.2.1 p (aP.mk b.1.1.1 b.1.1.2.1 b.1.1.2.2.1 b.1.1.2.2.2.1 b.1.1.2.2.2.2.1 b.1.1.2.2.2.2.2.1 b.1.1.2.2.2.2.2.2.1)).bind λ nE=>
cond nE ((ka F a.1.2.1 b.1.2.1).bind λ oA=>
some ((oA,()),())) (
some ((false,()),()))) (
(ma F (aP.mk a.1.1.1 a.1.1.2.1 a.1.1.2.2.1 a.1.1.2.2.2.1 a.1.1.2.2.2.2.1 a.1.1.2.2.2.2.2.1 a.1.1.2.2.2.2.2.2.1)
 a.1.2.2.1 8 (aP.mk [] 0 0 0 0 [] 0)).bind λ q=>
cond q ((ka F a.1.2.1 []).bind λ r=>
some ((r,()),())) (
some ((false,()),())))) (
(ma F (aP.mk a.1.1.1 a.1.1.2.1 a.1.1.2.2.1 a.1.1.2.2.2.1 a.1.1.2.2.2.2.1 a.1.1.2.2.2.2.2.1 a.1.1.2.2.2.2.2.2.1)
 a.1.2.2.1 p (aP.mk [] 0 0 0 0 [] 0)).bind λ s=>
cond s ((ka F a.1.2.1 []).bind λ t=>
some ((t,()),())) (
some ((false,()),())))
@[reducible] def aQF(F:Nat):er bf:=⟨[aHv,aHw,lO],[],[lQ],[],λ d=>avP F d.1.1.1 d.1.1.2.1 d.1.1.2.2.1 d.1.1.2.2.2.1 d.1.1.2.2.2.2.1 d.1.1.2.2.2.2.2.1 d.1.1.2.2.2.2.2.2.1 d.1.2.1.1 d.1.2.1.2.1 d.1.2.1.2.2.1 d.1.2.1.2.2.2.1 d.1.2.1.2.2.2.2.1 d.1.2.2.1⟩
set_option maxRecDepth 100000
@[reducible] def CF:bJ:=.c 24 [.l 3,lS,lS,lS,lS,.l 3,lS]
@[reducible] def amd:cy:=.a [.l 3,lS,lS,lS,lS,.l 3,lS]
@[reducible] def R0:bJ:=.c 30 [.l 134,.l 3,.l 124,.l 120,.l 121]
def auw(F:Nat):aS aE:=(auv F).gm 31 0 F ⟨[2,3,4,6,9,10,11,13,14],[lO,.p (.B 0),.p (.B 1),.p (.B 2),lO,lO,lO,.p (.R 3),lL],[CF,R0,CF,.r 3 false],[⟨.nm,[2,3,4,6,9,10,13],[lO,.p (.B 0),.p (.B 1),.p (.B 2),lO,lO,.p (.R 3)],[CF,R0,CF,.r 3 false]⟩],λ k d=>AO F k d.1.1 d.1.2.2.2.2.1 d.1.2.2.2.2.2.1 d.1.2.2.2.2.2.2.1 d.1.2.2.2.2.2.2.2.2.1 d.2.1.1 d.2.1.2.1 d.2.1.2.2.1 d.2.1.2.2.2.1 d.2.1.2.2.2.2.1 d.2.1.2.2.2.2.2.1 d.2.1.2.2.2.2.2.2.1 d.2.2.1.1 d.2.2.1.2.1 d.2.2.1.2.2.1 d.2.2.1.2.2.2.1 d.2.2.1.2.2.2.2.1 d.2.2.2.1.1 d.2.2.2.1.2.1 d.2.2.2.1.2.2.1 d.2.2.2.1.2.2.2.1 d.2.2.2.1.2.2.2.2.1 d.2.2.2.1.2.2.2.2.2.1 d.2.2.2.1.2.2.2.2.2.2.1 d.2.2.2.2.1⟩ ⟨λ d=>by kernel_rfl,λ k da db=>by kernel_rfl⟩
def auy(F:Nat):aS aE:=(auw F).gm 31 2 F ⟨[2,3,4,6,9,10,13,15],[lO,.p (.B 0),.p (.B 1),.p (.B 2),lO,lO,.p (.R 3),lL],[CF,R0,CF,.r 3 false],[⟨.nm,[2,3,4,6,13],[lO,.p (.B 0),.p (.B 1),.p (.B 2),.p (.R 3)],[CF,R0,CF,.r 3 false]⟩],λ k d=>AP F k d.1.1 d.1.2.2.2.2.1 d.1.2.2.2.2.2.1 d.1.2.2.2.2.2.2.2.1 d.2.1.1 d.2.1.2.1 d.2.1.2.2.1 d.2.1.2.2.2.1 d.2.1.2.2.2.2.1 d.2.1.2.2.2.2.2.1 d.2.1.2.2.2.2.2.2.1 d.2.2.1.1 d.2.2.1.2.1 d.2.2.1.2.2.1 d.2.2.1.2.2.2.1 d.2.2.1.2.2.2.2.1 d.2.2.2.1.1 d.2.2.2.1.2.1 d.2.2.2.1.2.2.1 d.2.2.2.1.2.2.2.1 d.2.2.2.1.2.2.2.2.1 d.2.2.2.1.2.2.2.2.2.1 d.2.2.2.1.2.2.2.2.2.2.1 d.2.2.2.2.1⟩ ⟨λ d=>by kernel_rfl,λ k da db=>by kernel_rfl⟩
def auz(F:Nat):aS aE:=(auy F).fn 31 ⟨[amd,.a [.l 134,.l 3,.l 124,.l 120,.l 121],lO],[],[amd,lO,lQ],[],λ d=>r4 F d.1.1.1 d.1.1.2.1 d.1.1.2.2.1 d.1.1.2.2.2.1 d.1.1.2.2.2.2.1 d.1.1.2.2.2.2.2.1 d.1.1.2.2.2.2.2.2.1 d.1.2.1.1 d.1.2.1.2.1 d.1.2.1.2.2.1 d.1.2.1.2.2.2.1 d.1.2.1.2.2.2.2.1 d.1.2.2.1⟩ λ da db=>by kernel_rfl
open Go Go.RowKit aw
set_option maxHeartbeats 4000000
set_option maxRecDepth 20000
theorem awB{W:World}{X:List Nat}{h_:I.aP}{r:I.aP}{J:jg}{L:Nat}{M:jg}{N:Nat}{M0:List Nat}(b:bu W M0 X W [] [cj (dE .i64) J L h_.wO,cj (dE .i64) M N h_.aJ])(h:I.vL h_=some r) :
 Calls Tryz.prog 94 [.agg #[.q J L h_.wO,.i h_.ai,.i h_.az,.i h_.aI,.i h_.aD,.q M N h_.aJ,.i h_.Next]].toArray W (λ e w'=>∃v:Option Addr,∃x:Nat,∃z:List Value,∃A:Option Addr,∃B:Nat,∃C:List Value,e= .returned (.agg #[.q v x r.wO,.i r.ai,.i r.az,.i r.aI,.i r.aD,.q A B r.aJ,.i r.Next])/\bu W M0 X w' [a8.row 3 1 (.q v x r.wO) r.wO z,a8.row 3 1 (.q A B r.aJ) r.aJ C] [bA.rows (dE .i64) z r.wO,bA.rows (dE .i64) C r.aJ]):=by
 refine enter Tryz.func94 rfl Tryz.ntmps94 rfl λ a c=>?_;rw[I.vL]at h;refine wp_seq_k λ K S=>mY<|wS (cs:=[.q J L h_.wO,.i h_.ai,.i h_.az,.i h_.aI,.i h_.aD,.q M N h_.aJ,.i h_.Next]) wn (Ot rfl rfl (c.g rfl)) c b rfl rfl λ a n w _ c b=>wS (cs:=[.slice none 0 0,.i 0,.i 0,.i 0,.i 0,.slice none 0 0,.i 0]) wn (Ak Tryz.zeroValue24 rfl rfl) c b rfl rfl λ a U w _ c b=>wpList_nil<|S _ _<|wp_seq_k λ K O=>awD (m:=12) 7 (a_ []) (by kernel_rfl) rfl λ w f=>?_;have b:=b.fo f;clear f
 have g:=b;have d:=a_.refl [] w;refine dM [1,2,5,6] 4 [0,0,0,5] [(5,.q J L h_.wO),(9,.q M N h_.aJ)] [n,5,n,0] (λ q f=>(gW (ER f (kc (g.e 1 rfl))) fp)) c d λ a c=>O2 0 4 rfl rfl (by kernel_rfl) (λ _=>d) ?_ ?_
 ·refine wT (cs:=[]) wn (Kc Tryz.underlying22 Tryz.sizeOf3 rfl) c b rfl rfl λ a V w f p c b=>?_;have p:=fR d.size p;have d:=K3 d f;clear f;refine fQ<|O2 3 4 rfl rfl (by kernel_rfl) (λ _=>d) ?_ ?_;obtain⟨D,P,h⟩:=I.fz h;have b:=b.IU (sz:=1) 0 ([]:rZ) rfl rfl rfl rfl;have b:=b.more (y:=bA.rows (dE .i64) [] []) rfl;refine SD (T:=(dE .i64)) 0 0 1 b rfl rfl rfl Tryz.underlying22 FJ rfl rfl P rfl wn rfl (c.g rfl) (c.g rfl) c rfl rfl λ a s t Q w f c b=>?_;have d:=V5 d f p;clear f;refine fQ<|dM [8] 1 [] [(11,.dc n)] [] (λ q f=>fp) c d λ a c=>hM 4 rfl (by kernel_rfl) (λ _=>d)<|wT (cs:=[]) wn (Kc Tryz.underlying22 Tryz.sizeOf3 rfl) c b rfl rfl λ a Y w f E c b=>?_;have E:=fR d.size E;have d:=K3 d f;clear f;refine fQ<|hM 7 rfl (by kernel_rfl) (λ _=>d) ?_;obtain⟨kn,F,h⟩:=I.fz h;have b:=b.IU (sz:=1) 0 ([]:rZ) rfl rfl rfl rfl;have b:=b.more (y:=bA.rows (dE .i64) [] []) rfl;refine SC (T:=(dE .i64)) 0 0 4 b rfl rfl rfl Tryz.underlying22 FJ rfl rfl F rfl wn rfl (c.g rfl) (c.g rfl) c rfl rfl λ a i j G w c b=>fQ ?_;clear g d;have g:=b;have d:=a_.refl [] w;refine eB.next 9 (a_ [] w) (by kernel_rfl)<|hM 9 rfl (by kernel_rfl) (λ _=>d) ?_;refine mD (vs:=[.q s t D]) 3 b rfl wn rfl Tryz.sizeOf22 rfl rfl rfl rfl (c.g rfl) (c.g rfl) rfl λ w b=>fQ ?_;clear g d;have g:=b;have d:=a_.refl [] w;refine eB.next 11 (a_ [] w) (by kernel_rfl)<|dM [10] 1 [] [(12,.pointer (some ⟨n,5,none⟩))] [] (λ q f=>fp) c d λ a c=>hM 11 rfl (by kernel_rfl) (λ _=>d)<|mD (vs:=[.q i j kn]) 3 b rfl wn rfl Tryz.sizeOf22 rfl rfl rfl rfl (c.g rfl) (c.g rfl) rfl λ w b=>fQ ?_;clear g d;have g:=b;have d:=a_.refl [] w;refine eB.next 12 (a_ [] w) (by kernel_rfl)<|ED (by kernel_rfl) ?_ (λ _=>d);clear g d;refine O _ _<|wp_seq_k λ K H=>mY<|qQ 1 [0,0] [(13,.agg #[.q s t D,.i h_.ai,.i h_.az,.i h_.aI,.i h_.aD,.q i j kn,.i h_.Next])] [n,0] (gW (kc (b.e 3 rfl)) fp) c λ a c=>mD (vs:=[.q s t D,.i h_.ai,.i h_.az,.i h_.aI,.i h_.aD,.q i j kn,.i h_.Next]) 2 b rfl wn rfl Tryz.sizeOf24 rfl rfl rfl rfl (c.g rfl) (c.g rfl) rfl λ w b=>?_;refine wpList_nil<|H _ _<|wp_ret ?_;obtain rfl:=oi h;refine Sf (vs:=[.agg #[.q s t D,.i h_.ai,.i h_.az,.i h_.aI,.i h_.aD,.q i j kn,.i h_.Next]]) Tryz.results94 c ⟨⟨_,_,c.g rfl,.inl ⟨[.q s t D,.i h_.ai,.i h_.az,.i h_.aI,.i h_.aD,.q i j kn,.i h_.Next],Tryz.isAgg24,Tryz.sizeOf24,U5 (b.e 2 rfl) 0 ⟨rfl,rfl,rfl,rfl,rfl,rfl,rfl,trivial⟩,rfl⟩⟩,trivial⟩ ?_;exact⟨s,t,Q,i,j,G,rfl,b.rC [1,0] [2,0]⟩;refine wT (cs:=[]) wn (Kc Tryz.underlying22 Tryz.sizeOf3 rfl) c b rfl rfl λ a Z w f u c b=>?_;have u:=fR d.size u;have d:=K3 d f;clear f;refine fQ<|hM 3 rfl (by kernel_rfl) (λ _=>d) ?_;obtain⟨o,R,h⟩:=I.fz h;have b:=b.IU (sz:=1) 1 ([]:rZ) rfl rfl rfl rfl;have b:=b.more (y:=bA.rows (dE .i64) [] []) rfl;refine SD (T:=(dE .i64)) 1 0 1 b rfl rfl rfl Tryz.underlying22 FJ rfl rfl R rfl wn rfl (c.g rfl) (c.g rfl) c rfl rfl λ a k l T0 w f c b=>?_;have d:=V5 d f p;clear f;refine fQ ?_;refine dM [8] 1 [] [(11,.dc n)] [] (λ q f=>fp) c d λ a c=>hM 7 rfl (by kernel_rfl) (λ _=>d) ?_;obtain⟨kn,F,h⟩:=I.fz h;have b:=b.IU (sz:=1) 0 ([]:rZ) rfl rfl rfl rfl;have b:=b.more (y:=bA.rows (dE .i64) [] []) rfl;refine SC (T:=(dE .i64)) 0 0 4 b rfl rfl rfl Tryz.underlying22 FJ rfl rfl F rfl wn rfl (c.g rfl) (c.g rfl) c rfl rfl λ a i j G w c b=>fQ ?_;clear g d;have g:=b;have d:=a_.refl [] w;refine eB.next 9 (a_ [] w) (by kernel_rfl)<|hM 9 rfl (by kernel_rfl) (λ _=>d) ?_;refine mD (vs:=[.q k l o]) 3 b rfl wn rfl Tryz.sizeOf22 rfl rfl rfl rfl (c.g rfl) (c.g rfl) rfl λ w b=>fQ ?_;clear g d;have g:=b;have d:=a_.refl [] w;refine eB.next 11 (a_ [] w) (by kernel_rfl)<|dM [10] 1 [] [(12,.pointer (some ⟨n,5,none⟩))] [] (λ q f=>fp) c d λ a c=>hM 11 rfl (by kernel_rfl) (λ _=>d)<|mD (vs:=[.q i j kn]) 3 b rfl wn rfl Tryz.sizeOf22 rfl rfl rfl rfl (c.g rfl) (c.g rfl) rfl λ w b=>fQ ?_;clear g d;have g:=b;have d:=a_.refl [] w;refine eB.next 12 (a_ [] w) (by kernel_rfl)<|ED (by kernel_rfl) ?_ (λ _=>d);clear g d;refine O _ _<|wp_seq_k λ K H=>mY<|qQ 1 [0,0] [(13,.agg #[.q k l o,.i h_.ai,.i h_.az,.i h_.aI,.i h_.aD,.q i j kn,.i h_.Next])] [n,0] (gW (kc (b.e 3 rfl)) fp) c λ a c=>mD (vs:=[.q k l o,.i h_.ai,.i h_.az,.i h_.aI,.i h_.aD,.q i j kn,.i h_.Next]) 2 b rfl wn rfl Tryz.sizeOf24 rfl rfl rfl rfl (c.g rfl) (c.g rfl) rfl λ w b=>?_;refine wpList_nil<|H _ _<|wp_ret ?_;obtain rfl:=oi h;refine Sf (vs:=[.agg #[.q k l o,.i h_.ai,.i h_.az,.i h_.aI,.i h_.aD,.q i j kn,.i h_.Next]]) Tryz.results94 c ⟨⟨_,_,c.g rfl,.inl ⟨[.q k l o,.i h_.ai,.i h_.az,.i h_.aI,.i h_.aD,.q i j kn,.i h_.Next],Tryz.isAgg24,Tryz.sizeOf24,U5 (b.e 2 rfl) 0 ⟨rfl,rfl,rfl,rfl,rfl,rfl,rfl,trivial⟩,rfl⟩⟩,trivial⟩ ?_;exact⟨k,l,T0,i,j,G,rfl,b.rC [1,0] [2,0]⟩
 refine wT (cs:=[]) wn (Kc Tryz.underlying22 Tryz.sizeOf3 rfl) c b rfl rfl λ a V w f p c b=>?_;have p:=fR d.size p;have d:=K3 d f;clear f;refine fQ<|hM 0 rfl (by kernel_rfl) (λ _=>d)<|wT (cs:=[]) wn (Kc Tryz.underlying22 Tryz.sizeOf3 rfl) c b rfl rfl λ a Z w f u c b=>?_;have u:=fR d.size u;have d:=K3 d f;clear f;refine fQ<|hM 3 rfl (by kernel_rfl) (λ _=>d) ?_;obtain⟨o,R,h⟩:=I.fz h;have b:=b.IU (sz:=1) 0 ([]:rZ) rfl rfl rfl rfl;have b:=b.more (y:=bA.rows (dE .i64) [] []) rfl
 refine SD (T:=(dE .i64)) 0 0 1 b rfl rfl rfl Tryz.underlying22 FJ rfl rfl R rfl wn rfl (c.g rfl) (c.g rfl) c rfl rfl λ a k l T0 w f c b=>?_;have d:=V5 d f u;clear f;refine fQ<|dM [8] 1 [] [(11,.dc n)] [] (λ q f=>fp) c d λ a c=>hM 7 rfl (by kernel_rfl) (λ _=>d) ?_;obtain⟨kn,F,h⟩:=I.fz h;have b:=b.IU (sz:=1) 1 ([]:rZ) rfl rfl rfl rfl;have b:=b.more (y:=bA.rows (dE .i64) [] []) rfl;refine SC (T:=(dE .i64)) 1 0 4 b rfl rfl rfl Tryz.underlying22 FJ rfl rfl F rfl wn rfl (c.g rfl) (c.g rfl) c rfl rfl ?_
 intro a i j G w c b;refine fQ ?_;clear g d;have g:=b;have d:=a_.refl [] w;refine eB.next 9 (a_ [] w) (by kernel_rfl)<|hM 9 rfl (by kernel_rfl) (λ _=>d)<|mD (vs:=[.q k l o]) 3 b rfl wn rfl Tryz.sizeOf22 rfl rfl rfl rfl (c.g rfl) (c.g rfl) rfl λ w b=>fQ ?_;clear g d;have g:=b;have d:=a_.refl [] w;refine eB.next 11 (a_ [] w) (by kernel_rfl)<|dM [10] 1 [] [(12,.pointer (some ⟨n,5,none⟩))] [] (λ q f=>fp) c d λ a c=>hM 11 rfl (by kernel_rfl) (λ _=>d) ?_
 refine mD (vs:=[.q i j kn]) 3 b rfl wn rfl Tryz.sizeOf22 rfl rfl rfl rfl (c.g rfl) (c.g rfl) rfl λ w b=>fQ ?_;clear g d;have g:=b;have d:=a_.refl [] w;refine eB.next 12 (a_ [] w) (by kernel_rfl)<|ED (by kernel_rfl) ?_ (λ _=>d);clear g d;refine O _ _<|wp_seq_k λ K H=>mY<|qQ 1 [0,0] [(13,.agg #[.q k l o,.i h_.ai,.i h_.az,.i h_.aI,.i h_.aD,.q i j kn,.i h_.Next])] [n,0] (gW (kc (b.e 3 rfl)) fp) c λ a c=>?_
 refine mD (vs:=[.q k l o,.i h_.ai,.i h_.az,.i h_.aI,.i h_.aD,.q i j kn,.i h_.Next]) 2 b rfl wn rfl Tryz.sizeOf24 rfl rfl rfl rfl (c.g rfl) (c.g rfl) rfl λ w b=>wpList_nil<|H _ _<|wp_ret ?_;obtain rfl:=oi h
 refine Sf (vs:=[.agg #[.q k l o,.i h_.ai,.i h_.az,.i h_.aI,.i h_.aD,.q i j kn,.i h_.Next]]) Tryz.results94 c ⟨⟨_,_,c.g rfl,.inl ⟨[.q k l o,.i h_.ai,.i h_.az,.i h_.aI,.i h_.aD,.q i j kn,.i h_.Next],Tryz.isAgg24,Tryz.sizeOf24,U5 (b.e 2 rfl) 0 ⟨rfl,rfl,rfl,rfl,rfl,rfl,rfl,trivial⟩,rfl⟩⟩,trivial⟩ ?_;exact⟨k,l,T0,i,j,G,rfl,b.rC [0,1] [2,0]⟩
set_option maxRecDepth 20000
@[reducible] def Y_:iN bf:=⟨[.a [.l 3,lS,lS,lS,lS,.l 3,lS]],[],[.a [.R 0,lS,lS,lS,lS,.R 1,lS]],[.r 3 false,.r 3 false],I.aP,
  λ d=>I.vL (⟨d.1.1.1,d.1.1.2.1,d.1.1.2.2.1,d.1.1.2.2.2.1,d.1.1.2.2.2.2.1,d.1.1.2.2.2.2.2.1,d.1.1.2.2.2.2.2.2.1⟩:I.aP),λ d r=>((((),r.ai,r.az,r.aI,r.aD,(),r.Next,()),()),r.wO,r.aJ,())⟩
theorem amS{F':Nat->Prop}{w:World}{F:Nat->Prop}{cs:List Value}{d:Int}(h:(dE .i64).rd F w cs d):(bf.ty 3).rd F' w cs d:=by obtain rfl:cs=[.int .i64 d]:=h;change fC (λ t=>(gf EP t).ty) F' w [.i .i64] _ (d,());exact⟨_,_,rfl,rfl,rfl⟩
theorem axy:Y_.iu.AA aE 94:=by
 intro da db fc h W M0 X ρ w vs f g;obtain⟨⟨(a:List Int),(hy:Int),(i:Int),(j:Int),(l:Int),(b:List Int),(wo:Int),⟨⟩⟩,⟨⟩⟩:=da;obtain⟨⟩:=db;have h:dL _ (I.vL ⟨a,hy,i,j,l,b,wo⟩)=some fc:=h;obtain⟨r,u,rfl⟩:=cF.1 h;have f:Mem bf W M0 X [] ρ w:=f;have g:aZ bf (bi X [] ρ w) w ρ [] [.a [.s 3 (a:List (bf.El 3)),.p (.int .i64 hy),.p (.int .i64 i),.p (.int .i64 j),.p (.int .i64 l),.s 3 (b:List (bf.El 3)),.p (.int .i64 wo)]] vs:=g;simp only[aZ,av]at g;obtain⟨_,_,rfl,⟨us,rfl,u1,_,rfl,o,_,_,rfl,rfl,_,_,rfl,rfl,_,_,rfl,rfl,_,_,rfl,rfl,u6,_,rfl,d,_,_,rfl,rfl,rfl⟩,rfl⟩:=g;obtain⟨A,c,rfl⟩:=mB _ o;obtain⟨ck,p,rfl⟩:=mB _ d;have q:∀k,bi X ([]:List (aG bf.El)) ρ w k->jb [] w k/\w.heap[k]? =w.heap[k]? :=λ k m=>⟨⟨by simp,m.2.2⟩,rfl⟩
 have Yu:(cj (dE .i64) A c a).ok [] w:=jC (λ _ _=>O8) ((b2 (bf.ty 3)).law q o);have n:(cj (dE .i64) ck p b).ok [] w:=jC (λ _ _=>O8) ((b2 (bf.ty 3)).law q d);have aj:bu w [] [] w [] [cj (dE .i64) A c a,cj (dE .i64) ck p b]:=bu.start [] [] w [] _ (by simp) (by simp[bT]) (by simp) (by simp[bT]) λ y hy=>by simp only[cG,hI,or_false]at hy;rcases hy with rfl |rfl;exact Yu;exact n
 refine⟨⟨.ret (.a [.r 0 0,.p (.int .i64 r.ai),.p (.int .i64 r.az),.p (.int .i64 r.aI),.p (.int .i64 r.aD),.r 1 0,.p (.int .i64 r.Next)]),[]++[.r 3 0 0 (r.wO:List (bf.El 3)),.r 3 0 0 (r.aJ:List (bf.El 3))],[]⟩,by kernel_rfl,?_⟩;refine(awB (h_:=⟨a,hy,i,j,l,b,wo⟩) aj u).mono λ e w' ⟨C,c1,xs,D,c2,ys,v,s⟩=>?_;obtain⟨x,z⟩:=f.st2 s (t:=3) (t':=3) rfl (λ _ _ _ ad _=>amS ad) rfl λ _ _ _ ad _=>amS ad;refine⟨_,x,z,λ k m _=>s.bU.block k m (by simp),?_⟩;subst v;have B:ρ.length=0:=f.len;obtain rfl:ρ=[]:=List.length_eq_zero_iff.1 B;simp only[AZ,av,aZ];exact⟨_,rfl,_,_,rfl,⟨trivial,_,rfl,cP _,λ _=>rfl⟩,_,_,rfl,rfl,_,_,rfl,rfl,_,_,rfl,rfl,_,_,rfl,rfl,_,_,rfl,⟨trivial,_,rfl,cP _,λ _=>rfl⟩,_,_,rfl,rfl,rfl⟩
theorem awC:kQ aE 94 (Y_.run aE):=λ ys bl r a=>KU axy ys bl r (zN a)
set_option maxRecDepth 100000
def auA(F:Nat):aS aE:=(auz F).add 94 (Y_.run aE) awC
set_option maxRecDepth 100000
@[reducible] def M3:cy:=.a [.l 3,lS,lS,lS,lS,.l 3,lS]
@[reducible] def aav:cy:=.a [.l 134,.l 3,.l 124,.l 120,.l 121]
abbrev arq:=(List Int×Int×Int×Int×Int×List Int×Int×Unit)
def HA(F:Nat)(b:List al)(c:List Int)(d:List (List I.Field))(e:List (List (List UInt8)))(f:List (List I.Target))(a:Int)(g:Int):Option ((Int×Unit)×Unit):=cond (!(decide (1<=a)&&decide (a<ap (3+(↑b.length:Int))))) (some ((7,()),())) (
(xT (aN.mk b c d e f) a g).bind λ h=>
cond (!h) (some ((3,()),())) (
some ((0,()),())))
def auB(F:Nat):aS aE:=(auA F).fn 26 ⟨[aav,lL,lL],[],[lL],[],λ d=>HA F d.1.1.1 d.1.1.2.1 d.1.1.2.2.1 d.1.1.2.2.2.1 d.1.1.2.2.2.2.1 d.1.2.1 d.1.2.2.1⟩ λ da db=>by kernel_rfl
def pI(F:Nat)(i:List Int)(g:Int)(h:Int)(a:Int)(b:Int)(j:List Int)(k:Int)(f:Int)(e:Int)(l:Bool):Option ((arq×Int×Bool×Unit)×Unit):=cond l (cond (decide (ap (ap (g+h)+1)<ap (ap (b+3)+e))) (some (((i,g,h,a,b,j,k,()),0,false,()),())) (
(vL (aP.mk i g h a b j k)).bind λ c=>
(idx c.wO b).bind λ m=>
(idx (c.wO.set b.toNat f) (ap (b+1))).bind λ n=>
(idx ((c.wO.set b.toNat f).set (ap (b+1)).toNat e) (ap (b+2))).bind λ o=>
cond l (some ((((((c.wO.set b.toNat f).set (ap (b+1)).toNat e).set (ap (b+2)).toNat c.Next),c.ai,c.az,c.aI,(ap (c.aD+ap (3+e))),c.aJ,(ap (c.Next+1)),()),b,true,()),())) (
some ((((((c.wO.set b.toNat f).set (ap (b+1)).toNat e).set (ap (b+2)).toNat c.Next),c.ai,c.az,(ap (c.aI+ap (3+e))),c.aD,c.aJ,(ap (c.Next+1)),()),b,true,()),())))) (
cond (decide (ap (g+1)<ap (ap (a+3)+e))) (some (((i,g,h,a,b,j,k,()),0,false,()),())) (
(vL (aP.mk i g h a b j k)).bind λ d=>
(idx d.wO a).bind λ p=>
(idx (d.wO.set a.toNat f) (ap (a+1))).bind λ q=>
(idx ((d.wO.set a.toNat f).set (ap (a+1)).toNat e) (ap (a+2))).bind λ r=>
cond l (some ((((((d.wO.set a.toNat f).set (ap (a+1)).toNat e).set (ap (a+2)).toNat d.Next),d.ai,d.az,d.aI,(ap (d.aD+ap (3+e))),d.aJ,(ap (d.Next+1)),()),a,true,()),())) (
some ((((((d.wO.set a.toNat f).set (ap (a+1)).toNat e).set (ap (a+2)).toNat d.Next),d.ai,d.az,(ap (d.aI+ap (3+e))),d.aD,d.aJ,(ap (d.Next+1)),()),a,true,()),()))))
def auD(F:Nat):aS aE:=(auB F).fn 61 ⟨[M3,lL,lL,lQ],[],[M3,lL,lQ],[],λ d=>pI F d.1.1.1 d.1.1.2.1 d.1.1.2.2.1 d.1.1.2.2.2.1 d.1.1.2.2.2.2.1 d.1.1.2.2.2.2.2.1 d.1.1.2.2.2.2.2.2.1 d.1.2.1 d.1.2.2.1 d.1.2.2.2.1⟩ λ da db=>by kernel_rfl
def Et(F:Nat)(A:List Int)(r:Int)(s:Int)(t:Int)(u:Int)(B:List Int)(C:Int)(v:List al)(w:List Int)(x:List (List I.Field))(y:List (List (List UInt8)))(z:List (List I.Target))(D:List Int)(i:Int)(j:Int):Option ((arq×List Int×Int×Bool×Unit)×Unit):=(pI F A r s t u B C i j false).bind λ k=>
cond k.1.2.2.1 (some (((k.1.1.1,k.1.1.2.1,k.1.1.2.2.1,k.1.1.2.2.2.1,k.1.1.2.2.2.2.1,k.1.1.2.2.2.2.2.1,k.1.1.2.2.2.2.2.2.1,()),D,k.1.2.1,true,()),())) (
cond (decide (ap (ap (ap (ap (ap (r+s)+1)-u)-t)+1)<0)) ((r4 F A r s t u B C v w x y z D).bind λ a=>
cond (!a.1.2.2.1) (some (((a.1.1.1,a.1.1.2.1,a.1.1.2.2.1,a.1.1.2.2.2.1,a.1.1.2.2.2.2.1,a.1.1.2.2.2.2.2.1,a.1.1.2.2.2.2.2.2.1,()),a.1.2.1,0,false,()),())) (
(pI F a.1.1.1 a.1.1.2.1 a.1.1.2.2.1 a.1.1.2.2.2.1 a.1.1.2.2.2.2.1 a.1.1.2.2.2.2.2.1 a.1.1.2.2.2.2.2.2.1 i j false).bind λ g=>
cond (!g.1.2.2.1) ((pI F a.1.1.1 a.1.1.2.1 a.1.1.2.2.1 a.1.1.2.2.2.1 a.1.1.2.2.2.2.1 a.1.1.2.2.2.2.2.1 a.1.1.2.2.2.2.2.2.1 i j true).bind λ l=>
cond l.1.2.2.1 (some (((l.1.1.1,l.1.1.2.1,l.1.1.2.2.1,l.1.1.2.2.2.1,l.1.1.2.2.2.2.1,l.1.1.2.2.2.2.2.1,l.1.1.2.2.2.2.2.2.1,()),a.1.2.1,l.1.2.1,true,()),())) (
cond (decide (ap (ap (ap (ap (ap (r+s)+1)-u)-t)+1)<0)) (some (((a.1.1.1,a.1.1.2.1,a.1.1.2.2.1,a.1.1.2.2.2.1,a.1.1.2.2.2.2.1,a.1.1.2.2.2.2.2.1,a.1.1.2.2.2.2.2.2.1,()),a.1.2.1,0,false,()),())) (
(r4 F a.1.1.1 a.1.1.2.1 a.1.1.2.2.1 a.1.1.2.2.2.1 a.1.1.2.2.2.2.1 a.1.1.2.2.2.2.2.1 a.1.1.2.2.2.2.2.2.1 v w x y z
 a.1.2.1).bind λ c=>
cond (!c.1.2.2.1) (some (((c.1.1.1,c.1.1.2.1,c.1.1.2.2.1,c.1.1.2.2.2.1,c.1.1.2.2.2.2.1,c.1.1.2.2.2.2.2.1,c.1.1.2.2.2.2.2.2.1,()),c.1.2.1,0,false,()),())) (
(pI F c.1.1.1 c.1.1.2.1 c.1.1.2.2.1 c.1.1.2.2.2.1 c.1.1.2.2.2.2.1 c.1.1.2.2.2.2.2.1 c.1.1.2.2.2.2.2.2.1 i j true).bind λ m=>
some (((m.1.1.1,m.1.1.2.1,m.1.1.2.2.1,m.1.1.2.2.2.1,m.1.1.2.2.2.2.1,m.1.1.2.2.2.2.2.1,m.1.1.2.2.2.2.2.2.1,()),c.1.2.1,m.1.2.1,m.1.2.2.1,()),()))))) (
cond g.1.2.2.1 (some (((g.1.1.1,g.1.1.2.1,g.1.1.2.2.1,g.1.1.2.2.2.1,g.1.1.2.2.2.2.1,g.1.1.2.2.2.2.2.1,g.1.1.2.2.2.2.2.2.1,()),a.1.2.1,g.1.2.1,true,()),())) (
cond (decide (ap (ap (ap (ap (ap (r+s)+1)-u)-t)+1)<0)) (some (((a.1.1.1,a.1.1.2.1,a.1.1.2.2.1,a.1.1.2.2.2.1,a.1.1.2.2.2.2.1,a.1.1.2.2.2.2.2.1,a.1.1.2.2.2.2.2.2.1,()),a.1.2.1,0,false,()),())) (
(r4 F a.1.1.1 a.1.1.2.1 a.1.1.2.2.1 a.1.1.2.2.2.1 a.1.1.2.2.2.2.1 a.1.1.2.2.2.2.2.1 a.1.1.2.2.2.2.2.2.1 v w x y z
 a.1.2.1).bind λ d=>
cond (!d.1.2.2.1) (some (((d.1.1.1,d.1.1.2.1,d.1.1.2.2.1,d.1.1.2.2.2.1,d.1.1.2.2.2.2.1,d.1.1.2.2.2.2.2.1,d.1.1.2.2.2.2.2.2.1,()),d.1.2.1,0,false,()),())) (
(pI F d.1.1.1 d.1.1.2.1 d.1.1.2.2.1 d.1.1.2.2.2.1 d.1.1.2.2.2.2.1 d.1.1.2.2.2.2.2.1 d.1.1.2.2.2.2.2.2.1 i j true).bind λ n=>
some (((n.1.1.1,n.1.1.2.1,n.1.1.2.2.1,n.1.1.2.2.2.1,n.1.1.2.2.2.2.1,n.1.1.2.2.2.2.2.1,n.1.1.2.2.2.2.2.2.1,()),d.1.2.1,n.1.2.1,n.1.2.2.1,()),()))))))) (
(D2 F A r s t u B C v w x y z D).bind λ b=>
(pI F b.1.1.1 b.1.1.2.1 b.1.1.2.2.1 b.1.1.2.2.2.1 b.1.1.2.2.2.2.1 b.1.1.2.2.2.2.2.1 b.1.1.2.2.2.2.2.2.1 i j false).bind λ h=>
cond (!h.1.2.2.1) ((pI F b.1.1.1 b.1.1.2.1 b.1.1.2.2.1 b.1.1.2.2.2.1 b.1.1.2.2.2.2.1 b.1.1.2.2.2.2.2.1 b.1.1.2.2.2.2.2.2.1 i j true).bind λ o=>
cond o.1.2.2.1 (some (((o.1.1.1,o.1.1.2.1,o.1.1.2.2.1,o.1.1.2.2.2.1,o.1.1.2.2.2.2.1,o.1.1.2.2.2.2.2.1,o.1.1.2.2.2.2.2.2.1,()),b.1.2.1,o.1.2.1,true,()),())) (
cond (decide (ap (ap (ap (ap (ap (r+s)+1)-u)-t)+1)<0)) (some (((b.1.1.1,b.1.1.2.1,b.1.1.2.2.1,b.1.1.2.2.2.1,b.1.1.2.2.2.2.1,b.1.1.2.2.2.2.2.1,b.1.1.2.2.2.2.2.2.1,()),b.1.2.1,0,false,()),())) (
(r4 F b.1.1.1 b.1.1.2.1 b.1.1.2.2.1 b.1.1.2.2.2.1 b.1.1.2.2.2.2.1 b.1.1.2.2.2.2.2.1 b.1.1.2.2.2.2.2.2.1 v w x y z
 b.1.2.1).bind λ e=>
cond (!e.1.2.2.1) (some (((e.1.1.1,e.1.1.2.1,e.1.1.2.2.1,e.1.1.2.2.2.1,e.1.1.2.2.2.2.1,e.1.1.2.2.2.2.2.1,e.1.1.2.2.2.2.2.2.1,()),e.1.2.1,0,false,()),())) (
(pI F e.1.1.1 e.1.1.2.1 e.1.1.2.2.1 e.1.1.2.2.2.1 e.1.1.2.2.2.2.1 e.1.1.2.2.2.2.2.1 e.1.1.2.2.2.2.2.2.1 i j true).bind λ p=>
some (((p.1.1.1,p.1.1.2.1,p.1.1.2.2.1,p.1.1.2.2.2.1,p.1.1.2.2.2.2.1,p.1.1.2.2.2.2.2.1,p.1.1.2.2.2.2.2.2.1,()),e.1.2.1,p.1.2.1,p.1.2.2.1,()),()))))) (
cond h.1.2.2.1 (some (((h.1.1.1,h.1.1.2.1,h.1.1.2.2.1,h.1.1.2.2.2.1,h.1.1.2.2.2.2.1,h.1.1.2.2.2.2.2.1,h.1.1.2.2.2.2.2.2.1,()),b.1.2.1,h.1.2.1,true,()),())) (
cond (decide (ap (ap (ap (ap (ap (r+s)+1)-u)-t)+1)<0)) (some (((b.1.1.1,b.1.1.2.1,b.1.1.2.2.1,b.1.1.2.2.2.1,b.1.1.2.2.2.2.1,b.1.1.2.2.2.2.2.1,b.1.1.2.2.2.2.2.2.1,()),b.1.2.1,0,false,()),())) (
(r4 F b.1.1.1 b.1.1.2.1 b.1.1.2.2.1 b.1.1.2.2.2.1 b.1.1.2.2.2.2.1 b.1.1.2.2.2.2.2.1 b.1.1.2.2.2.2.2.2.1 v w x y z
 b.1.2.1).bind λ f=>
cond (!f.1.2.2.1) (some (((f.1.1.1,f.1.1.2.1,f.1.1.2.2.1,f.1.1.2.2.2.1,f.1.1.2.2.2.2.1,f.1.1.2.2.2.2.2.1,f.1.1.2.2.2.2.2.2.1,()),f.1.2.1,0,false,()),())) (
(pI F f.1.1.1 f.1.1.2.1 f.1.1.2.2.1 f.1.1.2.2.2.1 f.1.1.2.2.2.2.1 f.1.1.2.2.2.2.2.1 f.1.1.2.2.2.2.2.2.1 i j true).bind λ q=>
some (((q.1.1.1,q.1.1.2.1,q.1.1.2.2.1,q.1.1.2.2.2.1,q.1.1.2.2.2.2.1,q.1.1.2.2.2.2.2.1,q.1.1.2.2.2.2.2.2.1,()),f.1.2.1,q.1.2.1,q.1.2.2.1,()),())))))))
def Kj(F:Nat):aS aE:=(auD F).fn 27 ⟨[M3,aav,lO,lL,lL],[],[M3,lO,lL,lQ],[],λ d=>Et F d.1.1.1 d.1.1.2.1 d.1.1.2.2.1 d.1.1.2.2.2.1 d.1.1.2.2.2.2.1 d.1.1.2.2.2.2.2.1 d.1.1.2.2.2.2.2.2.1 d.1.2.1.1 d.1.2.1.2.1 d.1.2.1.2.2.1 d.1.2.1.2.2.2.1 d.1.2.1.2.2.2.2.1 d.1.2.2.1 d.1.2.2.2.1 d.1.2.2.2.2.1⟩ λ da db=>by kernel_rfl
def Hr(F:Nat)(lv:List Int)(i:Int)(j:Int)(k:Int)(l:Int)(m:List Int)(n:Int)(d:List al)(e:List Int)(f:List (List I.Field))(g:List (List (List UInt8)))(h:List (List I.Target))(o:List Int)(p:Int)(q:Int):Option ((Bool×Unit)×Unit):=(vY F lv i j k l m n d e f g h o p q).bind λ a=>
(tx F (aP.mk lv i j k l m n) (aN.mk d e f g h) o).bind λ r=>
cond (decide (r=0)) ((HA F d e f g h p q).bind λ s=>
cond (decide (s.1.1=0)) ((Et F lv i j k l m n d e f g h o p q).bind λ b=>
(ma F (aP.mk a.1.1.1 a.1.1.2.1 a.1.1.2.2.1 a.1.1.2.2.2.1 a.1.1.2.2.2.2.1 a.1.1.2.2.2.2.2.1 a.1.1.2.2.2.2.2.2.1)
 a.1.2.2.2.2.1 s.1.1
 (aP.mk b.1.1.1 b.1.1.2.1 b.1.1.2.2.1 b.1.1.2.2.2.1 b.1.1.2.2.2.2.1 b.1.1.2.2.2.2.2.1 b.1.1.2.2.2.2.2.2.1)).bind λ t=>
cond t ((ka F a.1.2.1 b.1.2.1).bind λ u=>
some (((u&&decide (a.1.2.2.1=b.1.2.2.1)&&a.1.2.2.2.1==b.1.2.2.2.1),()),())) (
some (((false&&decide (a.1.2.2.1=b.1.2.2.1)&&a.1.2.2.2.1==b.1.2.2.2.1),()),()))) (
(ma F (aP.mk a.1.1.1 a.1.1.2.1 a.1.1.2.2.1 a.1.1.2.2.2.1 a.1.1.2.2.2.2.1 a.1.1.2.2.2.2.2.1 a.1.1.2.2.2.2.2.2.1)
 a.1.2.2.2.2.1 s.1.1 (aP.mk [] 0 0 0 0 [] 0)).bind λ v=>
cond v ((ka F a.1.2.1 []).bind λ tf=>
some (((tf&&decide (a.1.2.2.1=0)&&a.1.2.2.2.1==false),()),())) (
some (((false&&decide (a.1.2.2.1=0)&&a.1.2.2.2.1==false),()),())))) (
cond (decide (r=0)) ((Et F lv i j k l m n d e f g h o p q).bind λ c=>
(ma F (aP.mk a.1.1.1 a.1.1.2.1 a.1.1.2.2.1 a.1.1.2.2.2.1 a.1.1.2.2.2.2.1 a.1.1.2.2.2.2.2.1 a.1.1.2.2.2.2.2.2.1)
 a.1.2.2.2.2.1 r (aP.mk c.1.1.1 c.1.1.2.1 c.1.1.2.2.1 c.1.1.2.2.2.1 c.1.1.2.2.2.2.1 c.1.1.2.2.2.2.2.1 c.1.1.2.2.2.2.2.2.1)).bind λ w=>
cond w ((ka F a.1.2.1 c.1.2.1).bind λ x=>
some (((x&&decide (a.1.2.2.1=c.1.2.2.1)&&a.1.2.2.2.1==c.1.2.2.2.1),()),())) (
some (((false&&decide (a.1.2.2.1=c.1.2.2.1)&&a.1.2.2.2.1==c.1.2.2.2.1),()),()))) (
(ma F (aP.mk a.1.1.1 a.1.1.2.1 a.1.1.2.2.1 a.1.1.2.2.2.1 a.1.1.2.2.2.2.1 a.1.1.2.2.2.2.2.1 a.1.1.2.2.2.2.2.2.1)
 a.1.2.2.2.2.1 r (aP.mk [] 0 0 0 0 [] 0)).bind λ y=>
cond y ((ka F a.1.2.1 []).bind λ z=>
some (((z&&decide (a.1.2.2.1=0)&&a.1.2.2.2.1==false),()),())) (
some (((false&&decide (a.1.2.2.1=0)&&a.1.2.2.2.1==false),()),()))))
@[reducible] def Y8(F:Nat):er bf:=⟨[M3,aav,lO,lL,lL],[],[lQ],[],λ d=>Hr F d.1.1.1 d.1.1.2.1 d.1.1.2.2.1 d.1.1.2.2.2.1 d.1.1.2.2.2.2.1 d.1.1.2.2.2.2.2.1 d.1.1.2.2.2.2.2.2.1 d.1.2.1.1 d.1.2.1.2.1 d.1.2.1.2.2.1 d.1.2.1.2.2.2.1 d.1.2.1.2.2.2.2.1 d.1.2.2.1 d.1.2.2.2.1 d.1.2.2.2.2.1⟩
theorem aym(F:Nat):(Y8 F).Eq aE (Kj F).t.bw (Kj F).t.LE 7:=λ da db=>by kernel_rfl
theorem awy(F:Nat):kQ aE 7 ((Y8 F).run aE):=Vl kY (m' kY ((Kj F).ok kY).ce ((Kj F).ok kY).le 100) ((Kj F).ok kY).le rfl (aym F)
section
variable{F:Nat->Prop}{w:World}{cs:List Value}
theorem Si{d:bf.El 3}(h:((aw.dE .i64)).rd F w cs d):(bf.ty 3).rd F w cs d:=by obtain rfl:cs=_:=h;change fC (λ t=>(gf EP t).ty) F w [.i .i64] _ (d,());exact⟨_,_,rfl,rfl,rfl⟩
theorem amY{d:bf.El 136}(h:(I.kz).rd F w cs d):(bf.ty 136).rd F w cs d:=by obtain rfl:cs=_:=h;change fC (λ t=>(gf K2 t).ty) F w [.s,.i .i64,.s] _ (d.Name,d.Kind.Kind,d.Kind.al,());exact⟨_,_,rfl,rfl,_,_,rfl,rfl,_,_,rfl,rfl,rfl⟩
theorem aJM{d:bf.El 128}(h:(I.Gz).rd F w cs d):(bf.ty 128).rd F w cs d:=by obtain rfl:cs=_:=h;change fC (λ t=>(gf PC t).ty) F w [.i .i64,.s] _ (d.Kind,d.al,());exact⟨_,_,rfl,rfl,_,_,rfl,rfl,rfl⟩
theorem aJP{d:bf.El 157}(h:(I.Gy).rd F w cs d):(bf.ty 157).rd F w cs d:=by obtain rfl:cs=_:=h;change fC (λ t=>(gf PA t).ty) F w [.i .i64,.i .i64,.i .i64,.s] _ (d.From,d.To,d.At,d.al,());exact⟨_,_,rfl,rfl,_,_,rfl,rfl,_,_,rfl,rfl,_,_,rfl,rfl,rfl⟩
theorem aJN{d:bf.El 131}(h:(I.sZ).rd F w cs d):(bf.ty 131).rd F w cs d:=by obtain⟨_,_,_,_,rfl,J,a⟩:=h;change fC (λ t=>(gf PD t).ty) F w [.s,.b,.l 128,.i .i64,.s,.i .i64,.i .i64,.s,.l 157] _ (d.Name,d.Static,d.cD,d.Returns.Kind,d.Returns.al,d.iO,d.iL,d.Code,d.cL,());exact⟨_,_,rfl,rfl,_,_,rfl,rfl,_,_,rfl,jC (λ _ _=>aJM) J,_,_,rfl,rfl,_,_,rfl,rfl,_,_,rfl,rfl,_,_,rfl,rfl,_,_,rfl,rfl,_,_,rfl,jC (λ _ _=>aJP) a,rfl⟩
theorem aJO{d:bf.El 134}(h:(I.lU).rd F w cs d):(bf.ty 134).rd F w cs d:=by obtain⟨_,_,_,_,rfl,J,a⟩:=h;change fC (λ t=>(gf PB t).ty) F w [.s,.s,.l 136,.l 131] _ (d.Name,d.dg,d.Fields,d.bn,());exact⟨_,_,rfl,rfl,_,_,rfl,rfl,_,_,rfl,jC (λ _ _=>amY) J,_,_,rfl,jC (λ _ _=>aJN) a,rfl⟩
theorem aJL{d:bf.El 124}(h:((b2 I.kz)).rd F w cs d):(bf.ty 124).rd F w cs d:=by obtain⟨A,c,rfl⟩:=pb h;change fC (λ t=>(gf VF t).ty) F w [.l 136] _ (d,());exact⟨_,_,rfl,jC (λ _ _=>amY) h,rfl⟩
theorem aJR{d:bf.El 9}(h:(ky).rd F w cs d):(bf.ty 9).rd F w cs d:=by obtain rfl:cs=_:=h;change fC (λ t=>(gf PF t).ty) F w [.s] _ (d,());exact⟨_,_,rfl,rfl,rfl⟩
theorem aJJ{d:bf.El 120}(h:((b2 ky)).rd F w cs d):(bf.ty 120).rd F w cs d:=by obtain⟨A,c,rfl⟩:=pb h;change fC (λ t=>(gf VG t).ty) F w [.l 9] _ (d,());exact⟨_,_,rfl,jC (λ _ _=>aJR) h,rfl⟩
theorem aJQ{d:bf.El 166}(h:(I.lV).rd F w cs d):(bf.ty 166).rd F w cs d:=by obtain rfl:cs=_:=h;change fC (λ t=>(gf PE t).ty) F w [.i .i64,.i .i64] _ (d.al,d.Method,());exact⟨_,_,rfl,rfl,_,_,rfl,rfl,rfl⟩
theorem aJK{d:bf.El 121}(h:((b2 I.lV)).rd F w cs d):(bf.ty 121).rd F w cs d:=by obtain⟨A,c,rfl⟩:=pb h;change fC (λ t=>(gf VE t).ty) F w [.l 166] _ (d,());exact⟨_,_,rfl,jC (λ _ _=>aJQ) h,rfl⟩
end
end Go.Proofs.YteeliipnilghaaaGreat
namespace I
theorem bX{n:Int}(a: -9223372036854775808<=n)(b:n<=9223372036854775807):ap n=n:=by unfold ap;omega
theorem eE{i n:Nat}(hi:i<n)(a:n<=140737488355328):ap ((i:Int)+1)=((i+1 :Nat):Int):=by rw[bX (by omega) (by omega)];omega
theorem br{α:Type}{l:List α}{i:Nat}{x:α}(h:l[i]? =some x):idx l (i:Int)=some x:=by unfold idx;rw[lz (by omega)];simpa using h
theorem bH{i n:Nat}(h:i<n):decide ((i:Int)<(n:Int))=true:=lu (by omega)
theorem bG(n:Nat):decide ((n:Int)<(n:Int))=false:=lx (by omega)
def cz{ρ:Type}:Option ρ->Way ρ Unit
 |some r=>.out r
 |none=>.go ()
def hW{ρ:Type}(o:Option ρ)(y:Option (Way ρ Unit)):Option (Way ρ Unit):=match o with
 |some r=>some (.out r)
 |none=>y
theorem each{α ρ:Type}{l:List α}{L:Nat->Int->Option (Way ρ Unit)}(g:α->Option ρ)(a:l.length<=140737488355328)
 (aj:∀k (i:Nat) x,l[i]? =some x->L (k+1) (i:Int)=hW (g x) (L k (ap ((i:Int)+1))))
 (b:∀k,L (k+1) (l.length:Int)=some (.go ())){F:Nat}(c:l.length<F):L F 0=some (cz (l.findSome? g)):=by
 have key:∀(d i k:Nat),i+d=l.length->d<k->L k (i:Int)=some (cz ((l.drop i).findSome? g)):=by
  intro d;induction d with
  |zero=>
   intro i k h e;obtain⟨k,rfl⟩:∃k',k=k'+1:=⟨k-1,by omega⟩
   have hi:i=l.length:=by omega
   subst hi;rw[b];simp[cz]
  |succ d f=>
   intro i k h e;obtain⟨k,rfl⟩:∃k',k=k'+1:=⟨k-1,by omega⟩
   have hi:i<l.length:=by omega
   rw[aj k i l[i] (aR hi),cw hi,ih];cases j:g l[i]with
   |some r=>rfl
   |none=>simp only[hW];rw[eE hi a];exact f (i+1) k (by omega) (by omega)
 have:=key l.length 0 F (by omega) c
 simpa using this
theorem mg{ρ:Type}{n:Nat}{L:Nat->Int->Option (Way ρ Unit)}(g:Nat->Option ρ)(a:n<=140737488355328)
 (aj:∀k (i:Nat),i<n->L (k+1) (i:Int)=hW (g i) (L k (ap ((i:Int)+1))))
 (b:∀k,L (k+1) (n:Int)=some (.go ())){F:Nat}(c:n<F):L F 0=some (cz ((dR n).findSome? g)):=by
 have h:=each (l:=dR n) (L:=L) g (by simpa using a) (λ k i x ad=>by
  have hi:i<n:=by have:=(ba.1 ad).1;simpa using this
  rw[kC hi]at ad;simp only[aM]at ad;subst ad;exact aj k i hi) (λ k=>by simpa using b k) (F:=F) (by simpa using c)
 exact h
theorem Rc{σ:Type}{n:Nat}(T:Nat->Nat->Option σ)(fin:σ)(aj:∀k i,i<n->T (k+1) i=T k (i+1))(a:∀k,T (k+1) n=some fin){F:Nat}(b:n<F):T F 0=some fin:=by
 have key:∀(d i k:Nat),i+d=n->d<k->T k i=some fin:=by
  intro d;induction d with
  |zero=>
   intro i k h c;obtain⟨k,rfl⟩:∃k',k=k'+1:=⟨k-1,by omega⟩
   have hi:i=n:=by omega
   subst hi;exact a k
  |succ d e=>
   intro i k h c;obtain⟨k,rfl⟩:∃k',k=k'+1:=⟨k-1,by omega⟩
   rw[aj k i (by omega)];exact e (i+1) k (by omega) (by omega)
 exact key n 0 F (by omega) b
abbrev Small(F n:Nat):Prop:=n<=140737488355328/\n<F
def vP(b:UInt8):Bool:=((((decide (97<=(b.toNat:Int)))&&(decide ((b.toNat:Int)<=122)))||((decide (65<=(b.toNat:Int)))&&(decide ((b.toNat:Int)<=90))))||((decide (48<=(b.toNat:Int)))&&(decide ((b.toNat:Int)<=57))))||(decide ((b.toNat:Int)=95))
def gV(s:List UInt8):Bool:=(s.findSome? λ b=>if vP b then none else some ()).isNone&&decide (s≠[])&&decide (s.length<=20)
theorem D_{F:Nat}{s:List UInt8}(h:Small F s.length):qI F s=some (gV s):=by
 unfold qI;have l1:=each (l:=s) (L:=vJ s) (λ b=>if vP b then none else some false) h.1 (λ k i x ad=>by
  rw[vJ,bH (ba.1 ad).1,lA,br ad,ae];show cond (!vP x) _ _=_
  cases vP x<;>rfl) (λ k=>by rw[vJ,bG];rfl) h.2
 rw[l1];unfold gV;have e:∀s:List UInt8,s.findSome? (λ b=>if vP b then none else some false)=(s.findSome? (λ b=>if vP b then none else some ())).map (λ _=>false):=by
  intro s;induction s with
  |nil=>rfl
  |cons b r a=>simp only[ih];cases vP b<;>simp[a]
 rw[e];cases s.findSome? (λ b=>if vP b then none else some ())with
 |some _=>rfl
 |none=>simp only[iE,cz,sW,Option.isNone_none,jF];congr 1;rw[h5];cases s<;>first |(simp;done)|(simp;omega)
theorem IF{F:Nat}{s:List UInt8}(h:Small F s.length):p_ F s=some (gV s):=by
 rw[<-D_ h];unfold p_ qI bytesOf;rw[lz h.1,ae];have e:∀k n,FE s k n=vJ s k n:=by
  intro k;induction k with
  |zero=>intro n;rfl
  |succ k a=>
   intro n;rw[FE,vJ];simp only[a];congr 1;congr 1;funext b;have hc:(((((decide ((b.toNat:Int)<97))||(decide (122<(b.toNat:Int))))&&((decide ((b.toNat:Int)<65))||(decide (90<(b.toNat:Int)))))&&((decide ((b.toNat:Int)<48))||(decide (57<(b.toNat:Int)))))&&(!decide ((b.toNat:Int)=95)))= !vP b:=by unfold vP;rw[h5];first |(simp;done)|(simp;omega)
   rw[hc];rfl
 rw[e];cases vJ s F 0 with
 |none=>rfl
 |some w=>
  cases w with
  |out r=>rfl
  |go u=>simp only[sW];congr 1;rw[h5];cases s<;>first |(simp;done)|(simp;omega)
def kindOk(k:Kind):Bool:=if k.Kind=3\/k.Kind=4 then gV k.al else(decide (k.Kind=1)||decide (k.Kind=2))&&decide (k.al=[])
theorem YN{F:Nat}{k:Kind}(h:Small F k.al.length):yX F k=some (kindOk k):=by unfold yX QG kindOk;simp only[ae,IF h];by_cases a:k.Kind=3\/k.Kind=4;rw[lz a];rcases a with e |e<;>simp[e];rw[ly a];have e3: ¬k.Kind=3:=λ e=>a (.inl e);have e4: ¬k.Kind=4:=λ e=>a (.inr e);simp[e3,e4]
theorem UQ{F:Nat}{k:Kind}(h:Small F k.al.length):xV F k=some (kindOk k):=by unfold xV kindOk;simp only[D_ h,ae];by_cases a:k.Kind=3\/k.Kind=4;rw[lz a];rcases a with e |e<;>simp[e];rw[ly a];have e3: ¬k.Kind=3:=λ e=>a (.inl e);have e4: ¬k.Kind=4:=λ e=>a (.inr e);by_cases b:k.Kind=1;simp[b];by_cases J:k.Kind=2;simp[J];simp[e3,e4,b,J]
def iZ(n a b:Int):Bool:=decide (a<=n)&&decide (n<=b)
def v8(h:Handler):Option Int:=if gV h.al then(if iZ h.From 0 200&&iZ h.To 0 200&&iZ h.At 0 200 then none else some 3)else some 1
def y1(k:Kind):Option Int:=if kindOk k then none else some 7
def F8(m:Method):Int:=
 if gV m.Name then
  if 4<m.cD.length\/200<m.Code.length\/4<m.cL.length then 2
  else if iZ m.iO 0 10&&iZ m.iL 0 10 then
   match m.cD.findSome? y1 with
   |some e=>e
   |none=>if m.Returns=⟨0,[]⟩\/kindOk m.Returns=true then(m.cL.findSome? v8).getD 0 else 7
  else 3
 else 1
structure Method.Fits (F:Nat) (m:Method):Prop where
 name:Small F m.Name.length
 args:Small F m.cD.length
 arg:∀k∈m.cD,Small F k.al.length
 ret:Small F m.Returns.al.length
 Bz:Small F m.cL.length
 hand:∀h∈m.cL,Small F h.al.length
structure al.Fits (F:Nat) (c:al):Prop where
 name:Small F c.Name.length
 super:Small F c.dg.length
 fields:Small F c.Fields.length
 field:∀f∈c.Fields,Small F f.Name.length/\Small F f.Kind.al.length
 methods:Small F c.bn.length
 method:∀m∈c.bn,m.Fits F
def Fits(F:Nat)(l:List al):Prop:=Small F l.length/\∀c∈l,c.Fits F
theorem aoD{F:Nat}(o:Option Int)(d:Int):cn (α:=Unit) (some (cz o)) (λ _=>some d)=some (o.getD d):=by cases o<;>rfl
theorem aoE{o:Option Int}{k:Option Int}:cn (α:=Unit) (some (cz o)) (λ _=>k)=(match o with|some e=>some e |none=>k):=by cases o<;>rfl
theorem aDl{F:Nat}{m:Method}(h:m.Fits F):FH F m=some (F8 m):=by
 have l1:BT F m F 0=some (cz (m.cD.findSome? y1)):=each y1 h.args.1 (λ k i x ad=>by
  rw[BT,bH (ba.1 ad).1,lA,br ad,ae,YN (h.arg x (b_ ad)),ae];unfold y1;show cond (!kindOk x) _ _=_
  cases kindOk x<;>rfl) (λ k=>by rw[BT,bG];rfl) h.args.2
 have f:∀ {x:Handler}(_:x∈m.cL)(Y:Option (Way Int Unit)),((p_ F x.al).bind λ b=>
  cond (!b) (some (.out 1)) ((oZ x.From 0 200).bind λ j=>
  cond (!j) (some (.out 3)) ((oZ x.To 0 200).bind λ c=>
  cond (!c) (some (.out 3)) ((oZ x.At 0 200).bind λ d=>
  cond (!d) (some (.out 3)) Y))))=hW (v8 x) Y:=by
  intro x ad Y
  rw[IF (h.hand x ad)]
  unfold v8 oZ
  simp only[ae]
  show cond (!gV x.al) _ (cond (!iZ x.From 0 200) _ (cond (!iZ x.To 0 200) _ (cond (!iZ x.At 0 200) _ _)))=_
  cases gV x.al<;>cases iZ x.From 0 200<;>cases iZ x.To 0 200<;>cases iZ x.At 0 200<;>rfl
 have l:FI F m F 0=some (cz (m.cL.findSome? v8)):=each v8 h.Bz.1 (λ k i x ad=>by rw[FI,bH (ba.1 ad).1,lA,br ad,ae];exact f (b_ ad) _) (λ k=>by rw[FI,bG];rfl) h.Bz.2;have n:ur F m F 0=some (cz (m.cL.findSome? v8)):=each v8 h.Bz.1 (λ k i x ad=>by rw[ur,bH (ba.1 ad).1,lA,br ad,ae];exact f (b_ ad) _) (λ k=>by rw[ur,bG];rfl) h.Bz.2;unfold FH oZ F8;rw[IF h.name,l1,l,n];have o:=YN (F:=F) (k:=(⟨m.Returns.Kind,m.Returns.al⟩:Kind)) h.ret;simp only[ae,o,aoD (F:=F),aoE];cases gV m.Name with
 |false=>rfl
 |true=>
  simp only[c7,lK,if_true];by_cases g:4<m.cD.length\/200<m.Code.length\/4<m.cL.length
  ·rw[lz g];have:((decide (4<(m.cD.length:Int)))||(decide (200<(m.Code.length:Int)))||(decide (4<(m.cL.length:Int))))=true:=by simp;omega
   rw[this];rfl
  ·rw[ly g];have:((decide (4<(m.cD.length:Int)))||(decide (200<(m.Code.length:Int)))||(decide (4<(m.cL.length:Int))))=false:=by simp;omega
   rw[this];show cond (!iZ m.iO 0 10) _ (cond (!iZ m.iL 0 10) _ _)=_
   cases iZ m.iO 0 10<;>cases iZ m.iL 0 10<;>try rfl
   simp only[c7,lK,Bool.and_self,if_true];cases m.cD.findSome? y1 with
   |some e=>rfl
   |none=>
    simp only;by_cases a:m.Returns=⟨0,[]⟩
    ·rw[lz (.inl a),show(decide ((⟨m.Returns.Kind,m.Returns.al⟩:Kind)=⟨0,[]⟩))=true from lu a];rfl
    ·rw[show(decide ((⟨m.Returns.Kind,m.Returns.al⟩:Kind)=⟨0,[]⟩))=false from lx a];simp only[hF,lA];show cond (!kindOk m.Returns) _ _=_
     cases p:kindOk m.Returns with
     |true=>rw[lz (.inr rfl)];rfl
     |false=>rw[ly (by simp[a])];rfl
theorem avV{F:Nat}{m:Method}(h:m.Fits F):DY F m=some (F8 m):=by
 have l1:DZ F m F 0=some (cz (m.cD.findSome? y1)):=each y1 h.args.1 (λ k i x ad=>by rw[DZ,bH (ba.1 ad).1,lA,br ad,ae,UQ (h.arg x (b_ ad)),ae];unfold y1;cases kindOk x<;>rfl) (λ k=>by rw[DZ,bG];rfl) h.args.2;have g:D0 F m F 0=some (cz (m.cL.findSome? v8)):=each v8 h.Bz.1 (λ k i x ad=>by
  rw[D0,bH (ba.1 ad).1,lA,br ad,ae,D_ (h.hand x (b_ ad))];unfold v8 gL;simp only[ae];show cond (!gV x.al) _ (cond (!iZ x.From 0 200) _ (cond (!iZ x.To 0 200) _ (cond (!iZ x.At 0 200) _ _)))=_
  cases gV x.al<;>cases iZ x.From 0 200<;>cases iZ x.To 0 200<;>cases iZ x.At 0 200<;>rfl) (λ k=>by rw[D0,bG];rfl) h.Bz.2
 unfold DY gL F8;rw[D_ h.name,l1,g];have j:=UQ (F:=F) (k:=(⟨m.Returns.Kind,m.Returns.al⟩:Kind)) h.ret;simp only[ae,j,aoD (F:=F),aoE];cases gV m.Name with
 |false=>rfl
 |true=>
  simp only[c7,lK,if_true];by_cases d:4<m.cD.length\/200<m.Code.length\/4<m.cL.length
  ·rw[lz d];have:((decide (4<(m.cD.length:Int)))||(decide (200<(m.Code.length:Int)))||(decide (4<(m.cL.length:Int))))=true:=by simp;omega
   rw[this];rfl
  ·rw[ly d];have:((decide (4<(m.cD.length:Int)))||(decide (200<(m.Code.length:Int)))||(decide (4<(m.cL.length:Int))))=false:=by simp;omega
   rw[this];show cond (!iZ m.iO 0 10) _ (cond (!iZ m.iL 0 10) _ _)=_
   cases iZ m.iO 0 10<;>cases iZ m.iL 0 10<;>try rfl
   simp only[c7,lK,Bool.and_self,if_true];cases m.cD.findSome? y1 with
   |some e=>rfl
   |none=>
    simp only;show cond ((!kindOk m.Returns)&&_) _ _=_
    by_cases c:m.Returns=⟨0,[]⟩
    ·rw[lz (.inl c),c];simp
    ·have l:((!decide (m.Returns.Kind=0))||(!decide (m.Returns.al=[])))=true:=by
      rcases n:m.Returns with⟨a,b⟩;rw[n]at c;by_cases f:a=0
      ·by_cases ag:b=[]
       ·subst f;subst ag;exact absurd rfl c
       ·simp[ag]
      ·simp[f]
     rw[l];cases o:kindOk m.Returns with
     |true=>rw[lz (.inr rfl)];rfl
     |false=>rw[ly (by simp[c])];rfl
def jv(f:Field):Option Int:=if gV f.Name then(if kindOk f.Kind then none else some 7)else some 1
def hl(e:Int):Option Int:=if e=0 then none else some e
def hR(m:Method):Option Int:=hl (F8 m)
def HO(c:al):Int:=
 if gV c.Name&&(decide (c.dg=[])||gV c.dg)then
  if 6<c.Fields.length\/8<c.bn.length then 2
  else(c.Fields.findSome? jv).getD ((c.bn.findSome? hR).getD 0)
 else 1
def tM(c:al):Option Int:=hl (HO c)
def tN(l:List al):Int:=if 10<l.length then 2 else(l.findSome? tM).getD 0
def rm{ρ:Type}(o:Option ρ)(y:Option ρ):Option ρ:=match o with
 |some e=>some e
 |none=>y
theorem Z'{e:Int}{Y:Option (Way Int Unit)}:cond (!decide (e=0)) (some (.out e)) Y=hW (hl e) Y:=by unfold hl hW;by_cases h:e=0;rw[lz h,lu h];rfl;rw[ly h,lx h];rfl
theorem agn{a b:Nat}(x y:Nat):((decide ((x:Int)<(a:Int)))||(decide ((y:Int)<(b:Int))))=decide (x<a\/y<b):=by rw[h5];simp
theorem qp{o:Option Int}{k:Unit->Option (Way Int Unit)}:di (α:=Unit) (some (cz o)) k=hW o (k ()):=by cases o<;>rfl
theorem lg{ρ:Type}{o:Option ρ}{k:Unit->Option ρ}:cn (α:=Unit) (some (cz o)) k=rm o (k ()):=by cases o<;>rfl
theorem sX{o:Option Int}{Y:Option (Way Int Unit)}{k:Unit->Option (Way Int Unit)}:di (α:=Unit) (hW o Y) k=hW o (di (α:=Unit) Y k):=by cases o<;>rfl
section
variable{F:Nat}
theorem aDk{c:al}(h:c.Fits F):Mk F c=some (HO c):=by
 have b:∀ {x:Field}(_:x∈c.Fields)(Y:Option (Way Int Unit)),((p_ F x.Name).bind λ j=>
  cond (!j) (some (.out 1)) ((yX F (⟨x.Kind.Kind,x.Kind.al⟩:Kind)).bind λ l=>
  cond (!l) (some (.out 7)) Y))=hW (jv x) Y:=by
  intro x ad Y
  rw[IF (h.field x ad).1,YN (k:=(⟨x.Kind.Kind,x.Kind.al⟩:Kind)) (h.field x ad).2]
  unfold jv
  simp only[ae]
  show cond (!gV x.Name) _ (cond (!kindOk x.Kind) _ _)=_
  cases gV x.Name<;>cases kindOk x.Kind<;>rfl
 have d:∀ {x:Method}(_:x∈c.bn)(Y:Option (Way Int Unit)),((FH F (⟨x.Name,x.Static,x.cD,(⟨x.Returns.Kind,x.Returns.al⟩:Kind),x.iO,x.iL,x.Code,x.cL⟩:Method)).bind λ f=>
  cond (!decide (f=0)) (some (.out f)) Y)=hW (hR x) Y:=by
  intro x ad Y
  have:=aDl (F:=F) (m:=(⟨x.Name,x.Static,x.cD,(⟨x.Returns.Kind,x.Returns.al⟩:Kind),x.iO,x.iL,x.Code,x.cL⟩:Method)) (h.method x ad)
  rw[this,ae]
  exact Z'
 have l1:FF F c F 0=some (cz (c.Fields.findSome? jv)):=each jv h.fields.1 (λ k i x ad=>by rw[FF,bH (ba.1 ad).1,lA,br ad,ae];exact b (b_ ad) _) (λ k=>by rw[FF,bG];rfl) h.fields.2;have n:yW F c F 0=some (cz (c.Fields.findSome? jv)):=each jv h.fields.1 (λ k i x ad=>by rw[yW,bH (ba.1 ad).1,lA,br ad,ae];exact b (b_ ad) _) (λ k=>by rw[yW,bG];rfl) h.fields.2;have o:FG F c F 0=some (cz (c.bn.findSome? hR)):=each hR h.methods.1 (λ k i x ad=>by rw[FG,bH (ba.1 ad).1,lA,br ad,ae];exact d (b_ ad) _) (λ k=>by rw[FG,bG];rfl) h.methods.2;have q:uq F c F 0=some (cz (c.bn.findSome? hR)):=each hR h.methods.1 (λ k i x ad=>by rw[uq,bH (ba.1 ad).1,lA,br ad,ae];exact d (b_ ad) _) (λ k=>by rw[uq,bG];rfl) h.methods.2;unfold Mk HO;rw[IF h.name,IF h.super,l1,o,n,q];simp only[ae,lg,show(6 :Int)=((6 :Nat):Int) from rfl,show(8 :Int)=((8 :Nat):Int) from rfl,agn];cases gV c.Name with
 |false=>rfl
 |true=>
  simp only[c7,lK,jF]
  have g:∀p:Bool,p=decide (6<c.Fields.length\/8<c.bn.length)->cond p (some (2 :Int)) (rm (c.Fields.findSome? jv) (rm (c.bn.findSome? hR) (some 0)))=
   some (if 6<c.Fields.length\/8<c.bn.length then 2 else(c.Fields.findSome? jv).getD ((c.bn.findSome? hR).getD 0)):=by
   intro p r
   subst r
   by_cases a:6<c.Fields.length\/8<c.bn.length
   ·rw[lz a,lu a];rfl
   ·rw[ly a,lx a];cases c.Fields.findSome? jv with
    |some e=>rfl
    |none=>cases c.bn.findSome? hR<;>rfl
  by_cases aj:c.dg=[]
  ·rw[lu aj];simp only[c7,lK,lr,if_true];exact g _ rfl
  ·rw[lx aj];simp only[hF,lA,hK];cases gV c.dg with
   |false=>rfl
   |true=>simp only[c7,lK,if_true];exact g _ rfl
theorem aDj{l:List al}(h:Fits F l):Mj F l=some (tN l):=by have l1:BS F l F 0=some (cz (l.findSome? tM)):=each tM h.1.1 (λ k i x ad=>by rw[BS,bH (ba.1 ad).1,lA,br ad,ae,aDk (c:=(⟨x.Name,x.dg,x.Fields,x.bn⟩:al)) (h.2 x (b_ ad)),ae];exact Z') (λ k=>by rw[BS,bG];rfl) h.1.2;unfold Mj tN;rw[l1,lg];by_cases a:10<l.length;rw[lz a,lu (show(10 :Int)<(l.length:Int) by omega)];rfl;rw[ly a,lx (show¬(10 :Int)<(l.length:Int) by omega)];cases l.findSome? tM<;>rfl
theorem avU{l:List al}(h:Fits F l):Kw F l=some (tN l):=by
 have body:∀ {c:al}(_:c.Fits F),Hx F c F 0=some (cz (c.Fields.findSome? jv))/\AF F c F 0=some (cz (c.Fields.findSome? jv))/\Hy F c F 0=some (cz (c.bn.findSome? hR))/\AG F c F 0=some (cz (c.bn.findSome? hR)):=by
  intro c hc
  have a:∀ {x:Field}(_:x∈c.Fields)(i:Int)(_:idx c.Fields i=some x)(Y:Option (Way Int Unit)),((qI F x.Name).bind λ o=>
   cond (!o) (some (.out 1)) ((idx c.Fields i).bind λ x=>(xV F (⟨x.Kind.Kind,x.Kind.al⟩:Kind)).bind λ q=>
   cond (!q) (some (.out 7)) Y))=hW (jv x) Y:=by
   intro x ad i hi Y
   rw[D_ (hc.field x ad).1,hi]
   unfold jv
   simp only[ae]
   rw[UQ (k:=(⟨x.Kind.Kind,x.Kind.al⟩:Kind)) (hc.field x ad).2,ae]
   show cond (!gV x.Name) _ (cond (!kindOk x.Kind) _ _)=_
   cases gV x.Name<;>cases kindOk x.Kind<;>rfl
  have b:∀ {x:Method}(_:x∈c.bn)(Y:Option (Way Int Unit)),((DY F x).bind λ j=>
   cond (!decide (j=0)) (some (.out j)) Y)=hW (hR x) Y:=by
   intro x ad Y
   rw[avV (hc.method x ad),ae]
   exact Z'
  refine⟨each jv hc.fields.1 (λ k i x ad=>?_) (λ k=>by rw[Hx,bG];rfl) hc.fields.2,each jv hc.fields.1 (λ k i x ad=>?_) (λ k=>by rw[AF,bG];rfl) hc.fields.2,
   each hR hc.methods.1 (λ k i x ad=>?_) (λ k=>by rw[Hy,bG];rfl) hc.methods.2,each hR hc.methods.1 (λ k i x ad=>?_) (λ k=>by rw[AG,bG];rfl) hc.methods.2⟩
  ·rw[Hx,bH (ba.1 ad).1,lA,br ad,ae];rw[<-br ad];exact a (b_ ad) _ (br ad) _
  ·rw[AF,bH (ba.1 ad).1,lA,br ad,ae];rw[<-br ad];exact a (b_ ad) _ (br ad) _
  ·rw[Hy,bH (ba.1 ad).1,lA,br ad,ae];exact b (b_ ad) _
  ·rw[AG,bH (ba.1 ad).1,lA,br ad,ae];exact b (b_ ad) _
 have l1:DJ F l F 0=some (cz (l.findSome? tM)):=each tM h.1.1 (λ k i c ad=>by
  have hc:=h.2 c (b_ ad);obtain⟨r,s,t,u⟩:=body hc;rw[DJ,bH (ba.1 ad).1,lA,br ad,ae,D_ hc.name,D_ hc.super,r,t,s,u];simp only[ae,qp,show(6 :Int)=((6 :Nat):Int) from rfl,show(8 :Int)=((8 :Nat):Int) from rfl,agn];unfold tM HO;cases gV c.Name with
  |false=>rfl
  |true=>
   simp only[c7,lK,jF]
   have m:∀(p:Bool)(Y:Option (Way Int Unit)),p=decide (6<c.Fields.length\/8<c.bn.length)->di (α:=Unit) (cond p (some (.out (2 :Int))) (hW (c.Fields.findSome? jv) (hW (c.bn.findSome? hR) (some (.go ()))))) (λ _=>Y)=
    hW (hl (if 6<c.Fields.length\/8<c.bn.length then 2 else(c.Fields.findSome? jv).getD ((c.bn.findSome? hR).getD 0))) Y:=by
    intro p Y v
    subst v
    by_cases d:6<c.Fields.length\/8<c.bn.length
    ·rw[lz d,lu d];rfl
    ·rw[ly d,lx d,lK];have f:∀e,c.Fields.findSome? jv=some e->hl e=some e:=by intro e g;obtain⟨x,_,ad⟩:=dX g;unfold jv at ad;split at ad;split at ad;cases ad;injection ad with ad;subst ad;rfl;injection ad with ad;subst ad;rfl
     have w:∀e,c.bn.findSome? hR=some e->hl e=some e:=by intro e g;obtain⟨x,_,ad⟩:=dX g;unfold hR at ad;unfold hl at ad⊢;split at ad;cases ad;rename_i y;injection ad with ad;subst ad;rw[ly y]
     cases a:c.Fields.findSome? jv with
     |some e=>simp only[ij,f e a];rfl
     |none=>
      cases b:c.bn.findSome? hR with
      |some e=>simp only[ij,je,w e b];rfl
      |none=>rfl
   by_cases aj:c.dg=[]
   ·rw[lu aj];simp only[c7,lK,lr,if_true];exact m _ _ rfl
   ·rw[lx aj];simp only[hF,lA,hK];cases gV c.dg with
    |false=>rfl
    |true=>simp only[c7,lK,if_true];exact m _ _ rfl) (λ k=>by rw[DJ,bG];rfl) h.1.2
 unfold Kw tN;rw[l1,lg];by_cases n:10<l.length;rw[lz n,lu (show(10 :Int)<(l.length:Int) by omega)];rfl;rw[ly n,lx (show¬(10 :Int)<(l.length:Int) by omega)];cases l.findSome? tM<;>rfl
end
structure Right (l:List al):Prop where
 len:l.length<=10
 name:∀c∈l,gV c.Name=true
 fields:∀c∈l,c.Fields.length<=6
 methods:∀c∈l,c.bn.length<=8
 method:∀c∈l,∀m∈c.bn,m.cD.length<=4/\m.cL.length<=4
theorem aFR{m:Method}(h:F8 m=0):m.cD.length<=4/\m.cL.length<=4:=by unfold F8 at h;split at h;split at h;exact absurd h (by decide);rename_i a;exact⟨by omega,by omega⟩;exact absurd h (by decide)
theorem aG5{e:Int}(h:hl e=none):e=0:=by unfold hl at h;split at h;assumption;cases h
theorem aG6{e x:Int}(h:hl e=some x):x≠0:=by unfold hl at h;split at h;cases h;rename_i a;injection h with h;subst h;exact a
theorem aDv{s:List UInt8}(h:gV s=true):s≠[]:=by unfold gV at h;simp only[ca,decide_eq_true_eq]at h;exact h.1.2
theorem awU{l:List al}(h:tN l=0):Right l:=by
 unfold tN at h;by_cases f:10<l.length;rw[lz f]at h;exact absurd h (by decide)
 ·rw[ly f]at h
  have i:∀c∈l,HO c=0:=by
   intro c hc;cases b:l.findSome? tM with
   |some e=>rw[b]at h;simp only[ij]at h;subst h;obtain⟨x,_,ad⟩:=dX b;unfold tM hl at ad;split at ad;cases ad;rename_i j;injection ad with ad;exact absurd ad j
   |none=>have:=fZ.1 b c hc;unfold tM hl at this;split at this;assumption;cases this
  have key:∀c∈l,gV c.Name=true/\c.Fields.length<=6/\c.bn.length<=8/\∀m∈c.bn,m.cD.length<=4/\m.cL.length<=4:=by
   intro c hc;have a:=i c hc;unfold HO at a;split at a
   ·rename_i g;simp only[ca]at g;split at a;exact absurd a (by decide)
    ·rename_i J;refine⟨g.1,by omega,by omega,λ m k=>?_⟩;cases b:c.Fields.findSome? jv with
     |some e=>rw[b]at a;simp only[ij]at a;subst a;obtain⟨x,_,ad⟩:=dX b;unfold jv at ad;split at ad;split at ad;cases ad;injection ad with ad;exact absurd ad (by decide);injection ad with ad;exact absurd ad (by decide)
     |none=>
      rw[b]at a;simp only[je]at a;cases d:c.bn.findSome? hR with
      |some e=>rw[d]at a;simp only[ij]at a;subst a;obtain⟨x,_,ad⟩:=dX d;exact absurd rfl (aG6 ad)
      |none=>exact aFR (aG5 (fZ.1 d m k))
   ·exact absurd a (by decide)
  exact⟨by omega,λ c hc=>(key c hc).1,λ c hc=>(key c hc).2.1,λ c hc=>(key c hc).2.2.1,λ c hc=>(key c hc).2.2.2⟩
def eK{α:Type}(p:α->Bool):List α->Option Nat
 |[]=>none
 |x::r=>if p x then some 0 else(eK p r).map (·+1)
theorem M1{α:Type}{p:α->Bool}:∀ {l:List α}{i:Nat},eK p l=some i->∃x,l[i]? =some x/\p x=true/\∀j y,j<i->l[j]? =some y->p y=false
 |[],i,h=>by simp[eK]at h
 |x::r,i,h=>by
  simp only[eK]at h;split at h;rename_i a;injection h with h;subst h;exact⟨x,rfl,a,λ j y ax=>absurd ax (by omega)⟩
  ·rename_i a;cases b:eK p r with
   |none=>rw[b]at h;cases h
   |some k=>
    rw[b]at h;simp only[fs,aM]at h;subst h;obtain⟨y,d,J,e⟩:=M1 b;refine⟨y,by simpa using d,J,λ j z ax c=>?_⟩;cases j with
    |zero=>simp only[de,aM]at c;subst c;simpa using a
    |succ j=>exact e j z (by omega) (by simpa using c)
theorem aau{α:Type}{p:α->Bool}:∀ {l:List α},eK p l=none->∀x∈l,p x=false
 |[],_,x,ad=>by cases ad
 |y::r,h,x,ad=>by
  simp only[eK]at h;split at h;cases h
  ·rename_i a;have b:eK p r=none:=by simpa using h
   rcases cG.1 ad with rfl |e;simpa using a;exact aau b x e
theorem aHF{α:Type}{p:α->Bool}{l:List α}{i:Nat}{x:α}(hi:l[i]? =some x)(a:p x=true)(ag:∀j y,j<i->l[j]? =some y->p y=false):eK p l=some i:=by
 cases h:eK p l with
 |none=>have:=aau h x (b_ hi);rw[a]at this;cases this
 |some j=>obtain⟨y,b,J,c⟩:=M1 h;rcases Nat.lt_trichotomy i j with e |e |e;have:=c i x e hi;rw[a]at this;cases this;rw[e];have:=ag j y e b;rw[J]at this;cases this
theorem aat{α:Type}{p:α->Bool}{l:List α}{i:Nat}(h:eK p l=some i):i<l.length:=by obtain⟨x,a,_⟩:=M1 h;exact(ba.1 a).1
theorem Wa{α ρ:Type}{l:List α}{L:Nat->Int->Option (Way ρ Unit)}(p:α->Bool)(f:Nat->ρ)(a:l.length<=140737488355328)
 (aj:∀k (i:Nat) x,l[i]? =some x->L (k+1) (i:Int)=cond (p x) (some (.out (f i))) (L k (ap ((i:Int)+1))))
 (b:∀k,L (k+1) (l.length:Int)=some (.go ())){F:Nat}(c:l.length<F):L F 0=some (cz ((eK p l).map f)):=by
 have key:∀(d i k:Nat),i+d=l.length->d<k->L k (i:Int)=some (cz ((eK p (l.drop i)).map λ j=>f (i+j))):=by
  intro d;induction d with
  |zero=>
   intro i k h e;obtain⟨k,rfl⟩:∃k',k=k'+1:=⟨k-1,by omega⟩
   have hi:i=l.length:=by omega
   subst hi;rw[b];simp[cz,eK]
  |succ d g=>
   intro i k h e;obtain⟨k,rfl⟩:∃k',k=k'+1:=⟨k-1,by omega⟩
   have hi:i<l.length:=by omega
   rw[aj k i l[i] (aR hi),cw hi,eK];cases m:p l[i]with
   |true=>simp[cz]
   |false=>simp only[lK,gT,if_false];rw[eE hi a,g (i+1) k (by omega) (by omega)];congr 2;rw[Option.map_map];congr 1;funext j;simp only[Function.comp];congr 1;omega
 have:=key l.length 0 F (by omega) c
 simpa using this
def gU(nm:List UInt8)(c:al):Bool:=decide (c.Name=nm)
def cY(l:List al)(nm:List UInt8):Int:=((eK (gU nm) l).map λ n:Nat=>(n:Int)).getD (-1)
theorem AN{F:Nat}{l:List al}(h:Small F l.length)(nm:List UInt8):qH F l nm=some (cY l nm):=by unfold qH cY;have l1:D1 l nm F 0=some (cz ((eK (gU nm) l).map λ n:Nat=>(n:Int))):=Wa (gU nm) _ h.1 (λ k i x ad=>by rw[D1,bH (ba.1 ad).1,lA,br ad,ae];rfl) (λ k=>by rw[D1,bG];rfl) h.2;rw[l1,lg];cases eK (gU nm) l<;>rfl
theorem Vf{l:List al}{nm:List UInt8}:cY l nm<l.length:=by
 unfold cY;cases h:eK (gU nm) l with
 |none=>simp only[iE,je];omega
 |some i=>have:=aat h;simp only[fs,ij];omega
theorem awV{l:List al}{nm:List UInt8}:cY l nm<0↔eK (gU nm) l=none:=by
 unfold cY;cases h:eK (gU nm) l with
 |none=>simp
 |some i=>simp only[fs,ij];constructor<;>intro h<;>first |omega |cases h
theorem JC{α:Type}{l:List α}{i:Nat}{x:α}(h:l[i]? =some x):l.set i x=l:=by obtain⟨a,e⟩:=ba.1 h;rw[<-e,kW]
theorem Pm{α:Type}{b:Nat}{l:List α}(h:l.length*b<=140737488355328):(bE b ([]:List α) l).bind (λ l=>some l)=some l:=by unfold bE;rw[lz (by simpa using h)];simp
theorem aHn{F:Nat}{l:List al}(f:100<F)(h:Right l):Mz F l=some l:=by
 have c2:∀(fq:List Method),fq.length<=8 ->(∀m∈fq,m.cD.length<=4/\m.cL.length<=4)->wF F fq (fq.length:Int) 0=some fq:=by
  intro fq d a;refine Rc (n:=fq.length) (λ k i=>wF k fq (fq.length:Int) (i:Int)) fq (λ k i hi=>?_) (λ k=>?_) (F:=F) (by omega)
  ·obtain⟨x,ad⟩:∃x,fq[i]? =some x:=⟨fq[i],aR hi⟩
   have ag:=a x (b_ ad);show wF (k+1) fq (fq.length:Int) (i:Int)=_
   rw[wF,bH hi,lA,br ad,ae];unfold acq acp;rw[Pm (by omega),ae,Pm (by omega),ae,ae,ae];have e1:fq.set (i:Int).toNat (⟨x.Name,x.Static,x.cD,(⟨x.Returns.Kind,x.Returns.al⟩:Kind),x.iO,x.iL,x.Code,x.cL⟩:Method)=fq:=JC (i:=i) ad;simp only[e1,br ad,ae];rw[eE hi (by omega)]
  ·show wF (k+1) fq (fq.length:Int) (fq.length:Int)=_
   rw[wF,bG];rfl
 unfold Mz;have c1:uF F l F [] 0=some l:=by
  refine Rc (n:=l.length) (λ k i=>uF F l k (l.take i) (i:Int)) l (λ k i hi=>?_) (λ k=>?_) (F:=F) (by have:=h.len;omega)
  ·obtain⟨x,ad⟩:∃x,l[i]? =some x:=⟨l[i],aR hi⟩
   have b:=b_ ad;have g:=h.fields x b;have a:=h.methods x b;have c:=h.len;show uF F l (k+1) (l.take i) (i:Int)=_
   rw[uF,bH hi,lA,br ad,ae];unfold aco acr;rw[Pm (by omega),ae,Pm (by omega),ae,c2 x.bn a (h.method x b),ae];unfold bE;rw[lz (by simp only[fe,cT,gI];omega)];simp only[ae];rw[eE hi (by omega)];have e:l.take i++[(⟨x.Name,x.dg,x.Fields,x.bn⟩:al)]=l.take (i+1):=by rw[j8,ad];rfl
   rw[e]
  ·show uF F l (k+1) (l.take l.length) (l.length:Int)=_
   rw[uF,bG,iH];rfl
 rw[c1];rfl
def ft:Nat->List al->List (List UInt8×Int)
 |_,[]=>[]
 |k,c::r=>(c.Name,(k:Int))::ft (k+1) r
theorem I7(nm:List UInt8):∀(l:List al)(k:Nat),cB (ft k l) nm=(eK (gU nm) l).map λ n:Nat=>((n+k:Nat):Int)
 |[],k=>rfl
 |c::r,k=>by simp only[ft,cB,eK,gU];by_cases h:c.Name=nm;simp[h];simp only[h,if_false,decide_false,gT];rw[I7 nm r (k+1),Option.map_map];congr 1;funext j;simp only[Function.comp];congr 1;omega
theorem alu(c:al):∀(l:List al)(k:Nat),ft k (l++[c])=ft k l++[(c.Name,((k+l.length:Nat):Int))]
 |[],k=>by simp[ft]
 |d::r,k=>by simp only[hX,ft,cT];rw[alu c r (k+1)];congr 4;omega
theorem I2{cU β:Type} [DecidableEq cU]{k:cU}{v:β}:∀ {m:List (cU×β)},cB m k=none->gP m k v=m++[(k,v)]
 |[],_=>rfl
 |p::r,h=>by simp only[cB]at h;split at h;cases h;rename_i a;simp only[gP,ly a,hX];rw[I2 h]
def DH(l:List al):Prop:=∀(i j:Nat)(x y:al),l[i]? =some x->l[j]? =some y->x.Name=y.Name->i=j
theorem aHe{l:List al}(h:DH l){i:Nat}{x:al}(hi:l[i]? =some x):cY l x.Name=(i:Int):=by unfold cY;rw[aHF (i:=i) hi (by simp[gU]) (λ j y ax hy=>by simp only[gU,decide_eq_false_iff_not];intro e;have:=h j i y x hy hi e;omega)];rfl
theorem aGv{F:Nat}{l:List al}(P:100<F)(h:Right l) :
 (DH l/\rc ⟨l,[],[]⟩ F [] 0=some (.go (ft 0 l))/\xR F l F 0=some (.go ()))\/
 (¬DH l/\(∃m,rc ⟨l,[],[]⟩ F [] 0=some (.out (6,m)))/\xR F l F 0=some (.out 6)):=by
 have A:=h.len
 have B:xR F l F 0=some (cz ((dR l.length).findSome? λ i:Nat=>(l[i]?).bind λ x:al=>if cY l x.Name=(i:Int)then none else some 6)):=mg _ (by omega) (λ k i hi=>by
  obtain⟨x,ad⟩:∃x,l[i]? =some x:=⟨l[i],aR hi⟩
  rw[xR,bH hi,lA,br ad,ae,AN ⟨by omega,by omega⟩,ae,ad,ae];by_cases e:cY l x.Name=(i:Int)
  ·rw[lz e,lu e];rfl
  ·rw[ly e,lx e];rfl) (λ k=>by rw[xR,bG];rfl) (by omega)
 have key:∀(d i k:Nat),i+d=l.length->d<k->DH (l.take i) ->
  (DH l/\rc ⟨l,[],[]⟩ k (ft 0 (l.take i)) i=some (.go (ft 0 l)))\/(¬DH l/\∃m,rc ⟨l,[],[]⟩ k (ft 0 (l.take i)) i=some (.out (6,m))):=by
  intro d
  induction d with
  |zero=>
   intro i k hi I n;obtain⟨k,rfl⟩:∃k',k=k'+1:=⟨k-1,by omega⟩
   have e:i=l.length:=by omega
   subst e;rw[iH]at n⊢;left;refine⟨n,?_⟩;rw[rc,bG];rfl
  |succ d K=>
   intro i k hi I n;obtain⟨k,rfl⟩:∃k',k=k'+1:=⟨k-1,by omega⟩
   have o:i<l.length:=by omega
   obtain⟨x,ad⟩:∃x,l[i]? =some x:=⟨l[i],aR o⟩
   rw[rc,bH o,lA,br ad,ae,I7];cases p:eK (gU x.Name) (l.take i)with
   |some j=>
    right;obtain⟨y,c,J,_⟩:=M1 p;refine⟨λ g=>?_,_,rfl⟩;have L:j<i:=by have:=(ba.1 c).1;simp only[fe]at this;omega
    have hy:l[j]? =some y:=by rw[gK]at c;rw[lz L]at c;exact c
    have:=g j i y x hy ad (by simpa[gU]using J);omega
   |none=>
    simp only[iE,kH,lK];have r:cB (ft 0 (l.take i)) x.Name=none:=by rw[I7,p];rfl
    rw[I2 r,eE o (by omega)];have e1:l.take (i+1)=l.take i++[x]:=by rw[j8,ad];rfl
    have e2:ft 0 (l.take i)++[(x.Name,(i:Int))]=ft 0 (l.take (i+1)):=by rw[e1,alu];congr 4;simp only[fe];omega
    rw[e2];refine K (i+1) k (by omega) (by omega) ?_;intro a b u v f ag s;rw[gK]at f ag;split at f
    ·split at ag
     ·rename_i M Q;have t:=aau p;have C:∀(q:Nat)(z:al),q<i->l[q]? =some z->z.Name≠x.Name:=λ q z N O e=>by have:=t z (b_ (i:=q) (by rw[gK,lz N];exact O));simp[gU,e]at this
      by_cases w:a=i;by_cases D:b=i;omega;subst w;rw[ad]at f;injection f with f;subst f;exact absurd s.symm (C b v (by omega) ag);by_cases D:b=i;subst D;rw[ad]at ag;injection ag with ag;subst ag;exact absurd s (C a u (by omega) f);exact n a b u v (by rw[gK,lz (by omega)];exact f) (by rw[gK,lz (by omega)];exact ag) s
     ·cases ag
    ·cases f
 have E:=key l.length 0 F (by omega) (by omega) (λ i j x y hi=>by simp at hi)
 have b8:ft 0 (l.take 0)=[]:=by simp[ft]
 rw[b8]at E
 rcases E with⟨g,c⟩|⟨g,c⟩
 ·left;refine⟨g,c,?_⟩;rw[B]
  have:((dR l.length).findSome? λ i:Nat=>(l[i]?).bind λ x:al=>if cY l x.Name=(i:Int)then none else some (6 :Int))=none:=by
   rw[fZ];intro i hi;obtain⟨x,ad⟩:∃x,l[i]? =some x:=⟨l[i]'(by simpa using hi),aR _⟩
   rw[ad,ae,lz (aHe g ad)]
  rw[this];rfl
 ·right;refine⟨g,c,?_⟩;rw[B];cases G:((dR l.length).findSome? λ i:Nat=>(l[i]?).bind λ x:al=>if cY l x.Name=(i:Int)then none else some (6 :Int))with
  |some e=>
   obtain⟨i,_,hi⟩:=dX G;cases ad:l[i]? with
   |none=>rw[ad]at hi;cases hi
   |some x=>rw[ad,ae]at hi;split at hi;cases hi;injection hi with hi;subst hi;rfl
  |none=>
   exfalso
   apply g
   have H:∀(i:Nat)(x:al),l[i]? =some x->cY l x.Name=(i:Int):=by intro i x ad;have:=fZ.1 G i (by have:=(ba.1 ad).1;simpa using this);rw[ad,ae]at this;split at this;assumption;cases this
   intro i j x y ad hy e
   have c:=H i x ad
   have J:=H j y hy
   rw[e]at c
   omega
def GF{ρ σ:Type}(o:Option ρ)(a:σ):Way ρ σ:=match o with
 |some r=>.out r
 |none=>.go a
def aoJ{ρ σ:Type}(o:Option ρ)(y:Option (Way ρ σ)):Option (Way ρ σ):=match o with
 |some r=>some (.out r)
 |none=>y
theorem UW{ρ σ:Type}{n:Nat}(T:Nat->Nat->Option (Way ρ σ))(g:Nat->Option ρ)(fin:σ)(aj:∀k i,i<n->T (k+1) i=aoJ (g i) (T k (i+1)))(a:∀k,T (k+1) n=some (.go fin)){F:Nat}(b:n<F) :
 T F 0=some (GF ((dR n).findSome? g) fin):=by
 have key:∀(d i k:Nat),i+d=n->d<k->T k i=some (GF (((dR n).drop i).findSome? g) fin):=by
  intro d;induction d with
  |zero=>
   intro i k h c;obtain⟨k,rfl⟩:∃k',k=k'+1:=⟨k-1,by omega⟩
   have hi:i=n:=by omega
   subst hi;rw[a,iA (by simp)];rfl
  |succ d e=>
   intro i k h c;obtain⟨k,rfl⟩:∃k',k=k'+1:=⟨k-1,by omega⟩
   have hi:i<n:=by omega
   rw[aj k i hi,cw (by simpa using hi),ih];simp only[List.getElem_range];cases f:g i with
   |some r=>rfl
   |none=>simp only[aoJ];exact e (i+1) k (by omega) (by omega)
 have:=key n 0 F (by omega) b
 simpa using this
theorem PX{α β cp:Type}(g:α->Option β)(f:β->cp):∀l:List α,l.findSome? (λ c=>(g c).map f)=(l.findSome? g).map f
 |[]=>rfl
 |c::r=>by
  simp only[ih];cases g c with
  |some e=>rfl
  |none=>simp only[iE];exact PX g f r
def dx(l:List al):List Int:=l.map λ c=>cY l c.dg
theorem acy{l:List al}{i:Nat}{x:al}(h:l[i]? =some x):(dx l)[i]? =some (cY l x.dg):=by simp[dx,h]
def w9(c:al):Option Int:=if(decide (c.Name=[79,98,106,101,99,116]))==(decide (c.dg=[]))then none else some 4
def sG(l:List al)(c:al):Option Int:=if c.dg=[]\/0<=cY l c.dg then none else some 5
section
variable{F:Nat}{l:List al}
theorem aLp(a:100<F)(h:Right l):DS l F 0=some (cz (l.findSome? w9)):=each w9 (by have:=h.len;omega) (λ k i x ad=>by rw[DS,bH (ba.1 ad).1,lA,br ad,ae,ae];unfold w9;cases(decide (x.Name=[79,98,106,101,99,116]))==(decide (x.dg=[]))<;>rfl) (λ k=>by rw[DS,bG];rfl) (by have:=h.len;omega)
theorem aLo(a:100<F)(h:Right l)(m:List (List UInt8×Int))(s:List Int):zm ⟨l,m,s⟩ F 0=some (cz ((l.findSome? w9).map λ e=>(e,(⟨l,m,s⟩:bt)))):=by
 have:=each (l:=l) (L:=zm ⟨l,m,s⟩) (λ c=>(w9 c).map λ e=>(e,(⟨l,m,s⟩:bt))) (by have:=h.len;omega) (λ k i x ad=>by
  rw[zm];show cond (decide ((i:Int)<(l.length:Int))) ((idx l (i:Int)).bind _) _=_
  rw[bH (ba.1 ad).1,lA,br ad,ae];unfold w9;cases(decide (x.Name=[79,98,106,101,99,116]))==(decide (x.dg=[]))<;>rfl) (λ k=>by
   rw[zm];show cond (decide ((l.length:Int)<(l.length:Int))) _ _=_
   rw[bG];rfl) (F:=F) (by have:=h.len;omega)
 rw[this,PX]
theorem aF2(b:100<F)(h:Right l):AK F l F 0=some (cz (l.findSome? (sG l))):=each (sG l) (by have:=h.len;omega) (λ k i x ad=>by
 have a:=h.len;rw[AK,bH (ba.1 ad).1,lA,br ad,ae,ae,AN ⟨by omega,by omega⟩,ae];unfold sG;by_cases aj:x.dg=[]
 ·rw[lz (.inl aj),lu aj];rfl
 ·rw[lx aj];by_cases hc:0<=cY l x.dg;rw[lz (.inr hc),lx (show¬cY l x.dg<0 by omega)];rfl
  ·rw[ly (by simp[aj,hc]),lu (show cY l x.dg<0 by omega)];rfl) (λ k=>by rw[AK,bG];rfl) (by have:=h.len;omega)
theorem awW(h:Right l):cY l []= -1:=by
 unfold cY;cases a:eK (gU []) l with
 |none=>rfl
 |some i=>obtain⟨x,b,J,_⟩:=M1 a;have:=aDv (h.name x (b_ b));simp[gU]at J;exact absurd J this
theorem aF1(s:100<F)(h:Right l):∃o:Option (Int×bt),o.map (·.1)=l.findSome? (sG l)/\o6 ⟨l,ft 0 l,[]⟩ F [] 0=some (GF o (dx l)):=by
 have c:=h.len;refine⟨(dR l.length).findSome? λ i=>((l[i]?).bind (sG l)).map λ e=>(e,(⟨l,ft 0 l,(dx l).take i⟩:bt)),?_,?_⟩
 ·have e1:∀(n:Nat),n<=l.length->((List.range' (l.length-n) n).findSome? λ i=>((l[i]?).bind (sG l)).map λ e=>(e,(⟨l,ft 0 l,(dx l).take i⟩:bt))).map (·.1)=(l.drop (l.length-n)).findSome? (sG l):=by
   intro n;induction n with
   |zero=>intro _;simp
   |succ n f=>
    intro d;have hi:l.length- (n+1)<l.length:=by omega
    rw[List.range'_succ,ih,cw hi,ih,aR hi,ae];cases sG l l[l.length- (n+1)]with
    |some e=>rfl
    |none=>simp only[iE];rw[show l.length- (n+1)+1=l.length-n by omega];exact f (by omega)
  have:=e1 l.length (cP _);simpa[List.range_eq_range']using this
 ·refine UW (n:=l.length) (λ k i=>o6 ⟨l,ft 0 l,[]⟩ k ((dx l).take i) (i:Int)) _ (dx l) (λ k i hi=>?_) (λ k=>?_) (F:=F) (by omega)
  ·obtain⟨x,ad⟩:∃x,l[i]? =some x:=⟨l[i],aR hi⟩
   show o6 ⟨l,ft 0 l,[]⟩ (k+1) ((dx l).take i) (i:Int)=_
   rw[o6];show cond (decide ((i:Int)<(l.length:Int))) (di (α:=List Int) ((idx l (i:Int)).bind _) _) _=_
   rw[bH hi,lA,br ad,ae,ad,ae];have a:cB (ft 0 l) x.dg=(eK (gU x.dg) l).map λ n:Nat=>((n+0 :Nat):Int):=I7 x.dg l 0;have e3:(dx l).take (i+1)=(dx l).take i++[cY l x.dg]:=by rw[j8,acy ad];rfl
   have g:bE 8 ((dx l).take i) [cY l x.dg]=some ((dx l).take (i+1)):=by unfold bE;rw[lz (by simp only[fe,cT,gI];omega),e3]
   have fin:∀n:Int,n=cY l x.dg->di (α:=List Int) (di (α:=Int) (ρ:=Int×bt) (some (.go n)) λ(m:Int)=>(bE 8 ((dx l).take i) [m]).bind λ p=>some (.go p)) (λ(q:List Int)=>o6 ⟨l,ft 0 l,[]⟩ k q (ap ((i:Int)+1)))=o6 ⟨l,ft 0 l,[]⟩ k ((dx l).take (i+1)) ((i+1 :Nat):Int):=by intro n d;subst d;rw[qn,g,ae,qn,eE hi (by omega)]
   unfold sG;by_cases aj:x.dg=[]
   ·rw[lz (.inl aj),lu aj,lA];exact fin (-1) (by rw[aj,awW h])
   ·rw[lx aj,lK];cases b:eK (gU x.dg) l with
    |none=>have t:cY l x.dg<0:=awV.2 b;rw[ly (by simp[aj];omega),a,b];rfl
    |some j=>
     have r:cY l x.dg=(j:Int):=by unfold cY;rw[b];rfl
     rw[lz (.inr (by omega)),a,b];exact fin _ (by rw[r];simp)
  ·show o6 ⟨l,ft 0 l,[]⟩ (k+1) ((dx l).take l.length) (l.length:Int)=_
   rw[o6];show cond (decide ((l.length:Int)<(l.length:Int))) _ _=_
   rw[bG,lK,hp (by simp[dx])]
def dF(S:List Int):Nat->Int->Option (List Int)
 |0,n=>if n<0 then some []else none
 |k+1,n=>if n<0 then some []else(idx S n).bind λ m=>(dF S k m).map (n:: ·)
theorem aop{S:List Int}:∀ {k:Nat}{n:Int}{c:List Int},dF S k n=some c->dF S (k+1) n=some c
 |0,n,c,h=>by simp only[dF]at h⊢;split at h;rename_i a;rw[lz a];exact h;cases h
 |k+1,n,c,h=>by
  rw[dF]at h⊢;split at h;rename_i a;rw[lz a];exact h
  ·rename_i a;rw[ly a];cases hi:idx S n with
   |none=>rw[hi]at h;cases h
   |some m=>
    rw[hi,ae]at h;rw[ae];cases b:dF S k m with
    |none=>rw[b]at h;cases h
    |some d=>rw[b]at h;rw[aop b];exact h
theorem S9{S:List Int}{k k':Nat}{n:Int}{c:List Int}(h:dF S k n=some c)(a:k<=k'):dF S k' n=some c:=by
 obtain⟨d,rfl⟩:∃d,k'=k+d:=⟨k'-k,by omega⟩
 clear a;induction d with
 |zero=>exact h
 |succ d b=>exact aop b
theorem aLI{S:List Int}{k k':Nat}{n:Int}{c a:List Int}(h:dF S k n=some c)(h':dF S k' n=some a):c=a:=by have b:=S9 h (Nat.le_max_left k k');have J:=S9 h' (Nat.le_max_right k k');rw[b]at J;exact ee J
theorem aoo{S:List Int}:∀ {k:Nat}{n:Int}{c:List Int},dF S k n=some c->c.length<=k/\dF S c.length n=some c
 |0,n,c,h=>by simp only[dF]at h;split at h;rename_i a;injection h with h;subst h;simp[dF,a];cases h
 |k+1,n,c,h=>by
  have e:=h;rw[dF]at h;split at h;rename_i a;injection h with h;subst h;simp[dF,a]
  ·rename_i a;cases hi:idx S n with
   |none=>rw[hi]at h;cases h
   |some m=>
    rw[hi,ae]at h;cases b:dF S k m with
    |none=>rw[b]at h;cases h
    |some f=>rw[b]at h;simp only[fs,aM]at h;subst h;obtain⟨d,J⟩:=aoo b;refine⟨by simpa using d,?_⟩;rw[cT,dF,ly a,hi,ae,J];rfl
theorem S_{S:List Int}:∀ {k:Nat}{n:Int}{c:List Int},dF S k n=some c->∀x∈c,(0<=x/\x<S.length)/\∃k' a,dF S k' x=some a/\a.length<=c.length/\a≠[]
 |0,n,c,h,x,ad=>by simp only[dF]at h;split at h;injection h with h;subst h;cases ad;cases h
 |k+1,n,c,h,x,ad=>by
  have d:=h;rw[dF]at h;split at h;injection h with h;subst h;cases ad
  ·rename_i i;cases hi:idx S n with
   |none=>rw[hi]at h;cases h
   |some m=>
    rw[hi,ae]at h;cases b:dF S k m with
    |none=>rw[b]at h;cases h
    |some a=>rw[b]at h;simp only[fs,aM]at h;subst h;obtain⟨j,o,_⟩:=np hi;rcases cG.1 ad with rfl |e;exact⟨⟨by omega,by omega⟩,k+1,_,d,cP _,by simp⟩;obtain⟨f,k',c2,J,p,g⟩:=S_ b x e;exact⟨f,k',c2,J,by simp only[cT];omega,g⟩
theorem aon{S:List Int}:∀ {k:Nat}{n:Int}{c:List Int},dF S k n=some c->c.Nodup
 |0,n,c,h=>by simp only[dF]at h;split at h;injection h with h;subst h;simp;cases h
 |k+1,n,c,h=>by
  have b:=h;rw[dF]at h;split at h;injection h with h;subst h;simp
  ·cases hi:idx S n with
   |none=>rw[hi]at h;cases h
   |some m=>
    rw[hi,ae]at h;cases a:dF S k m with
    |none=>rw[a]at h;cases h
    |some f=>rw[a]at h;simp only[fs,aM]at h;subst h;refine hJ.2 ⟨λ d=>?_,aon a⟩;obtain⟨_,k',c2,J,e,_⟩:=S_ a n d;have:=aLI b J;subst this;simp only[cT]at e;omega
theorem aas:∀(n:Nat)(c:List Nat),c.Nodup->(∀x∈c,x<n)->c.length<=n
 |0,c,_,h=>by
  cases c with
  |nil=>simp
  |cons x r=>exact absurd (h x (by simp)) (by omega)
 |n+1,c,aK,h=>by
  by_cases a:n∈c
  ·have b:=aas n (c.erase n) (aK.erase n) (λ x ad=>by
    have J:=(aK.mem_erase_iff).1 ad;have:=h x J.2;omega)
   rw[kI a]at b;omega
  ·have:=aas n c aK (λ x ad=>by
    have b:=h x ad;have:x≠n:=λ e=>a (e▸ad);omega)
   omega
theorem aom{S:List Int}{k:Nat}{n:Int}{c:List Int}(h:dF S k n=some c):c.length<=S.length:=by
 have d:=S_ h;have aK:=aon h;have:=aas S.length (c.map Int.toNat) (by
  rw[List.Nodup,List.pairwise_map];refine ke ?_ aK;intro a b f ag g e;have i:=(d a f).1;have J:=(d b ag).1;exact g (by omega)) (λ x ad=>by
  obtain⟨y,hy,rfl⟩:=ho.1 ad;have i:=(d y hy).1;omega)
 simpa using this
theorem aLH{S:List Int}{k:Nat}{n:Int}(a:S.length<=k):dF S k n=dF S S.length n:=by
 cases h:dF S k n with
 |some c=>obtain⟨_,J⟩:=aoo h;exact(S9 J (aom h)).symm
 |none=>
  cases h':dF S S.length n with
  |none=>rfl
  |some c=>rw[S9 h' a]at h;cases h
theorem awQ{m:List (List UInt8×Int)}{S:List Int}{k:Nat}{n:Int}{c:List Int}(h:dF S k n=some c)(hc:c.length<=1000)(j:1001<F):uz F ⟨l,m,S⟩ n=some c:=by
 have key:∀(k:Nat)(n:Int)(c acc:List Int)(f:Nat),dF S k n=some c->c.length<f->acc.length+c.length<=1000 ->uA ⟨l,m,S⟩ f acc n=some (acc++c):=by
  intro k;induction k with
  |zero=>
   intro n c acc f h d _;obtain⟨f,rfl⟩:∃a,f=a+1:=⟨f-1,by omega⟩
   simp only[dF]at h;split at h;injection h with h;subst h;rw[uA,lx (by omega)];simp;cases h
  |succ k e=>
   intro n c acc f h d g;obtain⟨f,rfl⟩:∃a,f=a+1:=⟨f-1,by omega⟩
   rw[dF]at h;split at h;injection h with h;subst h;rw[uA,lx (by omega)];simp
   ·rename_i o;cases hi:idx S n with
    |none=>rw[hi]at h;cases h
    |some x=>
     rw[hi,ae]at h;cases b:dF S k x with
     |none=>rw[b]at h;cases h
     |some i=>
      rw[b]at h;simp only[fs,aM]at h;subst h;simp only[cT]at d g;rw[uA,lu (by omega),lA];unfold bE;rw[lz (by simp only[cT,gI];omega)];show((some (acc++[n])).bind λ p=>(idx S n).bind λ q=>_)=_
      rw[ae,hi,ae,e x i (acc++[n]) f b (by omega) (by simp only[dj,cT,gI];omega)];simp
 unfold uz;rw[key k n c [] F h (by omega) (by simp;omega)];rfl
end
section
variable{F:Nat}{l:List al}
theorem JF:(dx l).length=l.length:=by simp[dx]
theorem zS{n:Int}(a:0<=n)(b:n<l.length):∃x,idx l n=some x/\idx (dx l) n=some (cY l x.dg):=by
 obtain⟨x,ad⟩:∃x,l[n.toNat]? =some x:=⟨l[n.toNat]'(by omega),aR _⟩
 refine⟨x,?_,?_⟩;unfold idx;rw[lz a,ad];unfold idx;rw[lz a,acy ad]
def acO(o:Option (List Int))(acc:List Int):Way (List Int) (List Int):=match o with
 |some c=>.go (c.reverse++acc)
 |none=>.out []
def dH(l:List al)(n:Int):List Int:=(dF (dx l) l.length n).getD []
theorem S8(r:1100<F)(h:Right l){n:Int}(i:n<l.length):AV F l n=some (dH l n).reverse:=by
 have e:=h.len;have key:∀(d:Nat)(acc:List Int)(n:Int)(f:Nat),acc.length+d=l.length+1 ->d+1<f->n<l.length->Ex F l f n acc=some (acO (dF (dx l) d n) acc):=by
  intro d;induction d with
  |zero=>
   intro acc n f j m g;obtain⟨f,rfl⟩:∃b,f=b+1:=⟨f-1,by omega⟩
   rw[Ex,dF];by_cases a:n<0;rw[lz a,lx (by omega)];rfl;rw[ly a,lu (by omega),lA,lu (by omega)];rfl
  |succ d o=>
   intro acc n f j m g;obtain⟨f,rfl⟩:∃b,f=b+1:=⟨f-1,by omega⟩
   rw[Ex,dF];by_cases a:n<0;rw[lz a,lx (by omega)];rfl
   ·obtain⟨x,ad,aj⟩:=zS (l:=l) (n:=n) (by omega) g;rw[ly a,lu (by omega),lA,lx (by omega),lK];unfold bE;rw[lz (by simp only[cT,gI];omega)];show((some ([n]++acc)).bind λ p=>(idx l n).bind λ q=>_)=_
    rw[ae,ad,ae,AN ⟨by omega,by omega⟩,ae,aj,ae,o ([n]++acc) _ f (by simp only[dj,cT,gI];omega) (by omega) Vf];cases dF (dx l) d (cY l x.dg)with
    |none=>rfl
    |some c=>simp[acO]
 unfold AV;rw[key (l.length+1) [] n F (by simp) (by omega) i,aLH (k:=l.length+1) (by rw[JF];omega),JF];unfold dH;cases dF (dx l) l.length n with
 |none=>rfl
 |some c=>simp[acO,cn]
def ya(l:List al)(i:Nat):Option Int:=if(dF (dx l) l.length (i:Int)).isSome then none else some 4
theorem acN{S:List Int}{k:Nat}{n:Int}{c:List Int}(h:dF S k n=some c)(d:0<=n):∃r,c=n::r:=by
 cases k with
 |zero=>simp only[dF]at h;rw[ly (by omega)]at h;cases h
 |succ k=>
  rw[dF,ly (by omega)]at h;cases hi:idx S n with
  |none=>rw[hi]at h;cases h
  |some m=>
   rw[hi,ae]at h;cases a:dF S k m with
   |none=>rw[a]at h;cases h
   |some b=>rw[a]at h;simp only[fs,aM]at h;exact⟨b,h.symm⟩
theorem axr(a:1100<F)(h:Right l):DT F l F 0=some (cz ((dR l.length).findSome? (ya l))):=mg _ (by have:=h.len;omega) (λ k i hi=>by
 rw[DT,bH hi,lA,S8 a h (by omega),ae];unfold ya dH;cases b:dF (dx l) l.length (i:Int)with
 |none=>rfl
 |some c=>obtain⟨r,rfl⟩:=acN b (by omega);rw[lx (by simp;omega)];rfl) (λ k=>by rw[DT,bG];rfl) (by have:=h.len;omega)
theorem agl(h:Right l)(m:List (List UInt8×Int))(s:List Int):∀(d i f:Nat)(n:Int),i+d=l.length->d<f->0<=n->n<l.length->∃r,wD ⟨l,m,s⟩ (dx l) f n i=some r/\(r<0↔(dF (dx l) d n).isSome=true)
 |0,i,f,n,hi,j,c,e=>by
  obtain⟨f,rfl⟩:∃b,f=b+1:=⟨f-1,by omega⟩
  have:i=l.length:=by omega
  subst this;refine⟨n,?_,?_⟩
  ·rw[wD];show cond (decide ((l.length:Int)<(l.length:Int))) _ _=_
   rw[bG];rfl
  ·rw[dF,ly (by omega)];simp;omega
 |d+1,i,f,n,hi,j,c,e=>by
  obtain⟨f,rfl⟩:∃b,f=b+1:=⟨f-1,by omega⟩
  obtain⟨x,ad,aj⟩:=zS (l:=l) (n:=n) c e;have g:=h.len;rw[wD];have hc:decide ((i:Int)<((⟨l,m,s⟩:bt).l.length:Int))=true:=bH (n:=l.length) (by omega);rw[hc,lA,aj,ae,dF,ly (by omega),aj,ae];by_cases a:cY l x.dg<0
  ·rw[lu a,lA];refine⟨_,rfl,?_⟩;have:dF (dx l) d (cY l x.dg)=some []:=by cases d<;>simp[dF,a]
   rw[this];simp[a]
  ·rw[lx a,lK,eE (n:=l.length) (by omega) (by omega)];obtain⟨r,k,J⟩:=agl h m s d (i+1) f (cY l x.dg) (by omega) (by omega) (by omega) Vf;refine⟨r,k,J.trans ?_⟩;simp
theorem axq(d:1100<F)(h:Right l)(m:List (List UInt8×Int))(s:List Int):uy F ⟨l,m,s⟩ (dx l) F 0=some (cz (((dR l.length).findSome? (ya l)).map λ e=>(e,(⟨l,m,dx l⟩:bt)))):=by
 have a:=h.len;have:=mg (n:=l.length) (L:=uy F ⟨l,m,s⟩ (dx l)) (λ i=>(ya l i).map λ e=>(e,(⟨l,m,dx l⟩:bt))) (by omega) (λ k i hi=>by
  rw[uy];have hc:decide ((i:Int)<((⟨l,m,s⟩:bt).l.length:Int))=true:=bH (n:=l.length) hi;obtain⟨r,c,J⟩:=agl h m s l.length 0 F (i:Int) (by omega) (by omega) (by omega) (by omega);rw[hc,lA,show(0 :Int)=((0 :Nat):Int) from rfl,c];simp only[ae];unfold ya;cases b:(dF (dx l) l.length (i:Int)).isSome with
  |true=>rw[lz rfl,lx (show¬((0 :Nat):Int)<=r from λ au=>by have:=J.2 b;omega)];rfl
  |false=>rw[ly (by simp),lu (show((0 :Nat):Int)<=r from by
   rcases Int.lt_or_le r 0 with au |au;have:=J.1 au;rw[b]at this;cases this
   ·exact au)];rfl) (λ k=>by
    rw[uy];show cond (decide ((l.length:Int)<(l.length:Int))) _ _=_
    rw[bG];rfl) (F:=F) (by omega)
 rw[this,PX]
structure jc (l:List al):Prop where
 right:Right l
 aQM:DH l
 aQK:∀c∈l,c.dg=[]\/0<=cY l c.dg
 up:∀i,i<l.length->∃c,dF (dx l) l.length (i:Int)=some c
 top:∀c∈l,w9 c=none
 obj:0<=cY l [79,98,106,101,99,116]
theorem jc.chain(h:jc l){n:Int}(a:0<=n)(b:n<l.length):dF (dx l) l.length n=some (dH l n)/\(dH l n).length<=10/\(∀x∈dH l n,0<=x/\x<l.length):=by
 obtain⟨c,hc⟩:=h.up n.toNat (by omega);rw[show((n.toNat:Nat):Int)=n by omega]at hc;have e:dH l n=c:=by unfold dH;rw[hc];rfl
 rw[e];refine⟨hc,?_,λ x ad=>?_⟩;have:=aom hc;rw[JF]at this;have:=h.right.len;omega;have:=(S_ hc x ad).1;rw[JF]at this;exact this
theorem jc.Zv(h:jc l)(c:1100<F)(m:List (List UInt8×Int)){n:Int}(a:0<=n)(b:n<l.length):uz F ⟨l,m,dx l⟩ n=some (dH l n):=by obtain⟨hc,d,_⟩:=h.chain a b;exact awQ (l:=l) hc (by omega) (by omega)
def pU(l:List al)(i:Int):List Field:=((idx l i).map (·.Fields)).getD []
def gi(l:List al)(n:Int):List Field:=(dH l n).reverse.flatMap (pU l)
theorem Wc(h:Right l)(i:Int):(pU l i).length<=6:=by
 unfold pU;cases ad:idx l i with
 |none=>simp
 |some x=>obtain⟨_,_,J⟩:=np ad;exact h.fields x (b_ J)
theorem Wd(h:Right l):∀r:List Int,(r.flatMap (pU l)).length<=6*r.length
 |[]=>by simp
 |x::r=>by have a:=Wc h x;have J:=Wd h r;simp only[hz,dj,cT];omega
theorem ahT(h:Right l)(m:List (List UInt8×Int))(s:List Int):∀(rem:List Int)(acc:List Field),(∀x∈rem,0<=x/\x<l.length)->acc.length+6*rem.length<=1000 ->B2 ⟨l,m,s⟩ rem acc=some (acc++rem.flatMap (pU l))
 |[],acc,_,_=>by simp[B2]
 |x::rem,acc,ad,b=>by
  obtain⟨c,hc,_⟩:=zS (l:=l) (ad x (by simp)).1 (ad x (by simp)).2;have a:pU l x=c.Fields:=by unfold pU;rw[hc];rfl
  have d:=Wc h x;rw[a]at d;simp only[cT]at b;rw[B2];show((idx l x).bind λ Dn=>_)=_
  rw[hc,ae];unfold bE;rw[lz (by omega),ae,ahT h m s rem _ (λ y hy=>ad y (by simp[hy])) (by simp only[dj];omega),hz,a];simp
theorem jc.Zw(h:jc l)(c:1100<F)(m:List (List UInt8×Int)){n:Int}(a:0<=n)(b:n<l.length):wE F ⟨l,m,dx l⟩ n=some (gi l n):=by obtain⟨_,e,d⟩:=h.chain a b;unfold wE;have:=h.Zv c m a b;simp only at this⊢;rw[this,ae];unfold Nw;rw[ae,ahT h.right m (dx l) _ [] (λ x ad=>d x (by simpa using ad)) (by simp;omega)];simp[gi]
theorem jc.abV(h:jc l)(d:1100<F){n:Int}(e:0<=n)(a:n<l.length):DI F l n=some (gi l n):=by
 obtain⟨_,j,f⟩:=h.chain e a;unfold DI;rw[S8 d h.right a,ae];have:vF l (dH l n).reverse F [] 0=some (gi l n):=by
  refine Rc (n:=(dH l n).reverse.length) (λ k i=>vF l (dH l n).reverse k (((dH l n).reverse.take i).flatMap (pU l)) (i:Int)) (gi l n) (λ k i hi=>?_) (λ k=>?_) (F:=F) (by simp;omega)
  ·obtain⟨x,ad⟩:∃x,(dH l n).reverse[i]? =some x:=⟨(dH l n).reverse[i],aR hi⟩
   have ag:=f x (by simpa using b_ ad);obtain⟨c,hc,_⟩:=zS (l:=l) ag.1 ag.2;have b:pU l x=c.Fields:=by unfold pU;rw[hc];rfl
   have J:=Wc h.right x;rw[b]at J;have g:=Wd h.right ((dH l n).reverse.take i);simp only[fe,kh]at g hi;show vF l (dH l n).reverse (k+1) (((dH l n).reverse.take i).flatMap (pU l)) (i:Int)=_
   rw[vF,bH (by simpa using hi),lA,br ad,ae,hc,ae];unfold bE;rw[lz (by omega),ae,eE (n:=(dH l n).length) hi (by omega),j8,ad,List.flatMap_append];simp[b]
  ·show vF l (dH l n).reverse (k+1) (((dH l n).reverse.take (dH l n).reverse.length).flatMap (pU l)) ((dH l n).reverse.length:Int)=_
   rw[vF,bG,iH];rfl
 rw[this];rfl
end
end I
