/- Part 3 of the proof that is ended in the last text: small logic, what the functions compute, walks, plain laws. -/
import Derived.Test.YteeliipnilghaaaGreatGs2
open Array renaming getD_eq_getD_getElem?->eh,getElem?_eq_getElem->iU,getElem?_eq_none->hG,getElem?_eq_some_iff->fH,getElem?_setIfInBounds->ff,getElem?_toList->ha,setIfInBounds_comm->i_
open Bool renaming and_eq_true->ca,eq_false_iff->fX,false_eq_true->gT,not_eq_true'->gG,or_eq_false_iff->hY,or_eq_true->hA
open List renaming all_eq_true->jM,any_eq_true->h6,append_nil->gH,cons.injEq->hq,getElem?_append_left->dS,getElem?_append_right->eA,getElem?_cons_zero->de,getElem?_drop->ia,getElem?_eq_getElem->aR,getElem?_eq_none->fk,getElem?_eq_some_iff->ba,getElem?_map->iY,getElem?_set_ne->iQ,getElem?_set_self->fE,getElem?_take->gK,length_cons->cT,length_set->gu,length_take->fe,map_cons->ea,map_nil->hP,mem_append->cg,mem_cons->cG,mem_cons_of_mem->eD,mem_filter->iF,mem_iff_getElem->il,mem_of_getElem?->b_,mem_singleton->dm,nodup_cons->hJ,not_mem_nil->hI,pairwise_iff_getElem->iq
open Nat renaming beq->cx,ble->iI,blt->eN,decEq->kr,eq_of_beq_eq_true->bF,le_of_ble_eq_true->cJ,le_refl->cP,le_trans->fR,lt_of_lt_of_le->ez,lt_or_ge->fO,lt_succ_self->ks,min_eq_left->kF,zero_add->ji,zero_le->fY
open Option renaming bind_some->ae,getD_some->ij,map_eq_some_iff->cF,some.inj->ee,some.injEq->aM
open Prod renaming mk.injEq->cI
noncomputable section
namespace a7
open Go Go.RowKit aw I
inductive aeR (El:Nat->Type):Type
 |ret (y:aL El)
 |CC (y:aL El)
structure fS (El:Nat->Type) where
 e:aeR El
 bl:List (aG El)
 ws:List Nat
abbrev fP(E:Env):=Nat->List (aL E.T.El)->List (aG E.T.El)->D (fS E.T.El)
structure fg (El:Nat->Type) where
 f:cA El
 bl:List (aG El)
 ws:List Nat
inductive O0 (El:Nat->Type):Type
 |nm
 |ex (id:Nat)
 |rt
 |iX (y:aL El)
structure b9 (El:Nat->Type) where
 x:O0 El
 s:fg El
def h3{El:Nat->Type}(bl:List (aG El))(ρ:List Value)(w w':World)(ws:List Nat):Prop:=∀k,k<w.heap.size->(∀i∈ws,∀B h,bl[i]? =some B->ρ[i]? =some h->k∉bD B h)->w'.heap[k]? =w.heap[k]?
section
variable{T:bQ}{X:Nat->Prop}{bl bl' x5:List (aG T.El)}{ρ ρ' Kg:List Value}{w w' w'':World}{s s':List Nat}
theorem h3.nil:h3 bl ρ w w []:=λ _ _ _=>rfl
theorem h3.bE(h:h3 bl ρ w w' s)(b:To X bl bl' ρ ρ' w w')(k:h3 bl' ρ' w' w'' s'):h3 bl ρ w w'' (s'++s):=λ q a c=>(k q (ez a b.sz) λ i hi B h ag d e=>by obtain⟨j9,f,e1,e2,e3⟩:=b.pY i B h ag d q e a;exact c i (cg.2 (.inl hi)) j9 f e1 e2 e3).trans (h q a λ i hi=>c i (cg.2 (.inr hi)))
theorem h3.same(h:h3 bl ρ w w' s)(e:∀q:Nat,w''.heap[q]? =w'.heap[q]?):h3 bl ρ w w'' s:=λ q a b=>(e q).trans (h q a b)
end
def AZ(E:Env)(X:Nat->Prop)(bl:List (aG E.T.El))(ρ:List Value)(w:World):aeR E.T.El->Ending->Prop
 | .ret y,.returned v=>av E.T (bi X bl ρ w) w ρ bl y v
 | .CC y,.panicked c=>∃v,c=[{ v,recovered:=false }]/\av E.T (bi X bl ρ w) w ρ bl y v
 |_,_=>False
def Km(E:Env)(X:Nat->Prop)(bl:List (aG E.T.El))(ρ:List Value)(w:World):Prop:=∀g y,cH E.cZ g=some y->av E.T (bi X bl ρ w) w ρ bl y (.pointer (some ⟨g,0,none⟩))
structure mP (E:Env) (bw:fP E):Prop where
 ok:∀f ys bl r,(bw f ys bl).out r->(∀args w,(callFunc f args).run E.P w= .ok (.enter f args) w)/\
  ∀(W:World)(M0:List Nat)(X:Nat->Prop)(ρ:List Value)(w:World)(vs:List Value),Mem E.T W M0 X bl ρ w->Km E X bl ρ w->aZ E.T (bi X bl ρ w) w ρ bl ys vs ->
   Calls E.P f ⟨vs⟩ w λ e w'=>∃ρ',Mem E.T W M0 X r.bl ρ' w'/\To X bl r.bl ρ ρ' w w'/\h3 bl ρ w w' r.ws/\AZ E X r.bl ρ' w' r.e e
structure r1 (El:Nat->Type) where
 f:cA El
 aK:Option (Option Nat)
def aaA(E:Env)(bl:List (aG E.T.El))(f:cA E.T.El)(d:Nat)(op:Op):D (r1 E.T.El):=(H6 E bl f [] op).bind λ y=>.ok ⟨f.put d y,sD E bl f [] op⟩
def R9(E:Env)(bl:List (aG E.T.El))(f:cA E.T.El)(d:Nat)(want c:Bool)(op:Op):D (r1 E.T.El):=match HK c want with
 |true=>aaA E bl f d op
 |false=>.ok ⟨f.put d (.p undef),none⟩
def cA.know{El:Nat->Type}(f:cA El)(j:Nat)(b:Bool):cA El:=⟨f.fr,f.gs,(j,b)::f.ew⟩
def anN(E:Env)(ops:Array Oper)(d:Nat):List Oper->Bool
 |[]=>false
 |o::r=>(match o.guard with
  |some (j,_)=>match Lg ops j,(match o.op with
   | .indexAddr _ _ _=>OU.e
   | .index _ _ _=>OU.e
   | .slice _ _ _ _ _=>OU.e
   |op=>Q0 E.P op)with
    |_,.q=>false
    |some d',_=>cx d' d
    |none,_=>false
  |none=>false)||anN E ops d r
def R_(E:Env)(ops:Array Oper)(n:Nat)(bl:List (aG E.T.El))(f:cA E.T.El)(o:Oper):D (r1 E.T.El):=match o.dst with
 |none=>.no
 |some d=>match eN d n with
  |false=>.no
  |true=>match P3 E ops f n o.guard with
   | .run=>aaA E bl f d o.op
   | .skip=>.ok ⟨f.put d (.p undef),none⟩
   | .maybe bC want b=>match H6 E bl f [(bC,want)] o.op,cx bC d||anN E ops d ops.toList with
     | .ok y,false=>.ok ⟨f.sN d bC want y,sD E bl f [(bC,want)] o.op⟩
     |_,_=>.r9 b (R9 E bl (f.know bC true) d want true o.op) (R9 E bl (f.know bC false) d want false o.op)
   | .cond bC want=>match H6 E bl f [(bC,want)] o.op,cx bC d with
     | .ok y,false=>.ok ⟨f.sN d bC want y,sD E bl f [(bC,want)] o.op⟩
     |_,_=>.no
   | .no=>.no
section
variable{E:Env}{W w w':World}{M0:List Nat}{X:Nat->Prop}{n:cE}{f:cA E.T.El}{bl:List (aG E.T.El)}{ρ:List Value}{a:Act}{ops:Array Oper}{o:Oper}
theorem R.sN{d j:Nat}{b:Bool}{y:aL E.T.El}{v:Value}(h:R E W M0 X n f bl ρ a w)(aK:eN d n.n=true)(c:cx j d=false)(e:a.tmps.getD j undef= .bool b->av E.T (bi X bl ρ w) w ρ bl y v):R E W M0 X n (f.sN d j b y) bl ρ (a.put (some d) v) w:=⟨h.mem,h.dZ.sN aK c e,h.cZ⟩
theorem R.know{j:Nat}{b:Bool}(h:R E W M0 X n f bl ρ a w)(ax:a.tmps.getD j undef= .bool b):R E W M0 X n (f.know j b) bl ρ a w:=⟨h.mem,⟨h.dZ.et,h.dZ.gs,λ p aC=>by
 rcases cG.1 aC with rfl |aC;exact ax
 ·exact h.dZ.ew p aC⟩,h.cZ⟩
def Kt(E:Env)(W:World)(M0:List Nat)(X:Nat->Prop)(n:cE)(bl:List (aG E.T.El))(ρ:List Value)(a:Act)(w:World)(ops:Array Oper)(o:Oper)(d:Nat)(r:r1 E.T.El):Prop:=∃u,R E W M0 X n r.f bl ρ (a.put (some d) u) w/\((Region.wanted o (yielded ops a.tmps)=true/\A4 E.P o a X bl ρ w u r.aK)\/(Region.wanted o (yielded ops a.tmps)=false/\u=undef))
theorem amu(a1:dr E)(h:R E W M0 X n f bl ρ a w){d:Nat}(aK:eN d n.n=true)(b:Region.wanted o (yielded ops a.tmps)=true){r:r1 E.T.El}(c:(aaA E bl f d o.op).out r):Kt E W M0 X n bl ρ a w ops o d r:=by obtain⟨y,e,J⟩:=D.la c;have J:(⟨f.put d y,sD E bl f [] o.op⟩:r1 E.T.El)=r:=J;subst J;obtain⟨u,g,i⟩:=ahL a1 h (cur:=[]) trivial rfl e;exact⟨u,h.put aK g,.inl ⟨b,i⟩⟩
theorem amw(h:R E W M0 X n f bl ρ a w){d:Nat}(aK:eN d n.n=true)(b:Region.wanted o (yielded ops a.tmps)=false):Kt E W M0 X n bl ρ a w ops o d ⟨f.put d (.p undef),none⟩:=⟨undef,h.put aK (by simp only[av]),.inr ⟨b,rfl⟩⟩
theorem amv(a1:dr E)(h:R E W M0 X n f bl ρ a w){d bC:Nat}{want c:Bool}(aK:eN d n.n=true)(ax:a.tmps.getD bC undef= .bool c)(e:Region.wanted o (yielded ops a.tmps)=true↔a.tmps.getD bC undef= .bool want){r:r1 E.T.El}(b:(R9 E bl f d want c o.op).out r):Kt E W M0 X n bl ρ a w ops o d r:=by unfold R9 at b;split at b;rename_i ag;rw[A7]at ag;subst ag;exact amu a1 h aK (e.2 ax) b;rename_i ag;have b:(⟨f.put d (.p undef),none⟩:r1 E.T.El)=r:=b;subst b;refine amw h aK ((fX).2 λ ad=>?_);have:=e.1 ad;rw[ax]at this;injection this with this;rw[A7.2 this]at ag;cases ag
theorem amt(a1:dr E)(h:R E W M0 X n f bl ρ a w){d bC:Nat}{want:Bool}(aK:eN d n.n=true)(b:cx bC d=false)(c:Region.wanted o (yielded ops a.tmps)=true↔a.tmps.getD bC undef= .bool want){y:aL E.T.El}(e:H6 E bl f [(bC,want)] o.op= .ok y):Kt E W M0 X n bl ρ a w ops o d ⟨f.sN d bC want y,sD E bl f [(bC,want)] o.op⟩:=by by_cases ag:a.tmps.getD bC undef= .bool want;obtain⟨u,g,i⟩:=ahL a1 h (cur:=[(bC,want)]) (o:=o) (z:=y) ⟨ag,trivial⟩ rfl (by rw[e];rfl);exact⟨u,h.sN aK b λ _=>g,.inl ⟨c.2 ag,i⟩⟩;exact⟨undef,h.sN aK b λ ad=>absurd ad ag,.inr ⟨(fX).2 λ ad=>ag (c.1 ad),rfl⟩⟩
theorem aaB(a1:dr E)(h:R E W M0 X n f bl ρ a w){r:r1 E.T.El}(c:(R_ E ops n.n bl f o).out r):∃d,o.dst=some d/\Kt E W M0 X n bl ρ a w ops o d r:=by have e:=aie (ops:=ops) (o:=o) h;unfold R_ at c;split at c;exact c.elim;rename_i d k;refine⟨d,k,?_⟩;split at c;exact c.elim;rename_i aK;split at c;rename_i g;rw[g]at e;exact amu a1 h aK e c;rename_i g;rw[g]at e;have c:(⟨f.put d (.p undef),none⟩:r1 E.T.El)=r:=c;subst c;exact amw h aK e;rename_i bC want b g;rw[g]at e;obtain⟨m,j,i⟩:=e;split at c;rename_i y l J;have c:(⟨f.sN d bC want y,sD E bl f [(bC,want)] o.op⟩:r1 E.T.El)=r:=c;subst c;exact amt a1 h aK (hY.1 J).1 i l;rcases c with⟨rfl,c⟩|⟨rfl,c⟩;exact amv a1 (h.know j) aK j i c;exact amv a1 (h.know j) aK j i c;rename_i bC want g;rw[g]at e;obtain⟨m,i⟩:=e;split at c;rename_i y l J;have c:(⟨f.sN d bC want y,sD E bl f [(bC,want)] o.op⟩:r1 E.T.El)=r:=c;subst c;exact amt a1 h aK J i l;exact c.elim;exact c.elim
end
def Nu{T:bQ}(n:Nat)(f:cA T.El)(y:aL T.El):Option Nat->Option (cA T.El)
 |none=>some f
 |some d=>match eN d n with
  |true=>some (f.put d y)
  |false=>none
def ag1(E:Env)(n:Nat)(bl:List (aG E.T.El))(f:cA E.T.El)(o:Oper):D (b9 E.T.El):=(PG E bl f [] o.op).bind λ e=>match Nu n f (e.y.getD (.p undef)) o.dst with
 |some a=>.ok ⟨.nm,a,e.bl,e.ws⟩
 |none=>.no
def Wg{El:Nat->Type}:aL El->Option (Nat×List (aL El)×List (aL El))
 | .p (.func (.func g) ⟨us⟩ ⟨cs⟩)=>some (g,us.map .p,cs.map .p)
 | .f (.func g) cs=>some (g,[],cs)
 | .h (.func g) us=>some (g,us,[])
 |_=>none
def U'(E:Env)(bw:fP E)(n:Nat)(bl:List (aG E.T.El))(f:cA E.T.El)(a:Option Nat):Op->D (b9 E.T.El)
 | .call ⟨.value b,⟨xs⟩,_⟩=>match od E bl f [] b,rl E bl f [] xs with
   |some c,some ys=>match Wg c with
    |some (g,us,cs)=>(bw g (us++ys++cs) bl).bind λ r=>match r.e with
     | .ret y=>match Nu n f y a with
       |some d=>.ok ⟨.nm,d,r.bl,r.ws⟩
       |none=>.no
     | .CC y=>.ok ⟨.iX y,f,r.bl,r.ws⟩
    |none=>.no
   |_,_=>.no
 |_=>.no
def TT(E:Env)(bw:fP E)(n:Nat)(bl:List (aG E.T.El))(f:cA E.T.El)(o:Oper):D (b9 E.T.El):=match Q0 E.P o.op with
 | .e=>ag1 E n bl f o
 | .c=>U' E bw n bl f o.dst o.op
 |_=>.no
def TV{T:bQ}(n:Nat)(bl:List (aG T.El))(f:cA T.El)(o:Oper):D (b9 T.El):=match Nu n f (.p undef) o.dst with
 |some a=>.ok ⟨.nm,a,bl,[]⟩
 |none=>.no
def TU(E:Env)(bw:fP E)(n:Nat)(bl:List (aG E.T.El))(f:cA E.T.El)(want c:Bool)(o:Oper):D (b9 E.T.El):=match HK c want with
 |true=>TT E bw n bl f o
 |false=>TV n bl f o
def TW(E:Env)(bw:fP E)(ops:Array Oper)(n:Nat)(bl:List (aG E.T.El))(f:cA E.T.El)(o:Oper):D (b9 E.T.El):=match P3 E ops f n o.guard with
 | .run=>TT E bw n bl f o
 | .skip=>TV n bl f o
 | .maybe bC want b=>.r9 b (TU E bw n bl (f.know bC true) want true o) (TU E bw n bl (f.know bC false) want false o)
 |_=>.no
structure j' (E:Env) (W:World) (M0:List Nat) (X:Nat->Prop) (n:cE) (b0:List (aG E.T.El)) (ρ0:List Value) (w0:World) (s:fg E.T.El) (ρ:List Value) (a:Act) (w:World):Prop where
 r:R E W M0 X n s.f s.bl ρ a w
 to:To X b0 s.bl ρ0 ρ w0 w
 wr:h3 b0 ρ0 w0 w s.ws
def EA(E:Env)(X:Nat->Prop)(bl:List (aG E.T.El))(ρ:List Value)(Q:Exit->Act->World->Prop)(a:Act)(w:World):O0 E.T.El->Prop
 | .nm=>Q .normal a w
 | .ex id=>Q (.exit id) a w
 | .rt=>Q .ret a w
 | .iX y=>∀v,av E.T (bi X bl ρ w) w ρ bl y v->∀b,b.defers=a.defers->Q (.panic [{ v,recovered:=false }]) b w
section
variable{E:Env}{bw:fP E}{W w w':World}{M0:List Nat}{X:Nat->Prop}{n:cE}{f:cA E.T.El}{bl:List (aG E.T.El)}{ρ:List Value}{a:Act}{ops:Array Oper}{o:Oper}
theorem R.set{c:cA E.T.El}{y:aL E.T.El}{v:Value}{b:Option Nat}(h:R E W M0 X n f bl ρ a w)(aj:Nu n.n f y b=some c)(d:av E.T (bi X bl ρ w) w ρ bl y v):R E W M0 X n c bl ρ (a.put b v) w:=by unfold Nu at aj;split at aj;simp only[aM]at aj;subst aj;exact h;split at aj;rename_i aK;simp only[aM]at aj;subst aj;exact h.put aK d;cases aj
def HI(E:Env)(W:World)(M0:List Nat)(X:Nat->Prop)(n:cE)(bl:List (aG E.T.El))(ρ:List Value)(a:Act)(w:World)(ops:Array Oper)(o:Oper)(r:b9 E.T.El):Prop:=
 ∀(K:Act->World->Prop)(Q:Exit->Act->World->Prop),
  (∀ρ' b w',R E W M0 X n r.s.f r.s.bl ρ' b w'->To X bl r.s.bl ρ ρ' w w'->h3 bl ρ w w' r.s.ws->EA E X r.s.bl ρ' (Exit.then K Q) b w' r.x) ->
  if Region.wanted o (yielded ops a.tmps)then o.wp E.P a w K Q else K (a.put o.dst undef) w
theorem ayu(a1:dr E)(h:R E W M0 X n f bl ρ a w)(i:Region.wanted o (yielded ops a.tmps)=true){r:b9 E.T.El}(j:(ag1 E n.n bl f o).out r):HI E W M0 X n bl ρ a w ops o r:=by obtain⟨e,l,J⟩:=D.la j;obtain⟨w',ρ',m,b,d,hy⟩:=azc a1 h (cur:=[]) (o:=o) trivial rfl l;intro K Q k;rw[lz i];split at J;rename_i p aj;have J:(⟨.nm,p,e.bl,e.ws⟩:b9 E.T.El)=r:=J;subst J;have g:=h.to b m;unfold Oper.wp;split at hy;rename_i y c;obtain⟨v,q,s⟩:=hy;rw[show(execOp a.eval o).run E.P w=_ from q];rw[c]at aj;exact k ρ' _ w' (g.set aj s) b d;rename_i c;rw[show(execOp a.eval o).run E.P w=_ from hy];rw[c]at aj;exact k ρ' _ w' (g.set (y:=.p undef) aj (by simp only[av])) b d;exact J.elim
theorem Sq{F:Nat->Prop}:∀(l:List Value),aZ E.T F w ρ bl (l.map .p) l
 |[]=>by simp[aZ]
 |v::r=>by simp only[ea,aZ];exact⟨v,r,rfl,rfl,Sq r⟩
theorem azC{F:Nat->Prop}{y:aL E.T.El}{v:Value}{g:Nat}{us cs:List (aL E.T.El)}(h:Wg y=some (g,us,cs))(b:av E.T F w ρ bl y v):∃u c,v= .func (.func g) ⟨u⟩ ⟨c⟩/\aZ E.T F w ρ bl us u/\aZ E.T F w ρ bl cs c:=by unfold Wg at h;split at h;simp only[aM,cI]at h;obtain⟨rfl,rfl,rfl⟩:=h;simp only[av]at b;exact⟨_,_,b,Sq _,Sq _⟩;simp only[aM,cI]at h;obtain⟨rfl,rfl,rfl⟩:=h;simp only[av]at b;obtain⟨vs,d,J⟩:=b;exact⟨[],vs,d,by simp[aZ],J⟩;simp only[aM,cI]at h;obtain⟨rfl,rfl,rfl⟩:=h;simp only[av]at b;obtain⟨vs,d,J⟩:=b;exact⟨vs,[],d,J,by simp[aZ]⟩;cases h
theorem awx(q:mP E bw)(h:R E W M0 X n f bl ρ a w)(s:Region.wanted o (yielded ops a.tmps)=true){op:Op}(t:o.op=op){r:b9 E.T.El}(d:(U' E bw n.n bl f o.dst op).out r):HI E W M0 X n bl ρ a w ops o r:=by
 unfold U' at d;split at d
 ·rename_i L xs mc;split at d
  ·rename_i M ys x J;split at d
   ·rename_i g us cs z;obtain⟨i,A,b⟩:=D.la d;obtain⟨u,c,e1,e2,e3⟩:=azC z (dB h (cur:=[]) trivial x);have e4:=Cx h (cur:=[]) trivial J;obtain⟨B,j⟩:=q.ok _ _ _ _ A;have hc:=j W M0 X ρ w (u++xs.map a.eval++c) h.mem h.cZ ((e2.bE e4).bE e3);intro K Q k;rw[lz s];unfold Oper.wp;have C:(execOp a.eval o).run E.P w= .ok (.enter g ⟨u++xs.map a.eval++c⟩) w:=by simp only[execOp,t,resolve,e1];simp[Deferred.ofValue,invoke,B]
    rw[C];refine hc.mono λ e w' F=>?_;obtain⟨ρ',G,l,m,nn⟩:=F;have p:=h.to l G;split at b
    ·rename_i y hy;rw[hy]at nn;split at b
     ·rename_i H aj;have b:(⟨.nm,H,i.bl,i.ws⟩:b9 E.T.El)=r:=b;subst b;cases e with
      |returned v=>exact k ρ' _ w' (p.set aj nn) l m
      |panicked c=>exact nn.elim
      |outgrown=>exact nn.elim
     ·exact b.elim
    ·rename_i y hy;rw[hy]at nn;have b:(⟨.iX y,f,i.bl,i.ws⟩:b9 E.T.El)=r:=b;subst b;cases e with
     |returned v=>exact nn.elim
     |panicked c=>obtain⟨v,rfl,I⟩:=nn;exact k ρ' a w' p l m v I a rfl
     |outgrown=>exact nn.elim
   ·exact d.elim
  ·exact d.elim
 ·exact d.elim
theorem aqR(a1:dr E)(d:mP E bw)(h:R E W M0 X n f bl ρ a w)(c:Region.wanted o (yielded ops a.tmps)=true){r:b9 E.T.El}(b:(TT E bw n.n bl f o).out r):HI E W M0 X n bl ρ a w ops o r:=by unfold TT at b;split at b;exact ayu a1 h c b;exact awx d h c rfl b;exact b.elim
theorem aqT(h:R E W M0 X n f bl ρ a w)(c:Region.wanted o (yielded ops a.tmps)=false){r:b9 E.T.El}(b:(TV n.n bl f o).out r):HI E W M0 X n bl ρ a w ops o r:=by unfold TV at b;split at b;rename_i d aj;have b:(⟨.nm,d,bl,[]⟩:b9 E.T.El)=r:=b;subst b;intro K Q k;rw[ly (by simp[c])];exact k ρ _ w (h.set aj (by simp only[av])) .refl .nil;exact b.elim
theorem aqS(a1:dr E)(e:mP E bw)(h:R E W M0 X n f bl ρ a w){bC:Nat}{want c:Bool}(ax:a.tmps.getD bC undef= .bool c)(d:Region.wanted o (yielded ops a.tmps)=true↔a.tmps.getD bC undef= .bool want){r:b9 E.T.El}(b:(TU E bw n.n bl f want c o).out r):HI E W M0 X n bl ρ a w ops o r:=by unfold TU at b;split at b;rename_i ag;rw[A7]at ag;subst ag;exact aqR a1 e h (d.2 ax) b;rename_i ag;refine aqT h ((fX).2 λ ad=>?_) b;have:=d.1 ad;rw[ax]at this;injection this with this;rw[A7.2 this]at ag;cases ag
theorem aen(a1:dr E)(i:mP E bw)(h:R E W M0 X n f bl ρ a w){r:b9 E.T.El}(c:(TW E bw ops n.n bl f o).out r):HI E W M0 X n bl ρ a w ops o r:=by have d:=aie (ops:=ops) (o:=o) h;unfold TW at c;split at c;rename_i e;rw[e]at d;exact aqR a1 i h d c;rename_i e;rw[e]at d;exact aqT h d c;rename_i bC want b e;rw[e]at d;obtain⟨k,g,j⟩:=d;rcases c with⟨rfl,c⟩|⟨rfl,c⟩;exact aqS a1 i (h.know g) g j c;exact aqS a1 i (h.know g) g j c;exact c.elim
end
def opsL(E:Env)(bw:fP E)(ops:Array Oper)(n:Nat):List Oper->fg E.T.El->D (b9 E.T.El)
 |[],s=>.ok ⟨.nm,s⟩
 |o::r,s=>match Q0 E.P o.op with
  | .q=>(R_ E ops n s.bl s.f o).bind λ q=>Gk E q.f λ f=>opsL E bw ops n r ⟨f,s.bl,s.ws⟩
  | .no=>.no
  |_=>(TW E bw ops n s.bl s.f o).bind λ t=>match t.x with
   | .nm=>Gk E t.s.f λ f=>MP E t.s.ws s.bl.length t.s.bl λ bl=>opsL E bw ops n r ⟨f,bl,t.s.ws++s.ws⟩
   |x=>.ok ⟨x,t.s.f,t.s.bl,t.s.ws++s.ws⟩
def Fin(E:Env)(W:World)(M0:List Nat)(X:Nat->Prop)(n:cE)(b0:List (aG E.T.El))(ρ0:List Value)(w0:World)(t:b9 E.T.El)(Q:Exit->Act->World->Prop):Prop:=∀ρ a w,j' E W M0 X n b0 ρ0 w0 t.s ρ a w->EA E X t.s.bl ρ Q a w t.x
section
variable{E:Env}{bw:fP E}{W:World}{M0:List Nat}{X:Nat->Prop}{n:cE}{b0:List (aG E.T.El)}{ρ0:List Value}{w0:World}{ops:Array Oper}{Q:Exit->Act->World->Prop}
theorem j'.next{s s':fg E.T.El}{ρ ρ':List Value}{a b:Act}{w w':World}(h:j' E W M0 X n b0 ρ0 w0 s ρ a w)(c:R E W M0 X n s'.f s'.bl ρ' b w')(d:To X s.bl s'.bl ρ ρ' w w')(e:h3 s.bl ρ w w' s'.ws):j' E W M0 X n b0 ρ0 w0 ⟨s'.f,s'.bl,s'.ws++s.ws⟩ ρ' b w':=⟨c,h.to.trans d,h.wr.bE h.to e⟩
theorem aai(a1:dr E)(g:mP E bw):∀(os:List Oper){s:fg E.T.El}{t:b9 E.T.El}{ρ:List Value}{a:Act}{w:World},(opsL E bw ops n.n os s).out t->j' E W M0 X n b0 ρ0 w0 s ρ a w->Fin E W M0 X n b0 ρ0 w0 t Q->wpList E.P ops Q os a w
 |[],s,t,ρ,a,w,c,h,k=>by have c:(⟨.nm,s⟩:b9 E.T.El)=t:=c;subst c;exact k ρ a w h
 |o::r,s,t,ρ,a,w,c,h,k=>by
  simp only[opsL]at c;split at c
  ·obtain⟨q,i,J⟩:=D.la c;rw[Gl]at J;obtain⟨d,aK,u,j,hy⟩:=aaB (ops:=ops) a1 h.r i;have next:=aai a1 g r J (ρ:=ρ) (a:=a.put (some d) u) (w:=w) ⟨j,h.to,h.wr⟩ k
   refine wpList_step λ K m=>?_;rcases hy with⟨e,hy⟩|⟨e,hy⟩
   ·rw[lz e];unfold Oper.wp;rw[show(execOp a.eval o).run E.P w=_ from hy.now];show K (a.put o.dst u) w
    rw[aK];exact m _ _ next
   ·rw[ly (by simp[e]),aK,<-hy];exact m _ _ next
  ·exact c.elim
  ·obtain⟨b,i,J⟩:=D.la c;have ad:=aen a1 g h.r i
   have ad:=ad (wpList E.P ops Q r) Q λ ρ' l w' j p e=>by
    have aj:=h.next j p e;cases f:b.x with
    |nm=>rw[f]at J;simp only[Gl,RK]at J;exact aai a1 g r J aj k
    |ex id=>rw[f]at J;have J:(⟨.ex id,b.s.f,b.s.bl,b.s.ws++s.ws⟩:b9 E.T.El)=t:=J;subst J;exact k ρ' l w' aj
    |rt=>rw[f]at J;have J:(⟨.rt,b.s.f,b.s.bl,b.s.ws++s.ws⟩:b9 E.T.El)=t:=J;subst J;exact k ρ' l w' aj
    |iX y=>rw[f]at J;have J:(⟨.iX y,b.s.f,b.s.bl,b.s.ws++s.ws⟩:b9 E.T.El)=t:=J;subst J;exact k ρ' l w' aj
   unfold wpList;split;rename_i e;rw[lz e]at ad;exact .inl ad;rename_i e;rw[ly e]at ad;exact ad
end
section
variable{P:Program}{ops:Array Oper}{Q:Exit->Act->World->Prop}
def l9(H:List (List Nat×(World->Prop)))(a:Array Bool)(w:World):Prop:=∀h∈H,(∀v∈h.1,a.getD v false=false)->h.2 w
def pf(P:Program)(ops:Array Oper)(Q:Exit->Act->World->Prop)(H:List (List Nat×(World->Prop))):Nat->Array Bool->Act->World->Prop
 |0,b,a,w=>Region.ready .any ops b=[]/\Q .normal a w
 |cM+1,b,a,w=>(Region.ready .any ops b=[]->Q .normal a w)/\∀i∈Region.ready .any ops b,wpOp P ops Q i (λ c w'=>l9 H (b.setIfInBounds i true) w'/\pf P ops Q H cM (b.setIfInBounds i true) c w') a w
theorem aoM{H:List (List Nat×(World->Prop))}:∀(cM:Nat)(b:Array Bool)(a:Act)(w:World),pf P ops Q H cM b a w->Go.wpAny P .any ops Q cM b a w
 |0,_,_,_,h=>h
 |cM+1,_,_,_,h=>⟨h.1,λ i hi=>wpOp_mono (λ c w' h'=>aoM cM _ c w' h'.2) (h.2 i hi)⟩
theorem acY{H c:List (List Nat×(World->Prop))}(d:∀b w,l9 H b w->l9 c b w):∀(cM:Nat)(b:Array Bool)(a:Act)(w:World),pf P ops Q H cM b a w->pf P ops Q c cM b a w
 |0,_,_,_,h=>h
 |cM+1,_,_,_,h=>⟨h.1,λ i hi=>wpOp_mono (λ e w' h'=>⟨d _ _ h'.1,acY d cM _ e w' h'.2⟩) (h.2 i hi)⟩
theorem Ld{a:Array Bool}{i v:Nat}(h:i≠v):(a.setIfInBounds i true).getD v false=a.getD v false:=getD_set_ne false h
theorem aKZ{a:Array Bool}{i v:Nat}(h:(a.setIfInBounds i true).getD v false=false):a.getD v false=false:=by by_cases e:i=v;subst e;rcases fO i a.size with h' |h';simp[h']at h;simp[hG h'];rwa [Ld e]at h
theorem aoO{H:List (List Nat×(World->Prop))}{i:Nat}{oi:Oper}{v:Value}{S:World->Prop}{U V:List Nat}(hi:ops[i]? =some oi)(G:∀(j:Nat)(o:Oper) cs b,ops[j]? =some o->o.op≠ .select cs b)
 (O:∀c a w,Q (.panic c) (a.put oi.dst v) w->Q (.panic c) a w)(R:Hn ops i U)(sl:∀v∈V,v∈U)(T:i∉V)(X:∀h∈H,i∉h.1) :
 ∀(t:Nat)(d:Array Bool)(a:Act)(w:World),
  (∀j g,ops[j]? =some g->j≠i->d.getD j true=false->(∀e∈g.after,Region.binds .any e=true->e.on≠i)->oi.apart ops g=true) ->
  (∀u∈U,d.getD u false=false)->i∈Region.ready .any ops d->l9 H d w->S w->YieldsIf P ops S oi v a ->
  pf P ops Q ((V,S)::H) t (d.setIfInBounds i true) (a.put oi.dst v) w->pf P ops Q H (t+1) d a w:=by
 have mono:∀(d:Array Bool)(w:World),l9 ((V,S)::H) d w->l9 H d w:=λ d w h p q=>h p (eD _ q)
 have put:∀ {d:Array Bool}{w:World},l9 H d w->l9 H (d.setIfInBounds i true) w:=λ{d w} h p q r=>h p q λ v l=>aKZ (r v l)
 intro t
 induction t with
 |zero=>intro d a w _ _ m D E hy W;refine⟨λ h=>(by rw[h]at m;cases m),λ j ax=>?_⟩;by_cases f:j=i;subst f;exact hy.wpOp hi E ⟨put D,W⟩;have:=ready_mono ax f;rw[W.1]at this;cases this
 |succ t Y=>
  intro d a w I s m D E hy W;refine⟨λ h=>(by rw[h]at m;cases m),λ j ax=>?_⟩;by_cases f:j=i;subst f;exact hy.wpOp hi E ⟨put D,acY mono _ _ _ _ W⟩
  ·have n:=W.2 j (ready_mono ax f);obtain⟨K,g,A,L⟩:=mem_ready.1 ax;have wm:∀e∈g.after,Region.binds .any e=true->e.on≠i:=λ e B ag heq=>by have n:=L e B ag;have M:=(mem_ready.1 m).1;rw[heq]at n;rcases fO i d.size with h' |h';simp[h']at M n;rw[M]at n;cases n;simp[hG h']at n
   have N:j∉U:=λ Z=>by obtain⟨dh,F,e,B,ag,J⟩:=R j Z;rw[A]at F;simp only[aM]at F;subst F;rcases J with J |J;exact wm e B ag J;have C:=L e B ag;rw[s _ J]at C;cases C
   have Yx:∀u∈U,(d.setIfInBounds j true).getD u false=false:=λ u r=>by have x:j≠u:=λ e=>N (e▸r);rw[Ld x];exact s u r
   have J:=wpOp_putIf A (I j g A f K wm) (λ cs b=>G i oi cs b hi) (λ cs b=>G j g cs b A) O hy n
   have LB:∀k ok,ops[k]? =some ok->k≠i->(d.setIfInBounds j true).getD k true=false ->
    (∀e∈ok.after,Region.binds .any e=true->e.on≠i)->oi.apart ops ok=true:=λ k ok hk LO s k2=>by
    refine I k ok hk LO ?_ k2
    by_cases wl:j=k
    ·subst wl;exact K
    ·rw[getD_set_ne true wl]at s;exact s
   refine wpOp_mono (λ aW w' C=>?_) J;obtain⟨rS,c3,jY⟩:=C;have Qd:S w':=c3 (V,S) (by simp) λ v l=>by have y:=sl v l;have x:j≠v:=λ e=>N (e▸y);have X':i≠v:=λ e=>T (e▸l);rw[Ld x,Ld X'];exact s v y
   have z:l9 H (d.setIfInBounds j true) w':=λ p q r=>c3 p (eD _ q) λ v l=>by have x:i≠v:=λ e=>X p q (e▸l);rw[i_ _ _ (Ne.symm f),Ld x];exact r v l
   refine⟨z,Y (d.setIfInBounds j true) aW w' LB Yx (ready_mono m (Ne.symm f)) z Qd rS ?_⟩;rw[i_ _ _ f];exact jY
theorem aMe{H:List (List Nat×(World->Prop))}{i:Nat}{oi:Oper}{v:Value}(hi:ops[i]? =some oi)(l:∀(j:Nat)(o:Oper) cs b,ops[j]? =some o->o.op≠ .select cs b)
 (m:∀c a w,Q (.panic c) (a.put oi.dst v) w->Q (.panic c) a w)(n:∀h∈H,i∉h.1){g:Nat}{d:Array Bool}{a:Act}{w:World}
 (q:∀j k,ops[j]? =some k->j≠i->d.getD j true=false->(∀e∈k.after,Region.binds .any e=true->e.on≠i)->oi.apart ops k=true)
 (r:i∈Region.ready .any ops d)(s:l9 H d w)(hy:YieldsIf P ops (λ _=>True) oi v a)(h:pf P ops Q H g (d.setIfInBounds i true) (a.put oi.dst v) w):pf P ops Q H (g+1) d a w:=
 aoO (S:=λ _=>True) (U:=[]) (V:=[]) hi l m (λ u f=>by simp at f) (λ v t=>by simp at t) (by simp) n g d a w q (λ u f=>by simp at f) r s trivial hy
  (acY (λ d w h p aC f=>by
   rcases cG.1 aC with rfl |aC;trivial
   ·exact h p aC f) _ _ _ _ h)
end
def YW:Op->Bool
 | .select _ _=>true
 |_=>false
def Bf(o:Oper)(i:Nat):Bool:=o.after.toList.any λ e=>Region.binds .any e&&cx e.on i
def agu(o:Oper)(d:Nat):Bool:=match o.dst with
 |some d'=>cx d' d
 |none=>false
def NT(ops:Array Oper)(x:Oper)(i:Nat)(d:Nat):Nat->List Oper->Bool
 |_,[]=>true
 |j,y::r=>(cx i j||(Bf x j||(!agu y d&&(!fJ (y.looksAt ops) d||Bf y i))))&&NT ops x i d (j+1) r
def GD(ops:Array Oper)(all:List Oper):Nat->List Oper->Bool
 |_,[]=>true
 |i,x::r=>(!YW x.op&&(match x.dst with
  |none=>true
  |some d=>NT ops x i d 0 all))&&GD ops all (i+1) r
section
variable{ops:Array Oper}
theorem QI{l:List Nat}{j:Nat}:fJ l j=true↔j∈l:=by
 refine⟨uu,λ h=>?_⟩;induction l with
 |nil=>simp at h
 |cons i r a=>simp only[fJ,hA];rcases cG.1 h with rfl |h;exact .inl (by simp);exact .inr (a h)
theorem acX{x:Oper}{i d:Nat}:∀ {l:List Oper}{k:Nat},NT ops x i d k l=true->∀(m:Nat)(y:Oper),l[m]? =some y->i≠k+m->Bf x (k+m)=true\/(y.dst≠some d/\(d∈y.looksAt ops->Bf y i=true))
 |[],_,_,m,y,a,_=>by simp at a
 |z::r,k,h,m,y,a,b=>by
  simp only[NT,ca,hA,gG]at h;cases m with
  |zero=>simp only[de,aM]at a;subst a;rcases h.1 with e |e |⟨e1,e2⟩;exact absurd (bF e) (by simpa using b);exact .inl (by simpa using e);refine .inr ⟨λ e=>?_,λ c=>?_⟩;simp[agu,e]at e1;rcases e2 with e2 |e2;rw[QI.2 c]at e2;cases e2;exact e2
  |succ m=>have:=acX h.2 m y (by simpa using a) (by omega);rwa [show k+1+m=k+(m+1) by omega]at this
theorem Td{all:List Oper}:∀ {l:List Oper}{k:Nat},GD ops all k l=true->∀(m:Nat)(x:Oper),l[m]? =some x->YW x.op=false/\∀d,x.dst=some d->NT ops x (k+m) d 0 all=true
 |[],_,_,m,x,a=>by simp at a
 |z::r,k,h,m,x,a=>by
  simp only[GD,ca,gG]at h;cases m with
  |zero=>simp only[de,aM]at a;subst a;refine⟨h.1.1,λ d aK=>?_⟩;have:=h.1.2;rw[aK]at this;exact this
  |succ m=>have:=Td h.2 m x (by simpa using a);rwa [show k+1+m=k+(m+1) by omega]at this
theorem Vx{o:Oper}{i:Nat}(h:Bf o i=true):∃e∈o.after,Region.binds .any e=true/\e.on=i:=by simp only[Bf,h6,ca]at h;obtain⟨e,a,J,b⟩:=h;exact⟨e,by simpa using a,J,bF b⟩
theorem aoI(h:GD ops ops.toList 0 ops.toList=true)(j:Nat)(o:Oper)(cs:_)(b:Bool)(a:ops[j]? =some o):o.op≠ .select cs b:=λ e=>by have:=(Td h j o (by rw[ha];exact a)).1;rw[e]at this;simp[YW]at this
theorem aMa(h:GD ops ops.toList 0 ops.toList=true){b:Array Bool}(aj:b.size=ops.size){i:Nat}{oi:Oper}(hi:ops[i]? =some oi)(p:i∈Region.ready .any ops b) :
 ∀j a,ops[j]? =some a->j≠i->b.getD j true=false->(∀e∈a.after,Region.binds .any e=true->e.on≠i)->oi.apart ops a=true:=λ j a ax u c g=>by
 have k:ops.toList[i]? =some oi:=by rw[ha];exact hi
 have l:ops.toList[j]? =some a:=by rw[ha];exact ax
 have m:=(Td h i oi k).2
 have n:=(Td h j a l).2
 simp only[ji]at m n
 have done:Bf oi j=true->False:=λ hc=>by
  obtain⟨e,e1,e2,e3⟩:=Vx hc;obtain⟨_,v,o,q⟩:=mem_ready.1 p;rw[hi]at o;cases o;have:=q e e1 e2;rw[e3]at this;have r:j<b.size:=by rw[aj];exact(fH.1 ax).1
  simp[r]at this c;rw[this]at c;cases c
 unfold Oper.apart
 rw[ca]
 constructor
 ·cases aK:oi.dst with
  |none=>rfl
  |some d=>rcases acX (m d aK) j a l (by omega)with hc |⟨s,f⟩;exact(done (by simpa using hc)).elim;simp only[ca,gG,bne_iff_ne,ne_eq];refine⟨?_,s⟩;rw[fX];intro hc;obtain⟨e,e1,e2,e3⟩:=Vx (f (by simpa using hc));exact g e e1 e2 e3
 ·cases aK:a.dst with
  |none=>rfl
  |some d=>simp only[gG];rw[fX];intro hc;rcases acX (n d aK) i oi k (by omega)with t |⟨_,f⟩;obtain⟨e,e1,e2,e3⟩:=Vx (by simpa using t:Bf a i=true);exact g e e1 e2 e3;exact done (f (by simpa using hc))
end
inductive lC (El:Nat->Type):Type
 |ro
 |EG (i:Nat)
 |cl (i o:Nat) (y:aL El)
def Pr{El:Nat->Type}(bl:List (aG El)):aL El->Bool
 | .b _ _=>true
 | .m _=>true
 | .r i g=>cx g (v7 bl i)
 |_=>false
def aca{El:Nat->Type}:aL El->aL El->Bool
 | .b i o,.b j p=>cx i j&&cx o p
 | .m i,.m j=>cx i j
 | .r i g,.r j h=>cx i j&&cx g h
 |_,_=>false
def Vg(E:Env)(bl:List (aG E.T.El))(f:cA E.T.El):Op->Option (Nat×Nat×aL E.T.El)
 | .load t x=>match od E bl f [] x with
   |some (.b i o)=>match nth bl i,lay E.P t with
    |some (.c _ cs),some (false,_)=>match nth cs o with
     |some y=>match Pr bl y with
      |true=>some (i,o,y)
      |false=>none
     |none=>none
    |_,_=>none
   |_=>none
 |_=>none
def FL(P:Program)(o:Oper):Bool:=match Q0 P o.op with
 | .q=>true
 |_=>false
def EN(P:Program)(ops:Array Oper):List Nat->List Nat
 |[]=>[]
 |v::r=>match nth ops.toList v with
  |some o=>match FL P o with
   |true=>EN P ops r
   |false=>v::EN P ops r
  |none=>EN P ops r
def ends(P:Program)(ops:Array Oper)(i:Nat):List Nat:=EN P ops (pO ops.toList 0 i [])
def aiV(E:Env)(bl:List (aG E.T.El))(f:cA E.T.El)(op:Op)(b:Nat):lC E.T.El:=match Vg E bl f op with
 |some (i,o,y)=>.cl i o y
 |none=>.EG b
def afl(E:Env)(ops:Array Oper)(bl:List (aG E.T.El))(f:cA E.T.El)(i:Nat)(op:Op)(aj:List (List Nat×lC E.T.El)):Option (Option Nat)->List (List Nat×lC E.T.El)
 |none=>aj
 |some none=>(ends E.P ops i,.ro)::aj
 |some (some b)=>(ends E.P ops i,aiV E bl f op b)::aj
def Qk{El:Nat->Type}(ws:List Nat)(bl':List (aG El)):lC El->Bool
 | .ro=>true
 | .EG i=>!fJ ws i
 | .cl i o y=>!fJ ws i||match nth bl' i with
   |some (.c _ cs)=>match nth cs o with
    |some fl=>aca y fl&&Pr bl' y
    |none=>false
   |_=>false
def FO{El:Nat->Type}(e:Nat)(ws:List Nat)(bl':List (aG El)):List (List Nat×lC El)->Option (List (List Nat×lC El))
 |[]=>some []
 |(V,h)::r=>match FO e ws bl' r with
  |none=>none
  |some a=>match fJ V e with
   |true=>some a
   |false=>match Qk ws bl' h with
    |true=>some ((V,h)::a)
    |false=>none
section
variable{T:bQ}{W w w':World}{M0:List Nat}{X:Nat->Prop}{bl bl':List (aG T.El)}{ρ ρ':List Value}
def xO(bl:List (aG T.El))(ρ:List Value)(q i:Nat):Prop:=∀j B h,bl[j]? =some B->ρ[j]? =some h->q∈bD B h->j=i
def OS(X:Nat->Prop)(bl:List (aG T.El))(ρ:List Value)(w:World)(S:World->Prop):lC T.El->Prop
 | .ro=>∃q,bi X bl ρ w q/\∀w':World,w'.heap[q]? =w.heap[q]? ->S w'
 | .EG i=>∃q,q<w.heap.size/\xO bl ρ q i/\∀w':World,w'.heap[q]? =w.heap[q]? ->S w'
 | .cl i o y=>∃g u,ρ[i]? =some (.pointer (some ⟨g,0,none⟩))/\g<w.heap.size/\xO bl ρ g i/\av T (bi X bl ρ w) w ρ bl y u/\w.cell? ⟨g,o,none⟩=some u/\∀w':World,w'.cell? ⟨g,o,none⟩=some u->S w'
def xM(X:Nat->Prop)(bl:List (aG T.El))(ρ:List Value)(w:World)(S:World->Prop)(h:lC T.El):Prop:=(∀w',S w')\/OS X bl ρ w S h
theorem xM.now{S:World->Prop}{h:lC T.El}(k:xM X bl ρ w S h):S w:=by
 rcases k with k |k;exact k w
 ·cases h with
  |ro=>obtain⟨q,_,k⟩:=k;exact k w rfl
  |EG i=>obtain⟨q,_,_,k⟩:=k;exact k w rfl
  |cl i o y=>obtain⟨g,u,_,_,_,_,hc,k⟩:=k;exact k w hc
theorem xO.to(a:To X bl bl' ρ ρ' w w'){q i:Nat}(b:q<w.heap.size)(h:xO bl ρ q i):xO bl' ρ' q i:=λ j B g ax c d=>by obtain⟨j9,e,e1,e2,e3⟩:=a.pY j B g ax c q d b;exact h j j9 e e1 e2 e3
theorem xO.aoR{s:List Nat}(a:h3 bl ρ w w' s){q i:Nat}(b:q<w.heap.size)(h:xO bl ρ q i)(hi:i∉s):w'.heap[q]? =w.heap[q]? :=a q b λ j ax B g ag c d=>hi (h j B g ag c d▸ax)
theorem axw(j:Mem T W M0 X bl ρ w){y:aL T.El}{u v:Value}(aK:Pr bl y=true)(a:av T (bi X bl ρ w) w ρ bl y u)(b:av T (bi X bl ρ w) w ρ bl y v):u=v:=by cases y<;>simp only[Pr,gT]at aK;simp only[av]at a b;obtain⟨g,c,rfl⟩:=a;obtain⟨g',J,rfl⟩:=b;rw[c]at J;simp only[aM,Value.pointer.injEq,Addr.mk.injEq]at J;rw[J.1];rename_i i g;simp only[av]at a b;have e:=bF aK;rw[EX]at e;obtain⟨_,h,c,_,J⟩:=a;obtain⟨_,h',d,_,f⟩:=b;rw[c]at d;cases d;rw[J e,f e];simp only[av]at a b;obtain⟨g,c,rfl⟩:=a;obtain⟨g',J,rfl⟩:=b;rw[c]at J;simp only[aM,Value.map.injEq]at J;rw[J]
theorem aKP{y z:aL T.El}(h:aca y z=true):y=z:=by unfold aca at h;split at h;simp only[ca]at h;rw[bF h.1,bF h.2];rw[bF h];simp only[ca]at h;rw[bF h.1,bF h.2];cases h
theorem xM.fo(l:Mem T W M0 X bl' ρ' w')(b:To X bl bl' ρ ρ' w w'){ws:List Nat}(m:h3 bl ρ w w' ws){S:World->Prop}{h:lC T.El}(k:xM X bl ρ w S h)(hk:Qk ws bl' h=true):xM X bl' ρ' w' S h:=by
 rcases k with k |k;exact .inl k;refine .inr ?_;cases h with
 |ro=>obtain⟨q,c,J⟩:=k;have:=b.F q c;exact⟨q,this.1,λ w'' e=>J w'' (e.trans this.2)⟩
 |EG i=>
  obtain⟨q,c,J,f⟩:=k;simp only[Qk,gG]at hk;have hi:i∉ws:=λ e=>by rw[QI.2 e]at hk;cases hk
  exact⟨q,ez c b.sz,J.to b c,λ w'' e=>f w'' (e.trans (J.aoR m c hi))⟩
 |cl i o y=>
  obtain⟨g,u,c,J,f,n,p,r⟩:=k;obtain⟨B,e1,e2,_⟩:=b.L.at_ i _ c;have e3:=e2 (by simp[ms]);subst e3;have d:=b.v n;refine⟨g,u,e1,ez J b.sz,f.to b J,d,?_,r⟩;simp only[Qk,hA,gG]at hk;rcases hk with hk |hk
  ·have hi:i∉ws:=λ e=>by rw[QI.2 e]at hk;cases hk
   rw[<-p];exact World.cell?_of_block (a:=⟨g,o,none⟩) (f.aoR m J hi)
  ·split at hk;rename_i t cs ag;split at hk;rename_i fl hy;simp only[ca]at hk;have:=aKP hk.1;subst this;rw[dn]at ag hy;obtain⟨g',vs,j,s,x⟩:=l.ok i _ _ ag e1;simp only[Value.pointer.injEq,aM,Addr.mk.injEq]at j;have j:=j.1;subst j;obtain⟨v,z,A⟩:=x.at_ hy;rw[axw l hk.2 d A];have:=x6 (g:=g) (t:=t) (cs:=vs) (w:=w') (by simpa[a8.cd]using s) z;simpa using this;cases hk;cases hk
def h0(P:Program)(ops:Array Oper)(X:Nat->Prop)(bl:List (aG T.El))(ρ:List Value)(w:World):List (List Nat×lC T.El)->List (List Nat×(World->Prop))->Prop
 |[],H=>H=[]
 |p::r,H=>∃S a,H=(p.1,S)::a/\(∀v∈p.1,∃o,ops[v]? =some o/\FL P o=false)/\xM X bl ρ w S p.2/\h0 P ops X bl ρ w r a
theorem h0.Ba{P:Program}{ops:Array Oper}:∀ {aj:List (List Nat×lC T.El)}{H:List (List Nat×(World->Prop))},h0 P ops X bl ρ w aj H->∀a,l9 H a w
 |[],H,h,a=>by simp only[h0]at h;subst h;intro p b;simp at b
 |p::r,H,h,a=>by simp only[h0]at h;obtain⟨S,e,rfl,_,J,c⟩:=h;intro q aO d;rcases cG.1 aO with rfl |aO;exact J.now;exact h0.Ba c a q aO d
theorem h0.alG{P:Program}{ops:Array Oper}:∀ {aj:List (List Nat×lC T.El)}{H:List (List Nat×(World->Prop))},h0 P ops X bl ρ w aj H->∀h∈H,∀v∈h.1,∃o,ops[v]? =some o/\FL P o=false
 |[],H,h,p,a=>by simp only[h0]at h;subst h;simp at a
 |p::r,H,h,q,aO=>by simp only[h0]at h;obtain⟨S,d,rfl,b,_,c⟩:=h;rcases cG.1 aO with rfl |aO;exact b;exact h0.alG c q aO
theorem h0.fo{P:Program}{ops:Array Oper}(j:Mem T W M0 X bl' ρ' w')(k:To X bl bl' ρ ρ' w w'){ws:List Nat}(l:h3 bl ρ w w' ws){e:Nat}:∀ {aj d:List (List Nat×lC T.El)}{H:List (List Nat×(World->Prop))},h0 P ops X bl ρ w aj H->FO e ws bl' aj=some d ->
 ∃m,h0 P ops X bl' ρ' w' d m/\∀b w,b.getD e false=true->l9 m b w->l9 H b w
 |[],d,H,h,a=>by simp only[FO,aM]at a;subst a;exact⟨H,h,λ _ _ _ h=>h⟩
 |(V,aK)::r,d,H,h,a=>by simp only[h0]at h;obtain⟨S,s,rfl,t,J,u⟩:=h;simp only[FO]at a;split at a;cases a;rename_i z v;obtain⟨g,n,o⟩:=h0.fo j k l u v;split at a;rename_i x;simp only[aM]at a;subst a;refine⟨g,n,λ b w f hc p aC c=>?_⟩;rcases cG.1 aC with rfl |aC;have:=c e (uu x);rw[f]at this;cases this;exact o b w f hc p aC c;split at a;rename_i i;simp only[aM]at a;subst a;refine⟨(V,S)::g,?_,λ b w f hc p aC c=>?_⟩;simp only[h0];exact⟨S,g,rfl,t,J.fo j k l i,n⟩;rcases cG.1 aC with rfl |aC;exact hc _ (by simp) c;exact o b w f (λ q y=>hc q (eD _ y)) p aC c;cases a
end
section
variable{E:Env}{W w w':World}{M0:List Nat}{X:Nat->Prop}{n:cE}{f:cA E.T.El}{bl:List (aG E.T.El)}{ρ:List Value}{a:Act}{ops:Array Oper}{o:Oper}
theorem alU(b:Mem E.T W M0 X bl ρ w){i:Nat}{B:aG E.T.El}{h:Value}(hi:bl[i]? =some B)(c:ρ[i]? =some h){q:Nat}(d:q∈bD B h):q<w.heap.size/\xO bl ρ q i:=by refine⟨(b.lt q ⟨i,B,h,hi,c,d⟩).1,λ j C g ax k l=>?_⟩;by_cases e:j=i;exact e;exact absurd l (b.bC i j B C h g hi c ax k (Ne.symm e) q d)
theorem awY(h:R E W M0 X n f bl ρ a w){i p:Nat}{y:aL E.T.El}(b:Vg E bl f o.op=some (i,p,y)):∃S,OS X bl ρ w S (.cl i p y)/\∃u,∀w',S w'->bc E.P o a w' u w':=by unfold Vg at b;split at b;rename_i t x j;split at b;rename_i i' k ad;split at b;rename_i t' cs D d l;split at b;rename_i fl hy;split at b;simp only[aM,cI]at b;obtain⟨rfl,rfl,rfl⟩:=b;have e:=dB h (cur:=[]) trivial ad;simp only[av]at e;obtain⟨g,e1,e2⟩:=e;rw[dn]at d hy;obtain⟨g',vs,c,m,r⟩:=h.mem.ok i' _ _ d e1;simp only[Value.pointer.injEq,aM,Addr.mk.injEq]at c;have c:=c.1;subst c;obtain⟨v,s,z⟩:=r.at_ hy;obtain⟨A,B⟩:=alU h.mem d e1 (q:=g) (by simp[bD,ag]);have hc:=x6 (g:=g) (t:=t') (cs:=vs) (w:=w) (by simpa[a8.cd]using m) s;exact⟨λ w'=>w'.cell? ⟨g,k,none⟩=some v,⟨g,v,e1,A,B,z,by simpa using hc,λ _ h=>h⟩,v,λ w' C=>Am (Mu l).1 j e2 C⟩;cases b;cases b;cases b;cases b;cases b
end
section
variable{T:bQ}{W w w':World}{M0:List Nat}{X:Nat->Prop}{bl:List (aG T.El)}{ρ:List Value}{B C:aG T.El}{h g:Value}
theorem JL(b:ρ.length=bl.length){j:Nat}{D:aG T.El}{u:Value}(ax:(bl++[B,C])[j]? =some D)(a:(ρ++[h,g])[j]? =some u) :
 (j<bl.length/\bl[j]? =some D/\ρ[j]? =some u)\/(j=bl.length/\D=B/\u=h)\/(j=bl.length+1/\D=C/\u=g):=by
 rcases fO j bl.length with e |e
 ·rw[dS e]at ax;rw[dS (by rw[b];exact e)]at a;exact .inl ⟨e,ax,a⟩
 ·rw[eA e]at ax;rw[eA (by rw[b];exact e),b]at a;right;cases aK:j-bl.length with
  |zero=>rw[aK]at ax a;simp only[de,aM]at ax a;exact .inl ⟨by omega,ax.symm,a.symm⟩
  |succ q=>
   cases q with
   |zero=>rw[aK]at ax a;simp only[List.getElem?_cons_succ,de,aM]at ax a;exact .inr ⟨by omega,ax.symm,a.symm⟩
   |succ q=>rw[aK]at ax;simp at ax
theorem Mem.acF(b:Mem T W M0 X bl ρ w)(c:a_ [] w w')(i:∀k∈bD B h,w.heap.size<=k/\k<w'.heap.size)(l:∀k∈bD C g,w.heap.size<=k/\k<w'.heap.size):To X bl (bl++[B,C]) ρ (ρ++[h,g]) w w':=by
 refine⟨λ k a=>⟨⟨a.1,?_,ez a.2.2 c.size⟩,c.block k a.2.2 (by simp)⟩,⟨λ j u ax=>?_⟩,c.size,λ j D u ax d k a m=>?_⟩;rintro⟨j,D,u,ax,d,f⟩;have:=a.2.2;rcases JL b.len ax d with⟨_,e1,e2⟩|⟨_,rfl,rfl⟩|⟨_,rfl,rfl⟩;exact a.2.1 ⟨j,D,u,e1,e2,f⟩;have:=(i k f).1;omega;have:=(l k f).1;omega
 ·have e:=(ba.1 ax).1;have e':j<bl.length:=by rw[<-b.len];exact e
  refine⟨u,by rw[dS e];exact ax,λ _=>rfl,?_⟩;rw[dS e'];exact⟨cP _,λ _=>⟨rfl,rfl,cP _,λ _=>rfl⟩⟩
 ·rcases JL b.len ax d with⟨_,e1,e2⟩|⟨_,rfl,rfl⟩|⟨_,rfl,rfl⟩;exact⟨D,u,e1,e2,a⟩;have:=(i k a).1;omega;have:=(l k a).1;omega
theorem Mem.aml(d:Mem T W M0 X bl ρ w)(m:a_ [] w w')(f:∀k∈bD B h,w.heap.size<=k/\k<w'.heap.size)(i:∀k∈bD C g,w.heap.size<=k/\k<w'.heap.size)(aK:∀k∈bD B h,k∉bD C g)
 (bO:kb T (bi X (bl++[B,C]) (ρ++[h,g]) w') w' (ρ++[h,g]) (bl++[B,C]) B h)(r:kb T (bi X (bl++[B,C]) (ρ++[h,g]) w') w' (ρ++[h,g]) (bl++[B,C]) C g):Mem T W M0 X (bl++[B,C]) (ρ++[h,g]) w':=by
 have q:=d.acF m f i
 have c':∀ {j:Nat}{D:aG T.El}{u:Value}{k:Nat},bl[j]? =some D->ρ[j]? =some u->k∈bD D u->k<w.heap.size:=λ{j D u k} s J t=>(d.lt k ⟨j,D,u,s,J,t⟩).1
 refine⟨d.bU.trans m (by simp),by simp[d.len],d.iT,?_,?_,?_⟩
 ·rintro k ⟨j,D,u,ax,l,c⟩;rcases JL d.len ax l with⟨_,e1,e2⟩|⟨_,rfl,rfl⟩|⟨_,rfl,rfl⟩;have:=d.lt k ⟨j,D,u,e1,e2,c⟩;exact⟨ez this.1 m.size,this.2⟩;exact⟨(f k c).2,.inr (fR d.bU.size (f k c).1)⟩;exact⟨(i k c).2,.inr (fR d.bU.size (i k c).1)⟩
 ·intro a b D G u v x l y ev n k c e;rcases JL d.len x l with⟨_,e1,e2⟩|⟨b8,rfl,rfl⟩|⟨b8,rfl,rfl⟩<;>rcases JL d.len y ev with⟨_,o,p⟩|⟨z,rfl,rfl⟩|⟨z,rfl,rfl⟩;exact d.bC _ _ _ _ _ _ e1 e2 o p n k c e;have:=c' e1 e2 c;have:=(f k e).1;omega;have:=c' e1 e2 c;have:=(i k e).1;omega;have:=c' o p e;have:=(f k c).1;omega;exact n (by omega);exact aK k c e;have:=c' o p e;have:=(i k c).1;omega;exact aK k e c;exact n (by omega)
 ·intro j D u ax l;rcases JL d.len ax l with⟨_,e1,e2⟩|⟨_,rfl,rfl⟩|⟨_,rfl,rfl⟩;exact(d.ok j D u e1 e2).later q.F q.L λ k c=>m.block k (c' e1 e2 c) (by simp);exact bO;exact r
theorem OS.bU(b:a_ [] w w'){S:World->Prop}{d:lC T.El}(k:xM X bl ρ w S d):S w':=by
 rcases k with k |k;exact k w'
 ·cases d with
  |ro=>obtain⟨q,c,k⟩:=k;exact k w' (b.block q c.2.2 (by simp))
  |EG i=>obtain⟨q,c,_,k⟩:=k;exact k w' (b.block q c (by simp))
  |cl i o y=>obtain⟨g,u,_,J,_,_,hc,k⟩:=k;refine k w' ?_;rw[<-hc];exact World.cell?_of_block (a:=⟨g,o,none⟩) (b.block g J (by simp))
theorem h0.bU{P:Program}{ops:Array Oper}(b:a_ [] w w'):∀ {aj:List (List Nat×lC T.El)}{H:List (List Nat×(World->Prop))},h0 P ops X bl ρ w aj H->∀a,l9 H a w'
 |[],H,h,a=>by simp only[h0]at h;subst h;intro p c;simp at c
 |p::r,H,h,a=>by simp only[h0]at h;obtain⟨S,f,rfl,_,J,d⟩:=h;intro q aO e;rcases cG.1 aO with rfl |aO;exact OS.bU b J;exact h0.bU b d a q aO e
end
def two(E:Env)(n:Nat)(bl:List (aG E.T.El))(f:cA E.T.El)(oi a:Oper):Option (cA E.T.El×List (aG E.T.El)):=match oi.op,a.op,oi.guard,a.guard,oi.dst,a.dst with
 | .alloc ti,.alloc c,none,none,some b,some bC=>match Hj E.P ti,Hj E.P c,eN b n&&(eN bC n&& !cx b bC)with
   |some d,some e,true=>some ((f.put b (.b bl.length 0)).put bC (.b (bl.length+1) 0),bl++[.c ti (d.map .p),.c c (e.map .p)])
   |_,_,_=>none
 |_,_,_,_,_,_=>none
section
variable{E:Env}{W w:World}{M0:List Nat}{X:Nat->Prop}{n:cE}{f f2:cA E.T.El}{bl A8:List (aG E.T.El)}{ρ:List Value}{a:Act}{oi dU:Oper}
abbrev wW(g:Nat):Value:=.pointer (some ⟨g,0,none⟩)
theorem aLA(h:R E W M0 X n f bl ρ a w)(g:two E n.n bl f oi dU=some (f2,A8)):∃l bC ti m i j,oi.dst=some l/\dU.dst=some bC/\l≠bC/\oi.guard=none/\dU.guard=none/\
 (∀a w,bc E.P oi a w (wW w.heap.size) (w.alloc (.cells ⟨i⟩ ti)))/\(∀a w,bc E.P dU a w (wW w.heap.size) (w.alloc (.cells ⟨j⟩ m)))/\
 ∀d nb b,a_ [] w b->w.heap.size<=d->d<b.heap.size->w.heap.size<=nb->nb<b.heap.size->d≠nb->b.heap[d]? =some (.cells ⟨i⟩ ti (0,0))->b.heap[nb]? =some (.cells ⟨j⟩ m (0,0)) ->
  ∃q,R E W M0 X n f2 A8 q ((a.put (some l) (wW d)).put (some bC) (wW nb)) b/\To X bl A8 ρ q w b/\h3 bl ρ w b []:=by
 unfold two at g
 split at g
 ·rename_i ti m l bC v J x y z A;split at g
  ·rename_i i j e1 e2 e3;simp only[ca,gG]at e3;obtain⟨o,B,C⟩:=e3;simp only[aM,cI]at g;obtain⟨rfl,rfl⟩:=g;obtain⟨Q,D,F⟩:=Oz e1;obtain⟨G,l1,H⟩:=Oz e2;refine⟨l,bC,ti,m,i,j,z,A,λ e=>by subst e;simp at C,x,y,λ a w=>Ak D F v,λ a w=>Ak l1 H J,λ d nb b p I K mu L M N O=>?_⟩;have r:∀k∈bD (aG.c (El:=E.T.El) ti (i.map .p)) (wW d),w.heap.size<=k/\k<b.heap.size:=λ k c=>by simp only[bD,ag,dm]at c;subst c;exact⟨I,K⟩
   have s:∀k∈bD (aG.c (El:=E.T.El) m (j.map .p)) (wW nb),w.heap.size<=k/\k<b.heap.size:=λ k c=>by simp only[bD,ag,dm]at c;subst c;exact⟨mu,L⟩
   have t:=h.mem.acF p r s;have P:=h.mem.aml p r s (λ k c u=>by simp only[bD,ag,dm]at c u;exact M (c.symm.trans u)) ⟨d,i,rfl,N,uW i⟩ ⟨nb,j,rfl,O,uW j⟩;refine⟨_,((h.to t P).put o ?_).put B ?_,t,λ k c _=>p.block k c (by simp)⟩;simp only[av];exact⟨d,by rw[<-h.mem.len];simp,rfl⟩;simp only[av];exact⟨nb,by rw[<-h.mem.len];simp,rfl⟩
  ·cases g
 ·cases g
end
def uV(ds:List Nat)(o:Oper):Bool:=o.after.toList.all λ e=>!Region.binds .any e||fJ ds e.on
def MY(P:Program)(ds:List Nat):List (Nat×Oper)->Option (Nat×Oper)
 |[]=>none
 |(i,o)::r=>match FL P o&&uV ds o with
  |true=>some (i,o)
  |false=>MY P ds r
def o'(ds:List Nat):List (Nat×Oper)->List (Nat×Oper)
 |[]=>[]
 |(i,o)::r=>match uV ds o with
  |true=>(i,o)::o' ds r
  |false=>o' ds r
def ov(i:Nat):List (Nat×Oper)->List (Nat×Oper)
 |[]=>[]
 |(j,o)::r=>match cx j i with
  |true=>ov i r
  |false=>(j,o)::ov i r
def I9:Nat->List Oper->List (Nat×Oper)
 |_,[]=>[]
 |i,o::r=>(i,o)::I9 (i+1) r
def x0(E:Env)(bw:fP E)(ops:Array Oper)(n:Nat):Nat->List (Nat×Oper)->List Nat->List (List Nat×lC E.T.El)->fg E.T.El->D (b9 E.T.El)
 |0,rem,ds,_,s=>match o' ds rem with
  |[]=>.ok ⟨.nm,s⟩
  |_=>.no
 |cM+1,rem,ds,aj,s=>match MY E.P ds rem with
  |some (i,o)=>(R_ E ops n s.bl s.f o).bind λ q=>Gk E q.f λ f=>x0 E bw ops n cM (ov i rem) (i::ds) (afl E ops s.bl s.f i o.op aj q.aK) ⟨f,s.bl,s.ws⟩
  |none=>match o' ds rem with
   |[]=>.ok ⟨.nm,s⟩
   |[(i,o)]=>(TW E bw ops n s.bl s.f o).bind λ t=>match t.x with
    | .nm=>match FO i t.s.ws t.s.bl aj with
      |some b=>Gk E t.s.f λ f=>MP E t.s.ws s.bl.length t.s.bl λ bl=>x0 E bw ops n cM (ov i rem) (i::ds) b ⟨f,bl,t.s.ws++s.ws⟩
      |none=>.no
    |x=>.ok ⟨x,t.s.f,t.s.bl,t.s.ws++s.ws⟩
   |[(i,oi),(j,c)]=>match two E n s.bl s.f oi c with
    |some (d,a)=>match o' (i::ds) (ov i rem),o' (j::ds) (ov j rem)with
     |[(hj,_)],[(i',_)]=>match cx hj j&&cx i' i,FO i [] a aj with
      |true,some e=>match FO j [] a e,cM with
       |some J,cM+1=>Gk E d λ f=>MP E [] s.bl.length a λ bl=>x0 E bw ops n cM (ov j (ov i rem)) (j::i::ds) J ⟨f,bl,s.ws⟩
       |_,_=>.no
      |_,_=>.no
     |_,_=>.no
    |none=>.no
   |_=>.no
structure A0 (ops:Array Oper) (rem:List (Nat×Oper)) (ds:List Nat):Prop where
 mem:∀i o,(i,o)∈rem↔ops[i]? =some o/\i∉ds
 lt:∀i∈ds,i<ops.size
 cl:∀i∈ds,∀o,ops[i]? =some o->uV ds o=true
section
variable{ops:Array Oper}{rem:List (Nat×Oper)}{ds:List Nat}
theorem Rl{n:Nat}:∀ {ds:List Nat},(dT n ds).size=n
 |[]=>by simp[dT]
 |i::r=>by simp[dT,Rl (ds:=r)]
theorem I1{n j:Nat}{b:Bool}:∀ {ds:List Nat},j∈ds->j<n->(dT n ds).getD j b=true
 |i::r,h,a=>by simp only[dT,eh,ff];by_cases e:i=j;subst e;simp[Rl,a];rw[ly e];rcases cG.1 h with rfl |h;exact absurd rfl e;have:=I1 (b:=b) h a;simpa[eh]using this
theorem Rk{n j:Nat}:∀ {ds:List Nat},j∉ds->(dT n ds).getD j false=false
 |[],_=>by simp only[dT,eh,Array.getElem?_replicate];split<;>rfl
 |i::r,h=>by simp only[cG,not_or]at h;have:=Rk (n:=n) h.2;simp only[dT,eh,ff,ly (Ne.symm h.1)]at this⊢;exact this
theorem aF5{n j:Nat}(b:j<n)(h:j∉ds):(dT n ds).getD j true=false:=by
 have a:=Rk (n:=n) h;have c:j<(dT n ds).size:=by rw[Rl];exact b
 simp only[eh,iU c,ij]at a⊢;exact a
theorem Nh{o:Oper}:uV ds o=true↔∀e∈o.after,Region.binds .any e=true->e.on∈ds:=by
 simp only[uV,jM,hA,gG];constructor;intro h e a ag;rcases h e (by simpa using a)with h |h;rw[ag]at h;cases h;exact uu h
 ·intro h e a;cases ag:Region.binds .any e with
  |false=>exact .inl rfl
  |true=>exact .inr (QI.2 (h e (by simpa using a) ag))
theorem w2(c:A0 ops rem ds){i:Nat}:i∈Region.ready .any ops (dT ops.size ds)↔∃o,(i,o)∈rem/\uV ds o=true:=by rw[mem_ready];constructor;rintro⟨a,o,J,b⟩;have f:=(fH.1 J).1;refine⟨o,(c.mem i o).2 ⟨J,λ e=>?_⟩,Nh.2 λ e d ag=>?_⟩;rw[I1 e f]at a;cases a;by_cases aK:e.on∈ds;exact aK;have:=b e d ag;rw[Rk aK]at this;cases this;rintro⟨o,a,J⟩;obtain⟨b,g⟩:=(c.mem i o).1 a;refine⟨aF5 (fH.1 b).1 g,o,b,λ e d ag=>?_⟩;have:=Nh.1 J e d ag;exact I1 this (c.lt _ this)
theorem ab6{i j:Nat}{o:Oper}:∀ {rem:List (Nat×Oper)},(j,o)∈ov i rem↔(j,o)∈rem/\j≠i
 |[]=>by simp[ov]
 |(k,p)::r=>by
  simp only[ov];cases ag:cx k i with
  |true=>have:=bF ag;subst this;rw[ab6 (rem:=r)];simp only[cG,cI];constructor;rintro⟨h1,J⟩;exact⟨.inr h1,J⟩;rintro⟨h1,J⟩;rcases h1 with⟨h1,_⟩|h1;exact absurd h1 J;exact⟨h1,J⟩
  |false=>
   have a:k≠i:=λ e=>by subst e;simp at ag
   simp only[cG,cI,ab6 (rem:=r)];constructor;rintro(⟨rfl,rfl⟩|⟨h1,J⟩);exact⟨.inl ⟨rfl,rfl⟩,a⟩;exact⟨.inr h1,J⟩;rintro⟨h1 |h1,J⟩;exact .inl h1;exact .inr ⟨h1,J⟩
theorem A0.next(f:A0 ops rem ds){i:Nat}{o:Oper}(hi:(i,o)∈rem)(h:uV ds o=true):A0 ops (ov i rem) (i::ds):=by obtain⟨g,J⟩:=(f.mem i o).1 hi;have up:∀ {p:Oper},uV ds p=true->uV (i::ds) p=true:=λ{p} d=>Nh.2 λ e k ag=>eD _ (Nh.1 d e k ag);refine⟨λ j p=>?_,λ j ax=>?_,λ j ax p d=>?_⟩;rw[ab6,f.mem];simp only[cG,not_or];exact⟨λ⟨⟨a,b⟩,c⟩=>⟨a,c,b⟩,λ⟨a,c,b⟩=>⟨⟨a,b⟩,c⟩⟩;rcases cG.1 ax with rfl |ax;exact(fH.1 g).1;exact f.lt j ax;rcases cG.1 ax with rfl |ax;rw[g]at d;cases d;exact up h;exact up (f.cl j ax p d)
theorem al7{P:Program}{i:Nat}{o:Oper}:∀ {rem:List (Nat×Oper)},MY P ds rem=some (i,o)->(i,o)∈rem/\FL P o=true/\uV ds o=true
 |[],h=>by simp[MY]at h
 |(k,p)::r,h=>by simp only[MY]at h;split at h;rename_i ag;simp only[aM,cI]at h;obtain⟨rfl,rfl⟩:=h;rw[ca]at ag;exact⟨by simp,ag⟩;obtain⟨a,J⟩:=al7 h;exact⟨eD _ a,J⟩
theorem sU{i:Nat}{o:Oper}:∀ {rem:List (Nat×Oper)},(i,o)∈o' ds rem↔(i,o)∈rem/\uV ds o=true
 |[]=>by simp[o']
 |(k,p)::r=>by simp only[o'];split;rename_i ag;simp only[cG,cI,sU (rem:=r)];constructor;rintro(⟨rfl,rfl⟩|⟨h1,J⟩);exact⟨.inl ⟨rfl,rfl⟩,ag⟩;exact⟨.inr h1,J⟩;rintro⟨h1 |h1,J⟩;exact .inl h1;exact .inr ⟨h1,J⟩;rename_i ag;simp only[cG,cI,sU (rem:=r)];constructor;rintro⟨h1,J⟩;exact⟨.inr h1,J⟩;rintro⟨⟨rfl,rfl⟩|h1,J⟩;rw[J]at ag;cases ag;exact⟨h1,J⟩
theorem am6(a:A0 ops rem ds)(h:o' ds rem=[]):Region.ready .any ops (dT ops.size ds)=[]:=by refine List.eq_nil_iff_forall_not_mem.2 λ i hi=>?_;obtain⟨o,b,J⟩:=(w2 a).1 hi;have:=(sU (ds:=ds)).2 ⟨b,J⟩;rw[h]at this;simp at this
theorem alH{i:Nat}{o:Oper}:∀ {l:List Oper}{k:Nat},(i,o)∈I9 k l↔k<=i/\l[i-k]? =some o
 |[],k=>by simp[I9]
 |p::r,k=>by simp only[I9,cG,cI,alH (l:=r)];constructor;rintro(⟨rfl,rfl⟩|⟨h1,J⟩);exact⟨cP _,by simp⟩;refine⟨by omega,?_⟩;rw[show i-k=(i- (k+1))+1 by omega];simpa using J;rintro⟨h1,J⟩;rcases Nat.eq_or_lt_of_le h1 with rfl |h1;left;simpa using J.symm;right;refine⟨h1,?_⟩;rw[show i-k=(i- (k+1))+1 by omega]at J;simpa using J
theorem aKf:A0 ops (I9 0 ops.toList) []:=⟨λ i o=>by rw[alH];simp,λ i hi=>by simp at hi,λ i hi=>by simp at hi⟩
theorem agp(a:A0 ops rem ds){i:Nat}(hi:i∉ds):∀ {l:List Oper}{k:Nat}{acc:List Nat},(∀m o,l[m]? =some o->ops[k+m]? =some o)->(∀u∈acc,u∉ds)->∀u∈pO l k i acc,u∉ds
 |[],_,_,_,h=>h
 |o::r,k,acc,b,h=>by rw[pO];refine agp a hi (λ m c d=>by have:=b (m+1) c (by simpa using d);rwa [show k+(m+1)=k+1+m by omega]at this) ?_;split;rename_i ag;intro u hu;rcases cG.1 hu with rfl |hu;intro f;simp only[h6,ca,hA]at ag;obtain⟨e,g,j,J⟩:=ag;have:=Nh.1 (a.cl u f o (by simpa using b 0 o rfl)) e (by simpa using g) j;rcases J with J |J;rw[bF J]at this;exact hi this;exact h _ (uu J) this;exact h u hu;exact h
theorem K0{P:Program}{v:Nat}:∀ {l:List Nat},v∈EN P ops l->v∈l/\∃o,ops[v]? =some o/\FL P o=false
 |[],h=>by simp[EN]at h
 |k::r,h=>by simp only[EN]at h;split at h;rename_i o b;rw[dn,ha]at b;split at h;obtain⟨a,J⟩:=K0 h;exact⟨eD _ a,J⟩;rename_i c;rcases cG.1 h with rfl |h;exact⟨by simp,o,b,c⟩;obtain⟨a,J⟩:=K0 h;exact⟨eD _ a,J⟩;obtain⟨a,J⟩:=K0 h;exact⟨eD _ a,J⟩
end
def oL(Q:Exit->Act->World->Prop):Exit->Act->World->Prop
 | .panic c,a,w=>∀b,b.defers=a.defers->Q (.panic c) b w
 |e,a,w=>Q e a w
theorem oL.imp{Q:Exit->Act->World->Prop}:∀(e:Exit)(a:Act)(w:World),oL Q e a w->Q e a w:=λ e a w h=>by cases e<;>first |exact h |exact h a rfl
theorem oL.put{Q:Exit->Act->World->Prop}{d:Option Nat}{v:Value}(c:List PanicEntry)(a:Act)(w:World)(h:oL Q (.panic c) (a.put d v) w):oL Q (.panic c) a w:=λ b e=>h b (by rw[e];cases d<;>rfl)
section
variable{E:Env}{bw:fP E}{W:World}{M0:List Nat}{X:Nat->Prop}{n:cE}{b0:List (aG E.T.El)}{ρ0:List Value}{w0:World}{ops:Array Oper}{Q:Exit->Act->World->Prop}
theorem Tf{P:Program}{H c:List (List Nat×(World->Prop))}{i:Nat}(d:∀(b:Array Bool) w,b.getD i false=true->l9 H b w->l9 c b w):∀(cM:Nat)(b:Array Bool)(a:Act)(w:World),b.getD i false=true->pf P ops Q H cM b a w->pf P ops Q c cM b a w
 |0,_,_,_,_,h=>h
 |cM+1,_,_,_,e,h=>⟨h.1,λ j ax=>wpOp_mono (λ f w' h'=>⟨d _ _ (getD_set_true e) h'.1,Tf d cM _ f w' (getD_set_true e) h'.2⟩) (h.2 j ax)⟩
theorem ZG{m i:Nat}{ds:List Nat}:(dT m ds).setIfInBounds i true=dT m (i::ds):=rfl
theorem KI(a1:dr E)(aB:mP E bw)(G:GD ops ops.toList 0 ops.toList=true):∀(cM:Nat){rem:List (Nat×Oper)}{ds:List Nat}{aj:List (List Nat×lC E.T.El)}{H:List (List Nat×(World->Prop))}{s:fg E.T.El}{t:b9 E.T.El}{ρ:List Value}{a:Act}{w:World},
 (x0 E bw ops n.n cM rem ds aj s).out t->j' E W M0 X n b0 ρ0 w0 s ρ a w->A0 ops rem ds->h0 E.P ops X s.bl ρ w aj H->Fin E W M0 X n b0 ρ0 w0 t Q->pf E.P ops (oL Q) H cM (dT ops.size ds) a w
 |0,rem,ds,aj,H,s,t,ρ,a,w,f,h,g,A,k=>by simp only[x0]at f;split at f;rename_i aA;have f:(⟨.nm,s⟩:b9 E.T.El)=t:=f;subst f;exact⟨am6 g aA,k ρ a w h⟩;exact f.elim
 |cM+1,rem,ds,aj,H,s,t,ρ,a,w,f,h,g,A,k=>by
  simp only[x0]at f;split at f
  ·rename_i i o aC;obtain⟨I,ef,eI⟩:=al7 aC;obtain⟨C,uR⟩:=(g.mem i o).1 I;obtain⟨q,h1,J⟩:=D.la f;rw[Gl]at J;obtain⟨d,aK,u,aCD,hy⟩:=aaB (ops:=ops) a1 h.r h1;have oX:j' E W M0 X n b0 ρ0 w0 ⟨q.f,s.bl,s.ws⟩ ρ (a.put (some d) u) w:=⟨aCD,h.to,h.wr⟩
   have n3:=g.next I eI;have U:=(w2 g).2 ⟨o,I,eI⟩;have qY:=aMa G (Rl (ds:=ds)) C U;have yC:=A.Ba (dT ops.size ds);have ajj:∀h∈H,i∉h.1:=λ p aC hi=>by obtain⟨L,e1,e2⟩:=A.alG p aC i hi;rw[C]at e1;cases e1;rw[ef]at e2;cases e2
   have sl:∀v∈ends E.P ops i,v∈pO ops.toList 0 i []:=λ v M=>(K0 M).1;have aiO:∀v∈ends E.P ops i,∃o,ops[v]? =some o/\FL E.P o=false:=λ v M=>(K0 M).2;have XT:i∉ends E.P ops i:=λ hi=>by obtain⟨L,e1,e2⟩:=aiO i hi;rw[C]at e1;cases e1;rw[ef]at e2;cases e2
   have Ls:Hn ops i (pO ops.toList 0 i []):=Vp (λ m o hm=>by simpa using hm) (λ u N=>by simp at N);have aAI:∀u∈pO ops.toList 0 i [],(dT ops.size ds).getD u false=false:=λ u N=>Rk (agp g uR (λ m o hm=>by simpa using hm) (λ u N=>by simp at N) u N);have one:∀(ug:lC E.T.El)(S:World->Prop),xM X s.bl ρ w S ug->YieldsIf E.P ops S o u a->(x0 E bw ops n.n cM (ov i rem) (i::ds) ((ends E.P ops i,ug)::aj) ⟨q.f,s.bl,s.ws⟩).out t->pf E.P ops (oL Q) H (cM+1) (dT ops.size ds) a w:=λ ug S e1 e2 e3=>by
    have next:=KI a1 aB G cM e3 oX n3 (H:=(ends E.P ops i,S)::H) (by simp only[h0];exact⟨S,H,rfl,aiO,e1,A⟩) k
    refine aoO C (aoI G) (λ c a w h=>oL.put c a w h) Ls sl XT ajj cM _ a w qY aAI U yC e1.now e2 ?_;rw[aK];exact next
   have free:(x0 E bw ops n.n cM (ov i rem) (i::ds) aj ⟨q.f,s.bl,s.ws⟩).out t->YieldsIf E.P ops (λ _=>True) o u a->pf E.P ops (oL Q) H (cM+1) (dT ops.size ds) a w:=λ e3 e2=>by
    have next:=KI a1 aB G cM e3 oX n3 A k
    refine aMe C (aoI G) (λ c a w h=>oL.put c a w h) ajj qY U yC e2 ?_;rw[aK];exact next
   rcases hy with⟨l,hy⟩|⟨l,hy⟩
   ·cases LG:q.aK with
    |none=>rw[LG]at J hy;exact free J (.inl ⟨l,λ w' _=>hy w'⟩)
    |some b=>
     rw[LG]at J hy;obtain⟨M5,S,cC,kN,rS,Kb⟩:=hy;cases b with
     |none=>exact one .ro S (.inr ⟨M5,cC,rS⟩) (.inl ⟨l,Kb⟩) J
     |some b=>
      obtain⟨B,bO,tm,z2,z3⟩:=cC;obtain⟨dA,cS⟩:=alU h.r.mem tm z2 z3;simp only[afl,aiV]at J;split at J
      ·rename_i i' L fl iw;obtain⟨HG,V,rF,F⟩:=awY (o:=o) h.r iw;have e1:xM X s.bl ρ w HG (.cl i' L fl):=.inr V;have e2:=F w e1.now;have e3:=Kb w kN;have N:rF=u:=by have:=(show(execOp a.eval o).run E.P w=_ from e2).symm.trans (show(execOp a.eval o).run E.P w=_ from e3);injection this with this;injection this
       subst N;exact one _ HG e1 (.inl ⟨l,F⟩) J
      ·exact one (.EG b) S (.inr ⟨M5,dA,(cS:xO s.bl ρ M5 b),rS⟩) (.inl ⟨l,Kb⟩) J
   ·have yV:YieldsIf E.P ops (λ _=>True) o u a:=.inr ⟨l,hy⟩;cases LG:q.aK with
    |none=>rw[LG]at J;exact free J yV
    |some b=>
     rw[LG]at J;cases b with
     |none=>exact one _ _ (.inl λ _=>trivial) yV J
     |some b=>exact one _ _ (.inl λ _=>trivial) yV J
  ·split at f;rename_i aA;have f:(⟨.nm,s⟩:b9 E.T.El)=t:=f;subst f;exact⟨λ _=>k ρ a w h,by rw[am6 g aA];simp⟩
   ·rename_i i o Fq;have Fj:(i,o)∈o' ds rem:=by rw[Fq];simp
    obtain⟨I,eI⟩:=sU.1 Fj;obtain⟨C,uR⟩:=(g.mem i o).1 I;have n3:=g.next I eI;have bz:=(fH.1 C).1;have U:=(w2 g).2 ⟨o,I,eI⟩;obtain⟨r,h1,J⟩:=D.la f;have ad:=aen a1 aB h.r h1;refine⟨λ e=>by rw[e]at U;simp at U,λ j ax=>?_⟩;have gk:j=i:=by obtain⟨L,e1,e2⟩:=(w2 g).1 ax;have:=sU.2 ⟨e1,e2⟩;rw[Fq]at this;simp only[dm,cI]at this;exact this.1
    subst gk;have ad:=ad (λ Y w'=>l9 H ((dT ops.size ds).setIfInBounds j true) w'/\pf E.P ops (oL Q) H cM ((dT ops.size ds).setIfInBounds j true) Y w') (oL Q) λ ρ' Y w' lJ aF l=>by
     have Z:=h.next lJ aF l;cases mq:r.x with
     |nm=>
      rw[mq]at J;simp only at J;split at J
      ·rename_i cb hk;obtain⟨oI,V,F⟩:=A.fo lJ.mem aF l hk;simp only[Gl,RK]at J;have next:=KI a1 aB G cM J Z n3 V k
       have ak:((dT ops.size ds).setIfInBounds j true).getD j false=true:=I1 (ds:=j::ds) (by simp) bz;exact⟨F _ _ ak (V.Ba _),Tf F cM _ Y w' ak next⟩
      ·exact J.elim
     |ex id=>rw[mq]at J;have J:(⟨.ex id,r.s.f,r.s.bl,r.s.ws++s.ws⟩:b9 E.T.El)=t:=J;subst J;exact k ρ' Y w' Z
     |rt=>rw[mq]at J;have J:(⟨.rt,r.s.f,r.s.bl,r.s.ws++s.ws⟩:b9 E.T.El)=t:=J;subst J;exact k ρ' Y w' Z
     |iX y=>rw[mq]at J;have J:(⟨.iX y,r.s.f,r.s.bl,r.s.ws++s.ws⟩:b9 E.T.El)=t:=J;subst J;have:=k ρ' Y w' Z;exact λ v M b ag lF hg=>this v M lF (hg.trans ag)
    unfold wpOp;simp only[C];split;rename_i l;rw[lz l]at ad;exact .inl ad;rename_i l;rw[ly l]at ad;exact ad
   ·rename_i i oi j dU Fi;split at f
    ·rename_i f2 du aCQ;split at f
     ·rename_i hj RM i' alK b7 cV;split at f
      ·rename_i h1 e1 e2;split at f
       ·rename_i J cM e3;simp only[Gl,RK]at f;simp only[ca]at e1;have ayG:=bF e1.1;have Vy:=bF e1.2;subst ayG;subst Vy;obtain⟨tO,bC,ti,sY,rW,rX,d1,d2,bY,air,ais,ark,arl,fin⟩:=aLA h.r aCQ;obtain⟨O,al6⟩:=sU.1 (show(i',oi)∈o' ds rem by rw[Fi];simp);obtain⟨al9,aHy⟩:=sU.1 (show(hj,dU)∈o' ds rem by rw[Fi];simp);obtain⟨RW,aQT⟩:=(g.mem i' oi).1 O;obtain⟨Jm,aQU⟩:=(g.mem hj dU).1 al9;have aBJ:i'≠hj:=λ e=>by subst e;rw[RW]at Jm;cases Jm;rw[d1]at d2;exact bY (ee d2)
        have QA:=g.next O al6;have ajr:=g.next al9 aHy;obtain⟨P,amy⟩:=sU.1 (show(hj,RM)∈o' (i'::ds) (ov i' rem) by rw[b7];simp);have ayH:RM=dU:=by have:=((QA.mem hj RM).1 P).1;rw[Jm]at this;exact(ee this).symm
        subst ayH;have lJ:=QA.next P amy;have li:=(fH.1 RW).1;have aFE:=(fH.1 Jm).1;have step:∀ {q:Nat}{o:Oper}{d t:Nat}{z:List Value}{b:Act}{v:World}{K:Act->World->Prop},ops[q]? =some o->o.guard=none->o.dst=some d->bc E.P o b v (wW v.heap.size) (v.alloc (.cells ⟨z⟩ t))->K (b.put (some d) (wW v.heap.size)) (v.alloc (.cells ⟨z⟩ t))->wpOp E.P ops (oL Q) q K b v:=by
         intro q o d t z b v K aO ay aK hy b5;have l:Region.wanted o (yielded ops b.tmps)=true:=Ta ay;unfold wpOp;simp only[aO,l,if_true];left;unfold Oper.wp;rw[show(execOp b.eval o).run E.P v=_ from hy];show K (b.put o.dst _) _
         rw[aK];exact b5
        have ahU:∀R nb a2 x,a2=(a.put (some tO) (wW R)).put (some bC) (wW nb)->a_ [] w x->w.heap.size<=R->R<x.heap.size->w.heap.size<=nb->nb<x.heap.size->R≠nb->x.heap[R]? =some (.cells ⟨rW⟩ ti (0,0))->x.heap[nb]? =some (.cells ⟨rX⟩ sY (0,0)) ->
         l9 H (dT ops.size (hj::i'::ds)) x/\pf E.P ops (oL Q) H cM (dT ops.size (hj::i'::ds)) a2 x:=λ R nb a2 x ao M i1 i2 mu q8 ay bh bs=>by
         obtain⟨nN,s1,s2,CN⟩:=fin R nb x M i1 i2 mu q8 ay bh bs
         subst ao
         have Z:=h.next (s':=⟨f2,du,[]⟩) s1 s2 CN
         obtain⟨H1,V,F⟩:=A.fo s1.mem s2 CN e2
         obtain⟨aPR,cf,dl⟩:=V.fo s1.mem .refl .nil e3
         have next:=KI a1 aB G cM f Z lJ cf k
         have r:(dT ops.size (hj::i'::ds)).getD hj false=true:=I1 (by simp) aFE
         have t2:(dT ops.size (hj::i'::ds)).getD i' false=true:=I1 (by simp) li
         exact⟨F _ _ t2 (dl _ _ r (cf.Ba _)),Tf F cM _ _ x t2 (Tf dl cM _ _ x r next)⟩
        have am3:=(w2 g).2 ⟨oi,O,al6⟩;have sz:∀(v:World)(o:Obj),(v.alloc o).heap.size=v.heap.size+1:=λ v o=>by simp
        refine⟨λ e=>by rw[e]at am3;simp at am3,λ q aO=>?_⟩;have yO:q=i'\/q=hj:=by obtain⟨L,e1,e2⟩:=(w2 g).1 aO;have:=sU.2 ⟨e1,e2⟩;rw[Fi]at this;simp only[cG,cI,hI,or_false]at this;rcases this with⟨e,_⟩|⟨e,_⟩;exact .inl e;exact .inr e
        rcases yO with rfl |rfl
        ·refine step RW air d1 (ark _ _) ⟨h0.bU (a_.alloc _ _ _) A _,?_⟩;have Ng:=(w2 QA).2 ⟨RM,P,amy⟩;refine⟨λ e=>by rw[ZG]at e;rw[e]at Ng;simp at Ng,λ q aO=>?_⟩;have:q=hj:=by obtain⟨L,e1,e2⟩:=(w2 QA).1 aO;have:=sU.2 ⟨e1,e2⟩;rw[b7]at this;simp only[dm,cI]at this;exact this.1
         subst this;refine step Jm ais d2 (arl _ _) ?_
         exact ahU w.heap.size (w.heap.size+1) _ _ (by simp) ((a_.alloc [] w _).trans (a_.alloc [] _ _) (by simp)) (cP _) (by rw[sz,sz];omega) (Nat.le_succ _) (by rw[sz,sz];omega) (by omega)
          (by rw[Below.heap_alloc _ _ _ (by rw[sz];omega)];exact heap_alloc_new w _) (by have:=heap_alloc_new (w.alloc (.cells ⟨rW⟩ ti)) (.cells ⟨rX⟩ sY);rwa [sz]at this)
        ·refine step Jm ais d2 (arl _ _) ⟨h0.bU (a_.alloc _ _ _) A _,?_⟩;obtain⟨aH9,aH_⟩:=sU.1 (show(i',alK)∈o' (q::ds) (ov q rem) by rw[cV];simp);have Ng:=(w2 ajr).2 ⟨alK,aH9,aH_⟩;refine⟨λ e=>by rw[ZG]at e;rw[e]at Ng;simp at Ng,λ p aC=>?_⟩;have:p=i':=by obtain⟨L,e1,e2⟩:=(w2 ajr).1 aC;have:=sU.2 ⟨e1,e2⟩;rw[cV]at this;simp only[dm,cI]at this;exact this.1
         subst this;refine step RW air d1 (ark _ _) ?_;have aBX:(dT ops.size (q::ds)).setIfInBounds p true=dT ops.size (q::p::ds):=by
          show((dT ops.size ds).setIfInBounds q true).setIfInBounds p true=((dT ops.size ds).setIfInBounds p true).setIfInBounds q true
          exact i_ _ _ (Ne.symm aBJ)
         rw[ZG,aBX];exact ahU (w.heap.size+1) w.heap.size _ _ (by
          simp only[Act.put,sz];rw[i_ _ _ (Ne.symm bY)]) ((a_.alloc [] w _).trans (a_.alloc [] _ _) (by simp)) (Nat.le_succ _) (by rw[sz,sz];omega) (cP _) (by rw[sz,sz];omega) (by omega)
          (by have:=heap_alloc_new (w.alloc (.cells ⟨rX⟩ sY)) (.cells ⟨rW⟩ ti);rwa [sz]at this) (by rw[Below.heap_alloc _ _ _ (by rw[sz];omega)];exact heap_alloc_new w _)
       ·exact f.elim
      ·exact f.elim
     ·exact f.elim
    ·exact f.elim
   ·exact f.elim
end
abbrev pF(E:Env):=Nat->Option (fg E.T.El->D (b9 E.T.El))
def Rb{El:Nat->Type}(g:fg El->D (b9 El)):Nat->fg El->D (b9 El)
 |0,_=>.no
 |k+1,s=>(g s).bind λ t=>match t.x with
  | .nm=>Rb g k t.s
  |_=>.ok t
def alT{El:Nat->Type}(id:Nat)(t:b9 El):D (b9 El):=match t.x with
 | .ex i=>match cx i id with
   |true=>.ok ⟨.nm,t.s⟩
   |false=>.ok t
 |_=>.ok t
def akl{El:Nat->Type}(f:cA El):Operand->Option Bool
 | .tmp t=>cH f.ew t
 |_=>none
def fg.Y'{El:Nat->Type}(s:fg El)(b:Bool):Operand->fg El
 | .tmp t=>⟨s.f.know t b,s.bl,s.ws⟩
 |_=>s
def MV{E:Env}(LE:pF E):Code->Option (fg E.T.El->D (b9 E.T.El))
 | .seq (.region _ _ _) (.block id _)=>LE (1000000+id)
 |_=>none
def den(E:Env)(bw:fP E)(LE:pF E)(n:Nat):Code->fg E.T.El->D (b9 E.T.El)
 | .skip,s=>.ok ⟨.nm,s⟩
 | .label _,s=>.ok ⟨.nm,s⟩
 | .exit id,s=>.ok ⟨.ex id,s⟩
 | .ret,s=>.ok ⟨.rt,s⟩
 | .region _ ops false,s=>opsL E bw ops n ops.toList s
 | .region _ ops true,s=>match GD ops ops.toList 0 ops.toList with
   |true=>x0 E bw ops n ops.size (I9 0 ops.toList) [] [] s
   |false=>.no
 | .seq x y,s=>match MV LE x with
   |none=>(den E bw LE n x s).bind λ t=>match t.x with
    | .nm=>den E bw LE n y t.s
    |_=>.ok t
   |some g=>match y with
    | .seq _ rest=>(g s).bind λ t=>match t.x with
      | .nm=>den E bw LE n rest t.s
      |_=>.ok t
    |_=>.no
 | .cond c x y,s=>match od E s.bl s.f [] c with
   |some (.p (.bool b))=>match E.cl with
    |true=>match b with
     |true=>den E bw LE n x s
     |false=>den E bw LE n y s
    |false=>match akl s.f c with
     |some true=>den E bw LE n x s
     |some false=>den E bw LE n y s
     |none=>.r9 b (den E bw LE n x (s.Y' true c)) (den E bw LE n y (s.Y' false c))
   |_=>.no
 | .block id c,s=>match LE id with
   |some g=>g s
   |none=>(den E bw LE n c s).bind (alT id)
 | .loop c,s=>Rb (den E bw LE n c) 1000000 s
 | .scope c,s=>den E bw LE n c s
 |_,_=>.no
def DG(E:Env)(n:cE)(g:fg E.T.El->D (b9 E.T.El))(c:Code):Prop:=∀s t,(g s).out t->∀(W:World)(M0:List Nat)(X:Nat->Prop)(b0:List (aG E.T.El))(ρ0:List Value)(w0:World)(ρ:List Value)(a:Act)(w:World)(Q:Exit->Act->World->Prop),j' E W M0 X n b0 ρ0 w0 s ρ a w->Fin E W M0 X n b0 ρ0 w0 t Q->c.wp E.P Q a w
def AD(E:Env)(n:cE)(g:fg E.T.El->D (b9 E.T.El))(x r:Code):Prop:=∀rest s t,(g s).out t->∀(W:World)(M0:List Nat)(X:Nat->Prop)(b0:List (aG E.T.El))(ρ0:List Value)(w0:World)(ρ:List Value)(a:Act)(w:World)(Q:Exit->Act->World->Prop),j' E W M0 X n b0 ρ0 w0 s ρ a w->Fin E W M0 X n b0 ρ0 w0 t (Exit.then (rest.wp E.P Q) Q)->(Code.seq x (.seq r rest)).wp E.P Q a w
def lD(E:Env)(LE:pF E)(n:cE):Code->Prop
 | .seq x y=>(∀g r rest,MV LE x=some g->y= .seq r rest->AD E n g x r)/\lD E LE n x/\lD E LE n y
 | .cond _ x y=>lD E LE n x/\lD E LE n y
 | .block id c=>(∀g,LE id=some g->DG E n g (.block id c))/\lD E LE n c
 | .loop c=>lD E LE n c
 | .scope c=>lD E LE n c
 |_=>True
section
variable{E:Env}{bw:fP E}{LE:pF E}{W:World}{M0:List Nat}{X:Nat->Prop}{n:cE}{b0:List (aG E.T.El)}{ρ0:List Value}{w0:World}
theorem wC(h:∀id,LE id=none):∀c,lD E LE n c
 | .seq x y=>⟨(λ g r rest a=>by
  unfold MV at a;split at a;rw[h]at a;cases a
  ·cases a),wC h x,wC h y⟩
 | .cond _ x y=>⟨wC h x,wC h y⟩
 | .block id c=>⟨(λ g a=>by rw[h id]at a;cases a),wC h c⟩
 | .loop c=>wC h c
 | .scope c=>wC h c
 | .skip | .region _ _ _ | .rangeFunc _ _ _ _ | .exit _ | .label _ | .goto _ | .ret | .refuse _=>trivial
theorem R.drew{f:cA E.T.El}{bl:List (aG E.T.El)}{ρ:List Value}{a:Act}{w w':World}(h:R E W M0 X n f bl ρ a w)(b:a_ [] w w'):R E W M0 X n f bl ρ a w':=h.to (Mem.u' b) (h.mem.fo b)
theorem j'.drew{s:fg E.T.El}{ρ:List Value}{a:Act}{w w':World}(h:j' E W M0 X n b0 ρ0 w0 s ρ a w)(b:a_ [] w w'):j' E W M0 X n b0 ρ0 w0 s ρ a w':=⟨h.r.drew b,h.to.trans (Mem.u' b),by have:=h.wr.bE h.to (s':=[]) (w'':=w') (bl':=s.bl) (ρ':=ρ) λ q c _=>b.block q c (by simp);simpa using this⟩
theorem aqW{K:Act->World->Prop}{Q:Exit->Act->World->Prop}{bl:List (aG E.T.El)}{ρ:List Value}{a:Act}{w:World}{x:O0 E.T.El}(b:x= .nm->K a w)(h:x≠ .nm->EA E X bl ρ Q a w x):EA E X bl ρ (Exit.then K Q) a w x:=by
 cases x with
 |nm=>exact b rfl
 |ex id=>exact h (by simp)
 |rt=>exact h (by simp)
 |iX y=>exact h (by simp)
theorem pN(a1:dr E)(p:mP E bw):∀(c:Code){s:fg E.T.El}{t:b9 E.T.El}{ρ:List Value}{a:Act}{w:World}{Q:Exit->Act->World->Prop},lD E LE n c->(den E bw LE n.n c s).out t->j' E W M0 X n b0 ρ0 w0 s ρ a w->Fin E W M0 X n b0 ρ0 w0 t Q->c.wp E.P Q a w
 | .skip,s,t,ρ,a,w,Q,_,d,h,k=>by have d:(⟨.nm,s⟩:b9 E.T.El)=t:=d;subst d;exact wp_skip (k ρ a w h)
 | .label l,s,t,ρ,a,w,Q,_,d,h,k=>by have d:(⟨.nm,s⟩:b9 E.T.El)=t:=d;subst d;exact wp_label (k ρ a w h)
 | .exit id,s,t,ρ,a,w,Q,_,d,h,k=>by have d:(⟨.ex id,s⟩:b9 E.T.El)=t:=d;subst d;exact wp_exit (k ρ a w h)
 | .ret,s,t,ρ,a,w,Q,_,d,h,k=>by have d:(⟨.rt,s⟩:b9 E.T.El)=t:=d;subst d;exact wp_ret (k ρ a w h)
 | .region id ops false,s,t,ρ,a,w,Q,_,d,h,k=>by simp only[den]at d;exact wp_region_list (aai a1 p ops.toList d h k)
 | .region id ops true,s,t,ρ,a,w,Q,_,d,h,k=>by simp only[den]at d;split at d;rename_i G;have aK:j' E W M0 X n b0 ρ0 w0 s ρ a w.drew:=h.drew (a_.drew [] w);have:=KI a1 p G ops.size d aK aKf (H:=[]) (by simp[h0]) k;exact Code.wp_mono oL.imp (wp_region_any a1.aF4 (aoM _ _ _ _ this));exact d.elim
 | .seq x y,s,t,ρ,a,w,Q,j,d,h,k=>by
   have u:∀ {z:Code}{f:b9 E.T.El}(_:lD E LE n z),(match f.x with| .nm=>den E bw LE n.n z f.s |_=>.ok f:D (b9 E.T.El)).out t->(∀ {s':fg E.T.El}{ρ':List Value}{o:Act}{w':World},(den E bw LE n.n z s').out t->j' E W M0 X n b0 ρ0 w0 s' ρ' o w'->z.wp E.P Q o w')->∀ρ' o w',j' E W M0 X n b0 ρ0 w0 f.s ρ' o w'->EA E X f.s.bl ρ' (Exit.then (z.wp E.P Q) Q) o w' f.x:=λ{z f} I J aK ρ' o w' aj=>aqW (λ ad=>by
    rw[ad]at J;exact aK J aj) λ ad=>by
    have J:f=t:=by
     revert J;cases B:f.x with
     |nm=>exact absurd B ad
     |_=>exact λ h=>h
    subst J;exact k ρ' o w' aj
   simp only[den]at d;split at d;obtain⟨f,v,J⟩:=D.la d;exact wp_seq (pN a1 p x j.2.1 v h (u j.2.2 J λ aK C=>pN a1 p y j.2.2 aK C k));rename_i g F;split at d;rename_i r rest;obtain⟨f,v,J⟩:=D.la d;exact j.1 g r rest F rfl rest s f v _ _ _ _ _ _ _ _ _ _ h (u j.2.2.2.2 J λ aK C=>pN a1 p rest j.2.2.2.2 aK C k);exact d.elim
 | .cond c x y,s,t,ρ,a,w,Q,j,d,h,k=>by
   simp only[den]at d;split at d
   ·rename_i b hc;have q:=dB h.r (cur:=[]) trivial hc;simp only[av]at q;split at d;split at d;exact wp_cond_split q (λ _=>pN a1 p x j.1 d h k) (λ e=>by cases e);exact wp_cond_split q (λ e=>by cases e) (λ _=>pN a1 p y j.2 d h k)
    ·have ew:∀A,akl s.f c=some A->a.eval c= .bool A:=λ A ag=>by
      cases c with
      |tmp t=>exact h.r.dZ.ew _ (qb ag)
      |_=>cases ag
     have kw:∀A,a.eval c= .bool A->j' E W M0 X n b0 ρ0 w0 (s.Y' A c) ρ a w:=λ A ag=>by
      cases c with
      |tmp t=>exact⟨h.r.know ag,h.to,h.wr⟩
      |_=>exact h
     split at d
     ·rename_i ag;have:=ew _ ag;rw[q]at this;cases this;exact wp_cond_split q (λ _=>pN a1 p x j.1 d h k) (λ e=>by cases e)
     ·rename_i ag;have:=ew _ ag;rw[q]at this;cases this;exact wp_cond_split q (λ e=>by cases e) (λ _=>pN a1 p y j.2 d h k)
     ·rcases d with⟨rfl,d⟩|⟨rfl,d⟩;exact wp_cond_split q (λ _=>pN a1 p x j.1 d (kw _ q) k) (λ e=>by cases e);exact wp_cond_split q (λ e=>by cases e) (λ _=>pN a1 p y j.2 d (kw _ q) k)
   ·exact d.elim
 | .block id c,s,t,ρ,a,w,Q,j,d,h,k=>by
   simp only[den]at d;split at d;rename_i g F;exact j.1 g F s t d _ _ _ _ _ _ _ _ _ _ h k
   ·obtain⟨f,v,J⟩:=D.la d;refine wp_block (pN a1 p c j.2 v h λ ρ' o w' aj=>?_);unfold alT at J;cases ad:f.x with
    |nm=>rw[ad]at J;have J:f=t:=J;subst J;have:=k ρ' o w' aj;rw[ad]at this;exact this
    |ex i=>
     rw[ad]at J;simp only at J;show Exit.inBlock id Q (.exit i) o w'
     split at J;rename_i ag;have J:(⟨.nm,f.s⟩:b9 E.T.El)=t:=J;subst J;rw[bF ag];simp only[Exit.inBlock,if_true];exact k ρ' o w' aj
     ·rename_i ag;have J:f=t:=J;subst J;have K:i≠id:=λ e=>by subst e;simp at ag
      simp only[Exit.inBlock,ly K];have:=k ρ' o w' aj;rw[ad]at this;exact this
    |rt=>rw[ad]at J;have J:f=t:=J;subst J;have:=k ρ' o w' aj;rw[ad]at this;exact this
    |iX y=>rw[ad]at J;have J:f=t:=J;subst J;have:=k ρ' o w' aj;rw[ad]at this;exact this
 | .loop c,s,t,ρ,a,w,Q,j,d,h,k=>by
   simp only[den]at d;refine wp_loop_ghost (λ m a w=>∃s ρ,j' E W M0 X n b0 ρ0 w0 s ρ a w/\(Rb (den E bw LE n.n c) m s).out t) 1000000 ⟨s,ρ,h,d⟩ λ m a w L=>?_;obtain⟨s,ρ,h,d⟩:=L;cases m with
   |zero=>exact d.elim
   |succ m=>
    simp only[Rb]at d;obtain⟨f,v,J⟩:=D.la d;refine pN a1 p c j v h λ ρ' o w' aj=>aqW (λ ad=>?_) λ ad=>?_;rw[ad]at J;exact⟨m,ks m,_,_,aj,J⟩
    ·have J:f=t:=by
      revert J;cases B:f.x with
      |nm=>exact absurd B ad
      |_=>exact λ h=>h
     subst J;exact k ρ' o w' aj
 | .scope c,s,t,ρ,a,w,Q,j,d,h,k=>by
   simp only[den]at d;refine wp_scope_straight (pN a1 p c j d h λ ρ' o w' aj=>?_);have:=k ρ' o w' aj;revert this;cases t.x with
   |nm=>exact λ h=>h
   |ex i=>exact λ h=>h
   |rt=>exact λ h=>h
   |iX y=>exact λ h=>h
 | .rangeFunc _ _ _ _,s,t,ρ,a,w,Q,_,d,_,_=>by simp only[den]at d;exact d.elim
 | .goto _,s,t,ρ,a,w,Q,_,d,_,_=>by simp only[den]at d;exact d.elim
 | .refuse _,s,t,ρ,a,w,Q,_,d,_,_=>by simp only[den]at d;exact d.elim
end
def H4{El:Nat->Type}:Nat->List (aL El)->List (Nat×aL El)
 |_,[]=>[]
 |k,y::r=>(k,y)::H4 (k+1) r
def abY(E:Env)(s:fg E.T.El):ResultVar->Option (aL E.T.El)
 | .tmp t=>od E s.bl s.f [] (.tmp t)
 | .cell dM ty=>match od E s.bl s.f [] (.tmp dM),lay E.P ty with
   |some (.b i o),some a=>match nth s.bl i with
    |some (.c _ cs)=>oO cs o a
    |_=>none
   |_,_=>none
def Jw(E:Env)(s:fg E.T.El):List ResultVar->Option (List (aL E.T.El))
 |[]=>some []
 |r::rs=>match abY E s r,Jw E s rs with
  |some y,some ys=>some (y::ys)
  |_,_=>none
def sM{El:Nat->Type}:List (aL El)->aL El
 |[y]=>y
 |ys=>.u ys
def ag5(E:Env)(rs:List ResultVar)(t:b9 E.T.El):D (fS E.T.El):=match t.x with
 | .ex _=>.no
 | .iX y=>.ok ⟨.CC y,t.s.bl,t.s.ws⟩
 |_=>match Jw E t.s rs with
  |some ys=>.ok ⟨.ret (sM ys),t.s.bl,t.s.ws⟩
  |none=>.no
abbrev mQ(E:Env):=Nat->pF E
def pV(E:Env)(bw:fP E)(LE:mQ E):fP E:=λ g ys bl=>match fJ E.cm g,E.P.funcs[g]? with
 |true,some fn=>match fn.body,iI ys.length fn.ntmps with
  |some c,true=>(den E bw (LE g) fn.ntmps c ⟨⟨H4 0 ys,[],[]⟩,bl,[]⟩).bind (ag5 E fn.results.toList)
  |_,_=>.no
 |_,_=>.no
abbrev Kk(E:Env):=Nat->Option (List (aL E.T.El)->List (aG E.T.El)->D (fS E.T.El))
def H8(E:Env)(l8:Kk E)(LE:mQ E):Nat->fP E
 |0=>λ _ _ _=>.no
 |k+1=>λ g ys bl=>match l8 g with
  |some h=>h ys bl
  |none=>pV E (H8 E l8 LE k) LE g ys bl
def kQ(E:Env)(g:Nat)(h:List (aL E.T.El)->List (aG E.T.El)->D (fS E.T.El)):Prop:=∀ys bl r,(h ys bl).out r ->
 ∀(W:World)(M0:List Nat)(X:Nat->Prop)(ρ:List Value)(w:World)(vs:List Value),Mem E.T W M0 X bl ρ w->Km E X bl ρ w->aZ E.T (bi X bl ρ w) w ρ bl ys vs ->
  Calls E.P g ⟨vs⟩ w λ e w'=>∃ρ',Mem E.T W M0 X r.bl ρ' w'/\To X bl r.bl ρ ρ' w w'/\h3 bl ρ w w' r.ws/\AZ E X r.bl ρ' w' r.e e
structure OP (E:Env) (l8:Kk E):Prop where
 cm:∀g h,l8 g=some h->g∈E.cm
 ok:∀g h,l8 g=some h->kQ E g h
def xN(E:Env)(LE:mQ E):Prop:=∀g fn c,g∈E.cm->E.P.funcs[g]? =some fn->fn.body=some c->lD E (LE g) ⟨fn.ntmps,[]⟩ c
section
variable{E:Env}{bw:fP E}{LE:mQ E}{l8:Kk E}{W:World}{M0:List Nat}{X:Nat->Prop}{bl:List (aG E.T.El)}{ρ:List Value}{a:Act}{w:World}
theorem akT{F:Nat->Prop}{t:Nat}{y:aL E.T.El}:∀ {ys:List (aL E.T.El)}{vs:List Value}{k:Nat},aZ E.T F w ρ bl ys vs->cH (H4 k ys) t=some y->∃v,ey (vS k vs) t=some v/\av E.T F w ρ bl y v
 |[],vs,k,_,h=>by simp[H4,cH]at h
 |z::r,vs,k,b,h=>by
  simp only[aZ]at b;obtain⟨u,us,rfl,c,J⟩:=b;simp only[H4,cH]at h;simp only[vS,ey];cases ag:cx k t with
  |true=>rw[ag]at h;simp only[aM]at h;subst h;exact⟨u,rfl,c⟩
  |false=>rw[ag]at h;exact akT J h
theorem aKg{n:cE}{s:fg E.T.El}(h:R E W M0 X n s.f s.bl ρ a w){r:ResultVar}{y:aL E.T.El}(c:abY E s r=some y):∃v,abZ E.P a w r v/\av E.T (bi X s.bl ρ w) w ρ s.bl y v:=by
 unfold abY at c;split at c;exact⟨_,rfl,dB h (cur:=[]) trivial c⟩
 ·rename_i dM ty;split at c
  ·rename_i i o q x J;split at c
   ·rename_i t cs k;have l:=dB h (cur:=[]) trivial x;simp only[av]at l;obtain⟨g,e1,e2⟩:=l;rw[dn]at k;obtain⟨g',vs,d,z,e⟩:=h.mem.ok i _ _ k e1;simp only[Value.pointer.injEq,aM,Addr.mk.injEq]at d;have d:=d.1;subst d;have f:=Mu J;have hc:fF w ⟨g,0,none⟩ vs:=λ j u ax=>by simpa using x6 (g:=g) (t:=t) (cs:=vs) (w:=w) (by simpa[a8.cd]using z) ax
    obtain⟨b,m⟩:=q;cases b with
    |false=>simp only[oO]at c;rw[dn]at c;obtain⟨v,A,B⟩:=e.at_ c;exact⟨v,⟨g,o,e2,.inr ⟨f.1,by simpa using hc o v A⟩⟩,B⟩
    |true=>
     simp only[oO]at c;split at c
     ·rename_i ag;simp only[aM]at c;subst c;have C:=cJ ag;have p:=e.len;refine⟨.agg ⟨(vs.drop o).take m⟩,⟨g,o,e2,.inl ⟨(vs.drop o).take m,f.1,?_,λ j u ax=>?_,rfl⟩⟩,?_⟩
      ·have:((vs.drop o).take m).length=m:=by simp;omega
       rw[this];exact f.2
      ·rw[gK]at ax;split at ax;rw[ia]at ax;simpa using hc (o+j) u ax;cases ax
      ·simp only[av];exact⟨_,rfl,aZ.take m (aZ.drop o e)⟩
     ·cases c
   ·cases c
  ·cases c
theorem am8{n:cE}{s:fg E.T.El}(h:R E W M0 X n s.f s.bl ρ a w):∀ {rs:List ResultVar}{ys:List (aL E.T.El)},Jw E s rs=some ys->∃vs,Su E.P a w rs vs/\aZ E.T (bi X s.bl ρ w) w ρ s.bl ys vs
 |[],ys,b=>by simp only[Jw,aM]at b;subst b;exact⟨[],trivial,by simp[aZ]⟩
 |r::rs,ys,b=>by simp only[Jw]at b;split at b;rename_i y i c J;simp only[aM]at b;subst b;obtain⟨v,d,e⟩:=aKg h c;obtain⟨vs,f,g⟩:=am8 h J;refine⟨v::vs,⟨d,f⟩,?_⟩;simp only[aZ];exact⟨v,vs,rfl,e,g⟩;cases b
theorem aan{F:Nat->Prop}:∀ {ys:List (aL E.T.El)}{vs:List Value},aZ E.T F w ρ bl ys vs->av E.T F w ρ bl (sM ys) (pack vs)
 |[],vs,h=>by simp only[aZ]at h;subst h;simp only[sM,pack,av];exact⟨[],rfl,by simp[aZ]⟩
 |[y],vs,h=>by simp only[aZ]at h;obtain⟨u,us,rfl,b,rfl⟩:=h;exact b
 |y::z::r,vs,h=>by have h':=h;simp only[aZ]at h;obtain⟨u,us,rfl,b,d,c,rfl,J,e⟩:=h;simp only[sM,pack,av];exact⟨_,rfl,h'⟩
theorem PP(a1:dr E)(x:mP E bw)(z:xN E LE):mP E (pV E bw LE):=by
 refine⟨λ g ys bl r b=>?_⟩;unfold pV at b;split at b
 ·rename_i fn A q;have d:=uu A;refine⟨a1.call g d,λ W M0 X ρ w vs B C s=>?_⟩;split at b
  ·rename_i c hc F;obtain⟨t,G,J⟩:=D.la b;have f:=s.len;refine enter q hc rfl (by rw[f];exact F) λ a l=>?_;have H:R E W M0 X ⟨fn.ntmps,[]⟩ ⟨H4 0 ys,[],[]⟩ bl ρ a w:=⟨B,⟨⟨l.size,l.defers,λ t y I=>by obtain⟨v,e1,e2⟩:=akT s I;rw[l.get t v e1];exact e2⟩,λ p m=>by simp at m,λ p m=>by simp at m⟩,C⟩
   refine pN (n:=⟨fn.ntmps,[]⟩) (b0:=bl) (ρ0:=ρ) (w0:=w) a1 x c (z g fn c d q hc) G ⟨H,.refl,.nil⟩ λ ρ' u w' aj=>?_;have fr:Fr ⟨fn.ntmps,[]⟩ [] u:=⟨aj.r.dZ.et.size,aj.r.dZ.et.defers,λ t v h=>by simp[ey]at h⟩
   have fin:∀ {j},Jw E t.s fn.results.toList=some j->(⟨.ret (sM j),t.s.bl,t.s.ws⟩:fS E.T.El)=r->bodyPost E.P fn (λ e w'=>∃ρ',Mem E.T W M0 X r.bl ρ' w'/\To X bl r.bl ρ ρ' w w'/\h3 bl ρ w w' r.ws/\AZ E X r.bl ρ' w' r.e e) .ret u w':=λ{j} k K=>by subst K;obtain⟨us,L,M⟩:=am8 aj.r k;exact Sf (rs:=fn.results.toList) (by simp) fr L ⟨ρ',aj.r.mem,aj.to,aj.wr,aan M⟩
   unfold ag5 at J;cases ad:t.x with
   |nm=>rw[ad]at J;simp only at J;split at J;rename_i j k;exact fin k J;exact J.elim
   |rt=>rw[ad]at J;simp only at J;split at J;rename_i j k;exact fin k J;exact J.elim
   |ex i=>rw[ad]at J;exact J.elim
   |iX y=>rw[ad]at J;have J:(⟨.CC y,t.s.bl,t.s.ws⟩:fS E.T.El)=r:=J;subst J;intro v N O o;exact⟨o.trans aj.r.dZ.et.defers,ρ',aj.r.mem,aj.to,aj.wr,v,rfl,N⟩
  ·exact b.elim
 ·exact b.elim
theorem m'(a1:dr E)(c:OP E l8)(d:xN E LE):∀k,mP E (H8 E l8 LE k)
 |0=>⟨λ f ys bl r b=>b.elim⟩
 |k+1=>⟨λ f ys bl r b=>by
  simp only[H8]at b;split at b;rename_i h e;exact⟨a1.call f (c.cm f h e),c.ok f h e ys bl r b⟩
  ·exact(PP a1 (m' a1 c d k) d).ok f ys bl r b⟩
end
inductive jL
 |i (k:IntKind)
 |b
 |s
 |y
 |l (t:Nat)
section
variable(El:Nat->Type)
@[reducible] def LT:jL->Type
  | .i _=>Int
  | .b=>Bool
  | .s=>List UInt8
  | .y=>UInt8
  | .l t=>List (El t)
@[reducible] def oJ:List jL->Type
  |[]=>Unit
  |f::r=>LT El f×oJ r
end
section
variable{El:Nat->Type}
def HU:(f:jL)->LT El f->aL El
 | .i k,d=>.p (.int k d)
 | .b,d=>.p (.bool d)
 | .s,d=>.p (cu d)
 | .y,d=>.p (.int .u8 ((d:UInt8).toNat:Int))
 | .l t,d=>.s t d
def sf:(ls:List jL)->oJ El ls->List (aL El)
 |[],_=>[]
 |f::r,d=>HU f d.1::sf r d.2
def EH{t' t:Nat}(l:List (El t')):Option (List (El t)):=match kr t' t with
 |isTrue h=>some (h▸l)
 |isFalse _=>none
def QL(k:IntKind):aL El->Option Int
 | .p (.int j m)=>match o1 j k with
   |true=>some m
   |false=>none
 |_=>none
def QK:aL El->Option Bool
 | .p (.bool d)=>some d
 |_=>none
def QM:aL El->Option (List UInt8)
 | .p (.string ⟨⟨d⟩⟩)=>some d
 |_=>none
def YS:aL El->Option UInt8
 | .p (.int .u8 (.ofNat m))=>match eN m 256 with
   |true=>some (UInt8.ofNat m)
   |false=>none
 |_=>none
def QN(t:Nat):aL El->Option (List (El t))
 | .s _ l=>EH l
 | .q _ l=>EH l
 | .p (.slice none 0 0)=>some []
 |_=>none
def ajS:(f:jL)->aL El->Option (LT El f)
 | .i k,y=>QL k y
 | .b,y=>QK y
 | .s,y=>QM y
 | .y,y=>YS y
 | .l t,y=>QN t y
def FK:(ls:List jL)->List (aL El)->Option (oJ El ls)
 |[],[]=>some ()
 |f::r,y::ys=>match ajS f y,FK r ys with
  |some d,some ds=>some (d,ds)
  |_,_=>none
 |_,_=>none
def Nd(ty:(t:Nat)->dt (El t))(F:Nat->Prop)(w:World):(f:jL)->Value->LT El f->Prop
 | .i k,v,d=>v= .int k d
 | .b,v,d=>v= .bool d
 | .s,v,d=>v=cu d
 | .y,v,d=>v= .int .u8 ((d:UInt8).toNat:Int)
 | .l t,v,d=>(b2 (ty t)).rd F w [v] d
def fC(ty:(t:Nat)->dt (El t))(F:Nat->Prop)(w:World):(ls:List jL)->List Value->oJ El ls->Prop
 |[],xs,_=>xs=[]
 |f::r,xs,d=>∃v vs,xs=v::vs/\Nd ty F w f v d.1/\fC ty F w r vs d.2
theorem amW{ty:(t:Nat)->dt (El t)}{F:Nat->Prop}{w:World}:∀ {ls:List jL}{xs:List Value}{d:oJ El ls},fC ty F w ls xs d->xs.length=ls.length
 |[],xs,d,h=>by simp only[fC]at h;subst h;rfl
 |f::r,xs,d,h=>by obtain⟨v,vs,rfl,_,J⟩:=h;simp[amW J]
theorem aJG{ty:(t:Nat)->dt (El t)}{F:Nat->Prop}{w:World}{f:jL}{v:Value}{d:LT El f}(h:Nd ty F w f v d):v.oneCell'=true:=by
 cases f with
 |l t=>exact(b2 (ty t)).one h v (by simp)
 |_=>simp only[Nd]at h;subst h;rfl
theorem amX{ty:(t:Nat)->dt (El t)}{F:Nat->Prop}{w:World}:∀ {ls:List jL}{xs:List Value}{d:oJ El ls},fC ty F w ls xs d->∀v∈xs,v.oneCell'=true
 |[],xs,d,h=>by simp only[fC]at h;subst h;simp
 |f::r,xs,d,h=>by obtain⟨v,vs,rfl,a,J⟩:=h;intro u hu;rcases cG.1 hu with rfl |hu;exact aJG a;exact amX J u hu
theorem amV{ty:(t:Nat)->dt (El t)}{F F':Nat->Prop}{w w':World}(a:∀k,F k->F' k/\w'.heap[k]? =w.heap[k]?):∀ {ls:List jL}{xs:List Value}{d:oJ El ls},fC ty F w ls xs d->fC ty F' w' ls xs d
 |[],xs,d,h=>h
 |f::r,xs,d,h=>by
  obtain⟨v,vs,e,b,J⟩:=h;refine⟨v,vs,e,?_,amV a J⟩;cases f with
  |l t=>exact(b2 (ty t)).law a b
  |_=>exact b
def aLC{α:Type}(ty:(t:Nat)->dt (El t))(ls:List jL)(fr:α->oJ El ls):dt α where
 size:=ls.length
 rd F w xs d:=fC ty F w ls xs (fr d)
 len h:=amW h
 one h:=amX h
 law a h:=amV a h
def fD(es:List (Σ t,b3 El t)){t:Nat}(agg:Bool)(ls:List jL)(fr:El t->oJ El ls)(to:oJ El ls->El t)(eq:Option (El t->El t->Bool))(key:Option (jd (El t))):b3 El t:=⟨aLC (λ t=>(gf es t).ty) ls fr,agg,λ d=>sf ls (fr d),λ l=>(FK ls l).map to,eq,key⟩
end
structure eU (T:bQ) (t:Nat) (e:b3 T.El t):Prop where
 cs:∀d F w xs,e.ty.rd F w xs d->aZ T F w [] [] (e.cs d) xs
 ix:∀l d,e.ix l=some d->∀F w ρ bl xs,aZ T F w ρ bl l xs->e.ty.rd F w xs d
 key:∀K,e.key=some K->∀F w xs k,e.ty.rd F w xs k->Cy e.agg xs= @nQ.enc _ K.dec K.uw k
 one:e.agg=false->∀d,(e.cs d).length=1
def VI(T:bQ):List (Σ t,b3 T.El t)->Prop
 |[]=>True
 |p::r=>eU T p.1 p.2/\VI T r
theorem aLf{T:bQ}{t:Nat}:eU T t b3.no:=⟨λ d F w xs h=>h.elim,(λ l d h=>by cases h),(λ K h=>by cases h),(λ h=>by cases h)⟩
theorem NM{T:bQ}{t:Nat}:∀ {es:List (Σ t,b3 T.El t)},VI T es->eU T t (gf es t)
 |[],_=>aLf
 |p::r,h=>by simp only[gf];split;rename_i e _;subst e;exact h.1;exact NM h.2
theorem aLe{T:bQ}(h:VI T T.es):A2 T:=⟨λ t=>(NM h (t:=t)).cs,λ t=>(NM h (t:=t)).ix,λ t=>(NM h (t:=t)).key,λ t=>(NM h (t:=t)).one⟩
def zr(T:bQ)(ty:(t:Nat)->dt (T.El t)):List jL->Prop
 |[]=>True
 | .l t::r=>ty t=T.ty t/\zr T ty r
 |_::r=>zr T ty r
section
variable{T:bQ}{F:Nat->Prop}{w:World}{ρ:List Value}{bl:List (aG T.El)}
theorem HV{ty:(t:Nat)->dt (T.El t)}:∀ {ls:List jL}{xs:List Value}{d:oJ T.El ls},zr T ty ls->fC ty F w ls xs d->aZ T F w ρ bl (sf ls d) xs
 |[],xs,d,_,h=>by simp only[fC]at h;subst h;simp[sf,aZ]
 |f::r,xs,d,c,h=>by
  obtain⟨v,vs,rfl,e,J⟩:=h;cases f with
  |l t=>have a:=HV c.2 J;simp only[sf,aZ];refine⟨v,vs,rfl,?_,a⟩;simp only[HU,av];simp only[Nd,c.1]at e;exact e
  |i k=>have a:=HV (ty:=ty) (ls:=r) c J;simp only[sf,aZ];exact⟨v,vs,rfl,by simp only[HU,av];exact e,a⟩
  |b=>have a:=HV (ty:=ty) (ls:=r) c J;simp only[sf,aZ];exact⟨v,vs,rfl,by simp only[HU,av];exact e,a⟩
  |s=>have a:=HV (ty:=ty) (ls:=r) c J;simp only[sf,aZ];exact⟨v,vs,rfl,by simp only[HU,av];exact e,a⟩
  |y=>have a:=HV (ty:=ty) (ls:=r) c J;simp only[sf,aZ];exact⟨v,vs,rfl,by simp only[HU,av];exact e,a⟩
theorem af5{t' t:Nat}{l:List (T.El t')}{l':List (T.El t)}(h:EH l=some l'){xs:List Value}(a:(b2 (T.ty t')).rd F w xs l):(b2 (T.ty t)).rd F w xs l':=by unfold EH at h;split at h;rename_i e _;subst e;simp only[aM]at h;subst h;exact a;cases h
theorem ajT{k:IntKind}{y:aL T.El}{d:Int}{v:Value}(h:QL k y=some d)(a:av T F w ρ bl y v):v= .int k d:=by unfold QL at h;split at h;split at h;rename_i b;have:=q_ b;subst this;simp only[aM]at h;subst h;simpa only[av]using a;cases h;cases h
theorem ajR{y:aL T.El}{d:Bool}{v:Value}(h:QK y=some d)(a:av T F w ρ bl y v):v= .bool d:=by unfold QK at h;split at h;simp only[aM]at h;subst h;simpa only[av]using a;cases h
theorem ajV{y:aL T.El}{d:List UInt8}{v:Value}(h:QM y=some d)(a:av T F w ρ bl y v):v=cu d:=by unfold QM at h;split at h;simp only[aM]at h;subst h;simpa only[av]using a;cases h
theorem aDs{y:aL T.El}{d:UInt8}{v:Value}(h:YS y=some d)(a:av T F w ρ bl y v):v= .int .u8 (d.toNat:Int):=by
 unfold YS at h;split at h
 ·rename_i m;split at h
  ·rename_i ag;simp only[aM]at h;subst h;have b:m<256:=cJ ag;simp only[av]at a;have:(UInt8.ofNat m).toNat=m:=by simp;omega
   rw[a,this];rfl
  ·cases h
 ·cases h
theorem ajW{t:Nat}{y:aL T.El}{d:List (T.El t)}{v:Value}(h:QN t y=some d)(a:av T F w ρ bl y v):(b2 (T.ty t)).rd F w [v] d:=by unfold QN at h;split at h;simp only[av]at a;exact af5 h a;simp only[av]at a;exact af5 h a.1;simp only[aM]at h;subst h;simp only[av]at a;subst a;exact⟨none,0,rfl,cP _,fY _,λ _=>rfl,λ h=>absurd rfl h⟩;cases h
theorem aDq{ty:(t:Nat)->dt (T.El t)}{f:jL}{y:aL T.El}{d:LT T.El f}{v:Value}(c:zr T ty [f])(h:ajS f y=some d)(a:av T F w ρ bl y v):Nd ty F w f v d:=by
 cases f with
 |i k=>exact ajT h a
 |b=>exact ajR h a
 |s=>exact ajV h a
 |y=>exact aDs h a
 |l t=>
  have:=ajW h a;show(b2 (ty t)).rd F w [v] d
  rw[c.1];exact this
theorem aFM{ty:(t:Nat)->dt (T.El t)}{f:jL}{r:List jL}(h:zr T ty (f::r)):zr T ty [f]/\zr T ty r:=by
 cases f with
 |l t=>exact⟨⟨h.1,trivial⟩,h.2⟩
 |_=>exact⟨trivial,h⟩
theorem ajU{ty:(t:Nat)->dt (T.El t)}:∀ {ls:List jL}{ys:List (aL T.El)}{d:oJ T.El ls}{xs:List Value},zr T ty ls->FK ls ys=some d->aZ T F w ρ bl ys xs->fC ty F w ls xs d
 |[],[],d,xs,_,_,a=>by simp only[aZ]at a;simp only[fC];exact a
 |f::r,y::ys,d,xs,b,h,a=>by simp only[FK]at h;split at h;rename_i e es c J;have h:=ee h;subst h;simp only[aZ]at a;obtain⟨u,us,rfl,g,i⟩:=a;obtain⟨l1,j⟩:=aFM b;exact⟨u,us,rfl,aDq l1 c g,ajU j J i⟩;cases h
 |[],y::ys,d,xs,_,h,_=>by simp[FK]at h
 |f::r,[],d,xs,_,h,_=>by simp[FK]at h
theorem agh:∀ {ls:List jL}{d:oJ T.El ls},(sf ls d).length=ls.length
 |[],d=>rfl
 |f::r,d=>by simp[sf,agh (ls:=r)]
theorem fL{es:List (Σ t,b3 T.El t)}{t:Nat}{agg:Bool}{ls:List jL}{fr:T.El t->oJ T.El ls}{to:oJ T.El ls->T.El t}{eq:Option (T.El t->T.El t->Bool)}{key:Option (jd (T.El t))}
 (a:zr T (λ t=>(gf es t).ty) ls)(b:∀p,fr (to p)=p)(c:agg=false->ls.length=1)(e:∀K,key=some K->∀F w xs k,fC (λ t=>(gf es t).ty) F w ls xs (fr k)->Cy agg xs= @nQ.enc _ K.dec K.uw k):eU T t (fD es agg ls fr to eq key):=by
 refine⟨λ d F w xs h=>HV a h,λ l d h F w ρ bl xs f=>?_,e,λ h d=>by
  show(sf ls (fr d)).length=1
  rw[agh];exact c h⟩
 obtain⟨p,g,J⟩:=cF.1 (show(FK ls l).map to=some d from h)
 subst J
 show fC _ F w ls xs (fr (to p))
 rw[b]
 exact ajU a g f
end
def ag3:List (Nat×Type)->Nat->Type
 |[],_=>Empty
 |p::r,t=>match kr p.1 t with
  |isTrue _=>p.2
  |isFalse _=>ag3 r t
def wy:jd Int:=⟨inferInstance,aD_⟩
def Mq:jd (List UInt8):=⟨inferInstance,o3⟩
inductive j_
 |i (k:IntKind)
 |b
 |s
 |l (t:Nat)
 |x (t:Nat)
 |n (kt vt:Nat)
 |hB
 |B (j:Nat)
 |R (j:Nat)
 |M (j:Nat)
 |P (j sz:Nat)
 |F (g:Nat) (ed:List Nat)
inductive cy
 |p (p:j_)
 |a (ps:List j_)
 |f (g:Nat) (ps:List j_)
@[reducible] def lS : j_:= .i .i64
@[reducible] def lL : cy:= .p (.i .i64)
@[reducible] def lO : cy:= .p (.l 3)
@[reducible] def lQ : cy:= .p (.b)
inductive bJ
 |c (ty:Nat) (ps:List j_)
 |r (t:Nat) (same:Bool)
 |m (kt vt:Nat)
 |d
section
variable(El:Nat->Type)
@[reducible] def Au:j_->Type
  | .i _=>Int
  | .b=>Bool
  | .s=>List UInt8
  | .l t=>List (El t)
  | .x t=>El t
  | .n kt vt=>List (El kt×El vt)
  | .P _ _=>List Int
  |_=>Unit
@[reducible] def xL:List j_->Type
  |[]=>Unit
  |p::r=>Au El p×xL r
@[reducible] def Hm:cy->Type
  | .p p=>Au El p
  | .a ps=>xL El ps
  | .f _ ps=>xL El ps
@[reducible] def dy:List cy->Type
  |[]=>Unit
  |p::r=>Hm El p×dy r
@[reducible] def vy:bJ->Type
  | .c _ ps=>xL El ps
  | .r t _=>List (El t)
  | .m kt vt=>List (El kt×El vt)
  | .d=>Unit
@[reducible] def cK:List bJ->Type
  |[]=>Unit
  |p::r=>vy El p×cK r
end
def fG(post:Bool):Option bJ->Nat
 |some (.r _ same)=>match post,same with
  |true,false=>1
  |_,_=>0
 |some .d=>match post with
  |true=>1
  |false=>0
 |_=>0
def C2(post:Bool):Nat:=match post with
 |true=>1
 |false=>0
section
variable{El:Nat->Type}
def hC(σ g:Nat->Nat):(p:j_)->Au El p->aL El
 | .i k,d=>.p (.int k d)
 | .b,d=>.p (.bool d)
 | .s,d=>.p (cu d)
 | .l t,d=>.s t d
 | .x t,d=>.x t d 0
 | .n kt vt,d=>.n kt vt d
 | .hB,_=>.p (.pointer none)
 | .B j,_=>.b (σ j) 0
 | .R j,_=>.r (σ j) (g j)
 | .M j,_=>.m (σ j)
 | .P j sz,d=>.pp (σ j) (g j) sz d
 | .F fn ed,_=>.f (.func fn) (ed.map λ j=>.b (σ j) 0)
def uS(σ g:Nat->Nat):(ps:List j_)->xL El ps->List (aL El)
 |[],_=>[]
 |p::r,d=>hC σ g p d.1::uS σ g r d.2
def CG(σ g:Nat->Nat):(p:cy)->Hm El p->aL El
 | .p p,d=>hC σ g p d
 | .a ps,d=>.a (uS σ g ps d)
 | .f fn ps,d=>.f (.func fn) (uS σ g ps d)
def gZ(σ g:Nat->Nat):(ps:List cy)->dy El ps->List (aL El)
 |[],_=>[]
 |p::r,d=>CG σ g p d.1::gZ σ g r d.2
def dG(σ g:Nat->Nat)(post:Bool):(p:bJ)->vy El p->aG El
 | .c ty ps,d=>.c ty (uS σ g ps d)
 | .r t same,d=>.r t (fG post (some (.r t same))) (C2 post) d
 | .m kt vt,d=>.m kt vt d
 | .d,_=>.no (fG post (some .d))
def bN(σ g:Nat->Nat)(post:Bool):(ps:List bJ)->cK El ps->List (aG El)
 |[],_=>[]
 |p::r,d=>dG σ g post p d.1::bN σ g post r d.2
def O5:List (Nat×Nat)->Nat->Bool
 |[],_=>true
 |p::r,i=>!cx p.2 i&&O5 r i
def x1(aX:List (Nat×Nat))(j i:Nat):Option (List (Nat×Nat)):=match cH aX j with
 |some i'=>match cx i' i with
  |true=>some aX
  |false=>none
 |none=>match O5 aX i with
  |true=>some ((j,i)::aX)
  |false=>none
def Vb{t' t:Nat}(d:El t'):Option (El t):=match kr t' t with
 |isTrue h=>some (h▸d)
 |isFalse _=>none
def Ph{k' a k v:Nat}(d:List (El k'×El a)):Option (List (El k×El v)):=match kr k' k,kr a v with
 |isTrue h,isTrue h'=>some (h▸h'▸d)
 |_,_=>none
def aiq(t:Nat):aL El->Option (El t)
 | .x _ d 0=>Vb d
 |_=>none
def aip(kt vt:Nat):aL El->Option (List (El kt×El vt))
 | .n _ _ d=>Ph d
 |_=>none
def nV:List (Nat×Nat)->List Nat->List (aL El)->Option (List (Nat×Nat))
 |aX,[],[]=>some aX
 |aX,j::r,.b i 0::ys=>match x1 aX j i with
  |some a=>nV a r ys
  |none=>none
 |_,_,_=>none
def jw(bl:List (aG El))(aX:List (Nat×Nat)):(p:j_)->aL El->Option (Au El p×List (Nat×Nat))
 | .i k,y=>(QL k y).map λ d=>(d,aX)
 | .b,y=>(QK y).map λ d=>(d,aX)
 | .s,y=>(QM y).map λ d=>(d,aX)
 | .l t,y=>(QN t y).map λ d=>(d,aX)
 | .x t,y=>(aiq t y).map λ d=>(d,aX)
 | .n kt vt,y=>(aip kt vt y).map λ d=>(d,aX)
 | .hB,y=>match y with
   | .p (.pointer none)=>some ((),aX)
   |_=>none
 | .B j,y=>match y with
   | .b i 0=>(x1 aX j i).map λ aX=>((),aX)
   |_=>none
 | .R j,y=>match y with
   | .r i g=>match cx g (v7 bl i)with
     |true=>(x1 aX j i).map λ aX=>((),aX)
     |false=>none
   |_=>none
 | .M j,y=>match y with
   | .m i=>(x1 aX j i).map λ aX=>((),aX)
   |_=>none
 | .P j sz,y=>match y with
   | .pp i a b ed=>match cx a (v7 bl i)&&cx b sz with
     |true=>(x1 aX j i).map λ aX=>(ed,aX)
     |false=>none
   |_=>none
 | .F g ed,y=>match y with
   | .f (.func g') cs=>match cx g' g with
     |true=>(nV aX ed cs).map λ aX=>((),aX)
     |false=>none
   |_=>none
def p1(bl:List (aG El)):(aX:List (Nat×Nat))->(ps:List j_)->List (aL El)->Option (xL El ps×List (Nat×Nat))
 |aX,[],[]=>some ((),aX)
 |aX,p::r,y::ys=>match jw bl aX p y with
  |some (d,a)=>match p1 bl a r ys with
   |some (ds,b)=>some ((d,ds),b)
   |none=>none
  |none=>none
 |_,_,_=>none
def Lc(bl:List (aG El))(aX:List (Nat×Nat)):(p:cy)->aL El->Option (Hm El p×List (Nat×Nat))
 | .p p,y=>jw bl aX p y
 | .a ps,y=>p1 bl aX ps (cellsOf y)
 | .f g ps,y=>match y with
   | .f (.func g') ys=>match cx g' g with
     |true=>p1 bl aX ps ys
     |false=>none
   |_=>none
def UZ:cy->aL El->Bool
 | .a _,y=>nq y
 |_,_=>true
def nU(bl:List (aG El)):(aX:List (Nat×Nat))->(ps:List cy)->List (aL El)->Option (dy El ps×List (Nat×Nat))
 |aX,[],[]=>some ((),aX)
 |aX,p::r,y::ys=>match UZ p y,Lc bl aX p y with
  |true,some (d,a)=>match nU bl a r ys with
   |some (ds,b)=>some ((d,ds),b)
   |none=>none
  |_,_=>none
 |_,_,_=>none
end
section
variable{T:bQ}{F F':Nat->Prop}{w:World}{ρ ρ':List Value}{bl bl':List (aG T.El)}{g:Nat->Nat}
theorem vO{aX a:List (Nat×Nat)}{j i:Nat}(h:x1 aX j i=some a):cH a j=some i/\∀p∈aX,p∈a:=by unfold x1 at h;split at h;rename_i i' hi;split at h;rename_i ag;simp only[aM]at h;subst h;rw[<-bF ag];exact⟨hi,λ p b=>b⟩;cases h;split at h;simp only[aM]at h;subst h;exact⟨by simp[cH],λ p b=>eD _ b⟩;cases h
structure ts (σ:Nat->Nat) (aX:List (Nat×Nat)) (ρ ρ':List Value):Prop where
 at_:∀p∈aX,ρ'[σ p.1]? =ρ[p.2]?
theorem awO{t' t:Nat}{d:T.El t'}{d':T.El t}(h:Vb d=some d'){cs:List Value}(a:(T.ty t').rd F w cs d):(T.ty t).rd F w cs d':=by unfold Vb at h;split at h;rename_i e _;subst e;simp only[aM]at h;subst h;exact a;cases h
theorem af4{k' a k v r:Nat}{d:List (T.El k'×T.El a)}{d':List (T.El k×T.El v)}(h:Ph d=some d')(b:AC T F w k' a r d):AC T F w k v r d':=by unfold Ph at h;split at h;rename_i e e' _ _;subst e;subst e';simp only[aM]at h;subst h;exact b;cases h
theorem Xm:∀ {ed:List Nat}{cs:List (aL T.El)}{aX a:List (Nat×Nat)},nV aX ed cs=some a->∀q∈aX,q∈a
 |[],[],aX,a,h=>by simp only[nV,aM]at h;subst h;exact λ q b=>b
 |j::r,y::ys,aX,a,h=>by unfold nV at h;split at h;rename_i e;cases e;rename_i e1 e2;simp only[hq]at e1 e2;obtain⟨rfl,rfl⟩:=e1;obtain⟨_,rfl⟩:=e2;split at h;rename_i c;exact λ q b=>Xm h q ((vO c).2 q b);cases h;cases h
 |[],y::ys,aX,a,h=>by simp[nV]at h
 |j::r,[],aX,a,h=>by simp[nV]at h
theorem ail{σ:Nat->Nat}:∀ {ed:List Nat}{cs:List (aL T.El)}{aX b:List (Nat×Nat)}{vs:List Value},ts σ b ρ ρ'->nV aX ed cs=some b->aZ T F w ρ bl cs vs->aZ T F' w ρ' bl' (ed.map λ j=>.b (σ j) 0) vs
 |[],[],aX,b,vs,c,h,a=>by simp only[aZ]at a;subst a;simp[aZ]
 |j::r,y::ys,aX,b,vs,c,h,a=>by unfold nV at h;split at h;rename_i e;cases e;rename_i e1 e2;simp only[hq]at e1 e2;obtain⟨rfl,rfl⟩:=e1;obtain⟨rfl,rfl⟩:=e2;split at h;rename_i d;have e:=c.at_ _ (Xm h _ (qb (vO d).1));simp only[aZ,av]at a;obtain⟨u,us,rfl,⟨f,e1,e2⟩,e3⟩:=a;simp only[ea,aZ,av];exact⟨u,us,rfl,⟨f,e.trans e1,e2⟩,ail c h e3⟩;cases h;cases h
 |[],y::ys,aX,b,vs,c,h,a=>by simp[nV]at h
 |j::r,[],aX,b,vs,c,h,a=>by simp[nV]at h
theorem aio{aX c:List (Nat×Nat)}:∀ {p:j_}{y:aL T.El}{d:Au T.El p},jw bl aX p y=some (d,c)->∀q∈aX,q∈c
 | .i k,y,d,h=>by obtain⟨x,_,h⟩:=cF.1 h;cases h;exact λ q a=>a
 | .b,y,d,h=>by obtain⟨x,_,h⟩:=cF.1 h;cases h;exact λ q a=>a
 | .s,y,d,h=>by obtain⟨x,_,h⟩:=cF.1 h;cases h;exact λ q a=>a
 | .l t,y,d,h=>by obtain⟨x,_,h⟩:=cF.1 h;cases h;exact λ q a=>a
 | .x t,y,d,h=>by obtain⟨x,_,h⟩:=cF.1 h;cases h;exact λ q a=>a
 | .n kt vt,y,d,h=>by obtain⟨x,_,h⟩:=cF.1 h;cases h;exact λ q a=>a
 | .hB,y,d,h=>by simp only[jw]at h;split at h;cases h;exact λ q a=>a;cases h
 | .B j,y,d,h=>by simp only[jw]at h;split at h;obtain⟨x,b,h⟩:=cF.1 h;cases h;exact(vO b).2;cases h
 | .R j,y,d,h=>by simp only[jw]at h;split at h;split at h;obtain⟨x,b,h⟩:=cF.1 h;cases h;exact(vO b).2;cases h;cases h
 | .M j,y,d,h=>by simp only[jw]at h;split at h;obtain⟨x,b,h⟩:=cF.1 h;cases h;exact(vO b).2;cases h
 | .P j sz,y,d,h=>by simp only[jw]at h;split at h;split at h;obtain⟨x,b,h⟩:=cF.1 h;cases h;exact(vO b).2;cases h;cases h
 | .F g ed,y,d,h=>by simp only[jw]at h;split at h;split at h;obtain⟨x,b,h⟩:=cF.1 h;cases h;exact Xm b;cases h;cases h
theorem ain{σ:Nat->Nat}(l:∀k,F k->F' k)(u:∀j,g j=b1 bl'[σ j]?){aX z:List (Nat×Nat)}(m:ts σ z ρ ρ'):∀ {p:j_}{y:aL T.El}{d:Au T.El p}{v:Value},jw bl aX p y=some (d,z)->av T F w ρ bl y v->av T F' w ρ' bl' (hC σ g p d) v
 | .i k,y,d,v,h,b=>by obtain⟨x,f,h⟩:=cF.1 h;cases h;simp only[hC,av];exact ajT f b
 | .b,y,d,v,h,b=>by obtain⟨x,f,h⟩:=cF.1 h;cases h;simp only[hC,av];exact ajR f b
 | .s,y,d,v,h,b=>by obtain⟨x,f,h⟩:=cF.1 h;cases h;simp only[hC,av];exact ajV f b
 | .l t,y,d,v,h,b=>by obtain⟨x,f,h⟩:=cF.1 h;cases h;simp only[hC,av];exact(b2 (T.ty t)).law (λ k n=>⟨l k n,rfl⟩) (ajW f b)
 | .x t,y,d,v,h,b=>by obtain⟨x,f,h⟩:=cF.1 h;cases h;unfold aiq at f;split at f;simp only[av]at b;obtain⟨a,q,cs,e1,e2,e3,e4⟩:=b;simp only[hC,av];exact⟨a,q,cs,e1,l a e2,(T.ty t).law (λ k n=>⟨l k n,rfl⟩) (awO f e3),e4⟩;cases f
 | .n kt vt,y,d,v,h,b=>by obtain⟨x,f,h⟩:=cF.1 h;cases h;unfold aip at f;split at f;simp only[av]at b;obtain⟨r,e1,e2,e3⟩:=b;simp only[hC,av];exact⟨r,e1,l r e2,(af4 f e3).law (λ k n=>⟨l k n,rfl⟩) rfl⟩;cases f
 | .hB,y,d,v,h,b=>by simp only[jw]at h;split at h;simp only[av]at b;simp only[hC,av];exact b;cases h
 | .B j,y,d,v,h,b=>by simp only[jw]at h;split at h;rename_i i;obtain⟨x,f,h⟩:=cF.1 h;cases h;have e:=m.at_ _ (qb (vO f).1);simp only[av]at b;obtain⟨o,e1,e2⟩:=b;simp only[hC,av];exact⟨o,e.trans e1,e2⟩;cases h
 | .R j,y,d,v,h,b=>by simp only[jw]at h;split at h;rename_i i C;split at h;rename_i ag;have ag:=bF ag;rw[EX]at ag;obtain⟨x,f,h⟩:=cF.1 h;cases h;have e:=m.at_ _ (qb (vO f).1);simp only[av]at b;obtain⟨b8,s,e1,e2,e3⟩:=b;simp only[hC,av];exact⟨b8,s,e.trans e1,by rw[u];exact cP _,λ _=>e3 ag⟩;cases h;cases h
 | .M j,y,d,v,h,b=>by simp only[jw]at h;split at h;rename_i i;obtain⟨x,f,h⟩:=cF.1 h;cases h;have e:=m.at_ _ (qb (vO f).1);simp only[av]at b;obtain⟨o,e1,e2⟩:=b;simp only[hC,av];exact⟨o,e.trans e1,e2⟩;cases h
 | .P j sz,y,d,v,h,b=>by simp only[jw]at h;split at h;rename_i i C N ed;split at h;rename_i ag;simp only[ca]at ag;have B:=bF ag.1;have D:=bF ag.2;subst D;rw[EX]at B;obtain⟨x,f,h⟩:=cF.1 h;cases h;have e:=m.at_ _ (qb (vO f).1);simp only[av]at b;obtain⟨A,c,e1,e2,e3,e4⟩:=b;simp only[hC,av];refine⟨A,c,e1,e2,e3,λ E=>?_⟩;obtain⟨G,H,xs,I,J⟩:=e4 E;exact⟨G,l _ H,xs,I.imp λ q v ⟨K,s,L,O,M⟩=>⟨K,s,e.trans L,by rw[u];exact cP _,λ _=>M B⟩,J⟩;cases h;cases h
 | .F g ed,y,d,v,h,b=>by simp only[jw]at h;split at h;rename_i g' cs;split at h;rename_i ag;have ag:=bF ag;subst ag;obtain⟨x,f,h⟩:=cF.1 h;cases h;simp only[av]at b;obtain⟨vs,e1,e2⟩:=b;simp only[hC,av];exact⟨vs,e1,ail m f e2⟩;cases h;cases h
end
section
variable{El:Nat->Type}
def jO(bl:List (aG El))(aX:List (Nat×Nat))(post:Bool):(p:bJ)->aG El->Option (vy El p×List (Nat×Nat))
 | .c ty ps,B=>match B with
   | .c a cs=>match cx a ty with
     |true=>p1 bl aX ps cs
     |false=>none
   |_=>none
 | .r t same,B=>match B with
   | .r _ g _ l=>match !post|| !same||cx g 0 with
     |true=>(EH l).map λ d=>(d,aX)
     |false=>none
   |_=>none
 | .m kt vt,B=>match B with
   | .m _ _ d=>(Ph d).map λ d=>(d,aX)
   |_=>none
 | .d,B=>match B with
   | .c _ _=>some ((),aX)
   | .r _ _ _ _=>some ((),aX)
   | .m _ _ _=>some ((),aX)
   | .no _=>some ((),aX)
   | .z _ _ _ _=>some ((),aX)
   |_=>none
def p0(bl:List (aG El))(post:Bool):List (Nat×Nat)->Nat->(ps:List bJ)->Option (cK El ps×List (Nat×Nat))
 |aX,_,[]=>some ((),aX)
 |aX,k,p::r=>match cH aX k with
  |some i=>match nth bl i with
   |some B=>match jO bl aX post p B with
    |some (d,a)=>match p0 bl post a (k+1) r with
     |some (ds,b)=>some ((d,ds),b)
     |none=>none
    |none=>none
   |none=>none
  |none=>none
def Mi(aX:List (Nat×Nat)):Nat->Nat->Option (List Nat)
 |_,0=>some []
 |k,n+1=>match cH aX k,Mi aX (k+1) n with
  |some i,some r=>some (i::r)
  |_,_=>none
def O3(n:Nat):List (Nat×Nat)->Bool
 |[]=>true
 |p::r=>eN p.1 n&&O3 n r
def jx(bl:List (aG El))(aX:List (Nat×Nat))(post:Bool)(pas:List cy)(pbs:List bJ)(ys:List (aL El)):Option ((dy El pas×cK El pbs)×List Nat):=
 match nU bl aX pas ys with
 |some (da,b)=>match p0 bl post b 0 pbs with
  |some (db,a)=>match Mi a 0 pbs.length,O3 pbs.length a with
   |some sel,true=>some ((da,db),sel)
   |_,_=>none
  |none=>none
 |none=>none
end
structure kP (aX:List (Nat×Nat)):Prop where
 fn:∀p∈aX,∀q∈aX,p.1=q.1 ->p.2=q.2
 inj:∀p∈aX,∀q∈aX,p.2=q.2 ->p.1=q.1
theorem akU{α:Type}{j:Nat}:∀ {l:List (Nat×α)},cH l j=none->∀p∈l,p.1≠j
 |[],_,p,aC=>by simp at aC
 |q::r,h,p,aC=>by simp only[cH]at h;split at h;cases h;rename_i ag;rcases cG.1 aC with rfl |aC;intro e;subst e;simp at ag;exact akU h p aC
theorem afu{i:Nat}:∀ {l:List (Nat×Nat)},O5 l i=true->∀p∈l,p.2≠i
 |[],_,p,aC=>by simp at aC
 |q::r,h,p,aC=>by simp only[O5,ca,gG]at h;rcases cG.1 aC with rfl |aC;intro e;rw[e]at h;simp at h;exact afu h.2 p aC
theorem KL{aX a:List (Nat×Nat)}{j i:Nat}(h:x1 aX j i=some a)(aK:kP aX):kP a:=by unfold x1 at h;split at h;split at h;simp only[aM]at h;subst h;exact aK;cases h;rename_i c;split at h;rename_i d;simp only[aM]at h;subst h;have b:=akU c;have J:=afu d;refine⟨λ p aC q aO e=>?_,λ p aC q aO e=>?_⟩;rcases cG.1 aC with rfl |aC<;>rcases cG.1 aO with rfl |aO;rfl;exact absurd e.symm (b q aO);exact absurd e (b p aC);exact aK.fn p aC q aO e;rcases cG.1 aC with rfl |aC<;>rcases cG.1 aO with rfl |aO;rfl;exact absurd e.symm (J q aO);exact absurd e (J p aC);exact aK.inj p aC q aO e;cases h
section
variable{T:bQ}{F F':Nat->Prop}{w:World}{ρ ρ':List Value}{bl bl':List (aG T.El)}{σ g:Nat->Nat}
theorem aik:∀ {ed:List Nat}{cs:List (aL T.El)}{aX a:List (Nat×Nat)},kP aX->nV aX ed cs=some a->kP a
 |[],[],aX,a,aK,h=>by simp only[nV,aM]at h;subst h;exact aK
 |j::r,y::ys,aX,a,aK,h=>by unfold nV at h;split at h;rename_i e;cases e;rename_i e1 e2;simp only[hq]at e1 e2;obtain⟨rfl,rfl⟩:=e1;obtain⟨_,rfl⟩:=e2;split at h;rename_i b;exact aik (KL b aK) h;cases h;cases h
 |[],y::ys,aX,a,aK,h=>by simp[nV]at h
 |j::r,[],aX,a,aK,h=>by simp[nV]at h
theorem aim{aX b:List (Nat×Nat)}(aK:kP aX):∀ {p:j_}{y:aL T.El}{d:Au T.El p},jw bl aX p y=some (d,b)->kP b
 | .i k,y,d,h=>by obtain⟨x,_,h⟩:=cF.1 h;cases h;exact aK
 | .b,y,d,h=>by obtain⟨x,_,h⟩:=cF.1 h;cases h;exact aK
 | .s,y,d,h=>by obtain⟨x,_,h⟩:=cF.1 h;cases h;exact aK
 | .l t,y,d,h=>by obtain⟨x,_,h⟩:=cF.1 h;cases h;exact aK
 | .x t,y,d,h=>by obtain⟨x,_,h⟩:=cF.1 h;cases h;exact aK
 | .n kt vt,y,d,h=>by obtain⟨x,_,h⟩:=cF.1 h;cases h;exact aK
 | .hB,y,d,h=>by simp only[jw]at h;split at h;cases h;exact aK;cases h
 | .B j,y,d,h=>by simp only[jw]at h;split at h;obtain⟨x,a,h⟩:=cF.1 h;cases h;exact KL a aK;cases h
 | .R j,y,d,h=>by simp only[jw]at h;split at h;split at h;obtain⟨x,a,h⟩:=cF.1 h;cases h;exact KL a aK;cases h;cases h
 | .M j,y,d,h=>by simp only[jw]at h;split at h;obtain⟨x,a,h⟩:=cF.1 h;cases h;exact KL a aK;cases h
 | .P j sz,y,d,h=>by simp only[jw]at h;split at h;split at h;obtain⟨x,a,h⟩:=cF.1 h;cases h;exact KL a aK;cases h;cases h
 | .F g ed,y,d,h=>by simp only[jw]at h;split at h;split at h;obtain⟨x,a,h⟩:=cF.1 h;cases h;exact aik aK a;cases h;cases h
theorem ts.sub{aX a:List (Nat×Nat)}(h:ts σ a ρ ρ')(aj:∀q∈aX,q∈a):ts σ aX ρ ρ':=⟨λ p b=>h.at_ p (aj p b)⟩
theorem Lf:∀ {ps:List j_}{ys:List (aL T.El)}{aX a:List (Nat×Nat)}{d:xL T.El ps},p1 bl aX ps ys=some (d,a)->(∀q∈aX,q∈a)/\(kP aX->kP a)
 |[],[],aX,a,d,h=>by simp only[p1]at h;cases h;exact⟨λ q b=>b,λ h=>h⟩
 |p::r,y::ys,aX,a,d,h=>by simp only[p1]at h;split at h;rename_i i j c;split at h;rename_i k l J;cases h;obtain⟨e,f⟩:=Lf J;exact⟨λ q b=>e q (aio c q b),λ aK=>f (aim aK c)⟩;cases h;cases h
 |[],y::ys,aX,a,d,h=>by simp[p1]at h
 |p::r,[],aX,a,d,h=>by simp[p1]at h
theorem P6(e:∀k,F k->F' k)(f:∀j,g j=b1 bl'[σ j]?):∀ {ps:List j_}{ys:List (aL T.El)}{aX a:List (Nat×Nat)}{d:xL T.El ps}{vs:List Value},ts σ a ρ ρ'->p1 bl aX ps ys=some (d,a)->aZ T F w ρ bl ys vs->aZ T F' w ρ' bl' (uS σ g ps d) vs
 |[],[],aX,a,d,vs,c,h,b=>by simp only[aZ]at b;subst b;simp[uS,aZ]
 |p::r,y::ys,aX,a,d,vs,c,h,b=>by simp only[p1]at h;split at h;rename_i l m i;split at h;rename_i n o J;cases h;simp only[aZ]at b;obtain⟨u,us,rfl,e1,e2⟩:=b;simp only[uS,aZ];exact⟨u,us,rfl,ain e f (c.sub (Lf J).1) i e1,P6 e f c J e2⟩;cases h;cases h
 |[],y::ys,aX,a,d,vs,_,h,_=>by simp[p1]at h
 |p::r,[],aX,a,d,vs,_,h,_=>by simp[p1]at h
theorem az8:∀ {p:cy}{y:aL T.El}{aX a:List (Nat×Nat)}{d:Hm T.El p},Lc bl aX p y=some (d,a)->(∀q∈aX,q∈a)/\(kP aX->kP a)
 | .p p,y,aX,a,d,h=>⟨aio h,λ aK=>aim aK h⟩
 | .a ps,y,aX,a,d,h=>Lf h
 | .f fn ps,y,aX,a,d,h=>by simp only[Lc]at h;split at h;split at h;exact Lf h;cases h;cases h
theorem az7(e:∀k,F k->F' k)(f:∀j,g j=b1 bl'[σ j]?):∀ {p:cy}{y:aL T.El}{aX b:List (Nat×Nat)}{d:Hm T.El p}{v:Value},ts σ b ρ ρ'->UZ p y=true->Lc bl aX p y=some (d,b)->av T F w ρ bl y v->av T F' w ρ' bl' (CG σ g p d) v
 | .p p,y,aX,b,d,v,c,_,h,a=>ain e f c h a
 | .a ps,y,aX,b,d,v,c,hy,h,a=>by simp only[UZ]at hy;have:=P6 e f c h (qN a);simp only[CG,av];cases y<;>simp only[nq,reduceCtorEq]at hy;rename_i u;cases u<;>simp only[nq,reduceCtorEq]at hy;simp only[av]at a;subst a;exact⟨_,rfl,this⟩;simp only[av]at a;obtain⟨vs,rfl,_⟩:=a;exact⟨vs,rfl,this⟩
 | .f fn ps,y,aX,b,d,v,c,_,h,a=>by simp only[Lc]at h;split at h;split at h;rename_i ag;have ag:=bF ag;subst ag;simp only[av]at a;obtain⟨vs,rfl,J⟩:=a;simp only[CG,av];exact⟨vs,rfl,P6 e f c h J⟩;cases h;cases h
end
section
variable{T:bQ}{F F':Nat->Prop}{w:World}{ρ ρ':List Value}{bl bl':List (aG T.El)}{σ g:Nat->Nat}
theorem P4:∀ {ps:List cy}{ys:List (aL T.El)}{aX a:List (Nat×Nat)}{d:dy T.El ps},nU bl aX ps ys=some (d,a)->(∀q∈aX,q∈a)/\(kP aX->kP a)
 |[],[],aX,a,d,h=>by simp only[nU]at h;cases h;exact⟨λ q b=>b,λ h=>h⟩
 |p::r,y::ys,aX,a,d,h=>by simp only[nU]at h;split at h;rename_i k l m c;split at h;rename_i n o J;cases h;obtain⟨e,f⟩:=P4 J;obtain⟨i,j⟩:=az8 c;exact⟨λ q b=>e q (i q b),λ aK=>f (j aK)⟩;cases h;cases h
 |[],y::ys,aX,a,d,h=>by simp[nU]at h
 |p::r,[],aX,a,d,h=>by simp[nU]at h
theorem aif(e:∀k,F k->F' k)(f:∀j,g j=b1 bl'[σ j]?):∀ {ps:List cy}{ys:List (aL T.El)}{aX a:List (Nat×Nat)}{d:dy T.El ps}{vs:List Value},ts σ a ρ ρ'->nU bl aX ps ys=some (d,a)->aZ T F w ρ bl ys vs->aZ T F' w ρ' bl' (gZ σ g ps d) vs
 |[],[],aX,a,d,vs,c,h,b=>by simp only[aZ]at b;subst b;simp[gZ,aZ]
 |p::r,y::ys,aX,a,d,vs,c,h,b=>by simp only[nU]at h;split at h;rename_i m n i l;split at h;rename_i o q J;cases h;simp only[aZ]at b;obtain⟨u,us,rfl,e1,e2⟩:=b;simp only[gZ,aZ];exact⟨u,us,rfl,az7 e f (c.sub (P4 J).1) i l e1,aif e f c J e2⟩;cases h;cases h
 |[],y::ys,aX,a,d,vs,_,h,_=>by simp[nU]at h
 |p::r,[],aX,a,d,vs,_,h,_=>by simp[nU]at h
theorem P5{post:Bool}:∀ {p:bJ}{B:aG T.El}{aX a:List (Nat×Nat)}{d:vy T.El p},jO bl aX post p B=some (d,a)->(∀q∈aX,q∈a)/\(kP aX->kP a)
 | .c ty ps,B,aX,a,d,h=>by simp only[jO]at h;split at h;split at h;exact Lf h;cases h;cases h
 | .r t same,B,aX,a,d,h=>by simp only[jO]at h;split at h;split at h;obtain⟨x,_,h⟩:=cF.1 h;cases h;exact⟨λ q b=>b,λ h=>h⟩;cases h;cases h
 | .m kt vt,B,aX,a,d,h=>by simp only[jO]at h;split at h;obtain⟨x,_,h⟩:=cF.1 h;cases h;exact⟨λ q b=>b,λ h=>h⟩;cases h
 | .d,B,aX,a,d,h=>by simp only[jO]at h;split at h<;>first |(cases h;exact⟨λ q b=>b,λ h=>h⟩)|cases h
theorem amT{t' t:Nat}{l:List (T.El t')}{l':List (T.El t)}(h:EH l=some l'):∃e:t'=t,l'=e▸l:=by unfold EH at h;split at h;rename_i e _;simp only[aM]at h;exact⟨e,h.symm⟩;cases h
theorem az'(m:∀k,F k->F' k)(o:∀j,g j=b1 bl'[σ j]?){post:Bool}:∀ {p:bJ}{B:aG T.El}{aX f:List (Nat×Nat)}{d:vy T.El p}{h:Value},ts σ f ρ ρ'->jO bl aX post p B=some (d,f)->kb T F w ρ bl B h->kb T F' w ρ' bl' (dG σ g post p d) h/\∀u k,k∈bD (dG σ g post p d) u->k∈bD B u
 | .c ty ps,B,aX,f,d,h,i,a,bO=>by simp only[jO]at a;split at a;rename_i s cs;split at a;rename_i ag;have ag:=bF ag;subst ag;obtain⟨q,vs,e1,e2,e3⟩:=bO;exact⟨⟨q,vs,e1,e2,P6 m o i a e3⟩,λ u k b=>b⟩;cases a;cases a
 | .r t same,B,aX,f,d,h,i,a,bO=>by simp only[jO]at a;split at a;rename_i t' g' k' l;split at a;obtain⟨x,n,a⟩:=cF.1 a;cases a;obtain⟨e,rfl⟩:=amT n;subst e;obtain⟨A,c,xs,e1,e2,e3⟩:=bO;exact⟨⟨A,c,xs,e1,e2,qk _ (λ k b=>⟨m k b,rfl⟩) e3⟩,λ u k b=>b⟩;cases a;cases a
 | .m kt vt,B,aX,f,d,h,i,a,bO=>by simp only[jO]at a;split at a;obtain⟨x,n,a⟩:=cF.1 a;cases a;obtain⟨r,e1,e2⟩:=bO;exact⟨⟨r,e1,(af4 n e2).law (λ k b=>⟨m k b,rfl⟩) rfl⟩,λ u k b=>b⟩;cases a
 | .d,B,aX,f,d,h,i,a,bO=>⟨trivial,λ u k b=>by simp[dG,bD]at b⟩
theorem Ia{post:Bool}:∀ {ps:List bJ}{aX a:List (Nat×Nat)}{k:Nat}{d:cK T.El ps},p0 bl post aX k ps=some (d,a)->(∀q∈aX,q∈a)/\(kP aX->kP a)
 |[],aX,a,k,d,h=>by simp only[p0]at h;cases h;exact⟨λ q b=>b,λ h=>h⟩
 |p::r,aX,a,k,d,h=>by simp only[p0]at h;split at h;split at h;split at h;rename_i l m c;split at h;rename_i n o J;cases h;obtain⟨e,f⟩:=Ia J;obtain⟨i,j⟩:=P5 c;exact⟨λ q b=>e q (i q b),λ aK=>f (j aK)⟩;cases h;cases h;cases h;cases h
theorem o_{post:Bool}:∀ {ps:List bJ}{d:cK T.El ps},(bN σ g post ps d).length=ps.length
 |[],d=>rfl
 |p::r,d=>by simp[bN,o_ (ps:=r)]
theorem Xl(f:∀k,F k->F' k)(l:∀j,g j=b1 bl'[σ j]?){post:Bool}:∀ {ps:List bJ}{aX a:List (Nat×Nat)}{k:Nat}{d:cK T.El ps},p0 bl post aX k ps=some (d,a)->ts σ a ρ ρ'->∀(m:Nat)(B':aG T.El),(bN σ g post ps d)[m]? =some B' ->
 ∃i B,(k+m,i)∈a/\bl[i]? =some B/\(∀h,kb T F w ρ bl B h->kb T F' w ρ' bl' B' h)/\∀u k,k∈bD B' u->k∈bD B u
 |[],aX,a,k,d,_,_,m,B',c=>by simp[bN]at c
 |p::r,aX,a,k,d,h,n,m,B',c=>by
  simp only[p0]at h;split at h
  ·rename_i i hi;split at h
   ·rename_i B bO;split at h
    ·rename_i s v e;split at h
     ·rename_i x y J;cases h;have o:=(Ia J).1;have q:=(P5 e).1;rw[dn]at bO;cases m with
      |zero=>simp only[bN,de,aM]at c;subst c;exact⟨i,B,o _ (q _ (qb hi)),bO,λ h ag=>(az' f l (n.sub o) e ag).1,azE e⟩
      |succ m=>obtain⟨i',tt,e1,e2,e3⟩:=Xl f l J n m B' (by simpa[bN]using c);exact⟨i',tt,by rw[show k+(m+1)=k+1+m by omega];exact e1,e2,e3⟩
     ·cases h
    ·cases h
   ·cases h
  ·cases h
where
 azE {post:Bool}:∀ {p:bJ}{B:aG T.El}{aX a:List (Nat×Nat)}{d:vy T.El p},jO bl aX post p B=some (d,a)->∀u k,k∈bD (dG σ g post p d) u->k∈bD B u
  | .c ty ps,B,aX,a,d,h,u,k,b=>by simp only[jO]at h;split at h;exact b;cases h
  | .r t same,B,aX,a,d,h,u,k,b=>by simp only[jO]at h;split at h;exact b;cases h
  | .m kt vt,B,aX,a,d,h,u,k,b=>by simp only[jO]at h;split at h;exact b;cases h
  | .d,B,aX,a,d,h,u,k,b=>by simp[dG,bD]at b
end
structure oN {El:Nat->Type} (bl:List (aG El)) (ρ:List Value) (bl':List (aG El)) (ρ':List Value) (sel:List Nat):Prop where
 len:ρ'.length=bl'.length
 at_:∀(j:Nat)(B':aG El)(h':Value),bl'[j]? =some B'->ρ'[j]? =some h'->∃i B,sel[j]? =some i/\bl[i]? =some B/\ρ[i]? =some h'/\∀u k,k∈bD B' u->k∈bD B u
 inj:∀(j hj i:Nat),sel[j]? =some i->sel[hj]? =some i->j=hj
def tV{El:Nat->Type}:List (aG El)->List Value->List Nat
 |B::r,h::s=>bD B h++tV r s
 |_,_=>[]
theorem vU{El:Nat->Type}{k:Nat}:∀ {bl:List (aG El)}{ρ:List Value},k∈tV bl ρ↔r0 bl ρ k
 |[],ρ=>by simp[tV,r0]
 |B::r,[]=>by simp[tV,r0]
 |B::r,h::s=>by
  simp only[tV,cg,vU (bl:=r)];constructor;rintro(e |⟨i,C,u,a,J,b⟩);exact⟨0,B,h,rfl,rfl,e⟩;exact⟨i+1,C,u,by simpa using a,by simpa using J,b⟩
  ·rintro⟨i,C,u,a,J,b⟩;cases i with
   |zero=>simp only[de,aM]at a J;subst a;subst J;exact .inl b
   |succ i=>exact .inr ⟨i,C,u,by simpa using a,by simpa using J,b⟩
section
variable{T:bQ}{W w:World}{M0:List Nat}{X:Nat->Prop}{bl bl':List (aG T.El)}{ρ ρ':List Value}{sel:List Nat}
theorem oN.own(h:oN bl ρ bl' ρ' sel){k:Nat}(a:r0 bl' ρ' k):r0 bl ρ k:=by obtain⟨j,B',h',b,J,c⟩:=a;obtain⟨i,B,_,e2,e3,e4⟩:=h.at_ j B' h' b J;exact⟨i,B,h',e2,e3,e4 _ _ c⟩
theorem oN.bC(h:oN bl ρ bl' ρ' sel)(f:Mem T W M0 X bl ρ w)(i j:Nat)(B C:aG T.El)(u v:Value)(g:bl'[i]? =some B)(J:ρ'[i]? =some u)(l:bl'[j]? =some C)(m:ρ'[j]? =some v)(n:i≠j):∀k∈bD B u,k∉bD C v:=λ k c d=>by obtain⟨a,j9,e1,e2,e3,e4⟩:=h.at_ i B u g J;obtain⟨b,OL,o,p,q,r⟩:=h.at_ j C v l m;have c:=e4 _ _ c;have d:=r _ _ d;refine f.bC a b j9 OL u v e2 e3 p q (λ e=>?_) k c d;subst e;exact n (h.inj i j a e1 o)
def kV(X:Nat->Prop)(bl:List (aG T.El))(ρ:List Value)(sel:List Nat)(k:Nat):Prop:=X k\/∃i B h,i∉sel/\bl[i]? =some B/\ρ[i]? =some h/\k∈bD B h
theorem oN.Ju(h:oN bl ρ bl' ρ' sel){k:Nat}(a:bi X bl ρ w k):bi (kV X bl ρ sel) bl' ρ' w k:=
 ⟨λ ad=>by
  rcases ad with ad |⟨i,B,u,_,b,J,c⟩;exact a.1 ad
  ·exact a.2.1 ⟨i,B,u,b,J,c⟩,λ d=>a.2.1 (h.own d),a.2.2⟩
theorem oN.Nf(h:oN bl ρ bl' ρ' sel){k:Nat}(a:bi X bl ρ w k):bi X bl' ρ' w k:=⟨a.1,λ b=>a.2.1 (h.own b),a.2.2⟩
theorem oN.enter(h:oN bl ρ bl' ρ' sel)(a:Mem T W M0 X bl ρ w)(f:∀(j:Nat)(B':aG T.El)(h':Value),bl'[j]? =some B'->ρ'[j]? =some h'->kb T (bi (kV X bl ρ sel) bl' ρ' w) w ρ' bl' B' h'):Mem T w (tV bl' ρ') (kV X bl ρ sel) bl' ρ' w:=by refine⟨a_.refl _ _,h.len,λ k b=>?_,λ k b=>?_,h.bC a,f⟩;rcases b with ad |⟨i,B,u,hi,c,J,d⟩;refine⟨ez (a.iT k ad).1 a.bU.size,λ e=>?_⟩;exact a.alF (h.own (vU.1 e)) ad;refine⟨(a.lt k ⟨i,B,u,c,J,d⟩).1,λ e=>?_⟩;obtain⟨j,B',h',e1,e2,e3⟩:=vU.1 e;obtain⟨i',j9,g,l,m,n⟩:=h.at_ j B' h' e1 e2;have e3:=n _ _ e3;refine a.bC i i' B j9 u h' c J l m (λ e=>?_) k d e3;subst e;exact hi (b_ g);exact⟨(a.lt k (h.own b)).1,.inl (vU.2 b)⟩
theorem oN.leave(h:oN bl ρ bl' ρ' sel)(a:Mem T W M0 X bl ρ w)(b:∀(j:Nat)(B':aG T.El)(h':Value),bl'[j]? =some B'->ρ'[j]? =some h'->kb T (bi X bl' ρ' w) w ρ' bl' B' h'):Mem T W M0 X bl' ρ' w:=⟨a.bU,h.len,a.iT,λ k c=>a.lt k (h.own c),h.bC a,b⟩
end
def ch(post:Bool)(pbs:List bJ)(j:Nat):Nat:=fG post (pbs[j]?)
def hD(ρ:List Value)(sel:List Nat):List Value:=sel.map λ i=>ρ.getD i undef
section
variable{T:bQ}{W w:World}{M0:List Nat}{X:Nat->Prop}{bl bl':List (aG T.El)}{ρ ρ':List Value}{sel:List Nat}
theorem Jn{σ g:Nat->Nat}{post:Bool}:∀ {ps:List bJ}{d:cK T.El ps}{j:Nat},b1 (bN σ g post ps d)[j]? =fG post ps[j]?
 |[],d,j=>by simp[bN,b1,fG]
 |p::r,d,0=>by simp only[bN,de];cases p<;>rfl
 |p::r,d,j+1=>by simpa[bN]using Jn (ps:=r)
theorem YM{aX:List (Nat×Nat)}:∀ {n k:Nat}{sel:List Nat},Mi aX k n=some sel->sel.length=n/\∀j i,sel[j]? =some i->(k+j,i)∈aX
 |0,k,sel,h=>by simp only[Mi,aM]at h;subst h;simp
 |n+1,k,sel,h=>by
  simp only[Mi]at h;split at h
  ·rename_i i r a J;simp only[aM]at h;subst h;obtain⟨b,c⟩:=YM J;refine⟨by simp[b],λ j i' ax=>?_⟩;cases j with
   |zero=>simp only[de,aM]at ax;subst ax;exact qb a
   |succ j=>rw[show k+(j+1)=k+1+j by omega];exact c j i' (by simpa using ax)
  ·cases h
theorem afn{n:Nat}:∀ {aX:List (Nat×Nat)},O3 n aX=true->∀p∈aX,p.1<n
 |[],_,p,aC=>by simp at aC
 |q::r,h,p,aC=>by simp only[O3,ca]at h;rcases cG.1 aC with rfl |aC;exact cJ h.1;exact afn h.2 p aC
theorem vZ(f:Mem T W M0 X bl ρ w){aX:List (Nat×Nat)}(aK:kP aX){post:Bool}{pas:List cy}{pbs:List bJ}{ys:List (aL T.El)}{da:dy T.El pas}{db:cK T.El pbs}(h:jx bl aX post pas pbs ys=some ((da,db),sel)) :
 oN bl ρ (bN id (ch post pbs) post pbs db) (hD ρ sel) sel/\(∀p∈aX,sel[p.1]? =some p.2)/\
 ∀F':Nat->Prop,(∀k,bi X bl ρ w k->F' k)->(∀vs,aZ T (bi X bl ρ w) w ρ bl ys vs->aZ T F' w (hD ρ sel) (bN id (ch post pbs) post pbs db) (gZ id (ch post pbs) pas da) vs)/\
  ∀(j:Nat)(B':aG T.El)(h':Value),(bN id (ch post pbs) post pbs db)[j]? =some B'->(hD ρ sel)[j]? =some h'->kb T F' w (hD ρ sel) (bN id (ch post pbs) post pbs db) B' h':=by
 unfold jx at h
 split at h
 ·rename_i S M o;split at h
  ·rename_i l q J;split at h
   ·rename_i a N O;simp only[aM,cI]at h;obtain⟨⟨rfl,rfl⟩,rfl⟩:=h;obtain⟨y,E⟩:=P4 o;obtain⟨s,G⟩:=Ia J;have H:=G (E aK);obtain⟨l1,z⟩:=YM N;have I:=afn O
    have t:∀p∈q,a[p.1]? =some p.2:=λ p c=>by
     have A:p.1<a.length:=by rw[l1];exact I p c
     have e:=aR A;have:=z p.1 _ e;rw[ji]at this;have e2:a[p.1]=p.2:=H.fn _ this p c rfl;rw[e,e2]
    have b:(bN id (ch post pbs) post pbs l).length=pbs.length:=o_;have base:∀(j:Nat)(B':aG T.El),(bN id (ch post pbs) post pbs l)[j]? =some B'->∃i B u,a[j]? =some i/\bl[i]? =some B/\ρ[i]? =some u/\(hD ρ a)[j]? =some u:=λ j B' ax=>by
     have v:∀j,ch post pbs j=b1 (bN id (ch post pbs) post pbs l)[id j]? :=λ j=>Jn.symm;have C:∀i,(j,i)∈q->∀B,bl[i]? =some B->∃i B u,a[j]? =some i/\bl[i]? =some B/\ρ[i]? =some u/\(hD ρ a)[j]? =some u:=λ i hi B bO=>by obtain⟨u,K⟩:=f.ux bO;have aj:=t _ hi;refine⟨i,B,u,aj,bO,K,?_⟩;rw[hD,iY,aj];simp[List.getD_eq_getElem?_getD,K]
     obtain⟨i,B,e1,e2⟩:=aii J j B' ax;exact C i (by simpa using e1) B e2
    have n:ts id q ρ (hD ρ a):=⟨λ p c=>by
     have aj:=t p c;have A:p.1<(bN id (ch post pbs) post pbs l).length:=by rw[b];exact I p c
     obtain⟨i,B,u,e1,e2,e3,e4⟩:=base p.1 _ (aR A);rw[aj]at e1;cases e1;show(hD ρ a)[p.1]? =_
     rw[e4,e3]⟩
    have v:∀j,ch post pbs j=b1 (bN id (ch post pbs) post pbs l)[id j]? :=λ j=>Jn.symm;refine⟨⟨by rw[b];simp[hD,l1],λ j B' h' ax D=>?_,λ j hj i ax P=>?_⟩,λ p c=>t p (s p (y p c)),λ F' L=>⟨λ vs Q=>aif L v (n.sub s) o Q,λ j B' h' ax D=>?_⟩⟩;obtain⟨i,B,e1,e2,_,e3⟩:=Xl (F:=λ _=>False) (F':=λ _=>False) (w:=w) (λ _ h=>h) v J n j B' ax;rw[ji]at e1;have aj:=t _ e1;refine⟨i,B,aj,e2,?_,e3⟩;rw[<-n.at_ _ e1];exact D;have e1:=z j i ax;have e2:=z hj i P;have:=H.inj _ e1 _ e2 rfl;simpa using this
    ·obtain⟨i,B,e1,e2,e3,_⟩:=Xl L v J n j B' ax;rw[ji]at e1;have R:ρ[i]? =some h':=by rw[<-n.at_ _ e1];exact D
     exact e3 h' (f.ok i B h' e2 R)
   ·cases h
  ·cases h
 ·cases h
where
 aii {post:Bool} {σ g:Nat->Nat}:∀ {ps:List bJ}{aX x:List (Nat×Nat)}{k:Nat}{d:cK T.El ps},p0 bl post aX k ps=some (d,x)->∀(m:Nat)(B':aG T.El),(bN σ g post ps d)[m]? =some B'->∃i B,(k+m,i)∈x/\bl[i]? =some B
  |[],aX,x,k,d,_,m,B',f=>by simp[bN]at f
  |p::r,aX,x,k,d,h,m,B',f=>by
   simp only[p0]at h;split at h
   ·rename_i i hi;split at h
    ·rename_i B bO;split at h
     ·rename_i E M o;split at h
      ·rename_i G q J;cases h;have s:=(Ia J).1;have y:=(P5 o).1;rw[dn]at bO;cases m with
       |zero=>exact⟨i,B,s _ (y _ (qb hi)),bO⟩
       |succ m=>obtain⟨i',tt,e1,e2⟩:=aii J m B' (by simpa[bN]using f);exact⟨i',tt,by rw[show k+(m+1)=k+1+m by omega];exact e1,e2⟩
      ·cases h
     ·cases h
    ·cases h
   ·cases h
end
def gX{α:Type}:List α->List Nat->List α->List α
 |l,[],qs=>l++qs
 |l,i::r,q::qs=>gX (l.set i q) r qs
 |l,_::_,[]=>l
section
variable{α:Type}
theorem ZJ:∀ {sel:List Nat}{l qs:List α},sel.length<=qs.length->(gX l sel qs).length=l.length+(qs.length-sel.length)
 |[],l,qs,_=>by simp[gX]
 |i::r,l,q::qs,h=>by simp only[gX];rw[ZJ (by simpa using h)];simp
 |i::r,l,[],h=>by simp at h
theorem I3:∀ {sel:List Nat}{l qs:List α}{i:Nat},i∉sel->i<l.length->(gX l sel qs)[i]? =l[i]?
 |[],l,qs,i,_,hi=>by simp[gX,dS hi]
 |j::r,l,q::qs,i,h,hi=>by simp only[cG,not_or]at h;simp only[gX];rw[I3 h.2 (by simpa using hi),iQ (Ne.symm h.1)]
 |j::r,l,[],i,_,_=>rfl
theorem Rn:∀ {sel:List Nat}{l qs:List α}{j i:Nat},sel.length<=qs.length->sel.Nodup->(∀i∈sel,i<l.length)->sel[j]? =some i->(gX l sel qs)[i]? =qs[j]?
 |[],l,qs,j,i,_,_,_,h=>by simp at h
 |a::r,l,q::qs,0,i,b,d,c,h=>by simp only[de,aM]at h;subst h;have e:=hJ.1 d;simp only[gX];rw[I3 e.1 (by simpa using c a (by simp)),fE (c a (by simp))];rfl
 |a::r,l,q::qs,j+1,i,b,d,c,h=>by have e:=hJ.1 d;simp only[gX];rw[Rn (by simpa using b) e.2 (λ i hi=>by simpa using c i (eD _ hi)) (by simpa using h)];rfl
 |a::r,l,[],j,i,b,_,_,_=>by simp at b
theorem Ro:∀ {sel:List Nat}{l qs:List α}{m:Nat},sel.length<=qs.length->(gX l sel qs)[l.length+m]? =qs[sel.length+m]?
 |[],l,qs,m,_=>by simp[gX,eA]
 |a::r,l,q::qs,m,b=>by simp only[gX];have:=Ro (sel:=r) (l:=l.set a q) (qs:=qs) (m:=m) (by simpa using b);rw[gu]at this;rw[this,show(a::r).length+m=(r.length+m)+1 by simp;omega];rfl
 |a::r,l,[],m,b=>by simp at b
theorem aF'{sel:List Nat}{l qs:List α}(a:sel.length<=qs.length)(b:sel.Nodup)(c:∀i∈sel,i<l.length){i:Nat}{x:α}(h:(gX l sel qs)[i]? =some x) :
 (i∉sel/\i<l.length/\l[i]? =some x)\/∃j,qs[j]? =some x/\((j<sel.length/\sel[j]? =some i)\/(sel.length<=j/\i=l.length+(j-sel.length))):=by
 rcases fO i l.length with e |e
 ·by_cases hi:i∈sel;obtain⟨j,ax,rfl⟩:=il.1 hi;have e1:=aR ax;rw[Rn a b c e1]at h;exact .inr ⟨j,h,.inl ⟨ax,e1⟩⟩;rw[I3 hi e]at h;exact .inl ⟨hi,e,h⟩
 ·right;obtain⟨m,rfl⟩:∃m,i=l.length+m:=⟨i-l.length,by omega⟩
  rw[Ro a]at h;exact⟨sel.length+m,h,.inr ⟨by omega,by omega⟩⟩
end
def jV(sel:List Nat)(len j:Nat):Nat:=match nth sel j with
 |some i=>i
 |none=>len+(j-sel.length)
theorem JD{sel:List Nat}{len j i:Nat}(h:sel[j]? =some i):jV sel len j=i:=by rw[jV,dn,h]
theorem acg{sel:List Nat}{len j:Nat}(h:sel.length<=j):jV sel len j=len+(j-sel.length):=by rw[jV,dn,fk h]
def ig{El:Nat->Type}:Option (aG El)->aG El->aG El
 |some (.r _ g k _),.r t g' k' l=>.r t (g+g') (k+k') l
 |some (.r _ g _ _),.no g'=>.no (g+g')
 |some (.no g),.no g'=>.no (g+g')
 |_,B=>B
def zV{El:Nat->Type}(bl:List (aG El)):List Nat->List (aG El)->List (aG El)
 |i::r,B::qs=>ig (nth bl i) B::zV bl r qs
 |_,qs=>qs
theorem aok{El:Nat->Type}{bl:List (aG El)}:∀ {sel:List Nat}{qs:List (aG El)},(zV bl sel qs).length=qs.length
 |[],qs=>rfl
 |i::r,B::qs=>by simp[zV,aok (sel:=r)]
 |i::r,[]=>rfl
theorem aoj{El:Nat->Type}{bl:List (aG El)}:∀ {sel:List Nat}{qs:List (aG El)}{j:Nat},(zV bl sel qs)[j]? =(qs[j]?).map λ B=>(match sel[j]? with
 |some i=>ig (nth bl i) B
 |none=>B)
 |[],qs,j=>by simp[zV]
 |i::r,B::qs,0=>by simp[zV]
 |i::r,B::qs,j+1=>by simpa[zV]using aoj (sel:=r) (qs:=qs) (j:=j)
 |i::r,[],j=>by simp[zV]
theorem NR{El:Nat->Type}{o:Option (aG El)}{B:aG El}{u:Value}:bD (ig o B) u=bD B u:=by unfold ig;split<;>rfl
section
variable{T:bQ}{F F':Nat->Prop}{w:World}{ρ ρ':List Value}{bl bl':List (aG T.El)}{σ g g':Nat->Nat}
theorem af2(a:∀j v,ρ[j]? =some v->ρ'[σ j]? =some v):∀ {ed:List Nat}{vs:List Value},aZ T F w ρ bl (ed.map λ j=>.b (id j) 0) vs->aZ T F' w ρ' bl' (ed.map λ j=>.b (σ j) 0) vs
 |[],vs,h=>by simpa only[hP,aZ]using h
 |j::r,vs,h=>by simp only[ea,aZ,av]at h⊢;obtain⟨u,us,e,⟨b,e1,e2⟩,e3⟩:=h;exact⟨u,us,e,⟨b,a j _ e1,e2⟩,af2 a e3⟩
theorem amn(b:∀k,F k->F' k)(e:∀j v,ρ[j]? =some v->ρ'[σ j]? =some v)(m:∀j,g j=b1 bl[j]?)(n:∀j v,ρ[j]? =some v->g' j=b1 bl'[σ j]?):∀ {p:j_}{d:Au T.El p}{v:Value},av T F w ρ bl (hC id g p d) v->av T F' w ρ' bl' (hC σ g' p d) v
 | .i k,d,v,h=>by simpa only[hC,av]using h
 | .b,d,v,h=>by simpa only[hC,av]using h
 | .s,d,v,h=>by simpa only[hC,av]using h
 | .l t,d,v,h=>by simp only[hC,av]at h⊢;exact(b2 (T.ty t)).law (λ k f=>⟨b k f,rfl⟩) h
 | .x t,d,v,h=>by simp only[hC,av]at h⊢;obtain⟨a,q,cs,e1,e2,e3,e4⟩:=h;exact⟨a,q,cs,e1,b a e2,(T.ty t).law (λ k f=>⟨b k f,rfl⟩) e3,e4⟩
 | .n kt vt,d,v,h=>by simp only[hC,av]at h⊢;obtain⟨r,e1,e2,e3⟩:=h;exact⟨r,e1,b r e2,e3.law (λ k f=>⟨b k f,rfl⟩) rfl⟩
 | .hB,d,v,h=>by simpa only[hC,av]using h
 | .B j,d,v,h=>by simp only[hC,av,id]at h⊢;obtain⟨i,e1,e2⟩:=h;exact⟨i,e j _ e1,e2⟩
 | .R j,d,v,h=>by simp only[hC,av,id]at h⊢;obtain⟨b8,l,e1,e2,e3⟩:=h;exact⟨b8,l,e j _ e1,by rw[n j _ e1];exact cP _,λ _=>e3 (m j)⟩
 | .M j,d,v,h=>by simp only[hC,av,id]at h⊢;obtain⟨i,e1,e2⟩:=h;exact⟨i,e j _ e1,e2⟩
 | .P j sz,d,v,h=>by simp only[hC,av,id]at h⊢;obtain⟨A,c,e1,e2,e3,e4⟩:=h;refine⟨A,c,e1,e2,e3,λ s=>?_⟩;obtain⟨u,x,xs,y,z⟩:=e4 s;exact⟨u,b _ x,xs,y.imp λ q v ⟨B,l,o,D,C⟩=>⟨B,l,e j _ o,by rw[n j _ o];exact cP _,λ _=>C (m j)⟩,z⟩
 | .F g ed,d,v,h=>by simp only[hC,av]at h⊢;obtain⟨vs,e1,e2⟩:=h;exact⟨vs,e1,af2 e e2⟩
theorem R5(a:∀k,F k->F' k)(b:∀j v,ρ[j]? =some v->ρ'[σ j]? =some v)(c:∀j,g j=b1 bl[j]?)(f:∀j v,ρ[j]? =some v->g' j=b1 bl'[σ j]?):∀ {ps:List j_}{d:xL T.El ps}{vs:List Value},aZ T F w ρ bl (uS id g ps d) vs->aZ T F' w ρ' bl' (uS σ g' ps d) vs
 |[],d,vs,h=>by simpa only[uS,aZ]using h
 |p::r,d,vs,h=>by simp only[uS,aZ]at h⊢;obtain⟨u,us,e,i,J⟩:=h;exact⟨u,us,e,amn a b c f i,R5 a b c f J⟩
theorem aHK(a:∀k,F k->F' k)(b:∀j v,ρ[j]? =some v->ρ'[σ j]? =some v)(c:∀j,g j=b1 bl[j]?)(f:∀j v,ρ[j]? =some v->g' j=b1 bl'[σ j]?):∀ {p:cy}{d:Hm T.El p}{v:Value},av T F w ρ bl (CG id g p d) v->av T F' w ρ' bl' (CG σ g' p d) v
 | .p p,d,v,h=>amn a b c f h
 | .a ps,d,v,h=>by simp only[CG,av]at h⊢;obtain⟨vs,e,i⟩:=h;exact⟨vs,e,R5 a b c f i⟩
 | .f fn ps,d,v,h=>by simp only[CG,av]at h⊢;obtain⟨vs,e,i⟩:=h;exact⟨vs,e,R5 a b c f i⟩
theorem amm(a:∀k,F k->F' k)(b:∀j v,ρ[j]? =some v->ρ'[σ j]? =some v)(c:∀j,g j=b1 bl[j]?)(f:∀j v,ρ[j]? =some v->g' j=b1 bl'[σ j]?):∀ {ps:List cy}{d:dy T.El ps}{vs:List Value},aZ T F w ρ bl (gZ id g ps d) vs->aZ T F' w ρ' bl' (gZ σ g' ps d) vs
 |[],d,vs,h=>by simpa only[gZ,aZ]using h
 |p::r,d,vs,h=>by simp only[gZ,aZ]at h⊢;obtain⟨u,us,e,i,J⟩:=h;exact⟨u,us,e,aHK a b c f i,amm a b c f J⟩
theorem aHL(f:∀k,F k->F' k)(l:∀j v,ρ[j]? =some v->ρ'[σ j]? =some v)(m:∀j,g j=b1 bl[j]?)(n:∀j v,ρ[j]? =some v->g' j=b1 bl'[σ j]?){post:Bool}{o:Option (aG T.El)}:∀ {p:bJ}{d:vy T.El p}{h:Value},kb T F w ρ bl (dG id g post p d) h->kb T F' w ρ' bl' (ig o (dG σ g' post p d)) h
 | .c ty ps,d,h,bO=>by
   have:ig o (dG σ g' post (.c ty ps) d)=dG σ g' post (.c ty ps) d:=by unfold ig;split<;>first |rfl |(rename_i e;cases e)
   rw[this];obtain⟨q,vs,e1,e2,e3⟩:=bO;exact⟨q,vs,e1,e2,R5 f l m n e3⟩
 | .r t same,d,h,bO=>by
   obtain⟨A,c,xs,e1,e2,e3⟩:=bO;have:∃a b,ig o (dG σ g' post (.r t same) d)= .r t a b d:=by unfold ig;split;rename_i e;cases e;exact⟨_,_,rfl⟩;rename_i e;cases e;rename_i e;cases e;exact⟨_,_,rfl⟩
   obtain⟨a,b,e⟩:=this;rw[e];exact⟨A,c,xs,e1,e2,qk _ (λ k i=>⟨f k i,rfl⟩) e3⟩
 | .m kt vt,d,h,bO=>by
   have:ig o (dG σ g' post (.m kt vt) d)=dG σ g' post (.m kt vt) d:=by unfold ig;split<;>first |rfl |(rename_i e;cases e)
   rw[this];obtain⟨r,e1,e2⟩:=bO;exact⟨r,e1,e2.law (λ k i=>⟨f k i,rfl⟩) rfl⟩
 | .d,d,h,bO=>by
   have:∃a,ig o (dG σ g' post .d d)= .no a:=by unfold ig;split;rename_i e;cases e;exact⟨_,rfl⟩;exact⟨_,rfl⟩;exact⟨_,rfl⟩
   obtain⟨a,e⟩:=this;rw[e];trivial
end
def sx{El:Nat->Type}:bJ->aG El->Prop
 | .c _ _,.c _ _=>True
 | .r t _,.r t' _ _ _=>t'=t
 | .m _ _,.m _ _ _=>True
 | .d,.c _ _=>True
 | .d,.r _ _ _ _=>True
 | .d,.m _ _ _=>True
 | .d,.no _=>True
 |_,_=>False
def BW:bJ->bJ->Bool
 | .c _ _,.c _ _=>true
 | .r t _,.r t' _=>cx t t'
 | .m _ _,.m _ _=>true
 | .c _ _,.d=>true
 | .r _ _,.d=>true
 | .m _ _,.d=>true
 |_,_=>false
def lf:List bJ->List bJ->Bool
 |[],_=>true
 |p::r,q::s=>BW p q&&lf r s
 |_::_,[]=>false
theorem Nr:∀ {ps qs:List bJ},lf ps qs=true->ps.length<=qs.length
 |[],_,_=>by simp
 |p::r,q::s,h=>by simp only[lf,ca]at h;have:=Nr h.2;simp;omega
 |p::r,[],h=>by cases h
theorem Nq:∀ {ps qs:List bJ}{j:Nat}{p q:bJ},lf ps qs=true->ps[j]? =some p->qs[j]? =some q->BW p q=true
 |[],_,j,p,q,_,h,_=>by simp at h
 |a::r,b::s,0,p,q,c,h,h'=>by simp only[de,aM]at h h';subst h;subst h';simp only[lf,ca]at c;exact c.1
 |a::r,b::s,j+1,p,q,c,h,h'=>by simp only[lf,ca]at c;exact Nq c.2 (by simpa using h) (by simpa using h')
 |a::r,[],j,p,q,c,_,_=>by cases c
def fU{El:Nat->Type}(bl:List (aG El))(sel:List Nat)(ct:List bJ)(j:Nat):Nat:=(match nth sel j with
 |some i=>v7 bl i
 |none=>0)+ch true ct j
def x2{El:Nat->Type}(bl:List (aG El))(sel:List Nat)(ct:List bJ)(a:cK El ct):List (aG El):=zV bl sel (bN (jV sel bl.length) (fU bl sel ct) true ct a)
def hd{El:Nat->Type}(bl:List (aG El))(sel:List Nat)(ct:List bJ)(a:cK El ct):List (aG El):=gX bl sel (x2 bl sel ct a)
section
variable{T:bQ}{W w w':World}{M0:List Nat}{X:Nat->Prop}{bl:List (aG T.El)}{ρ pC dQ:List Value}{sel:List Nat}{pre ct:List bJ}{dp:cK T.El pre}{e8:cK T.El ct}{oS gq:Nat->Nat}
theorem R3{σ g:Nat->Nat}{post:Bool}:∀ {ps:List bJ}{d:cK T.El ps}{j:Nat}{B:aG T.El},(bN σ g post ps d)[j]? =some B->∃p a,ps[j]? =some p/\B=dG σ g post p a/\∀σ' g',(bN σ' g' post ps d)[j]? =some (dG σ' g' post p a)
 |[],d,j,B,h=>by simp[bN]at h
 |p::r,d,0,B,h=>by simp only[bN,de,aM]at h;subst h;exact⟨p,d.1,rfl,rfl,λ _ _=>rfl⟩
 |p::r,d,j+1,B,h=>by obtain⟨q,a,b,J,c⟩:=R3 (ps:=r) (d:=d.2) (j:=j) (by simpa[bN]using h);exact⟨q,a,by simpa using b,J,λ σ' g'=>by simpa[bN]using c σ' g'⟩
theorem back(n:Mem T W M0 X bl ρ w)(aj:oN bl ρ (bN id oS false pre dp) pC sel)(oU:sel.length=pre.length)(c:∀(j i:Nat)(B:aG T.El)(p:bJ),sel[j]? =some i->bl[i]? =some B->pre[j]? =some p->sx p B)(b5:lf pre ct=true)
 (bz:∀i∈sel,i<bl.length)(aBB:∀j,gq j=ch true ct j)
 (o:Mem T w (tV (bN id oS false pre dp) pC) (kV X bl ρ sel) (bN id gq true ct e8) dQ w')(aF:To (kV X bl ρ sel) (bN id oS false pre dp) (bN id gq true ct e8) pC dQ w w') :
 Mem T W M0 X (hd bl sel ct e8) (gX ρ sel dQ) w'/\To X bl (hd bl sel ct e8) ρ (gX ρ sel dQ) w w'/\h3 bl ρ w w' sel/\
  ∀pas (da:dy T.El pas) vs,aZ T (bi (kV X bl ρ sel) (bN id gq true ct e8) dQ w') w' dQ (bN id gq true ct e8) (gZ id gq pas da) vs->aZ T (bi X (hd bl sel ct e8) (gX ρ sel dQ) w') w' (gX ρ sel dQ) (hd bl sel ct e8) (gZ (jV sel bl.length) (fU bl sel ct) pas da) vs:=by
 have ajd:(bN id oS false pre dp).length=pre.length:=o_
 have aBZ:(bN id gq true ct e8).length=ct.length:=o_
 have aC':dQ.length=ct.length:=by rw[o.len,aBZ]
 have aQE:pC.length=pre.length:=by rw[aj.len,ajd]
 have aiF:=Nr b5
 have jy:sel.Nodup:=by refine iq.2 λ i j hi ax Fi e=>?_;have:=aj.inj i j _ (aR hi) (by rw[e];exact aR ax);omega
 have aFn:(x2 bl sel ct e8).length=ct.length:=by rw[x2,aok,o_]
 have s1:sel.length<=(x2 bl sel ct e8).length:=by omega
 have s2:sel.length<=dQ.length:=by omega
 have aB2:∀i∈sel,i<ρ.length:=λ i hi=>by rw[n.len];exact bz i hi
 have l1:(hd bl sel ct e8).length=bl.length+(ct.length-sel.length):=by rw[hd,ZJ s1,aFn]
 have cv:(gX ρ sel dQ).length=bl.length+(ct.length-sel.length):=by rw[ZJ s2,n.len,aC']
 have Ui:∀(j:Nat)(v:Value),dQ[j]? =some v->(gX ρ sel dQ)[jV sel bl.length j]? =some v:=λ j v ax=>by rcases fO j sel.length with e |e;have e1:=aR e;rw[JD e1,Rn s2 jy aB2 e1];exact ax;rw[acg e,<-n.len,Ro s2,show sel.length+(j-sel.length)=j by omega];exact ax
 have E:∀(j:Nat),j<ct.length->(hd bl sel ct e8)[jV sel bl.length j]? =(x2 bl sel ct e8)[j]? :=λ j ax=>by rcases fO j sel.length with e |e;have e1:=aR e;rw[JD e1,hd,Rn s1 jy bz e1];rw[acg e,hd,Ro s1,show sel.length+(j-sel.length)=j by omega]
 have F:∀(j:Nat),j<sel.length->∃i B h,sel[j]? =some i/\bl[i]? =some B/\ρ[i]? =some h/\pC[j]? =some h/\∃p,pre[j]? =some p/\sx p B:=λ j ax=>by
  have Fk:j<(bN id oS false pre dp).length:=by omega
  have yK:j<pC.length:=by omega
  obtain⟨i,B,e1,e2,e3,_⟩:=aj.at_ j _ _ (aR Fk) (aR yK);have G:j<pre.length:=by omega
  exact⟨i,B,_,e1,e2,e3,aR yK,_,aR G,c j i B _ e1 e2 (aR G)⟩
 have H:∀B:aG T.El,ig none B=B:=λ B=>by cases B<;>rfl
 have UP:∀(j:Nat)(B:aG T.El),(x2 bl sel ct e8)[j]? =some B->∃q d,ct[j]? =some q/\(bN id gq true ct e8)[j]? =some (dG id gq true q d)/\B=ig ((sel[j]?).bind λ i=>nth bl i) (dG (jV sel bl.length) (fU bl sel ct) true q d):=λ j B bO=>by
  rw[x2,aoj,cF]at bO;obtain⟨j9,r,J⟩:=bO;obtain⟨q,d,e1,e2,e3⟩:=R3 r;refine⟨q,d,e1,e3 _ _,?_⟩;subst e2;rw[<-J];cases aQx:sel[j]? with
  |none=>exact(H _).symm
  |some i=>rfl
 have I:∀(q:bJ)(d:vy T.El q)(σ g σ' g':Nat->Nat)(u:Value),bD (dG σ g true q d) u=bD (dG σ' g' true q d) u:=λ q d σ g σ' g' u=>by cases q<;>rfl
 have cs:∀(i:Nat)(B:aG T.El)(h:Value),(hd bl sel ct e8)[i]? =some B->(gX ρ sel dQ)[i]? =some h->(i∉sel/\bl[i]? =some B/\ρ[i]? =some h)\/
  ∃j q d,ct[j]? =some q/\dQ[j]? =some h/\jV sel bl.length j=i/\(bN id gq true ct e8)[j]? =some (dG id gq true q d)/\B=ig ((sel[j]?).bind λ i=>nth bl i) (dG (jV sel bl.length) (fU bl sel ct) true q d):=λ i B h bO K=>by
  rcases aF' s1 jy bz bO with⟨e1,e2,e3⟩|⟨j,e1,e2⟩
  ·left;rw[I3 e1 (by rw[n.len];exact e2)]at K;exact⟨e1,e3,K⟩
  ·right;obtain⟨q,d,l,m,f⟩:=UP j B e1;have ax:j<ct.length:=(ba.1 l).1;have L:jV sel bl.length j=i:=by rcases e2 with⟨_,e2⟩|⟨e2,e3⟩;exact JD e2;rw[acg e2,e3]
   have M:=Ui j _ (aR (by omega:j<dQ.length));rw[L,K]at M;simp only[aM]at M;exact⟨j,q,d,l,by rw[M];exact aR _,L,m,f⟩
 have t:∀k,r0 (hd bl sel ct e8) (gX ρ sel dQ) k->(∃i B h,i∉sel/\bl[i]? =some B/\ρ[i]? =some h/\k∈bD B h)\/r0 (bN id gq true ct e8) dQ k:=λ k c=>by obtain⟨i,B,h,r,J,s⟩:=c;rcases cs i B h r J with⟨e1,e2,e3⟩|⟨j,q,d,e1,e2,e3,e4,rfl⟩;exact .inl ⟨i,B,h,e1,e2,e3,s⟩;rw[NR,I q d _ _ id gq]at s;exact .inr ⟨j,_,h,e4,e2,s⟩
 have N:∀k,bi (kV X bl ρ sel) (bN id gq true ct e8) dQ w' k->bi X (hd bl sel ct e8) (gX ρ sel dQ) w' k:=λ k c=>⟨λ ad=>c.1 (.inl ad),λ O=>by
  rcases t k O with h |h;exact c.1 (.inr h)
  ·exact c.2.1 h,c.2.2⟩
 have P:∀k,bi X bl ρ w k->bi X (hd bl sel ct e8) (gX ρ sel dQ) w' k/\w'.heap[k]? =w.heap[k]? :=λ k c=>⟨⟨c.1,λ O=>by
  rcases t k O with⟨i,B,h,_,r,J,s⟩|h;exact c.2.1 ⟨i,B,h,r,J,s⟩
  ·rcases(o.lt k h).2 with e |e;exact c.2.1 (aj.own (vU.1 e))
   ·have:=c.2.2;omega,ez c.2.2 o.bU.size⟩,o.bU.block k c.2.2 λ e=>c.2.1 (aj.own (vU.1 e))⟩
 have Q:∀j,gq j=b1 (bN id gq true ct e8)[j]? :=λ j=>by rw[Jn];exact aBB j
 have lR:∀(j:Nat)(q:bJ),ct[j]? =some q->j<sel.length->∃i B,sel[j]? =some i/\bl[i]? =some B/\sx q B:=λ j q ax ak=>by obtain⟨i,B,h,e1,e2,_,_,p,e5,e6⟩:=F j ak;have:=Nq b5 e5 ax;refine⟨i,B,e1,e2,?_⟩;cases p<;>cases q<;>simp only[BW,gT]at this<;>cases B<;>simp only[sx]at e6⊢;rw[e6,bF this]
 have gj:∀j v,dQ[j]? =some v->fU bl sel ct j=b1 (hd bl sel ct e8)[jV sel bl.length j]? :=λ j v ax=>by
  have lI:j<ct.length:=by have:=(ba.1 ax).1;omega
  rw[E j lI];have R:j<(x2 bl sel ct e8).length:=by omega
  obtain⟨q,d,e1,e2,e3⟩:=UP j _ (aR R);rw[aR R,e3];rw[fU,dn,ch,e1];rcases fO j sel.length with ak |ak;obtain⟨i,B,l,m,f⟩:=lR j q e1 ak;rw[l];simp only[ae,dn,m,EX];cases q<;>cases B<;>simp only[sx]at f<;>simp[ig,dG,b1,fG];rw[fk ak];simp only[Option.bind_none,H,ji];cases q<;>rfl
 have S:oK T ρ (gX ρ sel dQ) bl (hd bl sel ct e8):=⟨λ i h hi=>by
  have b6:i<ρ.length:=(ba.1 hi).1;by_cases ek:i∈sel
  ·obtain⟨j,ax,rfl⟩:=il.1 ek;obtain⟨i,B,aH,e1,e2,e3,e4,p,e5,e6⟩:=F j ax;have Vy:sel[j]=i:=by rw[aR ax]at e1;exact ee e1
   rw[Vy]at hi⊢;rw[hi]at e3;cases e3;obtain⟨h',bj,bd,cf,dl⟩:=aF.L.at_ j h e4;have lI:j<ct.length:=by omega
   have R:j<(x2 bl sel ct e8).length:=by omega
   obtain⟨q,d,l,m,f⟩:=UP j _ (aR R);have bO:=E j lI;rw[JD e1,aR R,f,e1]at bO;simp only[ae,dn,e2]at bO;have au:=Ui j h' bj;rw[JD e1]at au;refine⟨h',au,bd,?_⟩;rw[bO,e2];obtain⟨i2,tt,m1,m2,m3⟩:=lR j q l ax;rw[e1]at m1;cases m1;rw[e2]at m2;cases m2;have y:b1 (bN id oS false pre dp)[j]? =0:=by rw[Jn,e5];cases p<;>rfl
   have z:b1 (bN id gq true ct e8)[j]? =fG true (some q):=by rw[Jn,l]
   rw[y,z]at dl;cases q<;>cases B<;>simp only[sx]at m3;exact⟨cP _,λ _=>⟨(dl rfl).1,rfl,cP _,λ _=>rfl⟩⟩;subst m3;refine⟨by simp[ig,dG,b1],λ e=>⟨(dl (by simpa[ig,dG,b1]using e)).1,rfl,by simp[ig,dG,hU],λ e=>?_⟩⟩;simp[ig,dG,hU,C2]at e;exact⟨cP _,λ _=>⟨(dl rfl).1,rfl,cP _,λ _=>rfl⟩⟩;exact⟨fY _,λ e=>by simp[ig,dG,b1,fG]at e⟩;exact⟨by simp[ig,dG,b1],λ e=>by simp[ig,dG,b1,fG]at e⟩;exact⟨fY _,λ e=>by simp[ig,dG,b1,fG]at e⟩;exact⟨by simp[ig,dG,b1],λ e=>by simp[ig,dG,b1,fG]at e⟩
  ·have ag:(hd bl sel ct e8)[i]? =bl[i]? :=I3 ek (by rw[<-n.len];exact b6);refine⟨h,by rw[I3 ek b6];exact hi,λ _=>rfl,?_⟩;rw[ag]
   exact⟨cP _,λ _=>⟨rfl,rfl,cP _,λ _=>rfl⟩⟩⟩
 have U:∀(i:Nat)(B:aG T.El)(h:Value),i∉sel->bl[i]? =some B->ρ[i]? =some h->∀k∈bD B h,k<w.heap.size/\k∉tV (bN id oS false pre dp) pC:=λ i B h hi r J k c=>by refine⟨(n.lt k ⟨i,B,h,r,J,c⟩).1,λ e=>?_⟩;obtain⟨j,C,u,l,m,f⟩:=vU.1 e;obtain⟨i',j9,y,z,V,Y⟩:=aj.at_ j C u l m;have f:=Y _ _ f;refine n.bC i i' B j9 h u r J z V (λ e=>?_) k c f;subst e;exact hi (b_ y)
 have avX:To X bl (hd bl sel ct e8) ρ (gX ρ sel dQ) w w':=⟨P,S,o.bU.size,λ i B' h' hi K k c X7=>by
  rcases cs i B' h' hi K with⟨_,e2,e3⟩|⟨j,q,d,e1,e2,e3,e4,rfl⟩;exact⟨B',h',e2,e3,c⟩
  ·rw[NR,I q d _ _ id gq]at c;obtain⟨j9,aH,l,m,f⟩:=aF.pY j _ h' e4 e2 k c X7;obtain⟨i',B,y,z,V,Y⟩:=aj.at_ j j9 aH l m;rw[JD y]at e3;subst e3
   exact⟨B,aH,z,V,Y _ _ f⟩⟩
 refine⟨⟨n.bU.trans o.bU λ k c=>(n.lt k (aj.own (vU.1 c))).2,by rw[l1,cv],n.iT,λ k c=>?_,?_,?_⟩,avX,λ k c aA=>?_,λ pas da vs M=>amm N Ui Q gj M⟩
 ·rcases t k c with⟨i,B,h,_,r,J,s⟩|h;have:=n.lt k ⟨i,B,h,r,J,s⟩;exact⟨ez this.1 o.bU.size,this.2⟩;refine⟨(o.lt k h).1,?_⟩;rcases(o.lt k h).2 with e |e;exact(n.lt k (aj.own (vU.1 e))).2;exact .inr (fR n.bU.size e)
 ·intro a b B C u v r J s a6 bY k c A;have Z:∀(i:Nat)(D:aG T.El)(x:Value),i∉sel->bl[i]? =some D->ρ[i]? =some x->k∈bD D x->r0 (bN id gq true ct e8) dQ k->False:=λ i D x hi d1 d2 d3 O=>by obtain⟨bh,bs⟩:=U i D x hi d1 d2 k d3;rcases(o.lt k O).2 with e |e;exact bs e;omega
  rcases cs a B u r J with⟨e1,e2,e3⟩|⟨j,q,d,e1,e2,e3,e4,rfl⟩;rcases cs b C v s a6 with⟨l,m,f⟩|⟨hj,Gp,KW,l,m,f,f4,rfl⟩;exact n.bC a b B C u v e2 e3 m f bY k c A;rw[NR,I Gp KW _ _ id gq]at A;exact Z a B u e1 e2 e3 c ⟨hj,_,v,f4,m,A⟩;rw[NR,I q d _ _ id gq]at c;rcases cs b C v s a6 with⟨l,m,f⟩|⟨hj,Gp,KW,l,m,f,f4,rfl⟩;exact Z b C v l m f A ⟨j,_,u,e4,e2,c⟩;rw[NR,I Gp KW _ _ id gq]at A;refine o.bC j hj _ _ u v e4 e2 f4 m (λ e=>?_) k c A;subst e;exact bY (e3.symm.trans f)
 ·intro i B h r J;rcases cs i B h r J with⟨e1,e2,e3⟩|⟨j,q,d,e1,e2,e3,e4,rfl⟩;exact(n.ok i B h e2 e3).later P S λ k c=>by obtain⟨bh,bs⟩:=U i B h e1 e2 e3 k c;exact o.bU.block k bh bs
  ·exact aHL N Ui Q gj (o.ok j _ h e4 e2)
 ·refine o.bU.block k c λ e=>?_;obtain⟨j,C,u,l,m,f⟩:=vU.1 e;obtain⟨i',j9,y,z,V,Y⟩:=aj.at_ j C u l m;have f:=Y _ _ f;exact aA i' (b_ y) j9 u z V f
end
def p9:Nat->List (Nat×Nat)
 |0=>[]
 |n+1=>(n,n)::p9 n
theorem FD{n:Nat}{p:Nat×Nat}:p∈p9 n↔p.1<n/\p.2=p.1:=by
 induction n with
 |zero=>simp[p9]
 |succ n d=>simp only[p9,cG,d];constructor;rintro(rfl |⟨c,J⟩);exact⟨ks _,rfl⟩;exact⟨by omega,J⟩;rintro⟨c,J⟩;rcases fO p.1 n with e |e;exact .inr ⟨e,J⟩;left;obtain⟨a,b⟩:=p;simp only at c J e;simp only[cI];omega
theorem FC{n:Nat}:kP (p9 n):=⟨λ p a q b e=>by rw[(FD.1 a).2,(FD.1 b).2,e],λ p a q b e=>by rw[<-(FD.1 a).2,<-(FD.1 b).2,e]⟩
theorem vN:kP []:=⟨λ p a=>by simp at a,λ p a=>by simp at a⟩
def zU{El:Nat->Type}(n:Nat)(y:aL El):List (aL El):=match cx n 1 with
 |true=>[y]
 |false=>match y with
  | .u ys=>ys
  | .p (.tuple ⟨vs⟩)=>vs.map .p
  |y=>[y]
section
variable{T:bQ}{W w w':World}{M0:List Nat}{X:Nat->Prop}{bl:List (aG T.El)}{ρ:List Value}
theorem QS{El:Nat->Type}{pre ct:List bJ}(a:lf pre ct=true){j:Nat}{p:bJ}{B:aG El}(b:pre[j]? =some p)(h:p≠ .d->sx p B):sx p B:=h λ e=>by subst e;have ax:=(ba.1 b).1;have c:=Nr a;have:=Nq a b (aR (by omega));simp[BW]at this
theorem az_{aX b:List (Nat×Nat)}{post:Bool}:∀ {p:bJ}{B:aG T.El}{d:vy T.El p},jO bl aX post p B=some (d,b)->(p≠ .d->sx p B)/\(post=true->fG true (some p)=0 ->b1 (some B)=0)
 | .c ty ps,B,d,h=>by simp only[jO]at h;split at h;exact⟨λ _=>trivial,λ _ _=>rfl⟩;cases h
 | .r t same,B,d,h=>by
   simp only[jO]at h;split at h
   ·split at h
    ·rename_i ag;obtain⟨x,c,h⟩:=cF.1 h;obtain⟨e,_⟩:=amT c;refine⟨λ _=>e,λ f a=>?_⟩;subst f;cases same with
     |false=>simp[fG]at a
     |true=>simpa[b1]using bF (by simpa using ag)
    ·cases h
   ·cases h
 | .m kt vt,B,d,h=>by simp only[jO]at h;split at h;exact⟨λ _=>trivial,λ _ _=>rfl⟩;cases h
 | .d,B,d,h=>by simp only[jO]at h;split at h<;>first |exact⟨λ h=>absurd rfl h,λ _ a=>by simp[fG]at a⟩|cases h
theorem aij{post:Bool}:∀ {ps:List bJ}{aX b:List (Nat×Nat)}{k:Nat}{d:cK T.El ps},p0 bl post aX k ps=some (d,b)->∀(m:Nat)(p:bJ),ps[m]? =some p->∃i B,(k+m,i)∈b/\bl[i]? =some B/\(p≠ .d->sx p B)/\(post=true->fG true (some p)=0 ->b1 (some B)=0)
 |[],aX,b,k,d,_,m,p,a=>by simp at a
 |q::r,aX,b,k,d,h,m,p,a=>by
  simp only[p0]at h;split at h
  ·rename_i i hi;split at h
   ·rename_i B bO;split at h
    ·rename_i g j c;split at h
     ·rename_i l n J;cases h;have e:=(Ia J).1;have f:=(P5 c).1;rw[dn]at bO;cases m with
      |zero=>simp only[de,aM]at a;subst a;exact⟨i,B,e _ (f _ (qb hi)),bO,az_ c⟩
      |succ m=>obtain⟨i',tt,e1,e2,e3⟩:=aij J m p (by simpa using a);exact⟨i',tt,by rw[show k+(m+1)=k+1+m by omega];exact e1,e2,e3⟩
     ·cases h
    ·cases h
   ·cases h
  ·cases h
theorem EW{aX:List (Nat×Nat)}(aK:kP aX){post:Bool}{pas:List cy}{pbs:List bJ}{ys:List (aL T.El)}{a:dy T.El pas×cK T.El pbs}{sel:List Nat}(h:jx bl aX post pas pbs ys=some (a,sel)) :
 sel.length=pbs.length/\∀(j i:Nat)(p:bJ),sel[j]? =some i->pbs[j]? =some p->∃B,bl[i]? =some B/\(p≠ .d->sx p B)/\(post=true->fG true (some p)=0 ->b1 (some B)=0):=by
 unfold jx at h
 split at h
 ·rename_i g k b;split at h;rename_i l m J;split at h;rename_i n c o;simp only[aM,cI]at h;obtain⟨rfl,rfl⟩:=h;have d:=(Ia J).2 ((P4 b).2 aK);obtain⟨l1,e⟩:=YM c;refine⟨l1,λ j i p ax f=>?_⟩;obtain⟨i',B,e1,e2,e3⟩:=aij J j p f;have:=d.fn _ e1 _ (e j i ax) rfl;simp only at this;subst this;exact⟨B,e2,e3⟩;cases h;cases h
 ·cases h
theorem Zu{pre ct:List bJ}{dp:cK T.El pre}{d:cK T.El ct}{oS gq:Nat->Nat}{q z DB:List Value}{r:List (aG T.El)}{sel:List Nat}(G:q.length=pre.length)(a:To X (bN id oS false pre dp) r q DB w w')(aj:oN r DB (bN id gq true ct d) z sel)
 (s:∀j,j<pre.length->sel[j]? =some j)(U:sel.length=ct.length)(A:lf pre ct=true)(f:∀(j i:Nat)(p:bJ),sel[j]? =some i->ct[j]? =some p->∃B,r[i]? =some B/\(p≠ .d->sx p B)/\(true=true->fG true (some p)=0 ->b1 (some B)=0)) :
 To X (bN id oS false pre dp) (bN id gq true ct d) q z w w':=by
 have H:=Nr A
 refine⟨λ k f=>⟨aj.Nf (a.F k f).1,(a.F k f).2⟩,⟨λ i h hi=>?_⟩,a.sz,λ i B' h' hi I k t J=>?_⟩
 ·have b:i<pre.length:=by have:=(ba.1 hi).1;omega
  obtain⟨h',K,L,V,g⟩:=a.L.at_ i h hi;have l:i<(bN id gq true ct d).length:=by rw[o_];omega
  obtain⟨i',B,e1,e2,e3,e4⟩:=aj.at_ i _ _ (aR l) (aR (by rw[aj.len];exact l));rw[s i b]at e1;cases e1;rw[K]at e3;have e3:=ee e3;refine⟨h',by rw[aR (by rw[aj.len];exact l),e3],L,?_⟩;have C:i<pre.length:=b;have D:=aR C;have u:i<ct.length:=by omega
  have v:=aR u;have kk:=Nq A D v;obtain⟨tt,M,Y,m⟩:=f i i _ (s i b) v;obtain⟨N,x⟩:∃B,(bN id oS false pre dp)[i]? =some B:=⟨_,aR (by rw[o_];exact C)⟩
  obtain⟨O,E⟩:∃B,(bN id gq true ct d)[i]? =some B:=⟨_,aR l⟩
  obtain⟨pp,Z,n,o,_⟩:=R3 x;obtain⟨P,KW,F,Q,_⟩:=R3 E;rw[D]at n;rw[v]at F;subst o;subst Q;have y:=ee n;have c:=ee F;rw[y,c]at kk;rw[c]at m;rw[x,E];rw[x,M]at g;cases pp<;>cases P<;>simp only[BW,gT]at kk;exact⟨cP _,λ _=>⟨(g (m rfl rfl)).1,rfl,cP _,λ _=>rfl⟩⟩;exact⟨fY _,λ e=>by simp[dG,b1,fG]at e⟩;have:=bF kk;subst this;refine⟨by simp[dG,b1,fG],λ e=>⟨(g ?_).1,rfl,by simp[dG,hU,C2],λ e=>by simp[dG,hU,C2]at e⟩⟩;have:=m rfl (by simpa[dG,b1,fG]using e);simpa[dG,b1,fG]using this;exact⟨by simp[dG,b1,fG],λ e=>by simp[dG,b1,fG]at e⟩;exact⟨cP _,λ _=>⟨(g (m rfl rfl)).1,rfl,cP _,λ _=>rfl⟩⟩;exact⟨fY _,λ e=>by simp[dG,b1,fG]at e⟩
 ·obtain⟨i',B,e1,e2,e3,e4⟩:=aj.at_ i B' h' hi I;have t:=e4 _ _ t;obtain⟨j9,R,n,o,S⟩:=a.pY i' B h' e2 e3 k t J;have b:i'<pre.length:=by have:=(ba.1 o).1;omega
  have:=aj.inj i i' i' e1 (s i' b);subst this;exact⟨j9,R,n,o,S⟩
end
section
variable{El:Nat->Type}
def K6(pbs:List bJ)(p:j_)(bl:List (aG El))(y:aL El):List (aG El)×aL El:=match p with
 | .l _=>hf bl y
 | .R j=>match y,nth pbs j with
   | .p (.slice none 0 0),some (.r t _)=>(bl++[.r t 0 0 []],.r bl.length 0)
   | .v i g (.ofNat 0) hi,_=>match nth bl i with
     |some (.r t a _ l)=>match cx g a with
      |true=>(bl.set i (.r t (a+1) 0 (l.take hi.toNat)),.r i (a+1))
      |false=>(bl,y)
     |_=>(bl,y)
   |_,_=>(bl,y)
 |_=>(bl,y)
def si(pbs:List bJ):List j_->List (aG El)->List (aL El)->List (aG El)×List (aL El)
 |p::r,bl,y::ys=>match K6 pbs p bl y with
  |(a,b)=>match si pbs r a ys with
   |(c,d)=>(c,b::d)
 |_,bl,ys=>(bl,ys)
def K4(pbs:List bJ)(p:cy)(bl:List (aG El))(y:aL El):List (aG El)×aL El:=match p with
 | .p p=>K6 pbs p bl y
 | .a ps=>match nq y with
   |true=>match si pbs ps bl (cellsOf y)with
    |(a,ys)=>(a,.a ys)
   |false=>(bl,y)
 | .f _ ps=>match y with
   | .f g cs=>match si pbs ps bl cs with
     |(a,ys)=>(a,.f g ys)
   |_=>(bl,y)
def pT(pbs:List bJ):List cy->List (aG El)->List (aL El)->List (aG El)×List (aL El)
 |p::r,bl,y::ys=>match K4 pbs p bl y with
  |(a,b)=>match pT pbs r a ys with
   |(c,d)=>(c,b::d)
 |_,bl,ys=>(bl,ys)
def yg(pbs:List bJ):List (Nat×Nat)->Nat->List bJ->List (aG El)->List (aG El)
 |aX,k,.c ty ps::r,bl=>match cH aX k with
  |some i=>match nth bl i with
   |some (.c _ cs)=>match si pbs ps bl cs with
    |(a,b)=>match nth a i with
     |some (.c c _)=>match p1 (a.set i (.c c b)) aX ps b with
      |some (_,d)=>yg pbs d (k+1) r (a.set i (.c c b))
      |none=>a.set i (.c c b)
     |_=>bl
   |_=>bl
  |none=>bl
 |aX,k,_::r,bl=>yg pbs aX (k+1) r bl
 |_,_,[],bl=>bl
def hx(aX:List (Nat×Nat))(pas:List cy)(pbs:List bJ)(bl:List (aG El))(ys:List (aL El)):List (aG El)×List (aL El):=match pT pbs pas bl ys with
 |(a,b)=>match nU a aX pas b with
  |some (_,c)=>(yg pbs c 0 pbs a,b)
  |none=>(a,b)
end
section
variable{T:bQ}{W w:World}{M0:List Nat}{X:Nat->Prop}{bl bl':List (aG T.El)}{ρ:List Value}{pbs:List bJ}
theorem Mem.axi(a:Mem T W M0 X bl ρ w){i t g k:Nat}{l:List (T.El t)}{A:Option Addr}{c q:Nat}(hi:bl[i]? =some (.r t g k l))(b:ρ[i]? =some (.slice A l.length c))(d:q<=l.length) :
 Mem T W M0 X (bl.set i (.r t (g+1) 0 (l.take q))) (ρ.set i (.slice A q c)) w/\To X bl (bl.set i (.r t (g+1) 0 (l.take q))) ρ (ρ.set i (.slice A q c)) w w:=by
 obtain⟨ck,n,xs,e1,e2,e3⟩:=a.ok i _ _ hi b
 simp only[Value.slice.injEq,true_and]at e1
 obtain⟨rfl,rfl⟩:=e1
 have j:∀k'∈bD (aG.r (El:=T.El) t (g+1) 0 (l.take q)) (.slice A q c),k'∈bD (aG.r t g k l) (.slice A l.length c)\/(w.heap.size<=k'/\k'<w.heap.size):=λ k' m=>by left;revert m;cases A<;>cases c<;>simp[bD,ag]
 have f:=a.Gw (B':=aG.r t (g+1) 0 (l.take q)) (h':=.slice A q c) (w':=w) hi b (a_.refl _ _) j ⟨λ h=>absurd trivial h,Nat.le_succ _,λ e=>by simp[b1]at e⟩
 refine⟨a.df hi b (a_.refl _ _) j f ⟨A,c,xs.take (q*(T.ty t).size),by rw[fe,kF d],?_,?_⟩,f⟩
 ·rw[fe,kF d];exact e2.short d
 ·have:=w1 0 q (qk _ f.F e3);simpa using this
theorem ahX(a:Mem T W M0 X bl ρ w){p:j_}{y fl:aL T.El}{v:Value}(h:K6 pbs p bl y=(bl',fl))(b:av T (bi X bl ρ w) w ρ bl y v):∃ρ',Mem T W M0 X bl' ρ' w/\To X bl bl' ρ ρ' w w/\av T (bi X bl' ρ' w) w ρ' bl' fl v:=by
 have same:(bl,y)=(bl',fl)->∃ρ',Mem T W M0 X bl' ρ' w/\To X bl bl' ρ ρ' w w/\av T (bi X bl' ρ' w) w ρ' bl' fl v:=λ h=>by simp only[cI]at h;obtain⟨rfl,rfl⟩:=h;exact⟨ρ,a,.refl,b⟩
 unfold K6 at h;split at h;obtain⟨s,J,x⟩:=ah8 a h b;exact⟨ρ,s,J,x⟩
 ·split at h
  ·rename_i t _ _;simp only[cI]at h;obtain⟨rfl,rfl⟩:=h;simp only[av]at b;subst b;have m:∀k∈bD (aG.r (El:=T.El) t 0 0 []) (.slice none 0 0),w.heap.size<=k/\k<w.heap.size:=λ k z=>by simp[bD,ag]at z
   have C:=a.push (B:=aG.r t 0 0 []) (h:=.slice none 0 0) (a_.refl _ _) m ⟨none,0,[],rfl,.inr ⟨rfl,rfl,none,rfl⟩,rfl⟩;refine⟨_,C,a.C0 (a_.refl _ _) m,?_⟩;simp only[av];refine⟨trivial,.slice none 0 0,by rw[<-a.len];simp,fY _,λ _=>rfl⟩
  ·rename_i i g hi;split at h
   ·rename_i t H k l bO;rw[dn]at bO;split at h
    ·rename_i ag;simp only[cI]at h;obtain⟨rfl,rfl⟩:=h;simp only[av]at b;obtain⟨_,u,d,I,o⟩:=b;rw[bO]at o;obtain⟨A,n,c,B,r,K,L,D,e,f6,M⟩:=o (bF ag);obtain⟨ck,N,xs,f,E,O⟩:=a.ok i _ _ bO d;rw[r]at f;simp only[Value.slice.injEq]at f;obtain⟨rfl,rfl,rfl⟩:=f;rw[r]at d;have j:=f6 rfl;subst j;have e:v= .slice B hi.toNat c:=by simpa using e
     subst e;obtain⟨F,G⟩:=a.axi bO d (q:=hi.toNat) (by have:hi<=(l.length:Int):=D;omega);refine⟨_,F,G,?_⟩;simp only[av];refine⟨trivial,_,fE (ba.1 d).1,?_,λ _=>rfl⟩;rw[fE (ba.1 bO).1];exact cP _
    ·exact same h
   ·exact same h
  ·exact same h
 ·exact same h
theorem PN:∀ {ps:List j_}{ys b:List (aL T.El)}{bl bl':List (aG T.El)}{ρ:List Value}{vs:List Value},Mem T W M0 X bl ρ w->si pbs ps bl ys=(bl',b)->aZ T (bi X bl ρ w) w ρ bl ys vs->∃ρ',Mem T W M0 X bl' ρ' w/\To X bl bl' ρ ρ' w w/\aZ T (bi X bl' ρ' w) w ρ' bl' b vs
 |[],ys,b,bl,bl',ρ,vs,c,h,a=>by simp only[si,cI]at h;obtain⟨rfl,rfl⟩:=h;exact⟨ρ,c,.refl,a⟩
 |_::_,[],b,bl,bl',ρ,vs,c,h,a=>by simp only[si,cI]at h;obtain⟨rfl,rfl⟩:=h;exact⟨ρ,c,.refl,a⟩
 |p::r,y::ys,b,bl,bl',ρ,vs,c,h,a=>by
  simp only[aZ]at a;obtain⟨u,us,rfl,g,i⟩:=a;simp only[si]at h;cases d:K6 pbs p bl y with
  |mk j o=>
   rw[d]at h;cases J:si pbs r j ys with
   |mk q s=>rw[J]at h;simp only[cI]at h;obtain⟨rfl,rfl⟩:=h;obtain⟨t,k,e,v1⟩:=ahX c d g;obtain⟨l,m,f,n⟩:=PN k J (e.vs i);refine⟨l,m,e.trans f,?_⟩;simp only[aZ];exact⟨u,us,rfl,f.v v1,n⟩
theorem azx(c:Mem T W M0 X bl ρ w){p:cy}{y fl:aL T.El}{v:Value}(h:K4 pbs p bl y=(bl',fl))(a:av T (bi X bl ρ w) w ρ bl y v):∃ρ',Mem T W M0 X bl' ρ' w/\To X bl bl' ρ ρ' w w/\av T (bi X bl' ρ' w) w ρ' bl' fl v:=by
 have same:(bl,y)=(bl',fl)->∃ρ',Mem T W M0 X bl' ρ' w/\To X bl bl' ρ ρ' w w/\av T (bi X bl' ρ' w) w ρ' bl' fl v:=λ h=>by simp only[cI]at h;obtain⟨rfl,rfl⟩:=h;exact⟨ρ,c,.refl,a⟩
 unfold K4 at h;split at h;exact ahX c h a
 ·rename_i ps;split at h
  ·rename_i i;cases b:si pbs ps bl (cellsOf y)with
   |mk j ys=>rw[b]at h;simp only[cI]at h;obtain⟨rfl,rfl⟩:=h;obtain⟨d,e,f,v1⟩:=PN c b (qN a);refine⟨d,e,f,?_⟩;rw[Ml (E:=⟨default,T,[],true,[],0,λ _=>[]⟩) i a];simp only[av];exact⟨_,rfl,v1⟩
  ·exact same h
 ·rename_i k ps;split at h
  ·rename_i g cs;cases b:si pbs ps bl cs with
   |mk j ys=>rw[b]at h;simp only[cI]at h;obtain⟨rfl,rfl⟩:=h;simp only[av]at a;obtain⟨vs,rfl,a⟩:=a;obtain⟨d,e,f,v1⟩:=PN c b a;refine⟨d,e,f,?_⟩;simp only[av];exact⟨_,rfl,v1⟩
  ·exact same h
theorem ahW:∀ {ps:List cy}{ys b:List (aL T.El)}{bl bl':List (aG T.El)}{ρ:List Value}{vs:List Value},Mem T W M0 X bl ρ w->pT pbs ps bl ys=(bl',b)->aZ T (bi X bl ρ w) w ρ bl ys vs->∃ρ',Mem T W M0 X bl' ρ' w/\To X bl bl' ρ ρ' w w/\aZ T (bi X bl' ρ' w) w ρ' bl' b vs
 |[],ys,b,bl,bl',ρ,vs,c,h,a=>by simp only[pT,cI]at h;obtain⟨rfl,rfl⟩:=h;exact⟨ρ,c,.refl,a⟩
 |_::_,[],b,bl,bl',ρ,vs,c,h,a=>by simp only[pT,cI]at h;obtain⟨rfl,rfl⟩:=h;exact⟨ρ,c,.refl,a⟩
 |p::r,y::ys,b,bl,bl',ρ,vs,c,h,a=>by
  simp only[aZ]at a;obtain⟨u,us,rfl,g,i⟩:=a;simp only[pT]at h;cases d:K4 pbs p bl y with
  |mk j o=>
   rw[d]at h;cases J:pT pbs r j ys with
   |mk q s=>rw[J]at h;simp only[cI]at h;obtain⟨rfl,rfl⟩:=h;obtain⟨t,k,e,v1⟩:=azx c d g;obtain⟨l,m,f,n⟩:=ahW k J (e.vs i);refine⟨l,m,e.trans f,?_⟩;simp only[aZ];exact⟨u,us,rfl,f.v v1,n⟩
theorem Mem.aKi(e:Mem T W M0 X bl ρ w){i g ty:Nat}{cs a:List (aL T.El)}{vs:List Value}(hi:bl[i]? =some (.c ty cs))(c:ρ[i]? =some (.pointer (some ⟨g,0,none⟩)))(hc:w.heap[g]? =some (.cells ⟨vs⟩ ty (0,0)))(h:aZ T (bi X bl ρ w) w ρ bl a vs):Mem T W M0 X (bl.set i (.c ty a)) ρ w/\To X bl (bl.set i (.c ty a)) ρ ρ w w:=by have b:=e.Gw (B':=aG.c ty a) (h':=.pointer (some ⟨g,0,none⟩)) (w':=w) hi c (a_.refl _ _) (λ q d=>.inl d) ⟨λ _=>rfl,cP _,λ _=>⟨rfl,rfl,cP _,λ _=>rfl⟩⟩;have f:=e.df (B':=aG.c ty a) (h':=.pointer (some ⟨g,0,none⟩)) (w':=w) hi c (a_.refl _ _) (λ q d=>.inl d) b ⟨g,vs,rfl,hc,b.vs h⟩;rw[JC c]at f b;exact⟨f,b⟩
theorem K5:∀ {ps:List bJ}{aX:List (Nat×Nat)}{k:Nat}{bl:List (aG T.El)}{ρ:List Value},Mem T W M0 X bl ρ w->∃ρ',Mem T W M0 X (yg pbs aX k ps bl) ρ' w/\To X bl (yg pbs aX k ps bl) ρ ρ' w w
 |[],aX,k,bl,ρ,a=>⟨ρ,a,.refl⟩
 | .r _ _::r,aX,k,bl,ρ,a=>by simp only[yg];exact K5 a
 | .m _ _::r,aX,k,bl,ρ,a=>by simp only[yg];exact K5 a
 | .d::r,aX,k,bl,ρ,a=>by simp only[yg];exact K5 a
 | .c ty ps::r,aX,k,bl,ρ,a=>by
   simp only[yg];split
   ·rename_i i hi;split
    ·rename_i t0 cs bO;rw[dn]at bO;cases m:si pbs ps bl cs with
     |mk s t=>simp only;split;rename_i v x b;rw[dn]at b;obtain⟨u,f⟩:=a.ux bO;obtain⟨g,vs,rfl,hc,n⟩:=a.ok i _ u bO f;obtain⟨o,h,c,v1⟩:=PN a m n;obtain⟨y,d,p,_⟩:=c.L.at_ i _ f;rw[p (by simp[ms])]at d;obtain⟨g',z,e1,e2,_⟩:=h.ok i _ _ b d;simp only[Value.pointer.injEq,aM,Addr.mk.injEq,and_true]at e1;subst e1;rw[hc]at e2;simp only[aM,Obj.cells.injEq,Array.mk.injEq,and_true]at e2;obtain⟨rfl,rfl⟩:=e2;obtain⟨j,l⟩:=h.aKi b d hc v1;split;obtain⟨e,q,t3⟩:=K5 j (ps:=r);exact⟨e,q,(c.trans l).trans t3⟩;exact⟨o,j,c.trans l⟩;exact⟨ρ,a,.refl⟩
    ·exact⟨ρ,a,.refl⟩
   ·exact⟨ρ,a,.refl⟩
theorem yh(f:Mem T W M0 X bl ρ w){aX:List (Nat×Nat)}{pas:List cy}{ys a:List (aL T.El)}{vs:List Value}(h:hx aX pas pbs bl ys=(bl',a))(g:aZ T (bi X bl ρ w) w ρ bl ys vs):∃ρ',Mem T W M0 X bl' ρ' w/\To X bl bl' ρ ρ' w w/\aZ T (bi X bl' ρ' w) w ρ' bl' a vs:=by
 unfold hx at h;cases b:pT pbs pas bl ys with
 |mk l m=>rw[b]at h;obtain⟨i,c,d,v1⟩:=ahW f b g;simp only at h;split at h;simp only[cI]at h;obtain⟨rfl,rfl⟩:=h;obtain⟨j,k,e⟩:=K5 c (pbs:=pbs) (ps:=pbs);exact⟨j,k,d.trans e,e.vs v1⟩;simp only[cI]at h;obtain⟨rfl,rfl⟩:=h;exact⟨i,c,d,v1⟩
end
structure er (T:bQ) where
 pas:List cy
 pbs:List bJ
 eM:List cy
 dw:List bJ
 fn:dy T.El pas×cK T.El pbs->Option (dy T.El eM×cK T.El dw)
def er.run(E:Env)(c:er E.T)(ys:List (aL E.T.El))(bl:List (aG E.T.El)):D (fS E.T.El):=match hx [] c.pas c.pbs bl ys with
 |(a,b)=>match lf c.pbs c.dw,jx a [] false c.pas c.pbs b with
  |true,some (d,sel)=>.op (c.fn d) λ r=>.ok ⟨.ret (sM (gZ (jV sel a.length) (fU a sel c.dw) c.eM r.1)),hd a sel c.dw r.2,sel⟩
  |_,_=>.no
def er.fin{T:bQ}(c:er T)(r:fS T.El):Option (dy T.El c.eM×cK T.El c.dw):=match r.e with
 | .ret y=>match hx (p9 c.pbs.length) c.eM c.dw r.bl (zU c.eM.length y)with
   |(a,b)=>match jx a (p9 c.pbs.length) true c.eM c.dw b with
    |some (d,_)=>some d
    |none=>none
 | .CC _=>none
def er.Eq(E:Env)(bw:fP E)(LE:mQ E)(f:Nat)(c:er E.T):Prop:=∀(da:dy E.T.El c.pas)(db:cK E.T.El c.pbs),(pV E bw LE f (gZ id (ch false c.pbs) c.pas da) (bN id (ch false c.pbs) false c.pbs db)).run c.fin=c.fn (da,db)
section
variable{T:bQ}{F:Nat->Prop}{w:World}{ρ:List Value}{bl:List (aG T.El)}
theorem Xk:∀ {ps:List cy}{ys:List (aL T.El)}{aX a:List (Nat×Nat)}{d:dy T.El ps},nU bl aX ps ys=some (d,a)->ys.length=ps.length
 |[],[],aX,a,d,h=>rfl
 |p::r,y::ys,aX,a,d,h=>by simp only[nU]at h;split at h;split at h;rename_i J;simp[Xk J];cases h;cases h
 |[],y::ys,aX,a,d,h=>by simp[nU]at h
 |p::r,[],aX,a,d,h=>by simp[nU]at h
theorem al0:∀ {vs:List Value},vs.length≠1 ->pack vs= .tuple ⟨vs⟩
 |[],_=>rfl
 |[v],h=>by simp at h
 |v::u::r,_=>rfl
theorem aoh{n:Nat}{y:aL T.El}{v:Value}(a:(zU n y).length=n)(h:av T F w ρ bl y v):∃vs,aZ T F w ρ bl (zU n y) vs/\pack vs=v:=by
 unfold zU at a⊢;split at a;refine⟨[v],?_,rfl⟩;simp only[aZ];exact⟨v,[],rfl,h,rfl⟩
 ·rename_i ag;have b:n≠1:=λ e=>by subst e;simp at ag
  split at a;simp only[av]at h;obtain⟨vs,rfl,J⟩:=h;exact⟨vs,J,al0 (by rw[J.len,a];exact b)⟩;simp only[av]at h;subst h;rename_i vs;exact⟨vs,Sq (E:=⟨default,T,[],true,[],0,λ _=>[]⟩) vs,al0 (by simpa using(by simpa using a:vs.length=n)▸b)⟩;simp at a;exact absurd a.symm b
end
section
variable{E:Env}{bw:fP E}{LE:mQ E}{f:Nat}
theorem ahV{pbs:List bJ}:∀ {ps:List cy}{ys a:List (aL E.T.El)}{bl bl':List (aG E.T.El)},pT pbs ps bl ys=(bl',a)->a.length=ys.length
 |[],ys,a,bl,bl',h=>by simp only[pT,cI]at h;rw[h.2]
 |_::_,[],a,bl,bl',h=>by simp only[pT,cI]at h;rw[<-h.2]
 |p::r,y::ys,a,bl,bl',h=>by
  simp only[pT]at h;cases b:K4 pbs p bl y with
  |mk c d=>
   rw[b]at h;cases J:pT pbs r c ys with
   |mk e g=>rw[J]at h;simp only[cI]at h;rw[<-h.2,cT,ahV J,cT]
theorem ahY{aX:List (Nat×Nat)}{pas:List cy}{pbs:List bJ}{ys a:List (aL E.T.El)}{bl bl':List (aG E.T.El)}(h:hx aX pas pbs bl ys=(bl',a)):a.length=ys.length:=by
 unfold hx at h;cases b:pT pbs pas bl ys with
 |mk c d=>rw[b]at h;simp only at h;split at h<;>(simp only[cI]at h;rw[<-h.2];exact ahV b)
def er.UG(E:Env)(bw:fP E)(LE:mQ E)(f:Nat)(c:er E.T):Prop:=∀(da:dy E.T.El c.pas)(db:cK E.T.El c.pbs)(F:Nat->Prop)(w:World)(ρ:List Value)(bl:List (aG E.T.El))(vs:List Value),aZ E.T F w ρ bl (gZ id (ch false c.pbs) c.pas da) vs ->
 ∃ys,aZ E.T F w ρ bl ys vs/\∀r,c.fn (da,db)=some r->(pV E bw LE f ys (bN id (ch false c.pbs) false c.pbs db)).run c.fin=some r
theorem er.Eq.v{c:er E.T}(h:c.Eq E bw LE f):c.UG E bw LE f:=λ da db _ _ _ _ _ a=>⟨_,a,λ _ b=>(h da db).trans b⟩
def er.pG(E:Env)(bw:fP E)(LE:mQ E)(f:Nat)(c:er E.T):Prop:=∀(da:dy E.T.El c.pas)(db:cK E.T.El c.pbs) r,c.fn (da,db)=some r->(pV E bw LE f (gZ id (ch false c.pbs) c.pas da) (bN id (ch false c.pbs) false c.pbs db)).run c.fin=some r
theorem er.pG.v{c:er E.T}(h:c.pG E bw LE f):c.UG E bw LE f:=λ da db _ _ _ _ _ a=>⟨_,a,λ r b=>h da db r b⟩
def er.AA(E:Env)(f:Nat)(c:er E.T):Prop:=∀(da:dy E.T.El c.pas)(db:cK E.T.El c.pbs) fc,c.fn (da,db)=some fc->∀(W:World)(M0:List Nat)(X:Nat->Prop)(ρ:List Value)(w:World)(vs:List Value),Mem E.T W M0 X (bN id (ch false c.pbs) false c.pbs db) ρ w->aZ E.T (bi X (bN id (ch false c.pbs) false c.pbs db) ρ w) w ρ (bN id (ch false c.pbs) false c.pbs db) (gZ id (ch false c.pbs) c.pas da) vs ->
 ∃a,c.fin a=some fc/\Calls E.P f ⟨vs⟩ w λ e w'=>∃ρ',Mem E.T W M0 X a.bl ρ' w'/\To X (bN id (ch false c.pbs) false c.pbs db) a.bl ρ ρ' w w'/\h3 (bN id (ch false c.pbs) false c.pbs db) ρ w w' a.ws/\AZ E X a.bl ρ' w' a.e e
theorem KU{c:er E.T}(K:c.AA E f):kQ E f (c.run E):=by
 intro ys L r b W M0 X ρ0 w vs M _ N;unfold er.run at b;cases D:hx [] c.pas c.pbs L ys with
 |mk bl cC=>
 rw[D]at b;obtain⟨ρ,o,jD,O⟩:=yh M D N;simp only at b;split at b
 ·rename_i d sel q F;obtain⟨da,db⟩:=d;obtain⟨fc,P,J⟩:=b;obtain⟨G,H⟩:=fc;have J:(⟨.ret (sM (gZ (jV sel bl.length) (fU bl sel c.dw) c.eM G)),hd bl sel c.dw H,sel⟩:fS E.T.El)=r:=J;subst J;obtain⟨aj,_,Q⟩:=vZ o vN F;obtain⟨R,g⟩:=EW vN F;obtain⟨ev,bO⟩:=Q (bi (kV X bl ρ sel) (bN id (ch false c.pbs) false c.pbs db) (hD ρ sel) w) λ k g=>aj.Ju g;have S:=aj.enter o bO;obtain⟨s,a,hc⟩:=K da db _ P _ _ _ _ _ vs S (ev vs O);refine hc.mono λ e w' T=>?_;obtain⟨t,U,u,mF,l⟩:=T;unfold er.fin at a;cases nn:s.e with
  |CC y=>rw[nn]at a;cases a
  |ret y=>
   rw[nn]at a l;simp only at a;cases e with
   |returned v=>
    have l:av E.T _ w' t s.bl y v:=l;cases x:hx (p9 c.pbs.length) c.eM c.dw s.bl (zU c.eM.length y)with
    |mk KN kN=>
    rw[x]at a;simp only at a;split at a
    ·rename_i Bd z m;have a:=ee a;subst a;have n:(zU c.eM.length y).length=c.eM.length:=by rw[<-ahY x];unfold jx at m;split at m;rename_i V;exact Xk V;cases m
     obtain⟨us,u1,u2⟩:=aoh n l;obtain⟨DB,hR,A,u1⟩:=yh U x u1;have Y:=u.trans A;obtain⟨C,Z,L4⟩:=vZ hR FC m;obtain⟨By,LM⟩:=EW FC m;obtain⟨Fy,t_⟩:=L4 (bi (kV X bl ρ sel) (bN id (ch true c.dw) true c.dw H) (hD DB z) w') λ k g=>C.Nf g;have X_:=C.leave hR t_;have Yt:=Zu (by rw[aj.len,o_]) Y C (λ j ax=>Z (j,j) (FD.2 ⟨ax,rfl⟩)) By q λ j i p h h'=>by obtain⟨B,e1,e2,e3⟩:=LM j i p h h';exact⟨B,e1,e2,e3⟩
     obtain⟨bK,du,eH,eR⟩:=back (gq:=ch true c.dw) o aj R (λ j i B p h h' I=>by obtain⟨B',e1,e2,_⟩:=g j i p h I;rw[h']at e1;cases e1;exact QS q I e2) q (λ i hi=>by obtain⟨j,ax,rfl⟩:=il.1 hi;obtain⟨B,e1,_⟩:=g j _ _ (aR ax) (aR (by omega:j<c.pbs.length));exact(ba.1 e1).1) (λ j=>rfl) X_ Yt;refine⟨_,bK,jD.trans du,?_,?_⟩;have:=h3.nil.bE jD eH;rwa [gH]at this
     ·show av E.T _ w' _ _ (sM _) v
      rw[<-u2];exact aan (eR c.eM G us (Fy us u1))
    ·cases a
   |panicked Ba=>exact l.elim
   |outgrown=>exact l.elim
 ·exact b.elim
theorem HW(a1:dr E)(b:mP E bw)(d:xN E LE)(e:E.cZ=[]){c:er E.T}(h:c.UG E bw LE f):kQ E f (c.run E):=KU λ da db fc i W M0 X ρ w vs j k=>by
 obtain⟨l,m,heq⟩:=h da db _ _ _ _ _ k;obtain⟨n,o,p⟩:=D.uY (heq _ i);have q:∀ {r bl' ρ' w'},Km E r bl' ρ' w':=λ{_ _ _ _} g y a=>by rw[e]at a;simp[cH]at a
 exact⟨n,p,((PP a1 b d).ok _ _ _ _ o).2 _ _ _ _ _ vs j q m⟩
theorem Vl(a1:dr E)(a:mP E bw)(b:xN E LE)(d:E.cZ=[]){c:er E.T}(e:c.Eq E bw LE f):kQ E f (c.run E):=HW a1 a b d e.v
end
structure oM where
 eM:List cy
 dw:List bJ
@[reducible] def Ho(El:Nat->Type)(w:oM):Type:=dy El w.eM×cK El w.dw
@[reducible] def Av(El:Nat->Type):List oM->Type
  |[]=>Empty
  |[w]=>Ho El w
  |w::v::r=>Ho El w⊕Av El (v::r)
structure l_ (T:bQ) where
 pas:List cy
 pbs:List bJ
 ws:List oM
 fn:dy T.El pas×cK T.El pbs->Option (Av T.El ws)
def Nj(E:Env)(bl:List (aG E.T.El))(sel:List Nat)(w:oM)(r:Ho E.T.El w):D (fS E.T.El):=.ok ⟨.ret (sM (gZ (jV sel bl.length) (fU bl sel w.dw) w.eM r.1)),hd bl sel w.dw r.2,sel⟩
def Jx(E:Env)(bl:List (aG E.T.El))(sel:List Nat):(ws:List oM)->Option (Av E.T.El ws)->D (fS E.T.El)
 |[],_=>.no
 |[w],o=>.op o λ d=>Nj E bl sel w d
 |w::v::r,o=>.w6 o (λ d=>Nj E bl sel w d) (λ q=>Jx E bl sel (v::r) (some q))
def MR(pbs:List bJ):List oM->Bool
 |[]=>true
 |w::r=>lf pbs w.dw&&MR pbs r
def l_.run(E:Env)(c:l_ E.T)(ys:List (aL E.T.El))(bl:List (aG E.T.El)):D (fS E.T.El):=match hx [] c.pas c.pbs bl ys with
 |(a,b)=>match MR c.pbs c.ws,jx a [] false c.pas c.pbs b with
  |true,some (d,sel)=>Jx E a sel c.ws (c.fn d)
  |_,_=>.no
def Sh{El:Nat->Type}(hB:Nat)(y:aL El)(bl:List (aG El))(w:oM):Option (Ho El w):=match hx (p9 hB) w.eM w.dw bl (zU w.eM.length y)with
 |(a,b)=>match jx a (p9 hB) true w.eM w.dw b with
  |some (d,_)=>some d
  |none=>none
def SA{El:Nat->Type}(hB:Nat)(y:aL El)(bl:List (aG El)):(ws:List oM)->Option (Av El ws)
 |[]=>none
 |[w]=>Sh hB y bl w
 |w::v::r=>match Sh hB y bl w with
  |some d=>some (.inl d)
  |none=>match SA hB y bl (v::r)with
   |some q=>some (.inr q)
   |none=>none
def l_.fin{T:bQ}(c:l_ T)(r:fS T.El):Option (Av T.El c.ws):=match r.e with
 | .ret y=>SA c.pbs.length y r.bl c.ws
 | .CC _=>none
def l_.Eq(E:Env)(bw:fP E)(LE:mQ E)(f:Nat)(c:l_ E.T):Prop:=∀(da:dy E.T.El c.pas)(db:cK E.T.El c.pbs),(pV E bw LE f (gZ id (ch false c.pbs) c.pas da) (bN id (ch false c.pbs) false c.pbs db)).run c.fin=c.fn (da,db)
section
variable{E:Env}{bw:fP E}{LE:mQ E}{f:Nat}
theorem alM{pbs:List bJ}:∀ {ws:List oM}{w:oM},MR pbs ws=true->w∈ws->lf pbs w.dw=true
 |[],w,_,h=>by simp at h
 |v::r,w,h,hm=>by simp only[MR,ca]at h;rcases cG.1 hm with rfl |hm;exact h.1;exact alM h.2 hm
theorem anp{hB:Nat}{y:aL E.T.El}{bl:List (aG E.T.El)}:∀ {ws:List oM}{r:Av E.T.El ws},SA hB y bl ws=some r->∃(w:oM)(d:Ho E.T.El w),w∈ws/\Sh hB y bl w=some d/\∀bl' sel t,(Jx E bl' sel ws (some r)).out t->(Nj E bl' sel w d).out t
 |[],r,h=>by cases h
 |[w],r,h=>⟨w,r,by simp,h,λ bl' sel t a=>by obtain⟨d,e1,e2⟩:=a;simp only[aM]at e1;subst e1;exact e2⟩
 |w::v::ws,r,h=>by simp only[SA]at h;split at h;rename_i d aK;simp only[aM]at h;subst h;refine⟨w,d,by simp,aK,λ bl' sel t a=>?_⟩;rcases a with⟨d',e1,e2⟩|⟨d',e1,e2⟩;simp only[aM,Sum.inl.injEq]at e1;subst e1;exact e2;simp at e1;split at h;rename_i q b;simp only[aM]at h;subst h;obtain⟨w',d,c,J,e⟩:=anp b;refine⟨w',d,eD _ c,J,λ bl' sel t a=>?_⟩;rcases a with⟨d',e1,e2⟩|⟨d',e1,e2⟩;simp at e1;simp only[aM,Sum.inr.injEq]at e1;subst e1;exact e bl' sel t e2;cases h
theorem aKh{bl:List (aG E.T.El)}{sel:List Nat}:∀ {ws:List oM}{o:Option (Av E.T.El ws)}{t:fS E.T.El},(Jx E bl sel ws o).out t->∃r,o=some r/\(Jx E bl sel ws (some r)).out t
 |[],o,t,h=>h.elim
 |[w],o,t,h=>by obtain⟨d,e1,e2⟩:=h;exact⟨d,e1,d,rfl,e2⟩
 |w::v::r,o,t,h=>by rcases h with⟨d,e1,e2⟩|⟨d,e1,e2⟩;exact⟨_,e1,.inl ⟨d,rfl,e2⟩⟩;exact⟨_,e1,.inr ⟨d,rfl,e2⟩⟩
def l_.pG(E:Env)(bw:fP E)(LE:mQ E)(f:Nat)(c:l_ E.T):Prop:=∀(da:dy E.T.El c.pas)(db:cK E.T.El c.pbs) r,c.fn (da,db)=some r->(pV E bw LE f (gZ id (ch false c.pbs) c.pas da) (bN id (ch false c.pbs) false c.pbs db)).run c.fin=some r
theorem l_.Eq.one{c:l_ E.T}(h:c.Eq E bw LE f):c.pG E bw LE f:=λ da db _ a=>(h da db).trans a
theorem agk(a1:dr E)(R:mP E bw)(S:xN E LE)(T:E.cZ=[]){c:l_ E.T}(U:c.pG E bw LE f):kQ E f (c.run E):=by
 intro ys V r b W M0 X ρ0 w vs Y _ Z;unfold l_.run at b;cases K:hx [] c.pas c.pbs V ys with
 |mk bl cC=>
 rw[K]at b;obtain⟨ρ,s,jD,af⟩:=yh Y K Z;simp only at b;split at b
 ·rename_i d sel t L;obtain⟨da,db⟩:=d;obtain⟨fc,h1,J⟩:=aKh b;obtain⟨aj,_,nk⟩:=vZ s vN L;obtain⟨oU,l⟩:=EW vN L;obtain⟨ev,bO⟩:=nk (bi (kV X bl ρ sel) (bN id (ch false c.pbs) false c.pbs db) (hD ρ sel) w) λ k l=>aj.Ju l;have jP:=aj.enter s bO;have yT:=ev vs af;obtain⟨u,dA,a⟩:=D.uY (U da db _ h1);have st:∀ {mS bl' ρ' w'},Km E mS bl' ρ' w':=λ{_ _ _ _} g y M=>by rw[T]at M;simp[cH]at M
  have hc:=((PP a1 R S).ok _ _ _ _ dA).2 _ _ _ _ _ vs jP st yT;unfold l_.fin at a;cases nn:u.e with
  |CC y=>rw[nn]at a;cases a
  |ret y=>
   rw[nn]at a;simp only at a;obtain⟨jN,N,hw,m,x⟩:=anp a;have z:=alM t hw;have J:=x _ _ _ J;obtain⟨O,P⟩:=N;have J:(⟨.ret (sM (gZ (jV sel bl.length) (fU bl sel jN.dw) jN.eM O)),hd bl sel jN.dw P,sel⟩:fS E.T.El)=r:=J;subst J;refine hc.mono λ e w' au=>?_;obtain⟨A,ZD,C,mF,n⟩:=au;rw[nn]at n;cases e with
   |returned v=>
    have n:av E.T _ w' A u.bl y v:=n;unfold Sh at m;cases F:hx (p9 c.pbs.length) jN.eM jN.dw u.bl (zU jN.eM.length y)with
    |mk KN kN=>
    rw[F]at m;simp only at m;split at m
    ·rename_i N G o;have a:=ee m;subst a;have q:(zU jN.eM.length y).length=jN.eM.length:=by rw[<-ahY F];unfold jx at o;split at o;rename_i XO;exact Xk XO;cases o
     obtain⟨us,u1,u2⟩:=aoh q n;obtain⟨DB,hR,H,u1⟩:=yh ZD F u1;have NL:=C.trans H;obtain⟨I,uk,L4⟩:=vZ hR FC o;obtain⟨By,LM⟩:=EW FC o;obtain⟨Fy,t_⟩:=L4 (bi (kV X bl ρ sel) (bN id (ch true jN.dw) true jN.dw P) (hD DB G) w') λ k l=>I.Nf l;have X_:=I.leave hR t_;have Yt:=Zu (by rw[aj.len,o_]) NL I (λ j ax=>uk (j,j) (FD.2 ⟨ax,rfl⟩)) By z λ j i p h h'=>by obtain⟨B,e1,e2,e3⟩:=LM j i p h h';exact⟨B,e1,e2,e3⟩
     obtain⟨bK,du,eH,eR⟩:=back (gq:=ch true jN.dw) s aj oU (λ j i B p h h' Q=>by obtain⟨B',e1,e2,_⟩:=l j i p h Q;rw[h']at e1;cases e1;exact QS z Q e2) z (λ i hi=>by obtain⟨j,ax,rfl⟩:=il.1 hi;obtain⟨B,e1,_⟩:=l j _ _ (aR ax) (aR (by omega:j<c.pbs.length));exact(ba.1 e1).1) (λ j=>rfl) X_ Yt;refine⟨_,bK,jD.trans du,?_,?_⟩;have:=h3.nil.bE jD eH;rwa [gH]at this
     ·show av E.T _ w' _ _ (sM _) v
      rw[<-u2];exact aan (eR jN.eM O us (Fy us u1))
    ·cases m
   |panicked Ba=>exact n.elim
   |outgrown=>exact n.elim
 ·exact b.elim
end
def xH{α:Type}:List Nat->List α->List (Nat×α)
 |s::r,y::ys=>(s,y)::xH r ys
 |_,_=>[]
def uQ:List bJ->List bJ->Bool
 | .r _ s::r,.r _ s'::a=>(s|| !s')&&uQ r a
 |_::r,_::a=>uQ r a
 |_,_=>true
def Jt(E:Env)(hB:Nat)(bl:List (aG E.T.El))(f:cA E.T.El)(ss:List Nat)(pas:List cy)(pbs:List bJ):Option (dy E.T.El pas×cK E.T.El pbs):=match rl E bl f [] (ss.map .tmp)with
 |some ys=>match hx (p9 hB) pas pbs bl ys with
  |(a,b)=>match jx a (p9 hB) true pas pbs b with
   |some (d,_)=>some d
   |none=>none
 |none=>none
section
variable{T:bQ}{F:Nat->Prop}{w w':World}{ρ:List Value}{bl:List (aG T.El)}
theorem az9{aX:List (Nat×Nat)}{p:bJ}{B:aG T.El}{r:vy T.El p×List (Nat×Nat)}(h:jO bl aX true p B=some r):jO bl aX false p B=some r:=by
 cases p with
 |c ty ps=>exact h
 |m kt vt=>exact h
 |d=>exact h
 |r t same=>simp only[jO]at h⊢;split at h;split at h;simpa using h;cases h;cases h
theorem aih:∀ {ps:List bJ}{aX:List (Nat×Nat)}{k:Nat}{r:cK T.El ps×List (Nat×Nat)},p0 bl true aX k ps=some r->p0 bl false aX k ps=some r
 |[],aX,k,r,h=>h
 |p::ps,aX,k,r,h=>by simp only[p0]at h⊢;split at h;split at h;split at h;rename_i d b a;rw[az9 a];simp only;split at h;rename_i c e J;rw[aih J];exact h;cases h;cases h;cases h;cases h
theorem aAa{aX:List (Nat×Nat)}{pas:List cy}{pbs:List bJ}{ys:List (aL T.El)}{r:(dy T.El pas×cK T.El pbs)×List Nat}(h:jx bl aX true pas pbs ys=some r):jx bl aX false pas pbs ys=some r:=by unfold jx at h⊢;split at h;split at h;rename_i J;rw[aih J];exact h;cases h;cases h
theorem Ug{t:Nat}{y:aL T.El}{a:Act}:∀ {ss:List Nat}{ys:List (aL T.El)},aZ T F w ρ bl ys ((ss.map Operand.tmp).map a.eval)->cH (xH ss ys) t=some y->av T F w ρ bl y (a.tmps.getD t undef)
 |[],ys,_,h=>by simp[xH,cH]at h
 |s::r,[],_,h=>by simp[xH,cH]at h
 |s::r,z::ys,b,h=>by simp only[ea,aZ]at b;obtain⟨u,us,e,c,J⟩:=b;simp only[hq]at e;obtain⟨rfl,rfl⟩:=e;simp only[xH,cH]at h;split at h;rename_i ag;simp only[aM]at h;subst h;rw[<-bF ag];exact c;exact Ug J h
theorem R4{σ g σ' g':Nat->Nat}{post post':Bool}:∀ {ps:List bJ}{d:cK T.El ps}{j:Nat}{B:aG T.El},(bN σ g post ps d)[j]? =some B->∃B',(bN σ' g' post' ps d)[j]? =some B'/\∀u,bD B' u=bD B u
 |[],d,j,B,h=>by simp[bN]at h
 |p::r,d,0,B,h=>by simp only[bN,de,aM]at h;subst h;refine⟨dG σ' g' post' p d.1,rfl,λ u=>?_⟩;cases p<;>rfl
 |p::r,d,j+1,B,h=>by obtain⟨B',a,J⟩:=R4 (σ':=σ') (g':=g') (post':=post') (ps:=r) (d:=d.2) (j:=j) (by simpa[bN]using h);exact⟨B',by simpa[bN]using a,J⟩
theorem am1{X:Nat->Prop}{σ g σ' g':Nat->Nat}{post post':Bool}{ps:List bJ}{d:cK T.El ps}{k:Nat}(h:bi X (bN σ g post ps d) ρ w k):bi X (bN σ' g' post' ps d) ρ w k:=⟨h.1,λ⟨j,B,u,a,J,b⟩=>by obtain⟨B',e1,e2⟩:=R4 (σ':=σ) (g':=g) (post':=post) a;exact h.2.1 ⟨j,B',u,e1,J,by rw[e2];exact b⟩,h.2.2⟩
theorem alN:∀ {ps qs:List bJ}{j:Nat}{p q:bJ},uQ ps qs=true->ps[j]? =some p->qs[j]? =some q->BW p q=true->fG true (some q)=0 ->fG true (some p)=0
 |[],_,j,p,q,_,h,_,_,_=>by simp at h
 |a::r,[],j,p,q,_,_,h,_,_=>by simp at h
 |a::r,b::s,0,p,q,c,h,h',e,d=>by
  simp only[de,aM]at h h';subst h;subst h';cases a<;>cases b<;>simp only[BW,gT]at e<;>try first |rfl |(simp[fG]at d;done)
  simp only[uQ,ca,hA,gG]at c;rename_i i f k g;cases f<;>cases g<;>simp[fG]at c d⊢
 |a::r,b::s,j+1,p,q,c,h,h',e,d=>by refine alN (ps:=r) (qs:=s) (j:=j) ?_ (by simpa using h) (by simpa using h') e d;cases a<;>cases b<;>simp only[uQ,ca]at c<;>first |exact c.2 |exact c
variable{X:Nat->Prop}{pre ct:List bJ}{d0 d1:cK T.El pre}{d2:cK T.El ct}{ρ0 eP nN:List Value}{w0 c0 cQ:World}
theorem M4{σ g:Nat->Nat}{post:Bool}:∀ {ps:List bJ}{d:cK T.El ps}{j:Nat},j<ps.length->∃p a,ps[j]? =some p/\∀σ' g' post',(bN σ' g' post' ps d)[j]? =some (dG σ' g' post' p a)
 |[],d,j,h=>by simp at h
 |p::r,d,0,h=>⟨p,d.1,rfl,λ _ _ _=>rfl⟩
 |p::r,d,j+1,h=>by obtain⟨q,a,b,J⟩:=M4 (σ:=σ) (g:=g) (post:=post) (ps:=r) (d:=d.2) (j:=j) (by simpa using h);exact⟨q,a,by simpa using b,λ σ' g' post'=>by simpa[bN]using J σ' g' post'⟩
theorem aLj:To X (bN id (ch false pre) false pre d0) (bN id (ch true pre) true pre d0) ρ0 ρ0 w w:=by
 refine⟨λ k a=>⟨am1 a,rfl⟩,⟨λ i h hi=>⟨h,hi,λ _=>rfl,?_⟩⟩,cP _,λ i B' h' hi b k a _=>?_⟩
 ·rcases fO i pre.length with ak |ak
  ·obtain⟨p,f,e1,e2⟩:=M4 (σ:=id) (g:=id) (post:=true) (d:=d0) ak;rw[e2,e2];cases p with
   |c ty ps=>exact⟨cP _,λ _=>⟨rfl,rfl,cP _,λ _=>rfl⟩⟩
   |r t s=>exact⟨by simp[dG,b1,fG],λ _=>⟨rfl,rfl,by simp[dG,hU,C2],λ e=>by simp[dG,hU,C2]at e⟩⟩
   |m kt vt=>exact⟨cP _,λ _=>⟨rfl,rfl,cP _,λ _=>rfl⟩⟩
   |d=>exact⟨by simp[dG,b1,fG],λ e=>by simp[dG,b1,fG]at e⟩
  ·rw[fk (by rw[o_];exact ak),fk (by rw[o_];exact ak)];exact⟨cP _,λ _=>⟨rfl,rfl,cP _,λ _=>rfl⟩⟩
 ·obtain⟨B,e1,e2⟩:=R4 (σ':=id) (g':=ch false pre) (post':=false) hi;exact⟨B,h',e1,b,by rw[e2];exact a⟩
theorem an5(l:lf pre ct=true)(v:uQ pre ct=true)(H:ρ0.length=pre.length)(h:To X (bN id (ch false pre) false pre d0) (bN id (ch true pre) true pre d1) ρ0 eP w0 c0)(k:To X (bN id (ch false pre) false pre d1) (bN id (ch true ct) true ct d2) eP nN c0 cQ) :
 To X (bN id (ch false pre) false pre d0) (bN id (ch true ct) true ct d2) ρ0 nN w0 cQ:=by
 have x:=Nr l
 refine⟨λ q f=>?_,⟨λ i u hi=>?_⟩,fR h.sz k.sz,λ i B' h' hi y q f m=>?_⟩
 ·obtain⟨e1,e2⟩:=h.F q f;obtain⟨e3,e4⟩:=k.F q (am1 e1);exact⟨e3,e4.trans e2⟩
 ·have n:i<pre.length:=by have:=(ba.1 hi).1;omega
  obtain⟨p,I,e1,e2⟩:=M4 (σ:=id) (g:=id) (post:=true) (d:=d0) n;obtain⟨J,K,a,b⟩:=M4 (σ:=id) (g:=id) (post:=true) (d:=d1) n;obtain⟨q,z,o,r⟩:=M4 (σ:=id) (g:=id) (post:=true) (d:=d2) (show i<ct.length by omega);rw[e1]at a;cases a;have j:=Nq l e1 o;have A:=alN v e1 o j;obtain⟨u1,C,D,a3,a4⟩:=h.L.at_ i u hi;obtain⟨u2,E,G,L,c⟩:=k.L.at_ i u1 C;rw[e2,b]at a4;rw[b,r]at c;refine⟨u2,E,λ aj=>?_,?_⟩;have e:=D aj;rw[G (by rw[e];exact aj),e];rw[e2,r];cases p<;>cases q<;>simp only[BW,gT]at j;exact⟨cP _,λ _=>⟨(c rfl).1.trans (a4 rfl).1,rfl,cP _,λ _=>rfl⟩⟩;exact⟨fY _,λ e=>by simp[dG,b1,fG]at e⟩;have:=bF j;subst this;rename_i s t;refine⟨by cases s<;>cases t<;>simp[dG,b1,fG],λ e=>⟨(c ?_).1.trans (a4 ?_).1,rfl,by simp[dG,hU,C2],λ e=>by simp[dG,hU,C2]at e⟩⟩<;>cases s<;>cases t<;>simp[dG,b1,fG]at e A⊢;exact⟨by simp[dG,b1,fG],λ e=>by simp[dG,b1,fG]at e⟩;exact⟨cP _,λ _=>⟨(c rfl).1.trans (a4 rfl).1,rfl,cP _,λ _=>rfl⟩⟩;exact⟨fY _,λ e=>by simp[dG,b1,fG]at e⟩
 ·obtain⟨B,u,e1,e2,e3⟩:=k.pY i B' h' hi y q f (ez m h.sz);obtain⟨DC,a,b⟩:=R4 (σ':=id) (g':=ch true pre) (post':=true) e1;exact h.pY i DC u a e2 q (by rw[b];exact e3) m
end
section
variable{E:Env}{W w w':World}{M0:List Nat}{X:Nat->Prop}{n:cE}{f:cA E.T.El}{bl:List (aG E.T.El)}{ρ pC:List Value}{a:Act}{pre pbs:List bJ}{pas:List cy}{dp:cK E.T.El pre}{da:dy E.T.El pas}{db:cK E.T.El pbs}{ss:List Nat}
def Told(E:Env)(W:World)(M0:List Nat)(X:Nat->Prop)(ss:List Nat)(pas:List cy)(pbs:List bJ)(da:dy E.T.El pas)(db:cK E.T.El pbs)(ρ:List Value)(a:Act)(w:World)(post:Bool):Prop:=Mem E.T W M0 X (bN id (ch post pbs) post pbs db) ρ w/\aZ E.T (bi X (bN id (ch post pbs) post pbs db) ρ w) w ρ (bN id (ch post pbs) post pbs db) (gZ id (ch post pbs) pas da) ((ss.map Operand.tmp).map a.eval)
theorem abQ(h:R E W M0 X n f bl ρ a w')(u:pC.length=pre.length)(v:lf pre pbs=true)(x:To X (bN id (ch false pre) false pre dp) bl pC ρ w w')(b:Jt E pre.length bl f ss pas pbs=some (da,db)) :
 ∃s,(∀post,Told E W M0 X ss pas pbs da db s a w' post)/\To X (bN id (ch false pre) false pre dp) (bN id (ch true pbs) true pbs db) pC s w w':=by
 unfold Jt at b
 split at b
 ·rename_i ys y;have z:=Cx h (cur:=[]) trivial y;cases t:hx (p9 pre.length) pas pbs bl ys with
  |mk H I=>
  rw[t]at b;simp only at b;split at b
  ·rename_i d sel e;simp only[aM]at b;subst b;obtain⟨g,c,A,v1⟩:=yh h.mem t z;obtain⟨l,C,D⟩:=vZ c FC e;obtain⟨Fs,_,m⟩:=vZ c FC (aAa e);obtain⟨F,G⟩:=EW FC e;refine⟨hD g sel,λ post=>?_,Zu u (x.trans A) l (λ j ax=>C (j,j) (FD.2 ⟨ax,rfl⟩)) F v λ j i p h h'=>?_⟩
   ·cases post with
    |true=>obtain⟨o,q⟩:=D (bi X (bN id (ch true pbs) true pbs db) (hD g sel) w') λ k r=>l.Nf r;exact⟨l.leave c q,o _ v1⟩
    |false=>obtain⟨o,q⟩:=m (bi X (bN id (ch false pbs) false pbs db) (hD g sel) w') λ k r=>Fs.Nf r;exact⟨Fs.leave c q,o _ v1⟩
   ·obtain⟨B,e1,e2,e3⟩:=G j i p h h';exact⟨B,e1,e2,e3⟩
  ·cases b
 ·cases b
end
inductive A3
 |nm
 |ex (id:Nat)
 |rt
structure lE where
 x:A3
 ss:List Nat
 eM:List cy
 dw:List bJ
def TY:A3->A3->Bool
 | .nm,.nm=>true
 | .ex i,.ex j=>cx i j
 | .rt,.rt=>true
 |_,_=>false
theorem aqV{x y:A3}(h:TY x y=true):x=y:=by
 cases x<;>cases y<;>simp only[TY,gT]at h<;>try rfl
 rw[bF h]
def Ka{El:Nat->Type}:A3->O0 El
 | .nm=>.nm
 | .ex i=>.ex i
 | .rt=>.rt
@[reducible] def Aw(El:Nat->Type)(w:lE):Type:=dy El w.eM×cK El w.dw
@[reducible] def Ax(El:Nat->Type):List lE->Type
  |[]=>Empty
  |[w]=>Aw El w
  |w::v::r=>Aw El w⊕Ax El (v::r)
structure f' (T:bQ) where
 ss:List Nat
 pas:List cy
 pbs:List bJ
 ws:List lE
 fn:Nat->dy T.El pas×cK T.El pbs->Option (Ax T.El ws)
def GC(E:Env)(hB:Nat)(x:A3)(bl:List (aG E.T.El))(f:cA E.T.El):(ws:List lE)->Option (Ax E.T.El ws)
 |[]=>none
 |[w]=>match TY w.x x with
  |true=>Jt E hB bl f w.ss w.eM w.dw
  |false=>none
 |w::v::r=>match(match TY w.x x with
   |true=>Jt E hB bl f w.ss w.eM w.dw
   |false=>none)with
  |some d=>some (.inl d)
  |none=>match GC E hB x bl f (v::r)with
   |some q=>some (.inr q)
   |none=>none
def R6(E:Env)(bl:List (aG E.T.El))(sel ws:List Nat)(w:lE)(d:Aw E.T.El w):D (b9 E.T.El):=.ok ⟨Ka w.x,⟨⟨xH w.ss (gZ (jV sel bl.length) (fU bl sel w.dw) w.eM d.1),[],[]⟩,hd bl sel w.dw d.2,sel++ws⟩⟩
def Jp(E:Env)(bl:List (aG E.T.El))(sel us:List Nat):(ws:List lE)->Option (Ax E.T.El ws)->D (b9 E.T.El)
 |[],_=>.no
 |[w],o=>.op o λ d=>R6 E bl sel us w d
 |w::v::r,o=>.w6 o (λ d=>R6 E bl sel us w d) (λ q=>Jp E bl sel us (v::r) (some q))
def Ja(pbs:List bJ):List lE->Bool
 |[]=>true
 |w::r=>lf pbs w.dw&&uQ pbs w.dw&&Ja pbs r
def f'.run(E:Env)(F:Nat)(c:f' E.T)(s:fg E.T.El):D (b9 E.T.El):=match rl E s.bl s.f [] (c.ss.map .tmp)with
 |some ys=>match hx [] c.pas c.pbs s.bl ys with
  |(a,b)=>match Ja c.pbs c.ws&&(lf c.pbs c.pbs&&uQ c.pbs c.pbs),jx a [] false c.pas c.pbs b with
   |true,some (d,sel)=>Jp E a sel s.ws c.ws (c.fn F d)
   |_,_=>.no
 |none=>.no
def ahN(id i:Nat):A3:=match cx i id with
 |true=>.nm
 |false=>.ex i
def f'.fin(E:Env)(c:f' E.T)(id k:Nat)(t:b9 E.T.El):Option (Ax E.T.El c.ws):=match t.x with
 | .nm=>match Jt E c.pbs.length t.s.bl t.s.f c.ss c.pas c.pbs with
   |some d=>c.fn k d
   |none=>none
 | .ex i=>GC E c.pbs.length (ahN id i) t.s.bl t.s.f c.ws
 | .rt=>GC E c.pbs.length .rt t.s.bl t.s.f c.ws
 | .iX _=>none
def BB(E:Env)(c:f' E.T)(da:dy E.T.El c.pas)(db:cK E.T.El c.pbs):fg E.T.El:=⟨⟨xH c.ss (gZ id (ch false c.pbs) c.pas da),[],[]⟩,bN id (ch false c.pbs) false c.pbs db,[]⟩
structure f'.Eq (E:Env) (bw:fP E) (LE:pF E) (n id:Nat) (body:Code) (c:f' E.T):Prop where
 zero:∀d,c.fn 0 d=none
 succ:∀k (da:dy E.T.El c.pas)(db:cK E.T.El c.pbs),(den E bw LE n body (BB E c da db)).run (c.fin E id k)=c.fn (k+1) (da,db)
structure f'.pG (E:Env) (bw:fP E) (LE:pF E) (n id:Nat) (body:Code) (c:f' E.T):Prop where
 zero:∀d,c.fn 0 d=none
 succ:∀k (da:dy E.T.El c.pas)(db:cK E.T.El c.pbs) r,c.fn (k+1) (da,db)=some r->(den E bw LE n body (BB E c da db)).run (c.fin E id k)=some r
theorem f'.Eq.one{E:Env}{bw:fP E}{LE:pF E}{n id:Nat}{body:Code}{c:f' E.T}(h:c.Eq E bw LE n id body):c.pG E bw LE n id body:=⟨h.zero,λ k da db _ a=>(h.succ k da db).trans a⟩
section
variable{E:Env}{bw:fP E}{LE:pF E}
theorem aoC{hB:Nat}{x:A3}{bl:List (aG E.T.El)}{f:cA E.T.El}:∀ {ws:List lE}{r:Ax E.T.El ws},GC E hB x bl f ws=some r ->
 ∃(w:lE)(da:dy E.T.El w.eM)(db:cK E.T.El w.dw),w∈ws/\w.x=x/\Jt E hB bl f w.ss w.eM w.dw=some (da,db)/\∀bl' sel us t,(Jp E bl' sel us ws (some r)).out t->⟨Ka w.x,⟨⟨xH w.ss (gZ (jV sel bl'.length) (fU bl' sel w.dw) w.eM da),[],[]⟩,hd bl' sel w.dw db,sel++us⟩⟩=t
 |[],r,h=>by cases h
 |[w],r,h=>by simp only[GC]at h;split at h;rename_i ad;refine⟨w,r.1,r.2,by simp,aqV ad,h,λ bl' sel us t a=>?_⟩;obtain⟨d,e1,e2⟩:=a;simp only[aM]at e1;subst e1;exact e2;cases h
 |w::v::ws,r,h=>by simp only[GC]at h;split at h;rename_i d aK;simp only[aM]at h;subst h;split at aK;rename_i ad;refine⟨w,d.1,d.2,by simp,aqV ad,aK,λ bl' sel us t a=>?_⟩;rcases a with⟨d',e1,e2⟩|⟨d',e1,e2⟩;simp only[aM,Sum.inl.injEq]at e1;subst e1;exact e2;simp at e1;cases aK;split at h;rename_i q b;simp only[aM]at h;subst h;obtain⟨w',da,db,c,J,e,g⟩:=aoC b;refine⟨w',da,db,eD _ c,J,e,λ bl' sel us t a=>?_⟩;rcases a with⟨d',e1,e2⟩|⟨d',e1,e2⟩;simp at e1;simp only[aM,Sum.inr.injEq]at e1;subst e1;exact g bl' sel us t e2;cases h
theorem amq{bl:List (aG E.T.El)}{sel us:List Nat}:∀ {ws:List lE}{o:Option (Ax E.T.El ws)}{t:b9 E.T.El},(Jp E bl sel us ws o).out t->∃r,o=some r/\(Jp E bl sel us ws (some r)).out t
 |[],o,t,h=>h.elim
 |[w],o,t,h=>by obtain⟨d,e1,e2⟩:=h;exact⟨d,e1,d,rfl,e2⟩
 |w::v::r,o,t,h=>by rcases h with⟨d,e1,e2⟩|⟨d,e1,e2⟩;exact⟨_,e1,.inl ⟨d,rfl,e2⟩⟩;exact⟨_,e1,.inr ⟨d,rfl,e2⟩⟩
theorem RO{pbs:List bJ}:∀ {ws:List lE}{w:lE},Ja pbs ws=true->w∈ws->lf pbs w.dw=true/\uQ pbs w.dw=true
 |[],w,_,h=>by simp at h
 |v::r,w,h,hm=>by simp only[Ja,ca]at h;rcases cG.1 hm with rfl |hm;exact h.1;exact RO h.2 hm
theorem aFJ(a1:dr E)(aB:mP E bw)(d_:E.cZ=[]){n:cE}{iB:Nat}{body:Code}(ak:lD E LE n body){c:f' E.T}(he:c.pG E bw LE n.n iB body)(F:Nat):DG E n (c.run E F) (.block iB (.loop body)):=by
 intro s t q W M0 X b0 ρ0 w0 ρ a w Q h k;have st:∀ {mS:Nat->Prop}{bl':List (aG E.T.El)}{ρ':List Value}{w':World},∀g y,cH E.cZ g=some y->av E.T (bi mS bl' ρ' w') w' ρ' bl' y (.pointer (some ⟨g,0,none⟩)):=λ{_ _ _ _} g y ay=>by rw[d_]at ay;simp[cH]at ay
 unfold f'.run at q;split at q
 ·rename_i ys FB;cases gx:hx [] c.pas c.pbs s.bl ys with
  |mk bl cC=>
  rw[gx]at q;simp only at q;obtain⟨b,N,jD,af⟩:=yh h.r.mem gx (Cx h.r (cur:=[]) trivial FB);split at q
  ·rename_i d sel L5 fh;simp only[ca]at L5;obtain⟨BQ,Xr,O⟩:=L5;obtain⟨da,db⟩:=d;obtain⟨fc,jk,J⟩:=amq q;obtain⟨aj,_,nk⟩:=vZ N vN fh;obtain⟨oU,L⟩:=EW vN fh;obtain⟨ev,bO⟩:=nk (bi (kV X bl b sel) (bN id (ch false c.pbs) false c.pbs db) (hD b sel) w) λ k L=>aj.Ju L;have jP:=aj.enter N bO;have yT:=ev _ af;have r:(hD b sel).length=c.pbs.length:=by rw[aj.len,o_]
   have leave:∀(ec:lE),ec∈c.ws->∀(C:dy E.T.El ec.eM)(G:cK E.T.El ec.dw)(f:List Value)(l:Act)(w':World),l.tmps.size=n.n->l.defers=n.ds ->
    Told E w (tV (bN id (ch false c.pbs) false c.pbs db) (hD b sel)) (kV X bl b sel) ec.ss ec.eM ec.dw C G f l w' true ->
    To (kV X bl b sel) (bN id (ch false c.pbs) false c.pbs db) (bN id (ch true ec.dw) true ec.dw G) (hD b sel) f w w' ->
    t=⟨Ka ec.x,⟨⟨xH ec.ss (gZ (jV sel bl.length) (fU bl sel ec.dw) ec.eM C),[],[]⟩,hd bl sel ec.dw G,sel++s.ws⟩⟩ ->
    EA E X t.s.bl (gX b sel f) Q l w' (Ka ec.x):=λ ec P C G f l w' S T H M aF=>by
    obtain⟨K,eu⟩:=RO BQ P
    obtain⟨bK,du,eH,eR⟩:=back (gq:=ch true ec.dw) N aj oU (λ j i B p h h' sk=>by obtain⟨B',e1,e2,_⟩:=L j i p h sk;rw[h']at e1;cases e1;exact QS K sk e2) K (λ i hi=>by obtain⟨j,ax,rfl⟩:=il.1 hi;obtain⟨B,e1,_⟩:=L j _ _ (aR ax) (aR (by omega:j<c.pbs.length));exact(ba.1 e1).1) (λ j=>rfl) H.1 M
    have ID:=eR ec.eM C _ H.2
    have q4:h3 s.bl ρ w w' sel:=by have:=h3.nil.bE jD eH;rwa [gH]at this
    have:=k (gX b sel f) l w' (by subst aF;exact⟨⟨bK,⟨⟨S,T,λ t y hy=>Ug ID hy⟩,λ p v=>by simp at v,λ p v=>by simp at v⟩,st⟩,h.to.trans (jD.trans du),h.wr.bE h.to q4⟩)
    rw[aF]at this⊢
    exact this
   refine wp_block (wp_loop_ghost (λ m l w'=>∃(I:dy E.T.El c.pas)(z:cK E.T.El c.pbs)(ρ':List Value),l.tmps.size=n.n/\l.defers=n.ds/\Told E w (tV (bN id (ch false c.pbs) false c.pbs db) (hD b sel)) (kV X bl b sel) c.ss c.pas c.pbs I z ρ' l w' false/\
    To (kV X bl b sel) (bN id (ch false c.pbs) false c.pbs db) (bN id (ch true c.pbs) true c.pbs z) (hD b sel) ρ' w w'/\c.fn m (I,z)=some fc) F ⟨da,db,hD b sel,h.r.dZ.et.size,h.r.dZ.et.defers,⟨jP,yT⟩,aLj,jk⟩ λ m l w' k0=>?_)
   obtain⟨I,z,ρ',S,T,H,M,U⟩:=k0;cases m with
   |zero=>rw[he.zero]at U;cases U
   |succ m=>
    obtain⟨V,dA,o⟩:=D.uY (he.succ _ _ _ _ U);have qZ:ρ'.length=c.pbs.length:=by rw[H.1.len,o_]
    have eC:R E w (tV (bN id (ch false c.pbs) false c.pbs db) (hD b sel)) (kV X bl b sel) n (BB E c I z).f (BB E c I z).bl ρ' l w':=⟨H.1,⟨⟨S,T,λ t y hy=>Ug H.2 hy⟩,λ p v=>by simp[BB]at v,λ p v=>by simp[BB]at v⟩,st⟩
    refine pN (b0:=(BB E c I z).bl) (ρ0:=ρ') (w0:=w') a1 aB body ak dA ⟨eC,.refl,.nil⟩ λ DB Y mF u=>?_;have out:∀x,GC E c.pbs.length x V.s.bl V.s.f c.ws=some fc->∃(ec:lE)(f:List Value),EA E X t.s.bl (gX b sel f) Q Y mF (Ka ec.x)/\ec.x=x:=λ x ad=>by obtain⟨ec,C,G,bh,bs,bL,eL⟩:=aoC ad;obtain⟨K,eu⟩:=RO BQ bh;obtain⟨f,Z,ef⟩:=abQ u.r qZ K u.to bL;have J:=eL _ _ _ _ J;exact⟨ec,f,leave ec bh C G f Y mF u.r.dZ.et.size u.r.dZ.et.defers (Z true) (an5 K eu r M ef) J.symm,bs⟩
    unfold f'.fin at o;cases ad:V.x with
    |nm=>rw[ad]at o;simp only at o;split at o;rename_i Bd aBk;obtain⟨f,Z,ef⟩:=abQ u.r qZ Xr u.to aBk;exact⟨m,ks m,Bd.1,Bd.2,f,u.r.dZ.et.size,u.r.dZ.et.defers,Z false,an5 Xr O r M ef,o⟩;cases o
    |ex i=>
     rw[ad]at o;obtain⟨ec,f,A,J⟩:=out _ o;show Exit.inBlock iB Q (.exit i) Y mF
     unfold ahN at J;split at J;rename_i ag;rw[bF ag];simp only[Exit.inBlock,if_true];rw[J]at A;exact A
     ·rename_i ag;have bY:i≠iB:=λ e=>by subst e;simp at ag
      simp only[Exit.inBlock,ly bY];rw[J]at A;exact A
    |rt=>rw[ad]at o;obtain⟨ec,f,A,J⟩:=out _ o;rw[J]at A;exact A
    |iX y=>rw[ad]at o;cases o
  ·exact q.elim
 ·exact q.elim
end
def fT(i:Nat):Code->Option Code
 | .seq x y=>match fT i x with
   |some b=>some b
   |none=>fT i y
 | .cond _ x y=>match fT i x with
   |some b=>some b
   |none=>fT i y
 | .block id c=>match cx id i with
   |true=>match c with
    | .loop b=>some b
    |_=>none
   |false=>fT i c
 | .loop c=>fT i c
 | .scope c=>fT i c
 |_=>none
def ju(i:Nat):Code->Nat
 | .seq x y=>ju i x+ju i y
 | .cond _ x y=>ju i x+ju i y
 | .block id c=>match cx id i with
   |true=>ju i c+1
   |false=>ju i c
 | .loop c=>ju i c
 | .scope c=>ju i c
 |_=>0
def vA(E:Env)(i:Nat)(g:fg E.T.El->D (b9 E.T.El))(n:cE):Code->Prop
 | .seq x y=>vA E i g n x/\vA E i g n y
 | .cond _ x y=>vA E i g n x/\vA E i g n y
 | .block id c=>(id=i->DG E n g (.block id c))/\vA E i g n c
 | .loop c=>vA E i g n c
 | .scope c=>vA E i g n c
 |_=>True
section
variable{E:Env}{LE:pF E}{n:cE}{i:Nat}{g:fg E.T.El->D (b9 E.T.El)}
theorem sE:∀ {c:Code},ju i c=0 ->vA E i g n c
 | .seq x y,h=>by simp only[ju]at h;exact⟨sE (by omega),sE (by omega)⟩
 | .cond _ x y,h=>by simp only[ju]at h;exact⟨sE (by omega),sE (by omega)⟩
 | .block id c,h=>by simp only[ju]at h;split at h;omega;rename_i ag;exact⟨λ e=>by subst e;simp at ag,sE h⟩
 | .loop c,h=>sE (c:=c) h
 | .scope c,h=>sE (c:=c) h
 | .skip,_ | .region _ _ _,_ | .rangeFunc _ _ _ _,_ | .exit _,_ | .label _,_ | .goto _,_ | .ret,_ | .refuse _,_=>trivial
theorem tU:∀ {c b:Code},fT i c=some b->0<ju i c
 | .seq x y,b,h=>by simp only[fT]at h;simp only[ju];split at h;rename_i a;have:=tU a;omega;have:=tU h;omega
 | .cond _ x y,b,h=>by simp only[fT]at h;simp only[ju];split at h;rename_i a;have:=tU a;omega;have:=tU h;omega
 | .block id c,b,h=>by simp only[fT]at h;simp only[ju];split at h;omega;exact tU h
 | .loop c,b,h=>by simp only[ju];exact tU (c:=c) h
 | .scope c,b,h=>by simp only[ju];exact tU (c:=c) h
 | .skip,_,h | .region _ _ _,_,h | .rangeFunc _ _ _ _,_,h | .exit _,_,h | .label _,_,h | .goto _,_,h | .ret,_,h | .refuse _,_,h=>by simp[fT]at h
theorem B1{b:Code}(d:DG E n g (.block i (.loop b))):∀ {c:Code},ju i c<=1 ->fT i c=some b->vA E i g n c
 | .seq x y,h,a=>by simp only[ju]at h;simp only[fT]at a;split at a;rename_i f;have:=tU f;simp only[aM]at a;subst a;exact⟨B1 d (by omega) f,sE (by omega)⟩;have:=tU a;exact⟨sE (by omega),B1 d (by omega) a⟩
 | .cond _ x y,h,a=>by simp only[ju]at h;simp only[fT]at a;split at a;rename_i f;have:=tU f;simp only[aM]at a;subst a;exact⟨B1 d (by omega) f,sE (by omega)⟩;have:=tU a;exact⟨sE (by omega),B1 d (by omega) a⟩
 | .block id c,h,a=>by simp only[ju]at h;simp only[fT]at a;split at a;rename_i ag;rw[ag]at h;have e:=bF ag;subst e;split at a;simp only[aM]at a;subst a;exact⟨λ _=>d,sE (by simp only at h;omega)⟩;cases a;rename_i ag;rw[ag]at h;exact⟨λ e=>by subst e;simp at ag,B1 d h a⟩
 | .loop c,h,a=>B1 (c:=c) d h a
 | .scope c,h,a=>B1 (c:=c) d h a
 | .skip,_,h | .region _ _ _,_,h | .rangeFunc _ _ _ _,_,h | .exit _,_,h | .label _,_,h | .goto _,_,h | .ret,_,h | .refuse _,_,h=>by simp[fT]at h
theorem BX{Kn:pF E}(hi:i<1000000)(a:∀j h,Kn j=some h->(j=i/\h=g)\/LE j=some h):∀ {c:Code},lD E LE n c->vA E i g n c->lD E Kn n c
 | .seq x y,h,h'=>⟨(λ q r rest b e=>by
   unfold MV at b;split at b;rename_i id _;rcases a _ q b with⟨e1,_⟩|e2;omega;exact h.1 q r rest e2 e
   ·cases b),BX hi a h.2.1 h'.1,BX hi a h.2.2 h'.2⟩
 | .cond _ x y,h,h'=>⟨BX hi a h.1 h'.1,BX hi a h.2 h'.2⟩
 | .block id c,h,h'=>⟨λ q b=>by
   rcases a id q b with⟨e1,e2⟩|e;rw[e2];exact h'.1 e1
   ·exact h.1 q e,BX hi a h.2 h'.2⟩
 | .loop c,h,h'=>BX (c:=c) hi a h h'
 | .scope c,h,h'=>BX (c:=c) hi a h h'
 | .skip,_,_ | .region _ _ _,_,_ | .rangeFunc _ _ _ _,_,_ | .exit _,_,_ | .label _,_,_ | .goto _,_,_ | .ret,_,_ | .refuse _,_,_=>trivial
def mz:Code->List (Nat×Code×Code)
 | .seq x y=>(match x,y with
   | .seq (.region a b c) (.block id d),.seq r _=>[(id,.seq (.region a b c) (.block id d),r)]
   |_,_=>[])++mz x++mz y
 | .cond _ x y=>mz x++mz y
 | .block _ c=>mz c
 | .loop c=>mz c
 | .scope c=>mz c
 |_=>[]
def sw:Code->Bool
 | .seq x y=>sw x&&sw y
 | .cond _ x y=>sw x&&sw y
 | .block id c=>eN id 1000000&&sw c
 | .loop c=>sw c
 | .scope c=>sw c
 |_=>true
theorem BZ{Kn:pF E}(m:∀j h,Kn j=some h->(j=1000000+i/\h=g)\/LE j=some h):∀ {c:Code},(∀x r,(i,x,r)∈mz c->AD E n g x r)->sw c=true->lD E LE n c->lD E Kn n c
 | .seq x y,l,ag,h=>by
   simp only[sw,ca]at ag;refine⟨λ q r rest o e=>?_,BZ m (λ fu f k=>l fu f (by simp only[mz];simp[k])) ag.1 h.2.1,BZ m (λ fu f k=>l fu f (by simp only[mz];simp[k])) ag.2 h.2.2⟩;unfold MV at o;split at o
   ·rename_i a b c id d;rcases m _ q o with⟨e1,e2⟩|e2
    ·have:id=i:=by omega
     subst this;subst e;rw[e2];exact l _ _ (by simp only[mz];simp)
    ·exact h.1 q r rest e2 e
   ·cases o
 | .cond _ x y,l,ag,h=>by simp only[sw,ca]at ag;exact⟨BZ m (λ fu f k=>l fu f (by simp only[mz];simp[k])) ag.1 h.1,BZ m (λ fu f k=>l fu f (by simp only[mz];simp[k])) ag.2 h.2⟩
 | .block id c,l,ag,h=>by simp only[sw,ca]at ag;refine⟨λ q o=>?_,BZ m (λ fu f k=>l fu f (by simpa only[mz]using k)) ag.2 h.2⟩;rcases m id q o with⟨e1,_⟩|e;have:=cJ ag.1;omega;exact h.1 q e
 | .loop c,l,ag,h=>BZ (c:=c) m (λ fu f k=>l fu f (by simpa only[mz]using k)) ag h
 | .scope c,l,ag,h=>BZ (c:=c) m (λ fu f k=>l fu f (by simpa only[mz]using k)) ag h
 | .skip,_,_,_ | .region _ _ _,_,_,_ | .rangeFunc _ _ _ _,_,_,_ | .exit _,_,_,_ | .label _,_,_,_ | .goto _,_,_,_ | .ret,_,_,_ | .refuse _,_,_,_=>trivial
theorem B0:∀ {c b:Code},lD E LE n c->fT i c=some b->lD E LE n b
 | .seq x y,b,h,a=>by simp only[fT]at a;split at a;rename_i d;simp only[aM]at a;subst a;exact B0 h.2.1 d;exact B0 h.2.2 a
 | .cond _ x y,b,h,a=>by simp only[fT]at a;split at a;rename_i d;simp only[aM]at a;subst a;exact B0 h.1 d;exact B0 h.2 a
 | .block id c,b,h,a=>by simp only[fT]at a;split at a;split at a;simp only[aM]at a;subst a;exact h.2;cases a;exact B0 h.2 a
 | .loop c,b,h,a=>B0 (c:=c) h a
 | .scope c,b,h,a=>B0 (c:=c) h a
 | .skip,_,_,h | .region _ _ _,_,_,h | .rangeFunc _ _ _ _,_,_,h | .exit _,_,_,h | .label _,_,_,h | .goto _,_,_,h | .ret,_,_,h | .refuse _,_,_,h=>by simp[fT]at h
end
structure cX (E:Env) where
 ce:List (Nat×(List (aL E.T.El)->List (aG E.T.El)->D (fS E.T.El)))
 le:List (Nat×Nat×(fg E.T.El->D (b9 E.T.El)))
def IW{E:Env}:List (Nat×Nat×(fg E.T.El->D (b9 E.T.El)))->mQ E
 |[],_,_=>none
 |p::r,g,i=>match cx p.1 g&&cx p.2.1 i with
  |true=>some p.2.2
  |false=>IW r g i
def Zy{E:Env}:List (Nat×(List (aL E.T.El)->List (aG E.T.El)->D (fS E.T.El)))->Kk E
 |[],_=>none
 |p::r,g=>match cx p.1 g with
  |true=>some p.2
  |false=>Zy r g
def cX.l8{E:Env}(t:cX E):Kk E:=Zy t.ce
def cX.LE{E:Env}(t:cX E):mQ E:=IW t.le
def cX.bw{E:Env}(t:cX E):fP E:=H8 E t.l8 t.LE 100
def cX.f{E:Env}(t:cX E)(g:Nat)(h:List (aL E.T.El)->List (aG E.T.El)->D (fS E.T.El)):cX E:=⟨(g,h)::t.ce,t.le⟩
def cX.l{E:Env}(t:cX E)(g i:Nat)(h:fg E.T.El->D (b9 E.T.El)):cX E:=⟨t.ce,(g,i,h)::t.le⟩
structure cX.Ok {E:Env} (t:cX E):Prop where
 ce:OP E t.l8
 le:xN E t.LE
def er.fit(E:Env)(c:er E.T)(ys:List (aL E.T.El))(bl:List (aG E.T.El)):Bool:=match hx [] c.pas c.pbs bl ys with
 |(a,b)=>match jx a [] false c.pas c.pbs b with
  |some _=>true
  |none=>false
def f'.fit(E:Env)(c:f' E.T)(s:fg E.T.El):Bool:=match rl E s.bl s.f [] (c.ss.map .tmp)with
 |some ys=>match hx [] c.pas c.pbs s.bl ys with
  |(a,b)=>match jx a [] false c.pas c.pbs b with
   |some _=>true
   |none=>false
 |none=>false
def cX.H7{E:Env}(t:cX E)(g:Nat)(c:er E.T):cX E:=t.f g λ ys bl=>match c.fit E ys bl with
 |true=>c.run E ys bl
 |false=>t.bw g ys bl
def cX.Q6{E:Env}(t:cX E)(g i:Nat)(c:f' E.T)(F:Nat):cX E:=t.l g i λ s=>match c.fit E s with
 |true=>c.run E F s
 |false=>match t.LE g i with
  |some h=>h s
  |none=>.no
def sd(P:Program)(g:Nat):Code:=match P.funcs[g]? with
 |some fn=>match fn.body with
  |some c=>c
  |none=>.skip
 |none=>.skip
def io(P:Program)(g i:Nat):Code:=match fT i (sd P g)with
 |some b=>b
 |none=>.skip
def fW(P:Program)(g:Nat):Nat:=match P.funcs[g]? with
 |some fn=>fn.ntmps
 |none=>0
def qg(P:Program)(g i:Nat):Bool:=match fT i (sd P g)with
 |some _=>iI (ju i (sd P g)) 1&&eN i 1000000
 |none=>false
section
variable{E:Env}{t:cX E}
theorem cX.Ok.qM(h:t.Ok){f:Nat}{r:List (aL E.T.El)->List (aG E.T.El)->D (fS E.T.El)}(b:fJ E.cm f=true)(hc:kQ E f r):(t.f f r).Ok:=by
 have key:∀g q,(t.f f r).l8 g=some q->(g=f/\q=r)\/t.l8 g=some q:=λ g q a=>by simp only[cX.l8,cX.f,Zy]at a;split at a;rename_i ag;simp only[aM]at a;exact .inl ⟨(bF ag).symm,a.symm⟩;exact .inr a
 refine⟨⟨λ g q a=>?_,λ g q a=>?_⟩,h.le⟩;rcases key g q a with⟨rfl,_⟩|e;exact uu b;exact h.ce.cm g q e;rcases key g q a with⟨rfl,rfl⟩|e;exact hc;exact h.ce.ok g q e
theorem cX.Ok.fn(a1:dr E)(a:E.cZ=[])(h:t.Ok){f:Nat}(b:fJ E.cm f=true){c:er E.T}(d:c.Eq E t.bw t.LE f):(t.f f (c.run E)).Ok:=h.qM b (Vl a1 (m' a1 h.ce h.le 100) h.le a d)
theorem cX.Ok.O1(a1:dr E)(h:t.Ok){g i:Nat}(d:qg E.P g i=true){r:fg E.T.El->D (b9 E.T.El)}(a:g∈E.cm->DG E ⟨fW E.P g,[]⟩ r (.block i (.loop (io E.P g i)))):(t.l g i r).Ok:=by
 refine⟨h.ce,λ g' fn l m k n=>?_⟩;have c:=h.le g' fn l m k n;by_cases e:g'=g
 ·subst e;have p:sd E.P g'=l:=by unfold sd;rw[k];simp only;rw[n]
  have s:fW E.P g'=fn.ntmps:=by unfold fW;rw[k]
  have a:=a m;unfold qg at d;unfold io at a;rw[p]at d a;rw[s]at a;split at d;rename_i b ag;rw[ag]at a;simp only at a;simp only[ca]at d;refine BX (i:=i) (cJ d.2) (λ j q f=>?_) c (B1 a (cJ d.1) ag);simp only[cX.LE,cX.l,IW]at f;split at f;rename_i o;simp only[ca]at o;simp only[aM]at f;exact .inl ⟨(bF o.2).symm,f.symm⟩;exact .inr f;cases d
 ·have same:∀j,(t.l g i r).LE g' j=t.LE g' j:=λ j=>by
   simp only[cX.LE,cX.l,IW];have:cx g g'=false:=by rw[fX];intro ag;exact e (bF ag).symm
   rw[this];rfl
  have:(t.l g i r).LE g'=t.LE g':=funext same;rw[this];exact c
def Gm(P:Program)(g i:Nat):Option (Code×Code):=match(mz (sd P g)).filter (λ p=>cx p.1 i),sw (sd P g)with
 |[p],true=>some p.2
 |_,_=>none
theorem cX.Ok.avZ(h:t.Ok){g i:Nat}{x y:Code}(b:Gm E.P g i=some (x,y)){r:fg E.T.El->D (b9 E.T.El)}(d:g∈E.cm->AD E ⟨fW E.P g,[]⟩ r x y):(t.l g (1000000+i) r).Ok:=by
 refine⟨h.ce,λ g' fn f l k m=>?_⟩;have a:=h.le g' fn f l k m;by_cases e:g'=g
 ·subst e;have s:sd E.P g'=f:=by unfold sd;rw[k];simp only;rw[m]
  have u:fW E.P g'=fn.ntmps:=by unfold fW;rw[k]
  have d:=d l;unfold Gm at b;rw[s]at b;rw[u]at d;split at b;rename_i p v w;simp only[aM]at b;refine BZ (i:=i) (g:=r) (λ j q c=>?_) (λ fu z A=>?_) w a;simp only[cX.LE,cX.l,IW]at c;split at c;rename_i n;simp only[ca]at n;simp only[aM]at c;exact .inl ⟨(bF n.2).symm,c.symm⟩;exact .inr c;have o:(i,fu,z)∈(mz f).filter (λ p=>cx p.1 i):=iF.2 ⟨A,by simp⟩;rw[v]at o;have:=dm.1 o;rw[<-this]at b;cases b;exact d;cases b
 ·have same:∀j,(t.l g (1000000+i) r).LE g' j=t.LE g' j:=λ j=>by
   simp only[cX.LE,cX.l,IW];have:cx g g'=false:=by rw[fX];intro ag;exact e (bF ag).symm
   rw[this];rfl
  have:(t.l g (1000000+i) r).LE g'=t.LE g':=funext same;rw[this];exact a
theorem cX.Ok.P7(a1:dr E)(j:E.cZ=[])(h:t.Ok){g i:Nat}(d:qg E.P g i=true){c:f' E.T}(e:c.pG E t.bw (t.LE g) (fW E.P g) i (io E.P g i))(F:Nat):g∈E.cm->DG E ⟨fW E.P g,[]⟩ (c.run E F) (.block i (.loop (io E.P g i))):=λ k=>by
 unfold qg at d;split at d
 ·rename_i b ag;have l:io E.P g i=b:=by unfold io;rw[ag]
  rw[l]at e⊢;unfold sd at ag;split at ag
  ·rename_i fn f;split at ag
   ·rename_i m o;have a:=h.le g fn m k f o;have p:fW E.P g=fn.ntmps:=by unfold fW;rw[f]
    rw[p]at e⊢;exact aFJ (n:=⟨fn.ntmps,[]⟩) a1 (m' a1 h.ce h.le 100) j (B0 a ag) e F
   ·simp[fT]at ag
  ·simp[fT]at ag
 ·cases d
theorem cX.Ok.gm(a1:dr E)(b:E.cZ=[])(h:t.Ok){g i:Nat}(a:qg E.P g i=true){c:f' E.T}(d:c.Eq E t.bw (t.LE g) (fW E.P g) i (io E.P g i))(F:Nat):(t.l g i (c.run E F)).Ok:=h.O1 a1 a (h.P7 a1 b a d.one F)
theorem zk{LE:pF E}{n:cE}{i:Nat}{q:fg E.T.El->D (b9 E.T.El)}(d:LE i=some q):∀ {c b:Code},lD E LE n c->fT i c=some b->DG E n q (.block i (.loop b))
 | .seq x y,b,h,a=>by simp only[fT]at a;split at a;rename_i f;simp only[aM]at a;subst a;exact zk d h.2.1 f;exact zk d h.2.2 a
 | .cond _ x y,b,h,a=>by simp only[fT]at a;split at a;rename_i f;simp only[aM]at a;subst a;exact zk d h.1 f;exact zk d h.2 a
 | .block id c,b,h,a=>by simp only[fT]at a;split at a;rename_i ag;have e:=bF ag;subst e;split at a;simp only[aM]at a;subst a;exact h.1 q d;cases a;exact zk d h.2 a
 | .loop c,b,h,a=>zk (c:=c) d h a
 | .scope c,b,h,a=>zk (c:=c) d h a
 | .skip,_,_,h | .region _ _ _,_,_,h | .rangeFunc _ _ _ _,_,_,h | .exit _,_,_,h | .label _,_,_,h | .goto _,_,_,h | .ret,_,_,h | .refuse _,_,_,h=>by simp[fT]at h
theorem cX.Ok.aFK(a1:dr E)(k:E.cZ=[])(h:t.Ok){g i:Nat}(a:qg E.P g i=true){c:f' E.T}(l:c.Eq E t.bw (t.LE g) (fW E.P g) i (io E.P g i))(F:Nat):(t.Q6 g i c F).Ok:=by
 refine h.O1 a1 a λ f s r d=>?_;split at d;exact h.P7 a1 k a l.one F f s r d
 ·split at d
  ·rename_i q m;have v:=a;unfold qg at a;split at a
   ·rename_i b ag;have n:io E.P g i=b:=by unfold io;rw[ag]
    rw[n];unfold sd at ag;split at ag
    ·rename_i fn j;split at ag
     ·rename_i o p;have e:=h.le g fn o f j p;have u:fW E.P g=fn.ntmps:=by unfold fW;rw[j]
      rw[u];exact zk m e ag s r d
     ·simp[fT]at ag
    ·simp[fT]at ag
   ·cases a
  ·exact d.elim
theorem cX.Ok.jN(a1:dr E)(a:E.cZ=[])(h:t.Ok){f:Nat}(b:fJ E.cm f=true){c:l_ E.T}(d:c.Eq E t.bw t.LE f):(t.f f (c.run E)).Ok:=h.qM b (agk a1 (m' a1 h.ce h.le 100) h.le a d.one)
theorem cX.Ok.azD(a1:dr E)(b:E.cZ=[])(h:t.Ok){f:Nat}(d:fJ E.cm f=true){c:er E.T}(e:c.Eq E t.bw t.LE f):(t.H7 f c).Ok:=by refine h.qM d λ ys bl r a=>?_;split at a;exact Vl a1 (m' a1 h.ce h.le 100) h.le b e ys bl r a;exact((m' a1 h.ce h.le 100).ok f ys bl r a).2
end
end a7
