/- Part 3 of the proof that is ended in the last text: small logic, what the functions compute, walks, plain laws. -/
import Derived.Test.YteeliipnilghaaaGreatGk2
open Array renaming getD_eq_getD_getElem?->ek,getElem?_eq_getElem->jh,getElem?_eq_none->hJ,getElem?_eq_some_iff->fJ,getElem?_setIfInBounds->fe,getElem?_toList->ht,setIfInBounds_comm->jt
open Bool renaming and_eq_true->bH,eq_false_iff->hz,false_eq_true->hG,not_eq_true'->gI,or_eq_false_iff->h0,or_eq_true->hV
open List renaming all_eq_true->kh,any_eq_true->h2,append_nil->hp,cons.injEq->hA,getElem?_append_left->fc,getElem?_append_right->fI,getElem?_cons_zero->dG,getElem?_drop->je,getElem?_eq_getElem->aJ,getElem?_eq_none->gH,getElem?_eq_some_iff->aO,getElem?_map->jb,getElem?_set_ne->jg,getElem?_set_self->fH,getElem?_take->gT,length_cons->de,length_set->kb,length_take->gw,map_cons->eu,map_nil->hS,mem_append->b_,mem_cons->cR,mem_cons_of_mem->dX,mem_filter->i_,mem_iff_getElem->iP,mem_of_getElem?->bE,mem_singleton->dR,nodup_cons->im,not_mem_nil->h4,pairwise_iff_getElem->jr
open Nat renaming beq->bS,ble->jc,blt->ez,decEq->lu,eq_of_beq_eq_true->bd,le_of_ble_eq_true->cv,le_refl->cC,le_trans->gJ,lt_of_lt_of_le->en,lt_or_ge->gg,lt_succ_self->lv,min_eq_left->lJ,zero_add->jx,zero_le->gK
open Option renaming bind_some->ae,getD_some->iM,map_eq_some_iff->cu,some.inj->ei,some.injEq->aF
open Prod renaming mk.injEq->ca
namespace bc
open Go Go.RowKit aw I
inductive acx (El:Nat->Type):Type
 |ret (y:aH El)
 |zB (y:aH El)
structure fg (El:Nat->Type) where
 e:acx El
 bl:List (aD El)
 ws:List Nat
abbrev fb(E:Env):=Nat->List (aH E.T.El)->List (aD E.T.El)->D (fg E.T.El)
structure eG (El:Nat->Type) where
 f:cy El
 bl:List (aD El)
 ws:List Nat
inductive L3 (El:Nat->Type):Type
 |nm
 |ex (id:Nat)
 |rt
 |hP (y:aH El)
structure b6 (El:Nat->Type) where
 x:L3 El
 s:eG El
def gW{El:Nat->Type}(bl:List (aD El))(ρ:List Value)(w w':World)(ws:List Nat):Prop:=∀k,k<w.heap.size->(∀i∈ws,∀B h,bl[i]? =some B->ρ[i]? =some h->k∉bB B h)->w'.heap[k]? =w.heap[k]?
section
variable{T:bR}{X:Nat->Prop}{bl bl' vj:List (aD T.El)}{ρ ρ' Hq:List Value}{w w' w'':World}{s s':List Nat}
theorem gW.nil:gW bl ρ w w []:=λ _ _ _=>rfl
theorem gW.bF(h:gW bl ρ w w' s)(b:To X bl bl' ρ ρ' w w')(k:gW bl' ρ' w' w'' s'):gW bl ρ w w'' (s'++s):=λ q a c=>
 (k q (en a b.sz) λ i hi B h af d e=>by
  obtain⟨iR,f,g,ak,aS⟩:=b.nT i B h af d q e a;exact c i (b_.2 (.inl hi)) iR f g ak aS).trans (h q a λ i hi=>c i (b_.2 (.inr hi)))
theorem gW.same(h:gW bl ρ w w' s)(e:∀q:Nat,w''.heap[q]? =w'.heap[q]?):gW bl ρ w w'' s:=λ q a b=>(e q).trans (h q a b)
end
def BF(E:Env)(X:Nat->Prop)(bl:List (aD E.T.El))(ρ:List Value)(w:World):acx E.T.El->Ending->Prop
 | .ret y,.returned v=>ar E.T (bi X bl ρ w) w ρ bl y v
 | .zB y,.panicked c=>∃v,c=[{ v,recovered:=false }]/\ar E.T (bi X bl ρ w) w ρ bl y v
 |_,_=>False
def Hw(E:Env)(X:Nat->Prop)(bl:List (aD E.T.El))(ρ:List Value)(w:World):Prop:=∀g y,cD E.cQ g=some y->ar E.T (bi X bl ρ w) w ρ bl y (.pointer (some ⟨g,0,none⟩))
structure kU (E:Env) (bt:fb E):Prop where
 ok:∀f ys bl r,(bt f ys bl).out r->(∀args w,(callFunc f args).run E.P w= .ok (.enter f args) w)/\
  ∀(W:World)(M0:List Nat)(X:Nat->Prop)(ρ:List Value)(w:World)(vs:List Value),Mem E.T W M0 X bl ρ w->Hw E X bl ρ w->a7 E.T (bi X bl ρ w) w ρ bl ys vs ->
   Calls E.P f ⟨vs⟩ w λ e w'=>∃ρ',Mem E.T W M0 X r.bl ρ' w'/\To X bl r.bl ρ ρ' w w'/\gW bl ρ w w' r.ws/\BF E X r.bl ρ' w' r.e e
structure pU (El:Nat->Type) where
 f:cy El
 aL:Option (Option Nat)
def Yg(E:Env)(bl:List (aD E.T.El))(f:cy E.T.El)(d:Nat)(op:Op):D (pU E.T.El):=(E3 E bl f [] op).bind λ y=>.ok ⟨f.put d y,qp E bl f [] op⟩
def Pq(E:Env)(bl:List (aD E.T.El))(f:cy E.T.El)(d:Nat)(want c:Bool)(op:Op):D (pU E.T.El):=match EI c want with
 |true=>Yg E bl f d op
 |false=>.ok ⟨f.put d (.p undef),none⟩
def cy.know{El:Nat->Type}(f:cy El)(j:Nat)(b:Bool):cy El:=⟨f.fr,f.gs,(j,b)::f.eg⟩
def akP(E:Env)(ops:Array Oper)(d:Nat):List Oper->Bool
 |[]=>false
 |o::r=>(match o.guard with
  |some (j,_)=>match Io ops j,(match o.op with
   | .indexAddr _ _ _=>LV.e
   | .index _ _ _=>LV.e
   | .slice _ _ _ _ _=>LV.e
   |op=>Oc E.P op)with
    |_,.q=>false
    |some d',_=>bS d' d
    |none,_=>false
  |none=>false)||akP E ops d r
def Pr(E:Env)(ops:Array Oper)(n:Nat)(bl:List (aD E.T.El))(f:cy E.T.El)(o:Oper):D (pU E.T.El):=match o.dst with
 |none=>.no
 |some d=>match ez d n with
  |false=>.no
  |true=>match M9 E ops f n o.guard with
   | .run=>Yg E bl f d o.op
   | .skip=>.ok ⟨f.put d (.p undef),none⟩
   | .maybe bz want b=>match E3 E bl f [(bz,want)] o.op,bS bz d||akP E ops d ops.toList with
     | .ok y,false=>.ok ⟨f.qD d bz want y,qp E bl f [(bz,want)] o.op⟩
     |_,_=>.pZ b (Pq E bl (f.know bz true) d want true o.op) (Pq E bl (f.know bz false) d want false o.op)
   | .cond bz want=>match E3 E bl f [(bz,want)] o.op,bS bz d with
     | .ok y,false=>.ok ⟨f.qD d bz want y,qp E bl f [(bz,want)] o.op⟩
     |_,_=>.no
   | .no=>.no
section
variable{E:Env}{W w w':World}{M0:List Nat}{X:Nat->Prop}{n:cB}{f:cy E.T.El}{bl:List (aD E.T.El)}{ρ:List Value}{a:Act}{ops:Array Oper}{o:Oper}
theorem R.qD{d j:Nat}{b:Bool}{y:aH E.T.El}{v:Value}(h:R E W M0 X n f bl ρ a w)(aL:ez d n.n=true)(c:bS j d=false)(e:a.tmps.getD j undef= .bool b->ar E.T (bi X bl ρ w) w ρ bl y v):R E W M0 X n (f.qD d j b y) bl ρ (a.put (some d) v) w:=⟨h.mem,h.dT.qD aL c e,h.cQ⟩
theorem R.know{j:Nat}{b:Bool}(h:R E W M0 X n f bl ρ a w)(aA:a.tmps.getD j undef= .bool b):R E W M0 X n (f.know j b) bl ρ a w:=⟨h.mem,⟨h.dT.ef,h.dT.gs,λ p aI=>by
 rcases cR.1 aI with rfl |aI
 ·exact aA
 ·exact h.dT.eg p aI⟩,h.cQ⟩
def HC(E:Env)(W:World)(M0:List Nat)(X:Nat->Prop)(n:cB)(bl:List (aD E.T.El))(ρ:List Value)(a:Act)(w:World)(ops:Array Oper)(o:Oper)(d:Nat)(r:pU E.T.El):Prop:=
 ∃u,R E W M0 X n r.f bl ρ (a.put (some d) u) w/\((Region.wanted o (yielded ops a.tmps)=true/\x' E.P o a X bl ρ w u r.aL)\/(Region.wanted o (yielded ops a.tmps)=false/\u=undef))
theorem ajC(a6:c8 E)(h:R E W M0 X n f bl ρ a w){d:Nat}(aL:ez d n.n=true)(b:Region.wanted o (yielded ops a.tmps)=true){r:pU E.T.El}(c:(Yg E bl f d o.op).out r):HC E W M0 X n bl ρ a w ops o d r:=by
 obtain⟨y,e,J⟩:=D.jR c;have J:(⟨f.put d y,qp E bl f [] o.op⟩:pU E.T.El)=r:=J;subst J;obtain⟨u,g,i⟩:=afj a6 h (cur:=[]) trivial rfl e;exact⟨u,h.put aL g,.inl ⟨b,i⟩⟩
theorem ajE(h:R E W M0 X n f bl ρ a w){d:Nat}(aL:ez d n.n=true)(b:Region.wanted o (yielded ops a.tmps)=false):HC E W M0 X n bl ρ a w ops o d ⟨f.put d (.p undef),none⟩:=
 ⟨undef,h.put aL (by simp only[ar]),.inr ⟨b,rfl⟩⟩
theorem ajD(a6:c8 E)(h:R E W M0 X n f bl ρ a w){d bz:Nat}{want c:Bool}(aL:ez d n.n=true)(aA:a.tmps.getD bz undef= .bool c)(e:Region.wanted o (yielded ops a.tmps)=true↔a.tmps.getD bz undef= .bool want){r:pU E.T.El}(b:(Pq E bl f d want c o.op).out r):HC E W M0 X n bl ρ a w ops o d r:=by
 unfold Pq at b;split at b
 ·rename_i af
  rw[yb]at af
  subst af
  exact ajC a6 h aL (e.2 aA) b
 ·rename_i af
  have b:(⟨f.put d (.p undef),none⟩:pU E.T.El)=r:=b
  subst b
  refine ajE h aL ((hz).2 λ g=>?_)
  have:=e.1 g
  rw[aA]at this
  injection this with this
  rw[yb.2 this]at af
  cases af
theorem ajB(a6:c8 E)(h:R E W M0 X n f bl ρ a w){d bz:Nat}{want:Bool}(aL:ez d n.n=true)(c:bS bz d=false)(e:Region.wanted o (yielded ops a.tmps)=true↔a.tmps.getD bz undef= .bool want){y:aH E.T.El}(g:E3 E bl f [(bz,want)] o.op= .ok y):HC E W M0 X n bl ρ a w ops o d ⟨f.qD d bz want y,qp E bl f [(bz,want)] o.op⟩:=by
 by_cases af:a.tmps.getD bz undef= .bool want
 ·obtain⟨u,i,j⟩:=afj a6 h (cur:=[(bz,want)]) (o:=o) (z:=y) ⟨af,trivial⟩ rfl (by rw[g];rfl)
  exact⟨u,h.qD aL c λ _=>i,.inl ⟨e.2 af,j⟩⟩
 ·exact⟨undef,h.qD aL c λ b=>absurd b af,.inr ⟨(hz).2 λ b=>af (e.1 b),rfl⟩⟩
theorem Yh(a6:c8 E)(h:R E W M0 X n f bl ρ a w){r:pU E.T.El}(c:(Pr E ops n.n bl f o).out r):∃d,o.dst=some d/\HC E W M0 X n bl ρ a w ops o d r:=by
 have e:=afK (ops:=ops) (o:=o) h;unfold Pr at c;split at c
 ·exact c.elim
 ·rename_i d k
  refine⟨d,k,?_⟩
  split at c
  ·exact c.elim
  ·rename_i aL
   split at c
   ·rename_i g
    rw[g]at e
    exact ajC a6 h aL e c
   ·rename_i g
    rw[g]at e
    have c:(⟨f.put d (.p undef),none⟩:pU E.T.El)=r:=c
    subst c
    exact ajE h aL e
   ·rename_i bz want b g
    rw[g]at e
    obtain⟨m,j,i⟩:=e
    split at c
    ·rename_i y l J
     have c:(⟨f.qD d bz want y,qp E bl f [(bz,want)] o.op⟩:pU E.T.El)=r:=c
     subst c
     exact ajB a6 h aL (h0.1 J).1 i l
    ·rcases c with⟨rfl,c⟩|⟨rfl,c⟩
     ·exact ajD a6 (h.know j) aL j i c
     ·exact ajD a6 (h.know j) aL j i c
   ·rename_i bz want g
    rw[g]at e
    obtain⟨m,i⟩:=e
    split at c
    ·rename_i y l J
     have c:(⟨f.qD d bz want y,qp E bl f [(bz,want)] o.op⟩:pU E.T.El)=r:=c
     subst c
     exact ajB a6 h aL J i l
    ·exact c.elim
   ·exact c.elim
end
def Kv{T:bR}(n:Nat)(f:cy T.El)(y:aH T.El):Option Nat->Option (cy T.El)
 |none=>some f
 |some d=>match ez d n with
  |true=>some (f.put d y)
  |false=>none
def aer(E:Env)(n:Nat)(bl:List (aD E.T.El))(f:cy E.T.El)(o:Oper):D (b6 E.T.El):=(MI E bl f [] o.op).bind λ e=>match Kv n f (e.y.getD (.p undef)) o.dst with
 |some a=>.ok ⟨.nm,a,e.bl,e.ws⟩
 |none=>.no
def T1{El:Nat->Type}:aH El->Option (Nat×List (aH El)×List (aH El))
 | .p (.func (.func g) ⟨us⟩ ⟨cs⟩)=>some (g,us.map .p,cs.map .p)
 | .f (.func g) cs=>some (g,[],cs)
 | .h (.func g) us=>some (g,us,[])
 |_=>none
def SR(E:Env)(bt:fb E)(n:Nat)(bl:List (aD E.T.El))(f:cy E.T.El)(a:Option Nat):Op->D (b6 E.T.El)
 | .call ⟨.value b,⟨xs⟩,_⟩=>match od E bl f [] b,po E bl f [] xs with
   |some c,some ys=>match T1 c with
    |some (g,us,cs)=>(bt g (us++ys++cs) bl).bind λ r=>match r.e with
     | .ret y=>match Kv n f y a with
       |some d=>.ok ⟨.nm,d,r.bl,r.ws⟩
       |none=>.no
     | .zB y=>.ok ⟨.hP y,f,r.bl,r.ws⟩
    |none=>.no
   |_,_=>.no
 |_=>.no
def Rm(E:Env)(bt:fb E)(n:Nat)(bl:List (aD E.T.El))(f:cy E.T.El)(o:Oper):D (b6 E.T.El):=match Oc E.P o.op with
 | .e=>aer E n bl f o
 | .c=>SR E bt n bl f o.dst o.op
 |_=>.no
def Ro{T:bR}(n:Nat)(bl:List (aD T.El))(f:cy T.El)(o:Oper):D (b6 T.El):=match Kv n f (.p undef) o.dst with
 |some a=>.ok ⟨.nm,a,bl,[]⟩
 |none=>.no
def Rn(E:Env)(bt:fb E)(n:Nat)(bl:List (aD E.T.El))(f:cy E.T.El)(want c:Bool)(o:Oper):D (b6 E.T.El):=match EI c want with
 |true=>Rm E bt n bl f o
 |false=>Ro n bl f o
def Rp(E:Env)(bt:fb E)(ops:Array Oper)(n:Nat)(bl:List (aD E.T.El))(f:cy E.T.El)(o:Oper):D (b6 E.T.El):=match M9 E ops f n o.guard with
 | .run=>Rm E bt n bl f o
 | .skip=>Ro n bl f o
 | .maybe bz want b=>.pZ b (Rn E bt n bl (f.know bz true) want true o) (Rn E bt n bl (f.know bz false) want false o)
 |_=>.no
structure iT (E:Env) (W:World) (M0:List Nat) (X:Nat->Prop) (n:cB) (b0:List (aD E.T.El)) (ρ0:List Value) (w0:World) (s:eG E.T.El) (ρ:List Value) (a:Act) (w:World):Prop where
 r:R E W M0 X n s.f s.bl ρ a w
 to:To X b0 s.bl ρ0 ρ w0 w
 wr:gW b0 ρ0 w0 w s.ws
def BK(E:Env)(X:Nat->Prop)(bl:List (aD E.T.El))(ρ:List Value)(Q:Exit->Act->World->Prop)(a:Act)(w:World):L3 E.T.El->Prop
 | .nm=>Q .normal a w
 | .ex id=>Q (.exit id) a w
 | .rt=>Q .ret a w
 | .hP y=>∀v,ar E.T (bi X bl ρ w) w ρ bl y v-> ∀b,b.defers=a.defers->Q (.panic [{ v,recovered:=false }]) b w
section
variable{E:Env}{bt:fb E}{W w w':World}{M0:List Nat}{X:Nat->Prop}{n:cB}{f:cy E.T.El}{bl:List (aD E.T.El)}{ρ:List Value}{a:Act}{ops:Array Oper}{o:Oper}
theorem R.set{c:cy E.T.El}{y:aH E.T.El}{v:Value}{b:Option Nat}(h:R E W M0 X n f bl ρ a w)(aj:Kv n.n f y b=some c)(d:ar E.T (bi X bl ρ w) w ρ bl y v):R E W M0 X n c bl ρ (a.put b v) w:=by
 unfold Kv at aj;split at aj
 ·simp only[aF]at aj
  subst aj
  exact h
 ·split at aj
  ·rename_i aL
   simp only[aF]at aj
   subst aj
   exact h.put aL d
  ·cases aj
def ED(E:Env)(W:World)(M0:List Nat)(X:Nat->Prop)(n:cB)(bl:List (aD E.T.El))(ρ:List Value)(a:Act)(w:World)(ops:Array Oper)(o:Oper)(r:b6 E.T.El):Prop:=
 ∀(K:Act->World->Prop)(Q:Exit->Act->World->Prop),
  (∀ρ' b w',R E W M0 X n r.s.f r.s.bl ρ' b w'->To X bl r.s.bl ρ ρ' w w'->gW bl ρ w w' r.s.ws->BK E X r.s.bl ρ' (Exit.then K Q) b w' r.x) ->
  if Region.wanted o (yielded ops a.tmps)then o.wp E.P a w K Q else K (a.put o.dst undef) w
theorem auX(a6:c8 E)(h:R E W M0 X n f bl ρ a w)(i:Region.wanted o (yielded ops a.tmps)=true){r:b6 E.T.El}(j:(aer E n.n bl f o).out r):ED E W M0 X n bl ρ a w ops o r:=by
 obtain⟨e,l,J⟩:=D.jR j;obtain⟨w',ρ',m,b,d,hy⟩:=avG a6 h (cur:=[]) (o:=o) trivial rfl l;intro K Q k;rw[if_pos i];split at J
 ·rename_i p aj
  have J:(⟨.nm,p,e.bl,e.ws⟩:b6 E.T.El)=r:=J
  subst J
  have g:=h.to b m
  unfold Oper.wp
  split at hy
  ·rename_i y c
   obtain⟨v,q,s⟩:=hy
   rw[show(execOp a.eval o).run E.P w=_ from q]
   rw[c]at aj
   exact k ρ' _ w' (g.set aj s) b d
  ·rename_i c
   rw[show(execOp a.eval o).run E.P w=_ from hy]
   rw[c]at aj
   exact k ρ' _ w' (g.set (y:=.p undef) aj (by simp only[ar])) b d
 ·exact J.elim
theorem PG{F:Nat->Prop}:∀(l:List Value),a7 E.T F w ρ bl (l.map .p) l
 |[]=>by simp[a7]
 |v::r=>by simp only[eu,a7];exact⟨v,r,rfl,rfl,PG r⟩
theorem av'{F:Nat->Prop}{y:aH E.T.El}{v:Value}{g:Nat}{us cs:List (aH E.T.El)}(h:T1 y=some (g,us,cs))(b:ar E.T F w ρ bl y v):∃u c,v= .func (.func g) ⟨u⟩ ⟨c⟩/\a7 E.T F w ρ bl us u/\a7 E.T F w ρ bl cs c:=by
 unfold T1 at h;split at h
 ·simp only[aF,ca]at h
  obtain⟨rfl,rfl,rfl⟩:=h
  simp only[ar]at b
  exact⟨_,_,b,PG _,PG _⟩
 ·simp only[aF,ca]at h
  obtain⟨rfl,rfl,rfl⟩:=h
  simp only[ar]at b
  obtain⟨vs,d,J⟩:=b
  exact⟨[],vs,d,by simp[a7],J⟩
 ·simp only[aF,ca]at h
  obtain⟨rfl,rfl,rfl⟩:=h
  simp only[ar]at b
  obtain⟨vs,d,J⟩:=b
  exact⟨vs,[],d,J,by simp[a7]⟩
 ·cases h
theorem atb(q:kU E bt)(h:R E W M0 X n f bl ρ a w)(s:Region.wanted o (yielded ops a.tmps)=true){op:Op}(t:o.op=op){r:b6 E.T.El}(d:(SR E bt n.n bl f o.dst op).out r):ED E W M0 X n bl ρ a w ops o r:=by
 unfold SR at d;split at d
 ·rename_i L xs M
  split at d
  ·rename_i N ys x J
   split at d
   ·rename_i g us cs ap
    obtain⟨e3,z,b⟩:=D.jR d
    obtain⟨u,c,A,ak,aS⟩:=av' ap (dt h (cur:=[]) trivial x)
    have bN:=zx h (cur:=[]) trivial J
    obtain⟨B,j⟩:=q.ok _ _ _ _ z
    have hc:=j W M0 X ρ w (u++xs.map a.eval++c) h.mem h.cQ ((ak.bF bN).bF aS)
    intro K Q k
    rw[if_pos s]
    unfold Oper.wp
    have C:(execOp a.eval o).run E.P w= .ok (.enter g ⟨u++xs.map a.eval++c⟩) w:=by
     simp only[execOp,t,resolve,A];simp[Deferred.ofValue,invoke,B]
    rw[C]
    refine hc.mono λ e w' F=>?_
    obtain⟨ρ',G,l,m,i⟩:=F
    have p:=h.to l G
    split at b
    ·rename_i y hy
     rw[hy]at i
     split at b
     ·rename_i H aj
      have b:(⟨.nm,H,e3.bl,e3.ws⟩:b6 E.T.El)=r:=b
      subst b
      cases e with
      |returned v=>exact k ρ' _ w' (p.set aj i) l m
      |panicked c=>exact i.elim
      |outgrown=>exact i.elim
     ·exact b.elim
    ·rename_i y hy
     rw[hy]at i
     have b:(⟨.hP y,f,e3.bl,e3.ws⟩:b6 E.T.El)=r:=b
     subst b
     cases e with
     |returned v=>exact i.elim
     |panicked c=>
      obtain⟨v,rfl,I⟩:=i
      exact k ρ' a w' p l m v I a rfl
     |outgrown=>exact i.elim
   ·exact d.elim
  ·exact d.elim
 ·exact d.elim
theorem anU(a6:c8 E)(d:kU E bt)(h:R E W M0 X n f bl ρ a w)(c:Region.wanted o (yielded ops a.tmps)=true){r:b6 E.T.El}(b:(Rm E bt n.n bl f o).out r):ED E W M0 X n bl ρ a w ops o r:=by
 unfold Rm at b;split at b
 ·exact auX a6 h c b
 ·exact atb d h c rfl b
 ·exact b.elim
theorem anW(h:R E W M0 X n f bl ρ a w)(c:Region.wanted o (yielded ops a.tmps)=false){r:b6 E.T.El}(b:(Ro n.n bl f o).out r):ED E W M0 X n bl ρ a w ops o r:=by
 unfold Ro at b;split at b
 ·rename_i d aj
  have b:(⟨.nm,d,bl,[]⟩:b6 E.T.El)=r:=b
  subst b
  intro K Q k
  rw[if_neg (by simp[c])]
  exact k ρ _ w (h.set aj (by simp only[ar])) .refl .nil
 ·exact b.elim
theorem anV(a6:c8 E)(e:kU E bt)(h:R E W M0 X n f bl ρ a w){bz:Nat}{want c:Bool}(aA:a.tmps.getD bz undef= .bool c)(d:Region.wanted o (yielded ops a.tmps)=true↔a.tmps.getD bz undef= .bool want){r:b6 E.T.El}(b:(Rn E bt n.n bl f want c o).out r):ED E W M0 X n bl ρ a w ops o r:=by
 unfold Rn at b;split at b
 ·rename_i af
  rw[yb]at af
  subst af
  exact anU a6 e h (d.2 aA) b
 ·rename_i af
  refine anW h ((hz).2 λ g=>?_) b
  have:=d.1 g
  rw[aA]at this
  injection this with this
  rw[yb.2 this]at af
  cases af
theorem ab1(a6:c8 E)(i:kU E bt)(h:R E W M0 X n f bl ρ a w){r:b6 E.T.El}(c:(Rp E bt ops n.n bl f o).out r):ED E W M0 X n bl ρ a w ops o r:=by
 have d:=afK (ops:=ops) (o:=o) h;unfold Rp at c;split at c
 ·rename_i e
  rw[e]at d
  exact anU a6 i h d c
 ·rename_i e
  rw[e]at d
  exact anW h d c
 ·rename_i bz want b e
  rw[e]at d
  obtain⟨k,g,j⟩:=d
  rcases c with⟨rfl,c⟩|⟨rfl,c⟩
  ·exact anV a6 i (h.know g) g j c
  ·exact anV a6 i (h.know g) g j c
 ·exact c.elim
end
noncomputable def opsL(E:Env)(bt:fb E)(ops:Array Oper)(n:Nat):List Oper->eG E.T.El->D (b6 E.T.El)
 |[],s=>.ok ⟨.nm,s⟩
 |o::r,s=>match Oc E.P o.op with
  | .q=>(Pr E ops n s.bl s.f o).bind λ q=>Da E q.f λ f=>opsL E bt ops n r ⟨f,s.bl,s.ws⟩
  | .no=>.no
  |_=>(Rp E bt ops n s.bl s.f o).bind λ t=>match t.x with
   | .nm=>Da E t.s.f λ f=>JV E t.s.ws s.bl.length t.s.bl λ bl=>opsL E bt ops n r ⟨f,bl,t.s.ws++s.ws⟩
   |x=>.ok ⟨x,t.s.f,t.s.bl,t.s.ws++s.ws⟩
def Fin(E:Env)(W:World)(M0:List Nat)(X:Nat->Prop)(n:cB)(b0:List (aD E.T.El))(ρ0:List Value)(w0:World)(t:b6 E.T.El)(Q:Exit->Act->World->Prop):Prop:=
 ∀ρ a w,iT E W M0 X n b0 ρ0 w0 t.s ρ a w->BK E X t.s.bl ρ Q a w t.x
section
variable{E:Env}{bt:fb E}{W:World}{M0:List Nat}{X:Nat->Prop}{n:cB}{b0:List (aD E.T.El)}{ρ0:List Value}{w0:World}{ops:Array Oper}{Q:Exit->Act->World->Prop}
theorem iT.next{s s':eG E.T.El}{ρ ρ':List Value}{a b:Act}{w w':World}(h:iT E W M0 X n b0 ρ0 w0 s ρ a w)(c:R E W M0 X n s'.f s'.bl ρ' b w')(d:To X s.bl s'.bl ρ ρ' w w')(e:gW s.bl ρ w w' s'.ws):iT E W M0 X n b0 ρ0 w0 ⟨s'.f,s'.bl,s'.ws++s.ws⟩ ρ' b w':=
 ⟨c,h.to.trans d,h.wr.bF h.to e⟩
theorem XY(a6:c8 E)(i:kU E bt):∀(os:List Oper){s:eG E.T.El}{t:b6 E.T.El}{ρ:List Value}{a:Act}{w:World},(opsL E bt ops n.n os s).out t->iT E W M0 X n b0 ρ0 w0 s ρ a w->Fin E W M0 X n b0 ρ0 w0 t Q->wpList E.P ops Q os a w
 |[],s,t,ρ,a,w,c,h,k=>by
  have c:(⟨.nm,s⟩:b6 E.T.El)=t:=c;subst c;exact k ρ a w h
 |o::r,s,t,ρ,a,w,c,h,k=>by
  simp only[opsL]at c;split at c
  ·obtain⟨q,j,J⟩:=D.jR c
   rw[Db]at J
   obtain⟨d,aL,u,l,hy⟩:=Yh (ops:=ops) a6 h.r j
   have next:=XY a6 i r J (ρ:=ρ) (a:=a.put (some d) u) (w:=w) ⟨l,h.to,h.wr⟩ k
   refine wpList_step λ K p=>?_
   rcases hy with⟨e,hy⟩|⟨e,hy⟩
   ·rw[if_pos e]
    unfold Oper.wp
    rw[show(execOp a.eval o).run E.P w=_ from hy.now]
    show K (a.put o.dst u) w
    rw[aL]
    exact p _ _ next
   ·rw[if_neg (by simp[e]),aL,<-hy]
    exact p _ _ next
  ·exact c.elim
  ·obtain⟨b,j,J⟩:=D.jR c
   have f:=ab1 a6 i h.r j
   have f:=f (wpList E.P ops Q r) Q λ ρ' m w' l v e=>by
    have aj:=h.next l v e;cases g:b.x with
    |nm=>
     rw[g]at J
     simp only[Db,O4]at J
     exact XY a6 i r J aj k
    |ex id=>
     rw[g]at J
     have J:(⟨.ex id,b.s.f,b.s.bl,b.s.ws++s.ws⟩:b6 E.T.El)=t:=J
     subst J
     exact k ρ' m w' aj
    |rt=>
     rw[g]at J
     have J:(⟨.rt,b.s.f,b.s.bl,b.s.ws++s.ws⟩:b6 E.T.El)=t:=J
     subst J
     exact k ρ' m w' aj
    |hP y=>
     rw[g]at J
     have J:(⟨.hP y,b.s.f,b.s.bl,b.s.ws++s.ws⟩:b6 E.T.El)=t:=J
     subst J
     exact k ρ' m w' aj
   unfold wpList
   split
   ·rename_i e
    rw[if_pos e]at f
    exact .inl f
   ·rename_i e
    rw[if_neg e]at f
    exact f
end
end bc
namespace bc
open Go Go.RowKit aw I
section
variable{P:Program}{ops:Array Oper}{Q:Exit->Act->World->Prop}
def kp(H:List (List Nat×(World->Prop)))(a:Array Bool)(w:World):Prop:=∀h∈H,(∀v∈h.1,a.getD v false=false)->h.2 w
def mZ(P:Program)(ops:Array Oper)(Q:Exit->Act->World->Prop)(H:List (List Nat×(World->Prop))):Nat->Array Bool->Act->World->Prop
 |0,b,a,w=>Region.ready .any ops b=[]/\Q .normal a w
 |cH+1,b,a,w=>(Region.ready .any ops b=[]->Q .normal a w)/\ ∀i∈Region.ready .any ops b,wpOp P ops Q i (λ c w'=>kp H (b.setIfInBounds i true) w'/\mZ P ops Q H cH (b.setIfInBounds i true) c w') a w
theorem alK{H:List (List Nat×(World->Prop))}:∀(cH:Nat)(b:Array Bool)(a:Act)(w:World),mZ P ops Q H cH b a w->Go.wpAny P .any ops Q cH b a w
 |0,_,_,_,h=>h
 |cH+1,_,_,_,h=>⟨h.1,λ i hi=>wpOp_mono (λ c w' h'=>alK cH _ c w' h'.2) (h.2 i hi)⟩
theorem aat{H c:List (List Nat×(World->Prop))}(d:∀b w,kp H b w->kp c b w):∀(cH:Nat)(b:Array Bool)(a:Act)(w:World),mZ P ops Q H cH b a w->mZ P ops Q c cH b a w
 |0,_,_,_,h=>h
 |cH+1,_,_,_,h=>⟨h.1,λ i hi=>wpOp_mono (λ e w' h'=>⟨d _ _ h'.1,aat d cH _ e w' h'.2⟩) (h.2 i hi)⟩
theorem Il{a:Array Bool}{i v:Nat}(h:i≠v):(a.setIfInBounds i true).getD v false=a.getD v false:=getD_set_ne false h
theorem aG5{a:Array Bool}{i v:Nat}(h:(a.setIfInBounds i true).getD v false=false):a.getD v false=false:=by
 by_cases e:i=v
 ·subst e
  rcases gg i a.size with h' |h'
  ·simp[h']at h
  ·simp[hJ h']
 ·rwa [Il e]at h
theorem alM{H:List (List Nat×(World->Prop))}{i:Nat}{oi:Oper}{v:Value}{S:World->Prop}{U V:List Nat}(hi:ops[i]? =some oi)(F:∀(j:Nat)(o:Oper) cs b,ops[j]? =some o->o.op≠ .select cs b)
 (R:∀c a w,Q (.panic c) (a.put oi.dst v) w->Q (.panic c) a w)(T:Eh ops i U)(X:∀v∈V,v∈U)(Y:i∉V)(Z:∀h∈H,i∉h.1) :
 ∀(t:Nat)(d:Array Bool)(a:Act)(w:World),
  (∀j g,ops[j]? =some g->j≠i->d.getD j true=false->(∀e∈g.after,Region.binds .any e=true->e.on≠i)->oi.apart ops g=true) ->
  (∀u∈U,d.getD u false=false)->i∈Region.ready .any ops d->kp H d w->S w->YieldsIf P ops S oi v a ->
  mZ P ops Q ((V,S)::H) t (d.setIfInBounds i true) (a.put oi.dst v) w->mZ P ops Q H (t+1) d a w:=by
 have mono:∀(d:Array Bool)(w:World),kp ((V,S)::H) d w->kp H d w:=λ d w h p q=>h p (dX _ q)
 have put:∀ {d:Array Bool}{w:World},kp H d w->kp H (d.setIfInBounds i true) w:=λ{d w} h p q r=>h p q λ v l=>aG5 (r v l)
 intro t
 induction t with
 |zero=>
  intro d a w _ _ m C D hy W
  refine⟨λ h=>(by rw[h]at m;cases m),λ j aA=>?_⟩
  by_cases f:j=i
  ·subst f;exact hy.wpOp hi D ⟨put C,W⟩
  ·have:=ready_mono aA f
   rw[W.1]at this
   cases this
 |succ t bb=>
  intro d a w G s m C D hy W
  refine⟨λ h=>(by rw[h]at m;cases m),λ j aA=>?_⟩
  by_cases f:j=i
  ·subst f;exact hy.wpOp hi D ⟨put C,aat mono _ _ _ _ W⟩
  ·have n:=W.2 j (ready_mono aA f)
   obtain⟨I,g,A,K⟩:=mem_ready.1 aA
   have L:∀e∈g.after,Region.binds .any e=true->e.on≠i:=λ e B af heq=>by
    have n:=K e B af;have M:=(mem_ready.1 m).1;rw[heq]at n;rcases gg i d.size with h' |h'
    ·simp[h']at M n;rw[M]at n;cases n
    ·simp[hJ h']at n
   have N:j∉U:=λ IX=>by
    obtain⟨eK,E,e,B,af,J⟩:=T j IX;rw[A]at E;simp only[aF]at E;subst E;rcases J with J |J
    ·exact L e B af J
    ·have ap:=K e B af
     rw[s _ J]at ap
     cases ap
   have Wd:∀u∈U,(d.setIfInBounds j true).getD u false=false:=λ u r=>by
    have x:j≠u:=λ e=>N (e▸r);rw[Il x];exact s u r
   have J:=wpOp_putIf A (G j g A f I L) (λ cs b=>F i oi cs b hi) (λ cs b=>F j g cs b A) R hy n
   have IJ:∀k ok,ops[k]? =some ok->k≠i->(d.setIfInBounds j true).getD k true=false ->
    (∀e∈ok.after,Region.binds .any e=true->e.on≠i)->oi.apart ops ok=true:=λ k ok hk I0 s jK=>by
    refine G k ok hk I0 ?_ jK
    by_cases O:j=k
    ·subst O;exact I
    ·rw[getD_set_ne true O]at s;exact s
   refine wpOp_mono (λ aT w' ap=>?_) J
   obtain⟨sM,c3,jq⟩:=ap
   have Nh:S w':=c3 (V,S) (by simp) λ v l=>by
    have y:=X v l;have x:j≠v:=λ e=>N (e▸y);have VY:i≠v:=λ e=>Y (e▸l);rw[Il x,Il VY];exact s v y
   have z:kp H (d.setIfInBounds j true) w':=λ p q r=>c3 p (dX _ q) λ v l=>by
    have x:i≠v:=λ e=>Z p q (e▸l);rw[jt _ _ (Ne.symm f),Il x];exact r v l
   refine⟨z,bb (d.setIfInBounds j true) aT w' IJ Wd (ready_mono m (Ne.symm f)) z Nh sM ?_⟩
   rw[jt _ _ f]
   exact jq
theorem aIm{H:List (List Nat×(World->Prop))}{i:Nat}{oi:Oper}{v:Value}(hi:ops[i]? =some oi)(l:∀(j:Nat)(o:Oper) cs b,ops[j]? =some o->o.op≠ .select cs b)
 (m:∀c a w,Q (.panic c) (a.put oi.dst v) w->Q (.panic c) a w)(n:∀h∈H,i∉h.1){g:Nat}{d:Array Bool}{a:Act}{w:World}
 (q:∀j k,ops[j]? =some k->j≠i->d.getD j true=false->(∀e∈k.after,Region.binds .any e=true->e.on≠i)->oi.apart ops k=true)
 (r:i∈Region.ready .any ops d)(s:kp H d w)(hy:YieldsIf P ops (λ _=>True) oi v a)(h:mZ P ops Q H g (d.setIfInBounds i true) (a.put oi.dst v) w):mZ P ops Q H (g+1) d a w:=
 alM (S:=λ _=>True) (U:=[]) (V:=[]) hi l m (λ u f=>by simp at f) (λ v t=>by simp at t) (by simp) n g d a w q (λ u f=>by simp at f) r s trivial hy
  (aat (λ d w h p aI f=>by
   rcases cR.1 aI with rfl |aI
   ·trivial
   ·exact h p aI f) _ _ _ _ h)
end
def WB:Op->Bool
 | .select _ _=>true
 |_=>false
def ym(o:Oper)(i:Nat):Bool:=o.after.toList.any λ e=>Region.binds .any e&&bS e.on i
def adX(o:Oper)(d:Nat):Bool:=match o.dst with
 |some d'=>bS d' d
 |none=>false
def KU(ops:Array Oper)(x:Oper)(i:Nat)(d:Nat):Nat->List Oper->Bool
 |_,[]=>true
 |j,y::r=>(bS i j||(ym x j||(!adX y d&&(!e2 (y.looksAt ops) d||ym y i))))&&KU ops x i d (j+1) r
def Dy(ops:Array Oper)(all:List Oper):Nat->List Oper->Bool
 |_,[]=>true
 |i,x::r=>(!WB x.op&&(match x.dst with
  |none=>true
  |some d=>KU ops x i d 0 all))&&Dy ops all (i+1) r
section
variable{ops:Array Oper}
theorem NU{l:List Nat}{j:Nat}:e2 l j=true↔j∈l:=by
 refine⟨rV,λ h=>?_⟩;induction l with
 |nil=>simp at h
 |cons i r a=>
  simp only[e2,hV]
  rcases cR.1 h with rfl |h
  ·exact .inl (by simp)
  ·exact .inr (a h)
theorem aas{x:Oper}{i d:Nat}:∀ {l:List Oper}{k:Nat},KU ops x i d k l=true-> ∀(m:Nat)(y:Oper),l[m]? =some y->i≠k+m->ym x (k+m)=true\/(y.dst≠some d/\(d∈y.looksAt ops->ym y i=true))
 |[],_,_,m,y,a,_=>by simp at a
 |z::r,k,h,m,y,a,b=>by
  simp only[KU,bH,hV,gI]at h;cases m with
  |zero=>
   simp only[dG,aF]at a
   subst a
   rcases h.1 with e |e |⟨c,ak⟩
   ·exact absurd (bd e) (by simpa using b)
   ·exact .inl (by simpa using e)
   ·refine .inr ⟨λ e=>?_,λ f=>?_⟩
    ·simp[adX,e]at c
    ·rcases ak with ak |ak
     ·rw[NU.2 f]at ak;cases ak
     ·exact ak
  |succ m=>
   have:=aas h.2 m y (by simpa using a) (by omega)
   rwa [show k+1+m=k+(m+1) by omega]at this
theorem Qo{all:List Oper}:∀ {l:List Oper}{k:Nat},Dy ops all k l=true-> ∀(m:Nat)(x:Oper),l[m]? =some x->WB x.op=false/\ ∀d,x.dst=some d->KU ops x (k+m) d 0 all=true
 |[],_,_,m,x,a=>by simp at a
 |z::r,k,h,m,x,a=>by
  simp only[Dy,bH,gI]at h;cases m with
  |zero=>
   simp only[dG,aF]at a
   subst a
   refine⟨h.1.1,λ d aL=>?_⟩
   have:=h.1.2
   rw[aL]at this
   exact this
  |succ m=>
   have:=Qo h.2 m x (by simpa using a)
   rwa [show k+1+m=k+(m+1) by omega]at this
theorem Tg{o:Oper}{i:Nat}(h:ym o i=true):∃e∈o.after,Region.binds .any e=true/\e.on=i:=by
 simp only[ym,h2,bH]at h;obtain⟨e,a,J,ap⟩:=h;exact⟨e,by simpa using a,J,bd ap⟩
theorem alG(h:Dy ops ops.toList 0 ops.toList=true)(j:Nat)(o:Oper)(cs:_)(b:Bool)(a:ops[j]? =some o):o.op≠ .select cs b:=λ e=>by
 have:=(Qo h j o (by rw[ht];exact a)).1;rw[e]at this;simp[WB]at this
theorem aIi(h:Dy ops ops.toList 0 ops.toList=true){c:Array Bool}(aj:c.size=ops.size){i:Nat}{oi:Oper}(hi:ops[i]? =some oi)(q:i∈Region.ready .any ops c) :
 ∀j a,ops[j]? =some a->j≠i->c.getD j true=false->(∀e∈a.after,Region.binds .any e=true->e.on≠i)->oi.apart ops a=true:=λ j a aA v f k=>by
 have l:ops.toList[i]? =some oi:=by rw[ht];exact hi
 have m:ops.toList[j]? =some a:=by rw[ht];exact aA
 have n:=(Qo h i oi l).2
 have o:=(Qo h j a m).2
 simp only[jx]at n o
 have done:ym oi j=true->False:=λ hc=>by
  obtain⟨e,b,ak,aS⟩:=Tg hc;obtain⟨_,w,p,r⟩:=mem_ready.1 q;rw[hi]at p;cases p;have:=r e b ak;rw[aS]at this;have s:j<c.size:=by rw[aj];exact(fJ.1 aA).1
  simp[s]at this f;rw[this]at f;cases f
 unfold Oper.apart
 rw[bH]
 constructor
 ·cases aL:oi.dst with
  |none=>rfl
  |some d=>
   rcases aas (n d aL) j a m (by omega)with hc |⟨t,g⟩
   ·exact(done (by simpa using hc)).elim
   simp only[bH,gI,bne_iff_ne,ne_eq]
   refine⟨?_,t⟩
   rw[hz]
   intro hc
   obtain⟨e,b,ak,aS⟩:=Tg (g (by simpa using hc))
   exact k e b ak aS
 ·cases aL:a.dst with
  |none=>rfl
  |some d=>
   simp only[gI]
   rw[hz]
   intro hc
   rcases aas (o d aL) i oi l (by omega)with u |⟨_,g⟩
   ·obtain⟨e,b,ak,aS⟩:=Tg (by simpa using u:ym a i=true)
    exact k e b ak aS
   ·exact done (g (by simpa using hc))
end
end bc
namespace bc
open Go Go.RowKit aw I
inductive j4 (El:Nat->Type):Type
 |ro
 |BQ (i:Nat)
 |cl (i o:Nat) (y:aH El)
def Mu{El:Nat->Type}(bl:List (aD El)):aH El->Bool
 | .b _ _=>true
 | .m _=>true
 | .r i g=>bS g (tr bl i)
 |_=>false
def ZM{El:Nat->Type}:aH El->aH El->Bool
 | .b i o,.b j p=>bS i j&&bS o p
 | .m i,.m j=>bS i j
 | .r i g,.r j h=>bS i j&&bS g h
 |_,_=>false
def S0(E:Env)(bl:List (aD E.T.El))(f:cy E.T.El):Op->Option (Nat×Nat×aH E.T.El)
 | .load t x=>match od E bl f [] x with
   |some (.b i o)=>match nth bl i,lay E.P t with
    |some (.c _ cs),some (false,_)=>match nth cs o with
     |some y=>match Mu bl y with
      |true=>some (i,o,y)
      |false=>none
     |none=>none
    |_,_=>none
   |_=>none
 |_=>none
def CE(P:Program)(o:Oper):Bool:=match Oc P o.op with
 | .q=>true
 |_=>false
def BS(P:Program)(ops:Array Oper):List Nat->List Nat
 |[]=>[]
 |v::r=>match nth ops.toList v with
  |some o=>match CE P o with
   |true=>BS P ops r
   |false=>v::BS P ops r
  |none=>BS P ops r
def ends(P:Program)(ops:Array Oper)(i:Nat):List Nat:=BS P ops (nK ops.toList 0 i [])
def agq(E:Env)(bl:List (aD E.T.El))(f:cy E.T.El)(op:Op)(b:Nat):j4 E.T.El:=match S0 E bl f op with
 |some (i,o,y)=>.cl i o y
 |none=>.BQ b
def acT(E:Env)(ops:Array Oper)(bl:List (aD E.T.El))(f:cy E.T.El)(i:Nat)(op:Op)(aj:List (List Nat×j4 E.T.El)):Option (Option Nat)->List (List Nat×j4 E.T.El)
 |none=>aj
 |some none=>(ends E.P ops i,.ro)::aj
 |some (some b)=>(ends E.P ops i,agq E bl f op b)::aj
def Nq{El:Nat->Type}(ws:List Nat)(bl':List (aD El)):j4 El->Bool
 | .ro=>true
 | .BQ i=>!e2 ws i
 | .cl i o y=>!e2 ws i||match nth bl' i with
   |some (.c _ cs)=>match nth cs o with
    |some e9=>ZM y e9&&Mu bl' y
    |none=>false
   |_=>false
def CH{El:Nat->Type}(e:Nat)(ws:List Nat)(bl':List (aD El)):List (List Nat×j4 El)->Option (List (List Nat×j4 El))
 |[]=>some []
 |(V,h)::r=>match CH e ws bl' r with
  |none=>none
  |some a=>match e2 V e with
   |true=>some a
   |false=>match Nq ws bl' h with
    |true=>some ((V,h)::a)
    |false=>none
section
variable{T:bR}{W w w':World}{M0:List Nat}{X:Nat->Prop}{bl bl':List (aD T.El)}{ρ ρ':List Value}
def u3(bl:List (aD T.El))(ρ:List Value)(q i:Nat):Prop:=∀j B h,bl[j]? =some B->ρ[j]? =some h->q∈bB B h->j=i
def LS(X:Nat->Prop)(bl:List (aD T.El))(ρ:List Value)(w:World)(S:World->Prop):j4 T.El->Prop
 | .ro=>∃q,bi X bl ρ w q/\ ∀w':World,w'.heap[q]? =w.heap[q]? ->S w'
 | .BQ i=>∃q,q<w.heap.size/\u3 bl ρ q i/\ ∀w':World,w'.heap[q]? =w.heap[q]? ->S w'
 | .cl i o y=>∃g u,ρ[i]? =some (.pointer (some ⟨g,0,none⟩))/\g<w.heap.size/\u3 bl ρ g i/\ar T (bi X bl ρ w) w ρ bl y u/\w.cell? ⟨g,o,none⟩=some u/\ ∀w':World,w'.cell? ⟨g,o,none⟩=some u->S w'
def u1(X:Nat->Prop)(bl:List (aD T.El))(ρ:List Value)(w:World)(S:World->Prop)(h:j4 T.El):Prop:=(∀w',S w')\/LS X bl ρ w S h
theorem u1.now{S:World->Prop}{h:j4 T.El}(k:u1 X bl ρ w S h):S w:=by
 rcases k with k |k
 ·exact k w
 ·cases h with
  |ro=>obtain⟨q,_,k⟩:=k;exact k w rfl
  |BQ i=>obtain⟨q,_,_,k⟩:=k;exact k w rfl
  |cl i o y=>obtain⟨g,u,_,_,_,_,hc,k⟩:=k;exact k w hc
theorem u3.to(a:To X bl bl' ρ ρ' w w'){q i:Nat}(b:q<w.heap.size)(h:u3 bl ρ q i):u3 bl' ρ' q i:=λ j B g aA c d=>by
 obtain⟨iR,e,f,ak,aS⟩:=a.nT j B g aA c q d b;exact h j iR e f ak aS
theorem u3.alP{s:List Nat}(a:gW bl ρ w w' s){q i:Nat}(b:q<w.heap.size)(h:u3 bl ρ q i)(hi:i∉s):w'.heap[q]? =w.heap[q]? :=
 a q b λ j aA B g af c d=>hi (h j B g af c d▸aA)
theorem atY(j:Mem T W M0 X bl ρ w){y:aH T.El}{u v:Value}(aL:Mu bl y=true)(a:ar T (bi X bl ρ w) w ρ bl y u)(b:ar T (bi X bl ρ w) w ρ bl y v):u=v:=by
 cases y<;>simp only[Mu,hG]at aL
 ·simp only[ar]at a b
  obtain⟨g,c,rfl⟩:=a
  obtain⟨g',J,rfl⟩:=b
  rw[c]at J
  simp only[aF,Value.pointer.injEq,Addr.mk.injEq]at J
  rw[J.1]
 ·rename_i i g
  simp only[ar]at a b
  have e:=bd aL
  rw[B6]at e
  obtain⟨_,h,c,_,J⟩:=a
  obtain⟨_,h',d,_,f⟩:=b
  rw[c]at d
  cases d
  rw[J e,f e]
 ·simp only[ar]at a b
  obtain⟨g,c,rfl⟩:=a
  obtain⟨g',J,rfl⟩:=b
  rw[c]at J
  simp only[aF,Value.map.injEq]at J
  rw[J]
theorem aGS{y z:aH T.El}(h:ZM y z=true):y=z:=by
 unfold ZM at h;split at h
 ·simp only[bH]at h
  rw[bd h.1,bd h.2]
 ·rw[bd h]
 ·simp only[bH]at h
  rw[bd h.1,bd h.2]
 ·cases h
theorem u1.eV(j:Mem T W M0 X bl' ρ' w')(b:To X bl bl' ρ ρ' w w'){ws:List Nat}(l:gW bl ρ w w' ws){S:World->Prop}{h:j4 T.El}(k:u1 X bl ρ w S h)(hk:Nq ws bl' h=true):u1 X bl' ρ' w' S h:=by
 rcases k with k |k
 ·exact .inl k
 refine .inr ?_;cases h with
 |ro=>
  obtain⟨q,c,J⟩:=k
  have:=b.F q c
  exact⟨q,this.1,λ w'' e=>J w'' (e.trans this.2)⟩
 |BQ i=>
  obtain⟨q,c,J,ap⟩:=k
  simp only[Nq,gI]at hk
  have hi:i∉ws:=λ e=>by rw[NU.2 e]at hk;cases hk
  exact⟨q,en c b.sz,J.to b c,λ w'' e=>ap w'' (e.trans (J.alP l c hi))⟩
 |cl i o y=>
  obtain⟨g,u,c,J,ap,n,p,r⟩:=k
  obtain⟨B,m,ak,_⟩:=b.L.at_ i _ c
  have aS:=ak (by simp[kE])
  subst aS
  have d:=b.v n
  refine⟨g,u,m,en J b.sz,ap.to b J,d,?_,r⟩
  simp only[Nq,hV,gI]at hk
  rcases hk with hk |hk
  ·have hi:i∉ws:=λ e=>by rw[NU.2 e]at hk;cases hk
   rw[<-p]
   exact World.cell?_of_block (a:=⟨g,o,none⟩) (ap.alP l J hi)
  ·split at hk
   ·rename_i t cs af
    split at hk
    ·rename_i e9 hy
     simp only[bH]at hk
     have:=aGS hk.1
     subst this
     rw[c7]at af hy
     obtain⟨g',vs,f,s,x⟩:=j.ok i _ _ af m
     simp only[Value.pointer.injEq,aF,Addr.mk.injEq]at f
     have f:=f.1
     subst f
     obtain⟨v,z,A⟩:=x.at_ hy
     rw[atY j hk.2 d A]
     have:=yd (g:=g) (t:=t) (cs:=vs) (w:=w') (by simpa[ba.cg]using s) z
     simpa using this
    ·cases hk
   ·cases hk
def gU(P:Program)(ops:Array Oper)(X:Nat->Prop)(bl:List (aD T.El))(ρ:List Value)(w:World):List (List Nat×j4 T.El)->List (List Nat×(World->Prop))->Prop
 |[],H=>H=[]
 |p::r,H=>∃S a,H=(p.1,S)::a/\(∀v∈p.1,∃o,ops[v]? =some o/\CE P o=false)/\u1 X bl ρ w S p.2/\gU P ops X bl ρ w r a
theorem gU.yi{P:Program}{ops:Array Oper}:∀ {aj:List (List Nat×j4 T.El)}{H:List (List Nat×(World->Prop))},gU P ops X bl ρ w aj H-> ∀a,kp H a w
 |[],H,h,a=>by simp only[gU]at h;subst h;intro p b;simp at b
 |p::r,H,h,a=>by
  simp only[gU]at h;obtain⟨S,d,rfl,_,J,ap⟩:=h;intro q aM c;rcases cR.1 aM with rfl |aM
  ·exact J.now
  ·exact gU.yi ap a q aM c
theorem gU.aiS{P:Program}{ops:Array Oper}:∀ {aj:List (List Nat×j4 T.El)}{H:List (List Nat×(World->Prop))},gU P ops X bl ρ w aj H-> ∀h∈H,∀v∈h.1,∃o,ops[v]? =some o/\CE P o=false
 |[],H,h,p,a=>by simp only[gU]at h;subst h;simp at a
 |p::r,H,h,q,aM=>by
  simp only[gU]at h;obtain⟨S,c,rfl,b,_,ap⟩:=h;rcases cR.1 aM with rfl |aM
  ·exact b
  ·exact gU.aiS ap q aM
theorem gU.eV{P:Program}{ops:Array Oper}(i:Mem T W M0 X bl' ρ' w')(j:To X bl bl' ρ ρ' w w'){ws:List Nat}(k:gW bl ρ w w' ws){e:Nat}:∀ {aj cc:List (List Nat×j4 T.El)}{H:List (List Nat×(World->Prop))},gU P ops X bl ρ w aj H->CH e ws bl' aj=some cc ->
 ∃l,gU P ops X bl' ρ' w' cc l/\ ∀b w,b.getD e false=true->kp l b w->kp H b w
 |[],cc,H,h,a=>by
  simp only[CH,aF]at a;subst a;exact⟨H,h,λ _ _ _ h=>h⟩
 |(V,aL)::r,cc,H,h,a=>by
  simp only[gU]at h;obtain⟨S,o,rfl,s,J,ap⟩:=h;simp only[CH]at a;split at a
  ·cases a
  ·rename_i x t
   obtain⟨f,m,n⟩:=gU.eV i j k ap t
   split at a
   ·rename_i u
    simp only[aF]at a
    subst a
    refine⟨f,m,λ b w d hc p aI c=>?_⟩
    rcases cR.1 aI with rfl |aI
    ·have:=c e (rV u)
     rw[d]at this
     cases this
    ·exact n b w d hc p aI c
   ·split at a
    ·rename_i g
     simp only[aF]at a
     subst a
     refine⟨(V,S)::f,?_,λ b w d hc p aI c=>?_⟩
     ·simp only[gU]
      exact⟨S,f,rfl,s,J.eV i j k g,m⟩
     ·rcases cR.1 aI with rfl |aI
      ·exact hc _ (by simp) c
      ·exact n b w d (λ q v=>hc q (dX _ v)) p aI c
    ·cases a
end
section
variable{E:Env}{W w w':World}{M0:List Nat}{X:Nat->Prop}{n:cB}{f:cy E.T.El}{bl:List (aD E.T.El)}{ρ:List Value}{a:Act}{ops:Array Oper}{o:Oper}
theorem ai6(b:Mem E.T W M0 X bl ρ w){i:Nat}{B:aD E.T.El}{h:Value}(hi:bl[i]? =some B)(c:ρ[i]? =some h){q:Nat}(d:q∈bB B h):q<w.heap.size/\u3 bl ρ q i:=by
 refine⟨(b.lt q ⟨i,B,h,hi,c,d⟩).1,λ j C g aA k l=>?_⟩;by_cases e:j=i
 ·exact e
 ·exact absurd l (b.bz i j B C h g hi c aA k (Ne.symm e) q d)
theorem atv(h:R E W M0 X n f bl ρ a w){i p:Nat}{y:aH E.T.El}(b:S0 E bl f o.op=some (i,p,y)):∃S,LS X bl ρ w S (.cl i p y)/\ ∃u,∀w',S w'->bg E.P o a w' u w':=by
 unfold S0 at b;split at b
 ·rename_i t x k
  split at b
  ·rename_i i' l m
   split at b
   ·rename_i t' cs G d r
    split at b
    ·rename_i e9 hy
     split at b
     ·simp only[aF,ca]at b
      obtain⟨rfl,rfl,rfl⟩:=b
      have j:=dt h (cur:=[]) trivial m
      simp only[ar]at j
      obtain⟨g,e,ak⟩:=j
      rw[c7]at d hy
      obtain⟨g',vs,c,s,z⟩:=h.mem.ok i' _ _ d e
      simp only[Value.pointer.injEq,aF,Addr.mk.injEq]at c
      have c:=c.1
      subst c
      obtain⟨v,A,B⟩:=z.at_ hy
      obtain⟨C,D⟩:=ai6 h.mem d e (q:=g) (by simp[bB,af])
      have hc:=yd (g:=g) (t:=t') (cs:=vs) (w:=w) (by simpa[ba.cg]using s) A
      exact⟨λ w'=>w'.cell? ⟨g,l,none⟩=some v,⟨g,v,e,C,D,B,by simpa using hc,λ _ h=>h⟩,v,λ w' F=>xD (JA r).1 k ak F⟩
     ·cases b
    ·cases b
   ·cases b
  ·cases b
 ·cases b
end
end bc
namespace bc
open Go Go.RowKit aw I
section
variable{T:bR}{W w w':World}{M0:List Nat}{X:Nat->Prop}{bl:List (aD T.El)}{ρ:List Value}{B C:aD T.El}{h g:Value}
theorem GI(b:ρ.length=bl.length){j:Nat}{D:aD T.El}{u:Value}(aA:(bl++[B,C])[j]? =some D)(a:(ρ++[h,g])[j]? =some u) :
 (j<bl.length/\bl[j]? =some D/\ρ[j]? =some u)\/(j=bl.length/\D=B/\u=h)\/(j=bl.length+1/\D=C/\u=g):=by
 rcases gg j bl.length with e |e
 ·rw[fc e]at aA
  rw[fc (by rw[b];exact e)]at a
  exact .inl ⟨e,aA,a⟩
 ·rw[fI e]at aA
  rw[fI (by rw[b];exact e),b]at a
  right
  cases aL:j-bl.length with
  |zero=>
   rw[aL]at aA a
   simp only[dG,aF]at aA a
   exact .inl ⟨by omega,aA.symm,a.symm⟩
  |succ q=>
   cases q with
   |zero=>
    rw[aL]at aA a
    simp only[List.getElem?_cons_succ,dG,aF]at aA a
    exact .inr ⟨by omega,aA.symm,a.symm⟩
   |succ q=>rw[aL]at aA;simp at aA
theorem Mem.Z_(b:Mem T W M0 X bl ρ w)(c:bp [] w w')(ad:∀k∈bB B h,w.heap.size<=k/\k<w'.heap.size)(l:∀k∈bB C g,w.heap.size<=k/\k<w'.heap.size):To X bl (bl++[B,C]) ρ (ρ++[h,g]) w w':=by
 refine⟨λ k a=>⟨⟨a.1,?_,en a.2.2 c.size⟩,c.block k a.2.2 (by simp)⟩,⟨λ j u aA=>?_⟩,c.size,λ j D u aA d k a m=>?_⟩
 ·rintro⟨j,D,u,aA,d,f⟩
  have:=a.2.2
  rcases GI b.len aA d with⟨_,i,ak⟩|⟨_,rfl,rfl⟩|⟨_,rfl,rfl⟩
  ·exact a.2.1 ⟨j,D,u,i,ak,f⟩
  ·have:=(ad k f).1;omega
  ·have:=(l k f).1;omega
 ·have e:=(aO.1 aA).1
  have e':j<bl.length:=by rw[<-b.len];exact e
  refine⟨u,by rw[fc e];exact aA,λ _=>rfl,?_⟩
  rw[fc e']
  exact⟨cC _,λ _=>⟨rfl,rfl,cC _,λ _=>rfl⟩⟩
 ·rcases GI b.len aA d with⟨_,i,ak⟩|⟨_,rfl,rfl⟩|⟨_,rfl,rfl⟩
  ·exact⟨D,u,i,ak,a⟩
  ·have:=(ad k a).1;omega
  ·have:=(l k a).1;omega
theorem Mem.ajt(d:Mem T W M0 X bl ρ w)(m:bp [] w w')(ad:∀k∈bB B h,w.heap.size<=k/\k<w'.heap.size)(i:∀k∈bB C g,w.heap.size<=k/\k<w'.heap.size)(aL:∀k∈bB B h,k∉bB C g)
 (bO:iU T (bi X (bl++[B,C]) (ρ++[h,g]) w') w' (ρ++[h,g]) (bl++[B,C]) B h)(r:iU T (bi X (bl++[B,C]) (ρ++[h,g]) w') w' (ρ++[h,g]) (bl++[B,C]) C g):Mem T W M0 X (bl++[B,C]) (ρ++[h,g]) w':=by
 have q:=d.Z_ m ad i
 have qA:∀ {j:Nat}{D:aD T.El}{u:Value}{k:Nat},bl[j]? =some D->ρ[j]? =some u->k∈bB D u->k<w.heap.size:=λ{j D u k} s J ap=>(d.lt k ⟨j,D,u,s,J,ap⟩).1
 refine⟨d.bW.trans m (by simp),by simp[d.len],d.hL,?_,?_,?_⟩
 ·rintro k ⟨j,D,u,aA,l,c⟩
  rcases GI d.len aA l with⟨_,e,ak⟩|⟨_,rfl,rfl⟩|⟨_,rfl,rfl⟩
  ·have:=d.lt k ⟨j,D,u,e,ak,c⟩
   exact⟨en this.1 m.size,this.2⟩
  ·exact⟨(ad k c).2,.inr (gJ d.bW.size (ad k c).1)⟩
  ·exact⟨(i k c).2,.inr (gJ d.bW.size (i k c).1)⟩
 ·intro a b D G u v t l x y n k c f
  rcases GI d.len t l with⟨_,e,ak⟩|⟨z,rfl,rfl⟩|⟨z,rfl,rfl⟩<;>rcases GI d.len x y with⟨_,o,p⟩|⟨A,rfl,rfl⟩|⟨A,rfl,rfl⟩
  ·exact d.bz _ _ _ _ _ _ e ak o p n k c f
  ·have:=qA e ak c;have:=(ad k f).1;omega
  ·have:=qA e ak c;have:=(i k f).1;omega
  ·have:=qA o p f;have:=(ad k c).1;omega
  ·exact n (by omega)
  ·exact aL k c f
  ·have:=qA o p f;have:=(i k c).1;omega
  ·exact aL k f c
  ·exact n (by omega)
 ·intro j D u aA l
  rcases GI d.len aA l with⟨_,e,ak⟩|⟨_,rfl,rfl⟩|⟨_,rfl,rfl⟩
  ·exact(d.ok j D u e ak).later q.F q.L λ k c=>m.block k (qA e ak c) (by simp)
  ·exact bO
  ·exact r
theorem LS.bW(b:bp [] w w'){S:World->Prop}{d:j4 T.El}(k:u1 X bl ρ w S d):S w':=by
 rcases k with k |k
 ·exact k w'
 ·cases d with
  |ro=>obtain⟨q,c,k⟩:=k;exact k w' (b.block q c.2.2 (by simp))
  |BQ i=>obtain⟨q,c,_,k⟩:=k;exact k w' (b.block q c (by simp))
  |cl i o y=>
   obtain⟨g,u,_,J,_,_,hc,k⟩:=k
   refine k w' ?_
   rw[<-hc]
   exact World.cell?_of_block (a:=⟨g,o,none⟩) (b.block g J (by simp))
theorem gU.bW{P:Program}{ops:Array Oper}(b:bp [] w w'):∀ {aj:List (List Nat×j4 T.El)}{H:List (List Nat×(World->Prop))},gU P ops X bl ρ w aj H-> ∀a,kp H a w'
 |[],H,h,a=>by simp only[gU]at h;subst h;intro p c;simp at c
 |p::r,H,h,a=>by
  simp only[gU]at h;obtain⟨S,e,rfl,_,J,ap⟩:=h;intro q aM d;rcases cR.1 aM with rfl |aM
  ·exact LS.bW b J
  ·exact gU.bW b ap a q aM d
end
def two(E:Env)(n:Nat)(bl:List (aD E.T.El))(f:cy E.T.El)(oi a:Oper):Option (cy E.T.El×List (aD E.T.El)):=match oi.op,a.op,oi.guard,a.guard,oi.dst,a.dst with
 | .alloc ti,.alloc c,none,none,some b,some bz=>match Ed E.P ti,Ed E.P c,ez b n&&(ez bz n&& !bS b bz)with
   |some d,some e,true=>some ((f.put b (.b bl.length 0)).put bz (.b (bl.length+1) 0),bl++[.c ti (d.map .p),.c c (e.map .p)])
   |_,_,_=>none
 |_,_,_,_,_,_=>none
section
variable{E:Env}{W w:World}{M0:List Nat}{X:Nat->Prop}{n:cB}{f f2:cy E.T.El}{bl yc:List (aD E.T.El)}{ρ:List Value}{a:Act}{oi dO:Oper}
abbrev ul(g:Nat):Value:=.pointer (some ⟨g,0,none⟩)
theorem aHG(h:R E W M0 X n f bl ρ a w)(i:two E n.n bl f oi dO=some (f2,yc)):∃m bz ti o j l,oi.dst=some m/\dO.dst=some bz/\m≠bz/\oi.guard=none/\dO.guard=none/\
 (∀a w,bg E.P oi a w (ul w.heap.size) (w.alloc (.cells ⟨j⟩ ti)))/\(∀a w,bg E.P dO a w (ul w.heap.size) (w.alloc (.cells ⟨l⟩ o)))/\
 ∀d g b,bp [] w b->w.heap.size<=d->d<b.heap.size->w.heap.size<=g->g<b.heap.size->d≠g->b.heap[d]? =some (.cells ⟨j⟩ ti (0,0))->b.heap[g]? =some (.cells ⟨l⟩ o (0,0)) ->
  ∃r,R E W M0 X n f2 yc r ((a.put (some m) (ul d)).put (some bz) (ul g)) b/\To X bl yc ρ r w b/\gW bl ρ w b []:=by
 unfold two at i
 split at i
 ·rename_i ti o m bz v J ap x y z
  split at i
  ·rename_i j l A ak aS
   simp only[bH,gI]at aS
   obtain⟨p,B,C⟩:=aS
   simp only[aF,ca]at i
   obtain⟨rfl,rfl⟩:=i
   obtain⟨S,D,F⟩:=LC A
   obtain⟨G,l1,H⟩:=LC ak
   refine⟨m,bz,ti,o,j,l,y,z,λ e=>by subst e;simp at C,ap,x,λ a w=>AM D F v,λ a w=>AM l1 H J,λ d g b q I K L M N O P=>?_⟩
   have ad:∀k∈bB (aD.c (El:=E.T.El) ti (j.map .p)) (ul d),w.heap.size<=k/\k<b.heap.size:=λ k c=>by
    simp only[bB,af,dR]at c;subst c;exact⟨I,K⟩
   have s:∀k∈bB (aD.c (El:=E.T.El) o (l.map .p)) (ul g),w.heap.size<=k/\k<b.heap.size:=λ k c=>by
    simp only[bB,af,dR]at c;subst c;exact⟨L,M⟩
   have t:=h.mem.Z_ q ad s
   have Q:=h.mem.ajt q ad s (λ k c u=>by
    simp only[bB,af,dR]at c u;exact N (c.symm.trans u)) ⟨d,j,rfl,O,sl j⟩ ⟨g,l,rfl,P,sl l⟩
   refine⟨_,((h.to t Q).put p ?_).put B ?_,t,λ k c _=>q.block k c (by simp)⟩
   ·simp only[ar]
    exact⟨d,by rw[<-h.mem.len];simp,rfl⟩
   ·simp only[ar]
    exact⟨g,by rw[<-h.mem.len];simp,rfl⟩
  ·cases i
 ·cases i
end
end bc
namespace bc
open Go Go.RowKit aw I
def sk(ds:List Nat)(o:Oper):Bool:=o.after.toList.all λ e=>!Region.binds .any e||e2 ds e.on
def J4(P:Program)(ds:List Nat):List (Nat×Oper)->Option (Nat×Oper)
 |[]=>none
 |(i,o)::r=>match CE P o&&sk ds o with
  |true=>some (i,o)
  |false=>J4 P ds r
def mV(ds:List Nat):List (Nat×Oper)->List (Nat×Oper)
 |[]=>[]
 |(i,o)::r=>match sk ds o with
  |true=>(i,o)::mV ds r
  |false=>mV ds r
def l8(i:Nat):List (Nat×Oper)->List (Nat×Oper)
 |[]=>[]
 |(j,o)::r=>match bS j i with
  |true=>l8 i r
  |false=>(j,o)::l8 i r
def F3:Nat->List Oper->List (Nat×Oper)
 |_,[]=>[]
 |i,o::r=>(i,o)::F3 (i+1) r
noncomputable def vf(E:Env)(bt:fb E)(ops:Array Oper)(n:Nat):Nat->List (Nat×Oper)->List Nat->List (List Nat×j4 E.T.El)->eG E.T.El->D (b6 E.T.El)
 |0,rem,ds,_,s=>match mV ds rem with
  |[]=>.ok ⟨.nm,s⟩
  |_=>.no
 |cH+1,rem,ds,aj,s=>match J4 E.P ds rem with
  |some (i,o)=>(Pr E ops n s.bl s.f o).bind λ q=>Da E q.f λ f=>vf E bt ops n cH (l8 i rem) (i::ds) (acT E ops s.bl s.f i o.op aj q.aL) ⟨f,s.bl,s.ws⟩
  |none=>match mV ds rem with
   |[]=>.ok ⟨.nm,s⟩
   |[(i,o)]=>(Rp E bt ops n s.bl s.f o).bind λ t=>match t.x with
    | .nm=>match CH i t.s.ws t.s.bl aj with
      |some cc=>Da E t.s.f λ f=>JV E t.s.ws s.bl.length t.s.bl λ bl=>vf E bt ops n cH (l8 i rem) (i::ds) cc ⟨f,bl,t.s.ws++s.ws⟩
      |none=>.no
    |x=>.ok ⟨x,t.s.f,t.s.bl,t.s.ws++s.ws⟩
   |[(i,oi),(j,b)]=>match two E n s.bl s.f oi b with
    |some (c,a)=>match mV (i::ds) (l8 i rem),mV (j::ds) (l8 j rem)with
     |[(gy,_)],[(i',_)]=>match bS gy j&&bS i' i,CH i [] a aj with
      |true,some d=>match CH j [] a d,cH with
       |some J,cH+1=>Da E c λ f=>JV E [] s.bl.length a λ bl=>vf E bt ops n cH (l8 j (l8 i rem)) (j::i::ds) J ⟨f,bl,s.ws⟩
       |_,_=>.no
      |_,_=>.no
     |_,_=>.no
    |none=>.no
   |_=>.no
structure x8 (ops:Array Oper) (rem:List (Nat×Oper)) (ds:List Nat):Prop where
 mem:∀i o,(i,o)∈rem↔ops[i]? =some o/\i∉ds
 lt:∀i∈ds,i<ops.size
 cl:∀i∈ds,∀o,ops[i]? =some o->sk ds o=true
section
variable{ops:Array Oper}{rem:List (Nat×Oper)}{ds:List Nat}
theorem OC{n:Nat}:∀ {ds:List Nat},(dN n ds).size=n
 |[]=>by simp[dN]
 |i::r=>by simp[dN,OC (ds:=r)]
theorem FX{n j:Nat}{b:Bool}:∀ {ds:List Nat},j∈ds->j<n->(dN n ds).getD j b=true
 |i::r,h,a=>by
  simp only[dN,ek,fe];by_cases e:i=j
  ·subst e;simp[OC,a]
  ·rw[if_neg e]
   rcases cR.1 h with rfl |h
   ·exact absurd rfl e
   ·have:=FX (b:=b) h a
    simpa[ek]using this
theorem OB{n j:Nat}:∀ {ds:List Nat},j∉ds->(dN n ds).getD j false=false
 |[],_=>by
  simp only[dN,ek,Array.getElem?_replicate];split<;>rfl
 |i::r,h=>by
  simp only[cR,not_or]at h;have:=OB (n:=n) h.2;simp only[dN,ek,fe,if_neg (Ne.symm h.1)]at this⊢;exact this
theorem aCp{n j:Nat}(b:j<n)(h:j∉ds):(dN n ds).getD j true=false:=by
 have a:=OB (n:=n) h;have c:j<(dN n ds).size:=by rw[OC];exact b
 simp only[ek,jh c,iM]at a⊢;exact a
theorem Kl{o:Oper}:sk ds o=true↔ ∀e∈o.after,Region.binds .any e=true->e.on∈ds:=by
 simp only[sk,kh,hV,gI];constructor
 ·intro h e a af
  rcases h e (by simpa using a)with h |h
  ·rw[af]at h;cases h
  ·exact rV h
 ·intro h e a
  cases af:Region.binds .any e with
  |false=>exact .inl rfl
  |true=>exact .inr (NU.2 (h e (by simpa using a) af))
theorem uv(b:x8 ops rem ds){i:Nat}:i∈Region.ready .any ops (dN ops.size ds)↔ ∃o,(i,o)∈rem/\sk ds o=true:=by
 rw[mem_ready];constructor
 ·rintro⟨a,o,J,ap⟩
  have d:=(fJ.1 J).1
  refine⟨o,(b.mem i o).2 ⟨J,λ e=>?_⟩,Kl.2 λ e c af=>?_⟩
  ·rw[FX e d]at a;cases a
  ·by_cases aL:e.on∈ds
   ·exact aL
   ·have:=ap e c af
    rw[OB aL]at this
    cases this
 ·rintro⟨o,a,J⟩
  obtain⟨ap,f⟩:=(b.mem i o).1 a
  refine⟨aCp (fJ.1 ap).1 f,o,ap,λ e c af=>?_⟩
  have:=Kl.1 J e c af
  exact FX this (b.lt _ this)
theorem ZG{i j:Nat}{o:Oper}:∀ {rem:List (Nat×Oper)},(j,o)∈l8 i rem↔(j,o)∈rem/\j≠i
 |[]=>by simp[l8]
 |(k,p)::r=>by
  simp only[l8];cases af:bS k i with
  |true=>
   have:=bd af
   subst this
   rw[ZG (rem:=r)]
   simp only[cR,ca]
   constructor
   ·rintro⟨h1,J⟩;exact⟨.inr h1,J⟩
   ·rintro⟨h1,J⟩
    rcases h1 with⟨h1,_⟩|h1
    ·exact absurd h1 J
    ·exact⟨h1,J⟩
  |false=>
   have a:k≠i:=λ e=>by subst e;simp at af
   simp only[cR,ca,ZG (rem:=r)]
   constructor
   ·rintro(⟨rfl,rfl⟩|⟨h1,J⟩)
    ·exact⟨.inl ⟨rfl,rfl⟩,a⟩
    ·exact⟨.inr h1,J⟩
   ·rintro⟨h1 |h1,J⟩
    ·exact .inl h1
    ·exact .inr ⟨h1,J⟩
theorem x8.next(f:x8 ops rem ds){i:Nat}{o:Oper}(hi:(i,o)∈rem)(h:sk ds o=true):x8 ops (l8 i rem) (i::ds):=by
 obtain⟨g,J⟩:=(f.mem i o).1 hi;have up:∀ {p:Oper},sk ds p=true->sk (i::ds) p=true:=λ{p} d=>Kl.2 λ e k af=>dX _ (Kl.1 d e k af);refine⟨λ j p=>?_,λ j aA=>?_,λ j aA p d=>?_⟩
 ·rw[ZG,f.mem]
  simp only[cR,not_or]
  exact⟨λ⟨⟨a,b⟩,c⟩=>⟨a,c,b⟩,λ⟨a,c,b⟩=>⟨⟨a,b⟩,c⟩⟩
 ·rcases cR.1 aA with rfl |aA
  ·exact(fJ.1 g).1
  ·exact f.lt j aA
 ·rcases cR.1 aA with rfl |aA
  ·rw[g]at d;cases d;exact up h
  ·exact up (f.cl j aA p d)
theorem aji{P:Program}{i:Nat}{o:Oper}:∀ {rem:List (Nat×Oper)},J4 P ds rem=some (i,o)->(i,o)∈rem/\CE P o=true/\sk ds o=true
 |[],h=>by simp[J4]at h
 |(k,p)::r,h=>by
  simp only[J4]at h;split at h
  ·rename_i af
   simp only[aF,ca]at h
   obtain⟨rfl,rfl⟩:=h
   rw[bH]at af
   exact⟨by simp,af⟩
  ·obtain⟨a,J⟩:=aji h
   exact⟨dX _ a,J⟩
theorem qJ{i:Nat}{o:Oper}:∀ {rem:List (Nat×Oper)},(i,o)∈mV ds rem↔(i,o)∈rem/\sk ds o=true
 |[]=>by simp[mV]
 |(k,p)::r=>by
  simp only[mV];split
  ·rename_i af
   simp only[cR,ca,qJ (rem:=r)]
   constructor
   ·rintro(⟨rfl,rfl⟩|⟨h1,J⟩)
    ·exact⟨.inl ⟨rfl,rfl⟩,af⟩
    ·exact⟨.inr h1,J⟩
   ·rintro⟨h1 |h1,J⟩
    ·exact .inl h1
    ·exact .inr ⟨h1,J⟩
  ·rename_i af
   simp only[cR,ca,qJ (rem:=r)]
   constructor
   ·rintro⟨h1,J⟩;exact⟨.inr h1,J⟩
   ·rintro⟨⟨rfl,rfl⟩|h1,J⟩
    ·rw[J]at af;cases af
    ·exact⟨h1,J⟩
theorem aj_(a:x8 ops rem ds)(h:mV ds rem=[]):Region.ready .any ops (dN ops.size ds)=[]:=by
 refine List.eq_nil_iff_forall_not_mem.2 λ i hi=>?_;obtain⟨o,b,J⟩:=(uv a).1 hi;have:=(qJ (ds:=ds)).2 ⟨b,J⟩;rw[h]at this;simp at this
theorem aiT{i:Nat}{o:Oper}:∀ {l:List Oper}{k:Nat},(i,o)∈F3 k l↔k<=i/\l[i-k]? =some o
 |[],k=>by simp[F3]
 |p::r,k=>by
  simp only[F3,cR,ca,aiT (l:=r)];constructor
  ·rintro(⟨rfl,rfl⟩|⟨h1,J⟩)
   ·exact⟨cC _,by simp⟩
   ·refine⟨by omega,?_⟩
    rw[show i-k=(i- (k+1))+1 by omega]
    simpa using J
  ·rintro⟨h1,J⟩
   rcases Nat.eq_or_lt_of_le h1 with rfl |h1
   ·left;simpa using J.symm
   ·right
    refine⟨h1,?_⟩
    rw[show i-k=(i- (k+1))+1 by omega]at J
    simpa using J
theorem aGn:x8 ops (F3 0 ops.toList) []:=⟨λ i o=>by rw[aiT];simp,λ i hi=>by simp at hi,λ i hi=>by simp at hi⟩
theorem adT(a:x8 ops rem ds){i:Nat}(hi:i∉ds):∀ {l:List Oper}{k:Nat}{acc:List Nat},(∀m o,l[m]? =some o->ops[k+m]? =some o)->(∀u∈acc,u∉ds)-> ∀u∈nK l k i acc,u∉ds
 |[],_,_,_,h=>h
 |o::r,k,acc,b,h=>by
  rw[nK];refine adT a hi (λ m c d=>by have:=b (m+1) c (by simpa using d);rwa [show k+(m+1)=k+1+m by omega]at this) ?_;split
  ·rename_i af
   intro u hu
   rcases cR.1 hu with rfl |hu
   ·intro f
    simp only[h2,bH,hV]at af
    obtain⟨e,g,j,J⟩:=af
    have:=Kl.1 (a.cl u f o (by simpa using b 0 o rfl)) e (by simpa using g) j
    rcases J with J |J
    ·rw[bd J]at this;exact hi this
    ·exact h _ (rV J) this
   ·exact h u hu
  ·exact h
theorem H8{P:Program}{v:Nat}:∀ {l:List Nat},v∈BS P ops l->v∈l/\ ∃o,ops[v]? =some o/\CE P o=false
 |[],h=>by simp[BS]at h
 |k::r,h=>by
  simp only[BS]at h;split at h
  ·rename_i o b
   rw[c7,ht]at b
   split at h
   ·obtain⟨a,J⟩:=H8 h;exact⟨dX _ a,J⟩
   ·rename_i c
    rcases cR.1 h with rfl |h
    ·exact⟨by simp,o,b,c⟩
    ·obtain⟨a,J⟩:=H8 h;exact⟨dX _ a,J⟩
  ·obtain⟨a,J⟩:=H8 h;exact⟨dX _ a,J⟩
end
def ms(Q:Exit->Act->World->Prop):Exit->Act->World->Prop
 | .panic c,a,w=>∀b,b.defers=a.defers->Q (.panic c) b w
 |e,a,w=>Q e a w
theorem ms.imp{Q:Exit->Act->World->Prop}:∀(e:Exit)(a:Act)(w:World),ms Q e a w->Q e a w:=λ e a w h=>by
 cases e<;>first |exact h |exact h a rfl
theorem ms.put{Q:Exit->Act->World->Prop}{d:Option Nat}{v:Value}(c:List PanicEntry)(a:Act)(w:World)(h:ms Q (.panic c) (a.put d v) w):ms Q (.panic c) a w:=λ b e=>h b (by rw[e];cases d<;>rfl)
section
variable{E:Env}{bt:fb E}{W:World}{M0:List Nat}{X:Nat->Prop}{n:cB}{b0:List (aD E.T.El)}{ρ0:List Value}{w0:World}{ops:Array Oper}{Q:Exit->Act->World->Prop}
theorem Qp{P:Program}{H c:List (List Nat×(World->Prop))}{i:Nat}(d:∀(b:Array Bool) w,b.getD i false=true->kp H b w->kp c b w):∀(cH:Nat)(b:Array Bool)(a:Act)(w:World),b.getD i false=true->mZ P ops Q H cH b a w->mZ P ops Q c cH b a w
 |0,_,_,_,_,h=>h
 |cH+1,_,_,_,e,h=>⟨h.1,λ j aA=>wpOp_mono (λ f w' h'=>⟨d _ _ (getD_set_true e) h'.1,Qp d cH _ f w' (getD_set_true e) h'.2⟩) (h.2 j aA)⟩
theorem Xm{m i:Nat}{ds:List Nat}:(dN m ds).setIfInBounds i true=dN m (i::ds):=rfl
theorem HO(a6:c8 E)(aB:kU E bt)(I:Dy ops ops.toList 0 ops.toList=true):∀(cH:Nat){rem:List (Nat×Oper)}{ds:List Nat}{aj:List (List Nat×j4 E.T.El)}{H:List (List Nat×(World->Prop))}{s:eG E.T.El}{t:b6 E.T.El}{ρ:List Value}{a:Act}{w:World},
 (vf E bt ops n.n cH rem ds aj s).out t->iT E W M0 X n b0 ρ0 w0 s ρ a w->x8 ops rem ds->gU E.P ops X s.bl ρ w aj H->Fin E W M0 X n b0 ρ0 w0 t Q->mZ E.P ops (ms Q) H cH (dN ops.size ds) a w
 |0,rem,ds,aj,H,s,t,ρ,a,w,f,h,l,C,k=>by
  simp only[vf]at f;split at f
  ·rename_i aC
   have f:(⟨.nm,s⟩:b6 E.T.El)=t:=f
   subst f
   exact⟨aj_ l aC,k ρ a w h⟩
  ·exact f.elim
 |cH+1,rem,ds,aj,H,s,t,ρ,a,w,f,h,l,C,k=>by
  simp only[vf]at f;split at f
  ·rename_i i o aI
   obtain⟨L,eF,fw⟩:=aji aI
   obtain⟨F,sg⟩:=(l.mem i o).1 L
   obtain⟨q,h1,J⟩:=D.jR f
   rw[Db]at J
   obtain⟨d,aL,u,ayZ,hy⟩:=Yh (ops:=ops) a6 h.r h1
   have tL:iT E W M0 X n b0 ρ0 w0 ⟨q.f,s.bl,s.ws⟩ ρ (a.put (some d) u) w:=⟨ayZ,h.to,h.wr⟩
   have kA:=l.next L fw
   have U:=(uv l).2 ⟨o,L,fw⟩
   have o7:=aIi I (OC (ds:=ds)) F U
   have vO:=C.yi (dN ops.size ds)
   have agJ:∀h∈H,i∉h.1:=λ p aI hi=>by
    obtain⟨M,g,ak⟩:=C.aiS p aI i hi;rw[F]at g;cases g;rw[eF]at ak;cases ak
   have p':∀v∈ends E.P ops i,v∈nK ops.toList 0 i []:=λ v N=>(H8 N).1
   have agj:∀v∈ends E.P ops i,∃o,ops[v]? =some o/\CE E.P o=false:=λ v N=>(H8 N).2
   have VD:i∉ends E.P ops i:=λ hi=>by
    obtain⟨M,g,ak⟩:=agj i hi;rw[F]at g;cases g;rw[eF]at ak;cases ak
   have Iz:Eh ops i (nK ops.toList 0 i []):=S9 (λ m o hm=>by simpa using hm) (λ u O=>by simp at O)
   have aw5:∀u∈nK ops.toList 0 i [],(dN ops.size ds).getD u false=false:=λ u O=>OB (adT l sg (λ m o hm=>by simpa using hm) (λ u O=>by simp at O) u O)
   have one:∀(rK:j4 E.T.El)(S:World->Prop),u1 X s.bl ρ w S rK->YieldsIf E.P ops S o u a->(vf E bt ops n.n cH (l8 i rem) (i::ds) ((ends E.P ops i,rK)::aj) ⟨q.f,s.bl,s.ws⟩).out t->mZ E.P ops (ms Q) H (cH+1) (dN ops.size ds) a w:=λ rK S g ak aS=>by
    have next:=HO a6 aB I cH aS tL kA (H:=(ends E.P ops i,S)::H) (by simp only[gU];exact⟨S,H,rfl,agj,g,C⟩) k
    refine alM F (alG I) (λ c a w h=>ms.put c a w h) Iz p' VD agJ cH _ a w o7 aw5 U vO g.now ak ?_;rw[aL];exact next
   have free:(vf E bt ops n.n cH (l8 i rem) (i::ds) aj ⟨q.f,s.bl,s.ws⟩).out t->YieldsIf E.P ops (λ _=>True) o u a->mZ E.P ops (ms Q) H (cH+1) (dN ops.size ds) a w:=λ aS ak=>by
    have next:=HO a6 aB I cH aS tL kA C k
    refine aIm F (alG I) (λ c a w h=>ms.put c a w h) agJ o7 U vO ak ?_;rw[aL];exact next
   rcases hy with⟨r,hy⟩|⟨r,hy⟩
   ·cases IQ:q.aL with
    |none=>
     rw[IQ]at J hy
     exact free J (.inl ⟨r,λ w' _=>hy w'⟩)
    |some b=>
     rw[IQ]at J hy
     obtain⟨J9,S,cK,nw,sM,Hm⟩:=hy
     cases b with
     |none=>exact one .ro S (.inr ⟨J9,cK,sM⟩) (.inl ⟨r,Hm⟩) J
     |some b=>
      obtain⟨B,bO,uV,z2,z3⟩:=cK
      obtain⟨gN,dc⟩:=ai6 h.r.mem uV z2 z3
      simp only[acT,agq]at J
      split at J
      ·rename_i i' M e9 e0
       obtain⟨EB,V,pA,G⟩:=atv (o:=o) h.r e0
       have g:u1 X s.bl ρ w EB (.cl i' M e9):=.inr V
       have ak:=G w g.now
       have aS:=Hm w nw
       have O:pA=u:=by
        have:=(show(execOp a.eval o).run E.P w=_ from ak).symm.trans (show(execOp a.eval o).run E.P w=_ from aS);injection this with this;injection this
       subst O
       exact one _ EB g (.inl ⟨r,G⟩) J
      ·exact one (.BQ b) S (.inr ⟨J9,gN,(dc:u3 s.bl ρ J9 b),sM⟩) (.inl ⟨r,Hm⟩) J
   ·have wb:YieldsIf E.P ops (λ _=>True) o u a:=.inr ⟨r,hy⟩
    cases IQ:q.aL with
    |none=>rw[IQ]at J;exact free J wb
    |some b=>
     rw[IQ]at J
     cases b with
     |none=>exact one _ _ (.inl λ _=>trivial) wb J
     |some b=>exact one _ _ (.inl λ _=>trivial) wb J
  ·split at f
   ·rename_i aC
    have f:(⟨.nm,s⟩:b6 E.T.El)=t:=f
    subst f
    exact⟨λ _=>k ρ a w h,by rw[aj_ l aC];simp⟩
   ·rename_i i o Co
    have VE:(i,o)∈mV ds rem:=by rw[Co];simp
    obtain⟨L,fw⟩:=qJ.1 VE
    obtain⟨F,sg⟩:=(l.mem i o).1 L
    have kA:=l.next L fw
    have bC:=(fJ.1 F).1
    have U:=(uv l).2 ⟨o,L,fw⟩
    obtain⟨x,h1,J⟩:=D.jR f
    have Y:=ab1 a6 aB h.r h1
    refine⟨λ e=>by rw[e]at U;simp at U,λ j aA=>?_⟩
    have fu:j=i:=by
     obtain⟨M,g,ak⟩:=(uv l).1 aA;have:=qJ.2 ⟨g,ak⟩;rw[Co]at this;simp only[dR,ca]at this;exact this.1
    subst fu
    have Y:=Y (λ Z w'=>kp H ((dN ops.size ds).setIfInBounds j true) w'/\mZ E.P ops (ms Q) H cH ((dN ops.size ds).setIfInBounds j true) Z w') (ms Q) λ ρ' Z w' n2 aK r=>by
     have jL:=h.next n2 aK r;cases kC:x.x with
     |nm=>
      rw[kC]at J
      simp only at J
      split at J
      ·rename_i cc hk
       obtain⟨mo,V,G⟩:=C.eV n2.mem aK r hk
       simp only[Db,O4]at J
       have next:=HO a6 aB I cH J jL kA V k
       have al:((dN ops.size ds).setIfInBounds j true).getD j false=true:=FX (ds:=j::ds) (by simp) bC
       exact⟨G _ _ al (V.yi _),Qp G cH _ Z w' al next⟩
      ·exact J.elim
     |ex id=>
      rw[kC]at J
      have J:(⟨.ex id,x.s.f,x.s.bl,x.s.ws++s.ws⟩:b6 E.T.El)=t:=J
      subst J
      exact k ρ' Z w' jL
     |rt=>
      rw[kC]at J
      have J:(⟨.rt,x.s.f,x.s.bl,x.s.ws++s.ws⟩:b6 E.T.El)=t:=J
      subst J
      exact k ρ' Z w' jL
     |hP y=>
      rw[kC]at J
      have J:(⟨.hP y,x.s.f,x.s.bl,x.s.ws++s.ws⟩:b6 E.T.El)=t:=J
      subst J
      have:=k ρ' Z w' jL
      exact λ v N b af j8 gl=>this v N j8 (gl.trans af)
    unfold wpOp
    simp only[F]
    split
    ·rename_i r
     rw[if_pos r]at Y
     exact .inl Y
    ·rename_i r
     rw[if_neg r]at Y
     exact Y
   ·rename_i i oi j dO IU
    split at f
    ·rename_i f2 dS azc
     split at f
     ·rename_i gy O6 i' aiW cz dD
      split at f
      ·rename_i h1 g ak
       split at f
       ·rename_i J cH aS
        simp only[Db,O4]at f
        simp only[bH]at g
        have au_:=bd g.1
        have Th:=bd g.2
        subst au_;subst Th
        obtain⟨rp,bz,ti,qM,pQ,pR,d1,d2,b2,afW,afX,aoi,aoj,fin⟩:=aHG h.r azc
        obtain⟨X6,ajh⟩:=qJ.1 (show(i',oi)∈mV ds rem by rw[IU];simp)
        obtain⟨ajk,aDG⟩:=qJ.1 (show(gy,dO)∈mV ds rem by rw[IU];simp)
        obtain⟨Pd,aM0⟩:=(l.mem i' oi).1 X6
        obtain⟨Gh,aM1⟩:=(l.mem gy dO).1 ajk
        have ax7:i'≠gy:=λ e=>by
         subst e;rw[Pd]at Gh;cases Gh;rw[d1]at d2;exact b2 (ei d2)
        have NH:=l.next X6 ajh
        have agR:=l.next ajk aDG
        obtain⟨Y9,ajG⟩:=qJ.1 (show(gy,O6)∈mV (i'::ds) (l8 i' rem) by rw[cz];simp)
        have au':O6=dO:=by
         have:=((NH.mem gy O6).1 Y9).1;rw[Gh]at this;exact(ei this).symm
        subst au'
        have n2:=NH.next Y9 ajG
        have li:=(fJ.1 Pd).1
        have aB2:=(fJ.1 Gh).1
        have step:∀ {q:Nat}{o:Oper}{d t:Nat}{z:List Value}{b:Act}{v:World}{K:Act->World->Prop},ops[q]? =some o->o.guard=none->o.dst=some d->bg E.P o b v (ul v.heap.size) (v.alloc (.cells ⟨z⟩ t))->K (b.put (some d) (ul v.heap.size)) (v.alloc (.cells ⟨z⟩ t))->wpOp E.P ops (ms Q) q K b v:=by
         intro q o d t z b v K aM ay aL hy b5;have r:Region.wanted o (yielded ops b.tmps)=true:=Qk ay;unfold wpOp;simp only[aM,r,if_true];left;unfold Oper.wp;rw[show(execOp b.eval o).run E.P v=_ from hy];show K (b.put o.dst _) _
         rw[aL];exact b5
        have afr:∀P R a2 A,a2=(a.put (some rp) (ul P)).put (some bz) (ul R)->bp [] w A->w.heap.size<=P->P<A.heap.size->w.heap.size<=R->R<A.heap.size->P≠R->A.heap[P]? =some (.cells ⟨pQ⟩ ti (0,0))->A.heap[R]? =some (.cells ⟨pR⟩ qM (0,0)) ->
         kp H (dN ops.size (gy::i'::ds)) A/\mZ E.P ops (ms Q) H cH (dN ops.size (gy::i'::ds)) a2 A:=λ P R a2 A av N i1 i2 kF pb ay br bA=>by
         obtain⟨lz,s1,s2,zM⟩:=fin P R A N i1 i2 kF pb ay br bA
         subst av
         have jL:=h.next (s':=⟨f2,dS,[]⟩) s1 s2 zM
         obtain⟨H1,V,G⟩:=C.eV s1.mem s2 zM ak
         obtain⟨aL7,cd,dh⟩:=V.eV s1.mem .refl .nil aS
         have next:=HO a6 aB I cH f jL n2 cd k
         have x:(dN ops.size (gy::i'::ds)).getD gy false=true:=FX (by simp) aB2
         have t2:(dN ops.size (gy::i'::ds)).getD i' false=true:=FX (by simp) li
         exact⟨G _ _ t2 (dh _ _ x (cd.yi _)),Qp G cH _ _ A t2 (Qp dh cH _ _ A x next)⟩
        have aj9:=(uv l).2 ⟨oi,X6,ajh⟩
        have sz:∀(v:World)(o:Obj),(v.alloc o).heap.size=v.heap.size+1:=λ v o=>by simp
        refine⟨λ e=>by rw[e]at aj9;simp at aj9,λ q aM=>?_⟩
        have rQ:q=i'\/q=gy:=by
         obtain⟨M,g,ak⟩:=(uv l).1 aM;have:=qJ.2 ⟨g,ak⟩;rw[IU]at this;simp only[cR,ca,h4,or_false]at this;rcases this with⟨e,_⟩|⟨e,_⟩
         ·exact .inl e
         ·exact .inr e
        rcases rQ with rfl |rfl
        ·refine step Pd afW d1 (aoi _ _) ⟨gU.bW (bp.alloc _ _ _) C _,?_⟩
         have Kk:=(uv NH).2 ⟨O6,Y9,ajG⟩
         refine⟨λ e=>by rw[Xm]at e;rw[e]at Kk;simp at Kk,λ q aM=>?_⟩
         have:q=gy:=by
          obtain⟨M,g,ak⟩:=(uv NH).1 aM;have:=qJ.2 ⟨g,ak⟩;rw[cz]at this;simp only[dR,ca]at this;exact this.1
         subst this
         refine step Gh afX d2 (aoj _ _) ?_
         exact afr w.heap.size (w.heap.size+1) _ _ (by simp) ((bp.alloc [] w _).trans (bp.alloc [] _ _) (by simp)) (cC _) (by rw[sz,sz];omega) (Nat.le_succ _) (by rw[sz,sz];omega) (by omega)
          (by rw[Below.heap_alloc _ _ _ (by rw[sz];omega)];exact heap_alloc_new w _) (by have:=heap_alloc_new (w.alloc (.cells ⟨pQ⟩ ti)) (.cells ⟨pR⟩ qM);rwa [sz]at this)
        ·refine step Gh afX d2 (aoj _ _) ⟨gU.bW (bp.alloc _ _ _) C _,?_⟩
         obtain⟨aEe,aEf⟩:=qJ.1 (show(i',aiW)∈mV (q::ds) (l8 q rem) by rw[dD];simp)
         have Kk:=(uv agR).2 ⟨aiW,aEe,aEf⟩
         refine⟨λ e=>by rw[Xm]at e;rw[e]at Kk;simp at Kk,λ p aI=>?_⟩
         have:p=i':=by
          obtain⟨M,g,ak⟩:=(uv agR).1 aI;have:=qJ.2 ⟨g,ak⟩;rw[dD]at this;simp only[dR,ca]at this;exact this.1
         subst this
         refine step Pd afW d1 (aoi _ _) ?_
         have ayi:(dN ops.size (q::ds)).setIfInBounds p true=dN ops.size (q::p::ds):=by
          show((dN ops.size ds).setIfInBounds q true).setIfInBounds p true=((dN ops.size ds).setIfInBounds p true).setIfInBounds q true
          exact jt _ _ (Ne.symm ax7)
         rw[Xm,ayi]
         exact afr (w.heap.size+1) w.heap.size _ _ (by
          simp only[Act.put,sz];rw[jt _ _ (Ne.symm b2)]) ((bp.alloc [] w _).trans (bp.alloc [] _ _) (by simp)) (Nat.le_succ _) (by rw[sz,sz];omega) (cC _) (by rw[sz,sz];omega) (by omega)
          (by have:=heap_alloc_new (w.alloc (.cells ⟨pR⟩ qM)) (.cells ⟨pQ⟩ ti);rwa [sz]at this) (by rw[Below.heap_alloc _ _ _ (by rw[sz];omega)];exact heap_alloc_new w _)
       ·exact f.elim
      ·exact f.elim
     ·exact f.elim
    ·exact f.elim
   ·exact f.elim
end
end bc
namespace bc
open Go Go.RowKit aw I
abbrev nB(E:Env):=Nat->Option (eG E.T.El->D (b6 E.T.El))
def Ou{El:Nat->Type}(g:eG El->D (b6 El)):Nat->eG El->D (b6 El)
 |0,_=>.no
 |k+1,s=>(g s).bind λ t=>match t.x with
  | .nm=>Ou g k t.s
  |_=>.ok t
def ai5{El:Nat->Type}(id:Nat)(t:b6 El):D (b6 El):=match t.x with
 | .ex i=>match bS i id with
   |true=>.ok ⟨.nm,t.s⟩
   |false=>.ok t
 |_=>.ok t
def ahE{El:Nat->Type}(f:cy El):Operand->Option Bool
 | .tmp t=>cD f.eg t
 |_=>none
def eG.WS{El:Nat->Type}(s:eG El)(b:Bool):Operand->eG El
 | .tmp t=>⟨s.f.know t b,s.bl,s.ws⟩
 |_=>s
def J1{E:Env}(LE:nB E):Code->Option (eG E.T.El->D (b6 E.T.El))
 | .seq (.region _ _ _) (.block id _)=>LE (1000000+id)
 |_=>none
noncomputable def den(E:Env)(bt:fb E)(LE:nB E)(n:Nat):Code->eG E.T.El->D (b6 E.T.El)
 | .skip,s=>.ok ⟨.nm,s⟩
 | .label _,s=>.ok ⟨.nm,s⟩
 | .exit id,s=>.ok ⟨.ex id,s⟩
 | .ret,s=>.ok ⟨.rt,s⟩
 | .region _ ops false,s=>opsL E bt ops n ops.toList s
 | .region _ ops true,s=>match Dy ops ops.toList 0 ops.toList with
   |true=>vf E bt ops n ops.size (F3 0 ops.toList) [] [] s
   |false=>.no
 | .seq x y,s=>match J1 LE x with
   |none=>(den E bt LE n x s).bind λ t=>match t.x with
    | .nm=>den E bt LE n y t.s
    |_=>.ok t
   |some g=>match y with
    | .seq _ rest=>(g s).bind λ t=>match t.x with
      | .nm=>den E bt LE n rest t.s
      |_=>.ok t
    |_=>.no
 | .cond c x y,s=>match od E s.bl s.f [] c with
   |some (.p (.bool b))=>match E.cl with
    |true=>match b with
     |true=>den E bt LE n x s
     |false=>den E bt LE n y s
    |false=>match ahE s.f c with
     |some true=>den E bt LE n x s
     |some false=>den E bt LE n y s
     |none=>.pZ b (den E bt LE n x (s.WS true c)) (den E bt LE n y (s.WS false c))
   |_=>.no
 | .block id c,s=>match LE id with
   |some g=>g s
   |none=>(den E bt LE n c s).bind (ai5 id)
 | .loop c,s=>Ou (den E bt LE n c) 1000000 s
 | .scope c,s=>den E bt LE n c s
 |_,_=>.no
def AW(E:Env)(n:cB)(g:eG E.T.El->D (b6 E.T.El))(c:Code):Prop:=
 ∀s t,(g s).out t-> ∀(W:World)(M0:List Nat)(X:Nat->Prop)(b0:List (aD E.T.El))(ρ0:List Value)(w0:World)(ρ:List Value)(a:Act)(w:World)(Q:Exit->Act->World->Prop),iT E W M0 X n b0 ρ0 w0 s ρ a w->Fin E W M0 X n b0 ρ0 w0 t Q->c.wp E.P Q a w
def xS(E:Env)(n:cB)(g:eG E.T.El->D (b6 E.T.El))(x r:Code):Prop:=
 ∀rest s t,(g s).out t-> ∀(W:World)(M0:List Nat)(X:Nat->Prop)(b0:List (aD E.T.El))(ρ0:List Value)(w0:World)(ρ:List Value)(a:Act)(w:World)(Q:Exit->Act->World->Prop),iT E W M0 X n b0 ρ0 w0 s ρ a w->Fin E W M0 X n b0 ρ0 w0 t (Exit.then (rest.wp E.P Q) Q)->(Code.seq x (.seq r rest)).wp E.P Q a w
def j5(E:Env)(LE:nB E)(n:cB):Code->Prop
 | .seq x y=>(∀g r rest,J1 LE x=some g->y= .seq r rest->xS E n g x r)/\j5 E LE n x/\j5 E LE n y
 | .cond _ x y=>j5 E LE n x/\j5 E LE n y
 | .block id c=>(∀g,LE id=some g->AW E n g (.block id c))/\j5 E LE n c
 | .loop c=>j5 E LE n c
 | .scope c=>j5 E LE n c
 |_=>True
section
variable{E:Env}{bt:fb E}{LE:nB E}{W:World}{M0:List Nat}{X:Nat->Prop}{n:cB}{b0:List (aD E.T.El)}{ρ0:List Value}{w0:World}
theorem tU(h:∀id,LE id=none):∀c,j5 E LE n c
 | .seq x y=>⟨(λ g r rest a=>by
  unfold J1 at a;split at a
  ·rw[h]at a;cases a
  ·cases a),tU h x,tU h y⟩
 | .cond _ x y=>⟨tU h x,tU h y⟩
 | .block id c=>⟨(λ g a=>by rw[h id]at a;cases a),tU h c⟩
 | .loop c=>tU h c
 | .scope c=>tU h c
 | .skip | .region _ _ _ | .rangeFunc _ _ _ _ | .exit _ | .label _ | .goto _ | .ret | .refuse _=>trivial
theorem R.drew{f:cy E.T.El}{bl:List (aD E.T.El)}{ρ:List Value}{a:Act}{w w':World}(h:R E W M0 X n f bl ρ a w)(b:bp [] w w'):R E W M0 X n f bl ρ a w':=h.to (Mem.su b) (h.mem.eV b)
theorem iT.drew{s:eG E.T.El}{ρ:List Value}{a:Act}{w w':World}(h:iT E W M0 X n b0 ρ0 w0 s ρ a w)(b:bp [] w w'):iT E W M0 X n b0 ρ0 w0 s ρ a w':=
 ⟨h.r.drew b,h.to.trans (Mem.su b),by
  have:=h.wr.bF h.to (s':=[]) (w'':=w') (bl':=s.bl) (ρ':=ρ) λ q c _=>b.block q c (by simp);simpa using this⟩
theorem anZ{K:Act->World->Prop}{Q:Exit->Act->World->Prop}{bl:List (aD E.T.El)}{ρ:List Value}{a:Act}{w:World}{x:L3 E.T.El}(b:x= .nm->K a w)(h:x≠ .nm->BK E X bl ρ Q a w x):BK E X bl ρ (Exit.then K Q) a w x:=by
 cases x with
 |nm=>exact b rfl
 |ex id=>exact h (by simp)
 |rt=>exact h (by simp)
 |hP y=>exact h (by simp)
theorem nJ(a6:c8 E)(q:kU E bt):∀(c:Code){s:eG E.T.El}{t:b6 E.T.El}{ρ:List Value}{a:Act}{w:World}{Q:Exit->Act->World->Prop},j5 E LE n c->(den E bt LE n.n c s).out t->iT E W M0 X n b0 ρ0 w0 s ρ a w->Fin E W M0 X n b0 ρ0 w0 t Q->c.wp E.P Q a w
 | .skip,s,t,ρ,a,w,Q,_,d,h,k=>by
   have d:(⟨.nm,s⟩:b6 E.T.El)=t:=d;subst d;exact wp_skip (k ρ a w h)
 | .label l,s,t,ρ,a,w,Q,_,d,h,k=>by
   have d:(⟨.nm,s⟩:b6 E.T.El)=t:=d;subst d;exact wp_label (k ρ a w h)
 | .exit id,s,t,ρ,a,w,Q,_,d,h,k=>by
   have d:(⟨.ex id,s⟩:b6 E.T.El)=t:=d;subst d;exact wp_exit (k ρ a w h)
 | .ret,s,t,ρ,a,w,Q,_,d,h,k=>by
   have d:(⟨.rt,s⟩:b6 E.T.El)=t:=d;subst d;exact wp_ret (k ρ a w h)
 | .region id ops false,s,t,ρ,a,w,Q,_,d,h,k=>by
   simp only[den]at d;exact wp_region_list (XY a6 q ops.toList d h k)
 | .region id ops true,s,t,ρ,a,w,Q,_,d,h,k=>by
   simp only[den]at d;split at d
   ·rename_i I
    have aL:iT E W M0 X n b0 ρ0 w0 s ρ a w.drew:=h.drew (bp.drew [] w)
    have:=HO a6 q I ops.size d aL aGn (H:=[]) (by simp[gU]) k
    exact Code.wp_mono ms.imp (wp_region_any a6.aCo (alK _ _ _ _ this))
   ·exact d.elim
 | .seq x y,s,t,ρ,a,w,Q,j,d,h,k=>by
   have v:∀ {z:Code}{f:b6 E.T.El}(_:j5 E LE n z),(match f.x with| .nm=>den E bt LE n.n z f.s |_=>.ok f:D (b6 E.T.El)).out t->(∀ {s':eG E.T.El}{ρ':List Value}{o:Act}{w':World},(den E bt LE n.n z s').out t->iT E W M0 X n b0 ρ0 w0 s' ρ' o w'->z.wp E.P Q o w')-> ∀ρ' o w',iT E W M0 X n b0 ρ0 w0 f.s ρ' o w'->BK E X f.s.bl ρ' (Exit.then (z.wp E.P Q) Q) o w' f.x:=λ{z f} K J aL ρ' o w' aj=>anZ (λ p=>by
    rw[p]at J;exact aL J aj) λ p=>by
    have J:f=t:=by
     revert J;cases C:f.x with
     |nm=>exact absurd C p
     |_=>exact λ h=>h
    subst J;exact k ρ' o w' aj
   simp only[den]at d;split at d
   ·obtain⟨f,A,J⟩:=D.jR d
    exact wp_seq (nJ a6 q x j.2.1 A h (v j.2.2 J λ aL F=>nJ a6 q y j.2.2 aL F k))
   ·rename_i g G
    split at d
    ·rename_i r rest
     obtain⟨f,A,J⟩:=D.jR d
     exact j.1 g r rest G rfl rest s f A _ _ _ _ _ _ _ _ _ _ h (v j.2.2.2.2 J λ aL F=>nJ a6 q rest j.2.2.2.2 aL F k)
    ·exact d.elim
 | .cond c x y,s,t,ρ,a,w,Q,j,d,h,k=>by
   simp only[den]at d;split at d
   ·rename_i b hc
    have u:=dt h.r (cur:=[]) trivial hc
    simp only[ar]at u
    split at d
    ·split at d
     ·exact wp_cond_split u (λ _=>nJ a6 q x j.1 d h k) (λ e=>by cases e)
     ·exact wp_cond_split u (λ e=>by cases e) (λ _=>nJ a6 q y j.2 d h k)
    ·have eg:∀B,ahE s.f c=some B->a.eval c= .bool B:=λ B af=>by
      cases c with
      |tmp t=>exact h.r.dT.eg _ (ob af)
      |_=>cases af
     have kw:∀B,a.eval c= .bool B->iT E W M0 X n b0 ρ0 w0 (s.WS B c) ρ a w:=λ B af=>by
      cases c with
      |tmp t=>exact⟨h.r.know af,h.to,h.wr⟩
      |_=>exact h
     split at d
     ·rename_i af
      have:=eg _ af
      rw[u]at this
      cases this
      exact wp_cond_split u (λ _=>nJ a6 q x j.1 d h k) (λ e=>by cases e)
     ·rename_i af
      have:=eg _ af
      rw[u]at this
      cases this
      exact wp_cond_split u (λ e=>by cases e) (λ _=>nJ a6 q y j.2 d h k)
     ·rcases d with⟨rfl,d⟩|⟨rfl,d⟩
      ·exact wp_cond_split u (λ _=>nJ a6 q x j.1 d (kw _ u) k) (λ e=>by cases e)
      ·exact wp_cond_split u (λ e=>by cases e) (λ _=>nJ a6 q y j.2 d (kw _ u) k)
   ·exact d.elim
 | .block id c,s,t,ρ,a,w,Q,j,d,h,k=>by
   simp only[den]at d;split at d
   ·rename_i g G
    exact j.1 g G s t d _ _ _ _ _ _ _ _ _ _ h k
   ·obtain⟨f,A,J⟩:=D.jR d
    refine wp_block (nJ a6 q c j.2 A h λ ρ' o w' aj=>?_)
    unfold ai5 at J
    cases p:f.x with
    |nm=>
     rw[p]at J
     have J:f=t:=J
     subst J
     have:=k ρ' o w' aj
     rw[p]at this
     exact this
    |ex i=>
     rw[p]at J
     simp only at J
     show Exit.inBlock id Q (.exit i) o w'
     split at J
     ·rename_i af
      have J:(⟨.nm,f.s⟩:b6 E.T.El)=t:=J
      subst J
      rw[bd af]
      simp only[Exit.inBlock,if_true]
      exact k ρ' o w' aj
     ·rename_i af
      have J:f=t:=J
      subst J
      have L:i≠id:=λ e=>by subst e;simp at af
      simp only[Exit.inBlock,if_neg L]
      have:=k ρ' o w' aj
      rw[p]at this
      exact this
    |rt=>
     rw[p]at J
     have J:f=t:=J
     subst J
     have:=k ρ' o w' aj
     rw[p]at this
     exact this
    |hP y=>
     rw[p]at J
     have J:f=t:=J
     subst J
     have:=k ρ' o w' aj
     rw[p]at this
     exact this
 | .loop c,s,t,ρ,a,w,Q,j,d,h,k=>by
   simp only[den]at d;refine wp_loop_ghost (λ m a w=>∃s ρ,iT E W M0 X n b0 ρ0 w0 s ρ a w/\(Ou (den E bt LE n.n c) m s).out t) 1000000 ⟨s,ρ,h,d⟩ λ m a w M=>?_;obtain⟨s,ρ,h,d⟩:=M;cases m with
   |zero=>exact d.elim
   |succ m=>
    simp only[Ou]at d
    obtain⟨f,A,J⟩:=D.jR d
    refine nJ a6 q c j A h λ ρ' o w' aj=>anZ (λ p=>?_) λ p=>?_
    ·rw[p]at J
     exact⟨m,lv m,_,_,aj,J⟩
    ·have J:f=t:=by
      revert J;cases C:f.x with
      |nm=>exact absurd C p
      |_=>exact λ h=>h
     subst J;exact k ρ' o w' aj
 | .scope c,s,t,ρ,a,w,Q,j,d,h,k=>by
   simp only[den]at d;refine wp_scope_straight (nJ a6 q c j d h λ ρ' o w' aj=>?_);have:=k ρ' o w' aj;revert this;cases t.x with
   |nm=>exact λ h=>h
   |ex i=>exact λ h=>h
   |rt=>exact λ h=>h
   |hP y=>exact λ h=>h
 | .rangeFunc _ _ _ _,s,t,ρ,a,w,Q,_,d,_,_=>by simp only[den]at d;exact d.elim
 | .goto _,s,t,ρ,a,w,Q,_,d,_,_=>by simp only[den]at d;exact d.elim
 | .refuse _,s,t,ρ,a,w,Q,_,d,_,_=>by simp only[den]at d;exact d.elim
end
end bc
namespace bc
open Go Go.RowKit aw I
def E0{El:Nat->Type}:Nat->List (aH El)->List (Nat×aH El)
 |_,[]=>[]
 |k,y::r=>(k,y)::E0 (k+1) r
def Zy(E:Env)(s:eG E.T.El):ResultVar->Option (aH E.T.El)
 | .tmp t=>od E s.bl s.f [] (.tmp t)
 | .cell ec ty=>match od E s.bl s.f [] (.tmp ec),lay E.P ty with
   |some (.b i o),some a=>match nth s.bl i with
    |some (.c _ cs)=>mx cs o a
    |_=>none
   |_,_=>none
def Gr(E:Env)(s:eG E.T.El):List ResultVar->Option (List (aH E.T.El))
 |[]=>some []
 |r::rs=>match Zy E s r,Gr E s rs with
  |some y,some ys=>some (y::ys)
  |_,_=>none
def qB{El:Nat->Type}:List (aH El)->aH El
 |[y]=>y
 |ys=>.u ys
def aeu(E:Env)(rs:List ResultVar)(t:b6 E.T.El):D (fg E.T.El):=match t.x with
 | .ex _=>.no
 | .hP y=>.ok ⟨.zB y,t.s.bl,t.s.ws⟩
 |_=>match Gr E t.s rs with
  |some ys=>.ok ⟨.ret (qB ys),t.s.bl,t.s.ws⟩
  |none=>.no
abbrev kV(E:Env):=Nat->nB E
noncomputable def nQ(E:Env)(bt:fb E)(LE:kV E):fb E:=λ g ys bl=>match e2 E.cb g,E.P.funcs[g]? with
 |true,some fn=>match fn.body,jc ys.length fn.ntmps with
  |some c,true=>(den E bt (LE g) fn.ntmps c ⟨⟨E0 0 ys,[],[]⟩,bl,[]⟩).bind (aeu E fn.results.toList)
  |_,_=>.no
 |_,_=>.no
abbrev Hu(E:Env):=Nat->Option (List (aH E.T.El)->List (aD E.T.El)->D (fg E.T.El))
noncomputable def E6(E:Env)(ko:Hu E)(LE:kV E):Nat->fb E
 |0=>λ _ _ _=>.no
 |k+1=>λ g ys bl=>match ko g with
  |some h=>h ys bl
  |none=>nQ E (E6 E ko LE k) LE g ys bl
def j3(E:Env)(g:Nat)(h:List (aH E.T.El)->List (aD E.T.El)->D (fg E.T.El)):Prop:=∀ys bl r,(h ys bl).out r ->
 ∀(W:World)(M0:List Nat)(X:Nat->Prop)(ρ:List Value)(w:World)(vs:List Value),Mem E.T W M0 X bl ρ w->Hw E X bl ρ w->a7 E.T (bi X bl ρ w) w ρ bl ys vs ->
  Calls E.P g ⟨vs⟩ w λ e w'=>∃ρ',Mem E.T W M0 X r.bl ρ' w'/\To X bl r.bl ρ ρ' w w'/\gW bl ρ w w' r.ws/\BF E X r.bl ρ' w' r.e e
structure LQ (E:Env) (ko:Hu E):Prop where
 cb:∀g h,ko g=some h->g∈E.cb
 ok:∀g h,ko g=some h->j3 E g h
def u2(E:Env)(LE:kV E):Prop:=∀g fn c,g∈E.cb->E.P.funcs[g]? =some fn->fn.body=some c->j5 E (LE g) ⟨fn.ntmps,[]⟩ c
section
variable{E:Env}{bt:fb E}{LE:kV E}{ko:Hu E}{W:World}{M0:List Nat}{X:Nat->Prop}{bl:List (aD E.T.El)}{ρ:List Value}{a:Act}{w:World}
theorem ah'{F:Nat->Prop}{t:Nat}{y:aH E.T.El}:∀ {ys:List (aH E.T.El)}{vs:List Value}{k:Nat},a7 E.T F w ρ bl ys vs->cD (E0 k ys) t=some y-> ∃v,eh (tf k vs) t=some v/\ar E.T F w ρ bl y v
 |[],vs,k,_,h=>by simp[E0,cD]at h
 |z::r,vs,k,b,h=>by
  simp only[a7]at b;obtain⟨u,us,rfl,c,J⟩:=b;simp only[E0,cD]at h;simp only[tf,eh];cases af:bS k t with
  |true=>
   rw[af]at h
   simp only[aF]at h
   subst h
   exact⟨u,rfl,c⟩
  |false=>
   rw[af]at h
   exact ah' J h
theorem aGo{n:cB}{s:eG E.T.El}(h:R E W M0 X n s.f s.bl ρ a w){r:ResultVar}{y:aH E.T.El}(c:Zy E s r=some y):∃v,Zz E.P a w r v/\ar E.T (bi X s.bl ρ w) w ρ s.bl y v:=by
 unfold Zy at c;split at c
 ·exact⟨_,rfl,dt h (cur:=[]) trivial c⟩
 ·rename_i ec ty
  split at c
  ·rename_i i o p q J
   split at c
   ·rename_i t cs ap
    have k:=dt h (cur:=[]) trivial q
    simp only[ar]at k
    obtain⟨g,x,ak⟩:=k
    rw[c7]at ap
    obtain⟨g',vs,d,z,e⟩:=h.mem.ok i _ _ ap x
    simp only[Value.pointer.injEq,aF,Addr.mk.injEq]at d
    have d:=d.1
    subst d
    have f:=JA J
    have hc:fa w ⟨g,0,none⟩ vs:=λ j u aA=>by simpa using yd (g:=g) (t:=t) (cs:=vs) (w:=w) (by simpa[ba.cg]using z) aA
    obtain⟨b,m⟩:=p
    cases b with
    |false=>
     simp only[mx]at c
     rw[c7]at c
     obtain⟨v,A,B⟩:=e.at_ c
     exact⟨v,⟨g,o,ak,.inr ⟨f.1,by simpa using hc o v A⟩⟩,B⟩
    |true=>
     simp only[mx]at c
     split at c
     ·rename_i af
      simp only[aF]at c
      subst c
      have C:=cv af
      have l:=e.len
      refine⟨.agg ⟨(vs.drop o).take m⟩,⟨g,o,ak,.inl ⟨(vs.drop o).take m,f.1,?_,λ j u aA=>?_,rfl⟩⟩,?_⟩
      ·have:((vs.drop o).take m).length=m:=by simp;omega
       rw[this];exact f.2
      ·rw[gT]at aA
       split at aA
       ·rw[je]at aA
        simpa using hc (o+j) u aA
       ·cases aA
      ·simp only[ar]
       exact⟨_,rfl,a7.take m (a7.drop o e)⟩
     ·cases c
   ·cases c
  ·cases c
theorem aka{n:cB}{s:eG E.T.El}(h:R E W M0 X n s.f s.bl ρ a w):∀ {rs:List ResultVar}{ys:List (aH E.T.El)},Gr E s rs=some ys-> ∃vs,PK E.P a w rs vs/\a7 E.T (bi X s.bl ρ w) w ρ s.bl ys vs
 |[],ys,b=>by simp only[Gr,aF]at b;subst b;exact⟨[],trivial,by simp[a7]⟩
 |r::rs,ys,b=>by
  simp only[Gr]at b;split at b
  ·rename_i y i c J
   simp only[aF]at b
   subst b
   obtain⟨v,d,e⟩:=aGo h c
   obtain⟨vs,f,g⟩:=aka h J
   refine⟨v::vs,⟨d,f⟩,?_⟩
   simp only[a7]
   exact⟨v,vs,rfl,e,g⟩
  ·cases b
theorem X2{F:Nat->Prop}:∀ {ys:List (aH E.T.El)}{vs:List Value},a7 E.T F w ρ bl ys vs->ar E.T F w ρ bl (qB ys) (pack vs)
 |[],vs,h=>by
  simp only[a7]at h;subst h;simp only[qB,pack,ar];exact⟨[],rfl,by simp[a7]⟩
 |[y],vs,h=>by
  simp only[a7]at h;obtain⟨u,us,rfl,b,rfl⟩:=h;exact b
 |y::z::r,vs,h=>by
  have h':=h;simp only[a7]at h;obtain⟨u,us,rfl,b,d,c,rfl,J,ap⟩:=h;simp only[qB,pack,ar];exact⟨_,rfl,h'⟩
theorem MR(a6:c8 E)(u:kU E bt)(x:u2 E LE):kU E (nQ E bt LE):=by
 refine⟨λ g ys bl r b=>?_⟩;unfold nQ at b;split at b
 ·rename_i fn z o
  have d:=rV z
  refine⟨a6.call g d,λ W M0 X ρ w vs A B q=>?_⟩
  split at b
  ·rename_i c hc C
   obtain⟨t,F,J⟩:=D.jR b
   have f:=q.len
   refine enter o hc rfl (by rw[f];exact C) λ a ad=>?_
   have G:R E W M0 X ⟨fn.ntmps,[]⟩ ⟨E0 0 ys,[],[]⟩ bl ρ a w:=⟨A,⟨⟨ad.size,ad.defers,λ t y H=>by
    obtain⟨v,I,ak⟩:=ah' q H;rw[ad.get t v I];exact ak⟩,λ p l=>by simp at l,λ p l=>by simp at l⟩,B⟩
   refine nJ (n:=⟨fn.ntmps,[]⟩) (b0:=bl) (ρ0:=ρ) (w0:=w) a6 u c (x g fn c d o hc) F ⟨G,.refl,.nil⟩ λ ρ' s w' aj=>?_
   have fr:Fr ⟨fn.ntmps,[]⟩ [] s:=⟨aj.r.dT.ef.size,aj.r.dT.ef.defers,λ t v h=>by simp[eh]at h⟩
   have fin:∀ {j},Gr E t.s fn.results.toList=some j->(⟨.ret (qB j),t.s.bl,t.s.ws⟩:fg E.T.El)=r->bodyPost E.P fn (λ e w'=>∃ρ',Mem E.T W M0 X r.bl ρ' w'/\To X bl r.bl ρ ρ' w w'/\gW bl ρ w w' r.ws/\BF E X r.bl ρ' w' r.e e) .ret s w':=λ{j} ap K=>by
    subst K;obtain⟨us,L,M⟩:=aka aj.r ap;exact aFy (rs:=fn.results.toList) (by simp) fr L ⟨ρ',aj.r.mem,aj.to,aj.wr,X2 M⟩
   unfold aeu at J
   cases k:t.x with
   |nm=>
    rw[k]at J
    simp only at J
    split at J
    ·rename_i j ap
     exact fin ap J
    ·exact J.elim
   |rt=>
    rw[k]at J
    simp only at J
    split at J
    ·rename_i j ap
     exact fin ap J
    ·exact J.elim
   |ex i=>rw[k]at J;exact J.elim
   |hP y=>
    rw[k]at J
    have J:(⟨.zB y,t.s.bl,t.s.ws⟩:fg E.T.El)=r:=J
    subst J
    intro v N O m
    exact⟨m.trans aj.r.dT.ef.defers,ρ',aj.r.mem,aj.to,aj.wr,v,rfl,N⟩
  ·exact b.elim
 ·exact b.elim
theorem k1(a6:c8 E)(c:LQ E ko)(d:u2 E LE):∀k,kU E (E6 E ko LE k)
 |0=>⟨λ f ys bl r b=>b.elim⟩
 |k+1=>⟨λ f ys bl r b=>by
  simp only[E6]at b;split at b
  ·rename_i h e
   exact⟨a6.call f (c.cb f h e),c.ok f h e ys bl r b⟩
  ·exact(MR a6 (k1 a6 c d k) d).ok f ys bl r b⟩
end
end bc
namespace bc
open Go Go.RowKit aw I
inductive iw
 |i (k:IntKind)
 |b
 |s
 |y
 |l (t:Nat)
section
variable(El:Nat->Type)
@[reducible] def LT:iw->Type
  | .i _=>Int
  | .b=>Bool
  | .s=>List UInt8
  | .y=>UInt8
  | .l t=>List (El t)
@[reducible] def mq:List iw->Type
  |[]=>Unit
  |f::r=>LT El f×mq r
end
section
variable{El:Nat->Type}
def EQ:(f:iw)->LT El f->aH El
 | .i k,d=>.p (.int k d)
 | .b,d=>.p (.bool d)
 | .s,d=>.p (ct d)
 | .y,d=>.p (.int .u8 ((d:UInt8).toNat:Int))
 | .l t,d=>.s t d
def p6:(ls:List iw)->mq El ls->List (aH El)
 |[],_=>[]
 |f::r,d=>EQ f d.1::p6 r d.2
def BR{t' t:Nat}(l:List (El t')):Option (List (El t)):=match lu t' t with
 |isTrue h=>some (h▸l)
 |isFalse _=>none
def NY(k:IntKind):aH El->Option Int
 | .p (.int j m)=>match mL j k with
   |true=>some m
   |false=>none
 |_=>none
def NW:aH El->Option Bool
 | .p (.bool d)=>some d
 |_=>none
def NZ:aH El->Option (List UInt8)
 | .p (.string ⟨⟨d⟩⟩)=>some d
 |_=>none
def Wx:aH El->Option UInt8
 | .p (.int .u8 (.ofNat m))=>match ez m 256 with
   |true=>some (UInt8.ofNat m)
   |false=>none
 |_=>none
def N0(t:Nat):aH El->Option (List (El t))
 | .s _ l=>BR l
 | .q _ l=>BR l
 | .p (.slice none 0 0)=>some []
 |_=>none
def aha:(f:iw)->aH El->Option (LT El f)
 | .i k,y=>NY k y
 | .b,y=>NW y
 | .s,y=>NZ y
 | .y,y=>Wx y
 | .l t,y=>N0 t y
def CD:(ls:List iw)->List (aH El)->Option (mq El ls)
 |[],[]=>some ()
 |f::r,y::ys=>match aha f y,CD r ys with
  |some d,some ds=>some (d,ds)
  |_,_=>none
 |_,_=>none
def Ki(ty:(t:Nat)->c9 (El t))(F:Nat->Prop)(w:World):(f:iw)->Value->LT El f->Prop
 | .i k,v,d=>v= .int k d
 | .b,v,d=>v= .bool d
 | .s,v,d=>v=ct d
 | .y,v,d=>v= .int .u8 ((d:UInt8).toNat:Int)
 | .l t,v,d=>(b3 (ty t)).rd F w [v] d
def e4(ty:(t:Nat)->c9 (El t))(F:Nat->Prop)(w:World):(ls:List iw)->List Value->mq El ls->Prop
 |[],xs,_=>xs=[]
 |f::r,xs,d=>∃v vs,xs=v::vs/\Ki ty F w f v d.1/\e4 ty F w r vs d.2
theorem aj2{ty:(t:Nat)->c9 (El t)}{F:Nat->Prop}{w:World}:∀ {ls:List iw}{xs:List Value}{d:mq El ls},e4 ty F w ls xs d->xs.length=ls.length
 |[],xs,d,h=>by simp only[e4]at h;subst h;rfl
 |f::r,xs,d,h=>by
  obtain⟨v,vs,rfl,_,J⟩:=h;simp[aj2 J]
theorem aFO{ty:(t:Nat)->c9 (El t)}{F:Nat->Prop}{w:World}{f:iw}{v:Value}{d:LT El f}(h:Ki ty F w f v d):v.oneCell'=true:=by
 cases f with
 |l t=>exact(b3 (ty t)).one h v (by simp)
 |_=>simp only[Ki]at h;subst h;rfl
theorem aj3{ty:(t:Nat)->c9 (El t)}{F:Nat->Prop}{w:World}:∀ {ls:List iw}{xs:List Value}{d:mq El ls},e4 ty F w ls xs d-> ∀v∈xs,v.oneCell'=true
 |[],xs,d,h=>by simp only[e4]at h;subst h;simp
 |f::r,xs,d,h=>by
  obtain⟨v,vs,rfl,a,J⟩:=h;intro u hu;rcases cR.1 hu with rfl |hu
  ·exact aFO a
  ·exact aj3 J u hu
theorem aj1{ty:(t:Nat)->c9 (El t)}{F F':Nat->Prop}{w w':World}(a:∀k,F k->F' k/\w'.heap[k]? =w.heap[k]?):∀ {ls:List iw}{xs:List Value}{d:mq El ls},e4 ty F w ls xs d->e4 ty F' w' ls xs d
 |[],xs,d,h=>h
 |f::r,xs,d,h=>by
  obtain⟨v,vs,e,b,J⟩:=h;refine⟨v,vs,e,?_,aj1 a J⟩;cases f with
  |l t=>exact(b3 (ty t)).law a b
  |_=>exact b
def aHI{α:Type}(ty:(t:Nat)->c9 (El t))(ls:List iw)(fr:α->mq El ls):c9 α where
 size:=ls.length
 rd F w xs d:=e4 ty F w ls xs (fr d)
 len h:=aj2 h
 one h:=aj3 h
 law a h:=aj1 a h
def eY(es:List (Σ t,b4 El t)){t:Nat}(agg:Bool)(ls:List iw)(fr:El t->mq El ls)(to:mq El ls->El t)(eq:Option (El t->El t->Bool))(key:Option (hX (El t))):b4 El t:=
 ⟨aHI (λ t=>(fC es t).ty) ls fr,agg,λ d=>p6 ls (fr d),λ l=>(CD ls l).map to,eq,key⟩
end
structure ew (T:bR) (t:Nat) (e:b4 T.El t):Prop where
 cs:∀d F w xs,e.ty.rd F w xs d->a7 T F w [] [] (e.cs d) xs
 hn:∀l d,e.hn l=some d-> ∀F w ρ bl xs,a7 T F w ρ bl l xs->e.ty.rd F w xs d
 key:∀K,e.key=some K-> ∀F w xs k,e.ty.rd F w xs k->zy e.agg xs= @lC.enc _ K.dec K.rX k
 one:e.agg=false-> ∀d,(e.cs d).length=1
def Ts(T:bR):List (Σ t,b4 T.El t)->Prop
 |[]=>True
 |p::r=>ew T p.1 p.2/\Ts T r
theorem aHm{T:bR}{t:Nat}:ew T t b4.no:=⟨λ d F w xs h=>h.elim,(λ l d h=>by cases h),(λ K h=>by cases h),(λ h=>by cases h)⟩
theorem KO{T:bR}{t:Nat}:∀ {es:List (Σ t,b4 T.El t)},Ts T es->ew T t (fC es t)
 |[],_=>aHm
 |p::r,h=>by
  simp only[fC];split
  ·rename_i e _
   subst e
   exact h.1
  ·exact KO h.2
theorem aHl{T:bR}(h:Ts T T.es):x9 T:=⟨λ t=>(KO h (t:=t)).cs,λ t=>(KO h (t:=t)).hn,λ t=>(KO h (t:=t)).key,λ t=>(KO h (t:=t)).one⟩
def wN(T:bR)(ty:(t:Nat)->c9 (T.El t)):List iw->Prop
 |[]=>True
 | .l t::r=>ty t=T.ty t/\wN T ty r
 |_::r=>wN T ty r
section
variable{T:bR}{F:Nat->Prop}{w:World}{ρ:List Value}{bl:List (aD T.El)}
theorem ER{ty:(t:Nat)->c9 (T.El t)}:∀ {ls:List iw}{xs:List Value}{d:mq T.El ls},wN T ty ls->e4 ty F w ls xs d->a7 T F w ρ bl (p6 ls d) xs
 |[],xs,d,_,h=>by simp only[e4]at h;subst h;simp[p6,a7]
 |f::r,xs,d,a,h=>by
  obtain⟨v,vs,rfl,c,J⟩:=h;cases f with
  |l t=>
   have ap:=ER a.2 J
   simp only[p6,a7]
   refine⟨v,vs,rfl,?_,ap⟩
   simp only[EQ,ar]
   simp only[Ki,a.1]at c
   exact c
  |i k=>have ap:=ER (ty:=ty) (ls:=r) a J;simp only[p6,a7];exact⟨v,vs,rfl,by simp only[EQ,ar];exact c,ap⟩
  |b=>have ap:=ER (ty:=ty) (ls:=r) a J;simp only[p6,a7];exact⟨v,vs,rfl,by simp only[EQ,ar];exact c,ap⟩
  |s=>have ap:=ER (ty:=ty) (ls:=r) a J;simp only[p6,a7];exact⟨v,vs,rfl,by simp only[EQ,ar];exact c,ap⟩
  |y=>have ap:=ER (ty:=ty) (ls:=r) a J;simp only[p6,a7];exact⟨v,vs,rfl,by simp only[EQ,ar];exact c,ap⟩
theorem adA{t' t:Nat}{l:List (T.El t')}{l':List (T.El t)}(h:BR l=some l'){xs:List Value}(a:(b3 (T.ty t')).rd F w xs l):(b3 (T.ty t)).rd F w xs l':=by
 unfold BR at h;split at h
 ·rename_i e _
  subst e
  simp only[aF]at h
  subst h
  exact a
 ·cases h
theorem ahb{k:IntKind}{y:aH T.El}{d:Int}{v:Value}(h:NY k y=some d)(a:ar T F w ρ bl y v):v= .int k d:=by
 unfold NY at h;split at h
 ·split at h
  ·rename_i b
   have:=pd b
   subst this
   simp only[aF]at h
   subst h
   simpa only[ar]using a
  ·cases h
 ·cases h
theorem ag'{y:aH T.El}{d:Bool}{v:Value}(h:NW y=some d)(a:ar T F w ρ bl y v):v= .bool d:=by
 unfold NW at h;split at h
 ·simp only[aF]at h;subst h;simpa only[ar]using a
 ·cases h
theorem ahd{y:aH T.El}{d:List UInt8}{v:Value}(h:NZ y=some d)(a:ar T F w ρ bl y v):v=ct d:=by
 unfold NZ at h;split at h
 ·simp only[aF]at h;subst h;simpa only[ar]using a
 ·cases h
theorem azP{y:aH T.El}{d:UInt8}{v:Value}(h:Wx y=some d)(a:ar T F w ρ bl y v):v= .int .u8 (d.toNat:Int):=by
 unfold Wx at h;split at h
 ·rename_i m
  split at h
  ·rename_i af
   simp only[aF]at h
   subst h
   have b:m<256:=cv af
   simp only[ar]at a
   have:(UInt8.ofNat m).toNat=m:=by simp;omega
   rw[a,this];rfl
  ·cases h
 ·cases h
theorem ahe{t:Nat}{y:aH T.El}{d:List (T.El t)}{v:Value}(h:N0 t y=some d)(a:ar T F w ρ bl y v):(b3 (T.ty t)).rd F w [v] d:=by
 unfold N0 at h;split at h
 ·simp only[ar]at a
  exact adA h a
 ·simp only[ar]at a
  exact adA h a.1
 ·simp only[aF]at h
  subst h
  simp only[ar]at a
  subst a
  exact⟨none,0,rfl,cC _,gK _,λ _=>rfl,λ h=>absurd rfl h⟩
 ·cases h
theorem azN{ty:(t:Nat)->c9 (T.El t)}{f:iw}{y:aH T.El}{d:LT T.El f}{v:Value}(c:wN T ty [f])(h:aha f y=some d)(a:ar T F w ρ bl y v):Ki ty F w f v d:=by
 cases f with
 |i k=>exact ahb h a
 |b=>exact ag' h a
 |s=>exact ahd h a
 |y=>exact azP h a
 |l t=>
  have:=ahe h a
  show(b3 (ty t)).rd F w [v] d
  rw[c.1]
  exact this
theorem aB_{ty:(t:Nat)->c9 (T.El t)}{f:iw}{r:List iw}(h:wN T ty (f::r)):wN T ty [f]/\wN T ty r:=by
 cases f with
 |l t=>exact⟨⟨h.1,trivial⟩,h.2⟩
 |_=>exact⟨trivial,h⟩
theorem ahc{ty:(t:Nat)->c9 (T.El t)}:∀ {ls:List iw}{ys:List (aH T.El)}{d:mq T.El ls}{xs:List Value},wN T ty ls->CD ls ys=some d->a7 T F w ρ bl ys xs->e4 ty F w ls xs d
 |[],[],d,xs,_,_,a=>by simp only[a7]at a;simp only[e4];exact a
 |f::r,y::ys,d,xs,b,h,a=>by
  simp only[CD]at h;split at h
  ·rename_i e es c J
   have h:=ei h
   subst h
   simp only[a7]at a
   obtain⟨u,us,rfl,g,i⟩:=a
   obtain⟨l1,j⟩:=aB_ b
   exact⟨u,us,rfl,azN l1 c g,ahc j J i⟩
  ·cases h
 |[],y::ys,d,xs,_,h,_=>by simp[CD]at h
 |f::r,[],d,xs,_,h,_=>by simp[CD]at h
theorem adM:∀ {ls:List iw}{d:mq T.El ls},(p6 ls d).length=ls.length
 |[],d=>rfl
 |f::r,d=>by simp[p6,adM (ls:=r)]
theorem e5{es:List (Σ t,b4 T.El t)}{t:Nat}{agg:Bool}{ls:List iw}{fr:T.El t->mq T.El ls}{to:mq T.El ls->T.El t}{eq:Option (T.El t->T.El t->Bool)}{key:Option (hX (T.El t))}
 (a:wN T (λ t=>(fC es t).ty) ls)(ad:∀p,fr (to p)=p)(b:agg=false->ls.length=1)(c:∀K,key=some K-> ∀F w xs k,e4 (λ t=>(fC es t).ty) F w ls xs (fr k)->zy agg xs= @lC.enc _ K.dec K.rX k):ew T t (eY es agg ls fr to eq key):=by
 refine⟨λ d F w xs h=>ER a h,λ l d h F w ρ bl xs e=>?_,c,λ h d=>by
  show(p6 ls (fr d)).length=1
  rw[adM];exact b h⟩
 obtain⟨p,f,J⟩:=cu.1 (show(CD ls l).map to=some d from h)
 subst J
 show e4 _ F w ls xs (fr (to p))
 rw[ad]
 exact ahc a f e
end
end bc
namespace bc
open Go Go.RowKit aw I
def aes:List (Nat×Type)->Nat->Type
 |[],_=>Empty
 |p::r,t=>match lu p.1 t with
  |isTrue _=>p.2
  |isFalse _=>aes r t
def tQ:hX Int:=⟨inferInstance,aAv⟩
def Jw:hX (List UInt8):=⟨inferInstance,mN⟩
end bc
namespace bc
open Go Go.RowKit aw I
inductive iS
 |i (k:IntKind)
 |b
 |s
 |l (t:Nat)
 |x (t:Nat)
 |n (kt vt:Nat)
 |gC
 |B (j:Nat)
 |R (j:Nat)
 |M (j:Nat)
 |P (j sz:Nat)
 |F (g:Nat) (dY:List Nat)
inductive cL
 |p (p:iS)
 |a (ps:List iS)
 |f (g:Nat) (ps:List iS)
inductive bI
 |c (ty:Nat) (ps:List iS)
 |r (t:Nat) (same:Bool)
 |m (kt vt:Nat)
 |d
section
variable(El:Nat->Type)
@[reducible] def xJ:iS->Type
  | .i _=>Int
  | .b=>Bool
  | .s=>List UInt8
  | .l t=>List (El t)
  | .x t=>El t
  | .n kt vt=>List (El kt×El vt)
  | .P _ _=>List Int
  |_=>Unit
@[reducible] def u0:List iS->Type
  |[]=>Unit
  |p::r=>xJ El p×u0 r
@[reducible] def Eg:cL->Type
  | .p p=>xJ El p
  | .a ps=>u0 El ps
  | .f _ ps=>u0 El ps
@[reducible] def dn:List cL->Type
  |[]=>Unit
  |p::r=>Eg El p×dn r
@[reducible] def sQ:bI->Type
  | .c _ ps=>u0 El ps
  | .r t _=>List (El t)
  | .m kt vt=>List (El kt×El vt)
  | .d=>Unit
@[reducible] def cF:List bI->Type
  |[]=>Unit
  |p::r=>sQ El p×cF r
end
def eZ(post:Bool):Option bI->Nat
 |some (.r _ same)=>match post,same with
  |true,false=>1
  |_,_=>0
 |some .d=>match post with
  |true=>1
  |false=>0
 |_=>0
def z7(post:Bool):Nat:=match post with
 |true=>1
 |false=>0
section
variable{El:Nat->Type}
def gE(σ g:Nat->Nat):(p:iS)->xJ El p->aH El
 | .i k,d=>.p (.int k d)
 | .b,d=>.p (.bool d)
 | .s,d=>.p (ct d)
 | .l t,d=>.s t d
 | .x t,d=>.x t d 0
 | .n kt vt,d=>.n kt vt d
 | .gC,_=>.p (.pointer none)
 | .B j,_=>.b (σ j) 0
 | .R j,_=>.r (σ j) (g j)
 | .M j,_=>.m (σ j)
 | .P j sz,d=>.pp (σ j) (g j) sz d
 | .F fn dY,_=>.f (.func fn) (dY.map λ j=>.b (σ j) 0)
def sh(σ g:Nat->Nat):(ps:List iS)->u0 El ps->List (aH El)
 |[],_=>[]
 |p::r,d=>gE σ g p d.1::sh σ g r d.2
def zD(σ g:Nat->Nat):(p:cL)->Eg El p->aH El
 | .p p,d=>gE σ g p d
 | .a ps,d=>.a (sh σ g ps d)
 | .f fn ps,d=>.f (.func fn) (sh σ g ps d)
def ga(σ g:Nat->Nat):(ps:List cL)->dn El ps->List (aH El)
 |[],_=>[]
 |p::r,d=>zD σ g p d.1::ga σ g r d.2
def dx(σ g:Nat->Nat)(post:Bool):(p:bI)->sQ El p->aD El
 | .c ty ps,d=>.c ty (sh σ g ps d)
 | .r t same,d=>.r t (eZ post (some (.r t same))) (z7 post) d
 | .m kt vt,d=>.m kt vt d
 | .d,_=>.no (eZ post (some .d))
def bM(σ g:Nat->Nat)(post:Bool):(ps:List bI)->cF El ps->List (aD El)
 |[],_=>[]
 |p::r,d=>dx σ g post p d.1::bM σ g post r d.2
def L8:List (Nat×Nat)->Nat->Bool
 |[],_=>true
 |p::r,i=>!bS p.2 i&&L8 r i
def vg(aY:List (Nat×Nat))(j i:Nat):Option (List (Nat×Nat)):=match cD aY j with
 |some i'=>match bS i' i with
  |true=>some aY
  |false=>none
 |none=>match L8 aY i with
  |true=>some ((j,i)::aY)
  |false=>none
def SU{t' t:Nat}(d:El t'):Option (El t):=match lu t' t with
 |isTrue h=>some (h▸d)
 |isFalse _=>none
def Mk{k' a k v:Nat}(d:List (El k'×El a)):Option (List (El k×El v)):=match lu k' k,lu a v with
 |isTrue h,isTrue h'=>some (h▸h'▸d)
 |_,_=>none
def afV(t:Nat):aH El->Option (El t)
 | .x _ d 0=>SU d
 |_=>none
def afU(kt vt:Nat):aH El->Option (List (El kt×El vt))
 | .n _ _ d=>Mk d
 |_=>none
def lI:List (Nat×Nat)->List Nat->List (aH El)->Option (List (Nat×Nat))
 |aY,[],[]=>some aY
 |aY,j::r,.b i 0::ys=>match vg aY j i with
  |some a=>lI a r ys
  |none=>none
 |_,_,_=>none
def ih(bl:List (aD El))(aY:List (Nat×Nat)):(p:iS)->aH El->Option (xJ El p×List (Nat×Nat))
 | .i k,y=>(NY k y).map λ d=>(d,aY)
 | .b,y=>(NW y).map λ d=>(d,aY)
 | .s,y=>(NZ y).map λ d=>(d,aY)
 | .l t,y=>(N0 t y).map λ d=>(d,aY)
 | .x t,y=>(afV t y).map λ d=>(d,aY)
 | .n kt vt,y=>(afU kt vt y).map λ d=>(d,aY)
 | .gC,y=>match y with
   | .p (.pointer none)=>some ((),aY)
   |_=>none
 | .B j,y=>match y with
   | .b i 0=>(vg aY j i).map λ aY=>((),aY)
   |_=>none
 | .R j,y=>match y with
   | .r i g=>match bS g (tr bl i)with
     |true=>(vg aY j i).map λ aY=>((),aY)
     |false=>none
   |_=>none
 | .M j,y=>match y with
   | .m i=>(vg aY j i).map λ aY=>((),aY)
   |_=>none
 | .P j sz,y=>match y with
   | .pp i a b dY=>match bS a (tr bl i)&&bS b sz with
     |true=>(vg aY j i).map λ aY=>(dY,aY)
     |false=>none
   |_=>none
 | .F g dY,y=>match y with
   | .f (.func g') cs=>match bS g' g with
     |true=>(lI aY dY cs).map λ aY=>((),aY)
     |false=>none
   |_=>none
def nW(bl:List (aD El)):(aY:List (Nat×Nat))->(ps:List iS)->List (aH El)->Option (u0 El ps×List (Nat×Nat))
 |aY,[],[]=>some ((),aY)
 |aY,p::r,y::ys=>match ih bl aY p y with
  |some (d,a)=>match nW bl a r ys with
   |some (ds,b)=>some ((d,ds),b)
   |none=>none
  |none=>none
 |_,_,_=>none
def Ik(bl:List (aD El))(aY:List (Nat×Nat)):(p:cL)->aH El->Option (Eg El p×List (Nat×Nat))
 | .p p,y=>ih bl aY p y
 | .a ps,y=>nW bl aY ps (cellsOf y)
 | .f g ps,y=>match y with
   | .f (.func g') ys=>match bS g' g with
     |true=>nW bl aY ps ys
     |false=>none
   |_=>none
def SF:cL->aH El->Bool
 | .a _,y=>lf y
 |_,_=>true
def lH(bl:List (aD El)):(aY:List (Nat×Nat))->(ps:List cL)->List (aH El)->Option (dn El ps×List (Nat×Nat))
 |aY,[],[]=>some ((),aY)
 |aY,p::r,y::ys=>match SF p y,Ik bl aY p y with
  |true,some (d,a)=>match lH bl a r ys with
   |some (ds,b)=>some ((d,ds),b)
   |none=>none
  |_,_=>none
 |_,_,_=>none
end
section
variable{T:bR}{F F':Nat->Prop}{w:World}{ρ ρ':List Value}{bl bl':List (aD T.El)}{g:Nat->Nat}
theorem s7{aY a:List (Nat×Nat)}{j i:Nat}(h:vg aY j i=some a):cD a j=some i/\ ∀p∈aY,p∈a:=by
 unfold vg at h;split at h
 ·rename_i i' hi
  split at h
  ·rename_i af
   simp only[aF]at h
   subst h
   rw[<-bd af]
   exact⟨hi,λ p b=>b⟩
  ·cases h
 ·split at h
  ·simp only[aF]at h
   subst h
   exact⟨by simp[cD],λ p b=>dX _ b⟩
  ·cases h
structure q4 (σ:Nat->Nat) (aY:List (Nat×Nat)) (ρ ρ':List Value):Prop where
 at_:∀p∈aY,ρ'[σ p.1]? =ρ[p.2]?
theorem atm{t' t:Nat}{d:T.El t'}{d':T.El t}(h:SU d=some d'){cs:List Value}(a:(T.ty t').rd F w cs d):(T.ty t).rd F w cs d':=by
 unfold SU at h;split at h
 ·rename_i e _
  subst e
  simp only[aF]at h
  subst h
  exact a
 ·cases h
theorem adz{k' a k v r:Nat}{d:List (T.El k'×T.El a)}{d':List (T.El k×T.El v)}(h:Mk d=some d')(b:xR T F w k' a r d):xR T F w k v r d':=by
 unfold Mk at h;split at h
 ·rename_i e e' _ _
  subst e;subst e'
  simp only[aF]at h
  subst h
  exact b
 ·cases h
theorem U5:∀ {dY:List Nat}{cs:List (aH T.El)}{aY a:List (Nat×Nat)},lI aY dY cs=some a-> ∀q∈aY,q∈a
 |[],[],aY,a,h=>by simp only[lI,aF]at h;subst h;exact λ q b=>b
 |j::r,y::ys,aY,a,h=>by
  unfold lI at h;split at h
  ·rename_i e;cases e
  ·rename_i c ak
   simp only[hA]at c ak
   obtain⟨rfl,rfl⟩:=c
   obtain⟨_,rfl⟩:=ak
   split at h
   ·rename_i d
    exact λ q b=>U5 h q ((s7 d).2 q b)
   ·cases h
  ·cases h
 |[],y::ys,aY,a,h=>by simp[lI]at h
 |j::r,[],aY,a,h=>by simp[lI]at h
theorem afQ{σ:Nat->Nat}:∀ {dY:List Nat}{cs:List (aH T.El)}{aY b:List (Nat×Nat)}{vs:List Value},q4 σ b ρ ρ'->lI aY dY cs=some b->a7 T F w ρ bl cs vs->a7 T F' w ρ' bl' (dY.map λ j=>.b (σ j) 0) vs
 |[],[],aY,b,vs,c,h,a=>by simp only[a7]at a;subst a;simp[a7]
 |j::r,y::ys,aY,b,vs,c,h,a=>by
  unfold lI at h;split at h
  ·rename_i e;cases e
  ·rename_i d ak
   simp only[hA]at d ak
   obtain⟨rfl,rfl⟩:=d
   obtain⟨rfl,rfl⟩:=ak
   split at h
   ·rename_i f
    have e:=c.at_ _ (U5 h _ (ob (s7 f).1))
    simp only[a7,ar]at a
    obtain⟨u,us,rfl,⟨i,d,ak⟩,aS⟩:=a
    simp only[eu,a7,ar]
    exact⟨u,us,rfl,⟨i,e.trans d,ak⟩,afQ c h aS⟩
   ·cases h
  ·cases h
 |[],y::ys,aY,b,vs,c,h,a=>by simp[lI]at h
 |j::r,[],aY,b,vs,c,h,a=>by simp[lI]at h
theorem afT{aY c:List (Nat×Nat)}:∀ {p:iS}{y:aH T.El}{d:xJ T.El p},ih bl aY p y=some (d,c)-> ∀q∈aY,q∈c
 | .i k,y,d,h=>by obtain⟨x,_,h⟩:=cu.1 h;cases h;exact λ q a=>a
 | .b,y,d,h=>by obtain⟨x,_,h⟩:=cu.1 h;cases h;exact λ q a=>a
 | .s,y,d,h=>by obtain⟨x,_,h⟩:=cu.1 h;cases h;exact λ q a=>a
 | .l t,y,d,h=>by obtain⟨x,_,h⟩:=cu.1 h;cases h;exact λ q a=>a
 | .x t,y,d,h=>by obtain⟨x,_,h⟩:=cu.1 h;cases h;exact λ q a=>a
 | .n kt vt,y,d,h=>by obtain⟨x,_,h⟩:=cu.1 h;cases h;exact λ q a=>a
 | .gC,y,d,h=>by
   simp only[ih]at h;split at h
   ·cases h;exact λ q a=>a
   ·cases h
 | .B j,y,d,h=>by
   simp only[ih]at h;split at h
   ·obtain⟨x,b,h⟩:=cu.1 h;cases h;exact(s7 b).2
   ·cases h
 | .R j,y,d,h=>by
   simp only[ih]at h;split at h
   ·split at h
    ·obtain⟨x,b,h⟩:=cu.1 h;cases h;exact(s7 b).2
    ·cases h
   ·cases h
 | .M j,y,d,h=>by
   simp only[ih]at h;split at h
   ·obtain⟨x,b,h⟩:=cu.1 h;cases h;exact(s7 b).2
   ·cases h
 | .P j sz,y,d,h=>by
   simp only[ih]at h;split at h
   ·split at h
    ·obtain⟨x,b,h⟩:=cu.1 h;cases h;exact(s7 b).2
    ·cases h
   ·cases h
 | .F g dY,y,d,h=>by
   simp only[ih]at h;split at h
   ·split at h
    ·obtain⟨x,b,h⟩:=cu.1 h;cases h;exact U5 b
    ·cases h
   ·cases h
theorem afS{σ:Nat->Nat}(m:∀k,F k->F' k)(z:∀j,g j=b1 bl'[σ j]?){aY B:List (Nat×Nat)}(n:q4 σ B ρ ρ'):∀ {p:iS}{y:aH T.El}{d:xJ T.El p}{v:Value},ih bl aY p y=some (d,B)->ar T F w ρ bl y v->ar T F' w ρ' bl' (gE σ g p d) v
 | .i k,y,d,v,h,b=>by
   obtain⟨x,f,h⟩:=cu.1 h;cases h;simp only[gE,ar];exact ahb f b
 | .b,y,d,v,h,b=>by
   obtain⟨x,f,h⟩:=cu.1 h;cases h;simp only[gE,ar];exact ag' f b
 | .s,y,d,v,h,b=>by
   obtain⟨x,f,h⟩:=cu.1 h;cases h;simp only[gE,ar];exact ahd f b
 | .l t,y,d,v,h,b=>by
   obtain⟨x,f,h⟩:=cu.1 h;cases h;simp only[gE,ar];exact(b3 (T.ty t)).law (λ k o=>⟨m k o,rfl⟩) (ahe f b)
 | .x t,y,d,v,h,b=>by
   obtain⟨x,f,h⟩:=cu.1 h;cases h;unfold afV at f;split at f
   ·simp only[ar]at b
    obtain⟨a,q,cs,l,ak,aS,bN⟩:=b
    simp only[gE,ar]
    exact⟨a,q,cs,l,m a ak,(T.ty t).law (λ k o=>⟨m k o,rfl⟩) (atm f aS),bN⟩
   ·cases f
 | .n kt vt,y,d,v,h,b=>by
   obtain⟨x,f,h⟩:=cu.1 h;cases h;unfold afU at f;split at f
   ·simp only[ar]at b
    obtain⟨r,l,ak,aS⟩:=b
    simp only[gE,ar]
    exact⟨r,l,m r ak,(adz f aS).law (λ k o=>⟨m k o,rfl⟩) rfl⟩
   ·cases f
 | .gC,y,d,v,h,b=>by
   simp only[ih]at h;split at h
   ·simp only[ar]at b
    simp only[gE,ar];exact b
   ·cases h
 | .B j,y,d,v,h,b=>by
   simp only[ih]at h;split at h
   ·rename_i i
    obtain⟨x,f,h⟩:=cu.1 h;cases h
    have e:=n.at_ _ (ob (s7 f).1)
    simp only[ar]at b
    obtain⟨s,l,ak⟩:=b
    simp only[gE,ar]
    exact⟨s,e.trans l,ak⟩
   ·cases h
 | .R j,y,d,v,h,b=>by
   simp only[ih]at h;split at h
   ·rename_i i D
    split at h
    ·rename_i af
     have af:=bd af
     rw[B6]at af
     obtain⟨x,f,h⟩:=cu.1 h;cases h
     have e:=n.at_ _ (ob (s7 f).1)
     simp only[ar]at b
     obtain⟨E,u,l,ak,aS⟩:=b
     simp only[gE,ar]
     exact⟨E,u,e.trans l,by rw[z];exact cC _,λ _=>aS af⟩
    ·cases h
   ·cases h
 | .M j,y,d,v,h,b=>by
   simp only[ih]at h;split at h
   ·rename_i i
    obtain⟨x,f,h⟩:=cu.1 h;cases h
    have e:=n.at_ _ (ob (s7 f).1)
    simp only[ar]at b
    obtain⟨s,l,ak⟩:=b
    simp only[gE,ar]
    exact⟨s,e.trans l,ak⟩
   ·cases h
 | .P j sz,y,d,v,h,b=>by
   simp only[ih]at h;split at h
   ·rename_i i D P dY
    split at h
    ·rename_i af
     simp only[bH]at af
     have C:=bd af.1
     have G:=bd af.2
     subst G
     rw[B6]at C
     obtain⟨x,f,h⟩:=cu.1 h;cases h
     have e:=n.at_ _ (ob (s7 f).1)
     simp only[ar]at b
     obtain⟨A,c,l,ak,aS,bN⟩:=b
     simp only[gE,ar]
     refine⟨A,c,l,ak,aS,λ H=>?_⟩
     obtain⟨I,J,xs,K,L⟩:=bN H
     exact⟨I,m _ J,xs,K.imp λ q v ⟨M,u,N,Q,O⟩=>⟨M,u,e.trans N,by rw[z];exact cC _,λ _=>O C⟩,L⟩
    ·cases h
   ·cases h
 | .F g dY,y,d,v,h,b=>by
   simp only[ih]at h;split at h
   ·rename_i g' cs
    split at h
    ·rename_i af
     have af:=bd af
     subst af
     obtain⟨x,f,h⟩:=cu.1 h;cases h
     simp only[ar]at b
     obtain⟨vs,l,ak⟩:=b
     simp only[gE,ar]
     exact⟨vs,l,afQ n f ak⟩
    ·cases h
   ·cases h
end
end bc
namespace bc
open Go Go.RowKit aw I
section
variable{El:Nat->Type}
def iA(bl:List (aD El))(aY:List (Nat×Nat))(post:Bool):(p:bI)->aD El->Option (sQ El p×List (Nat×Nat))
 | .c ty ps,B=>match B with
   | .c a cs=>match bS a ty with
     |true=>nW bl aY ps cs
     |false=>none
   |_=>none
 | .r t same,B=>match B with
   | .r _ g _ l=>match !post|| !same||bS g 0 with
     |true=>(BR l).map λ d=>(d,aY)
     |false=>none
   |_=>none
 | .m kt vt,B=>match B with
   | .m _ _ d=>(Mk d).map λ d=>(d,aY)
   |_=>none
 | .d,B=>match B with
   | .c _ _=>some ((),aY)
   | .r _ _ _ _=>some ((),aY)
   | .m _ _ _=>some ((),aY)
   | .no _=>some ((),aY)
   | .z _ _ _ _=>some ((),aY)
   |_=>none
def nV(bl:List (aD El))(post:Bool):List (Nat×Nat)->Nat->(ps:List bI)->Option (cF El ps×List (Nat×Nat))
 |aY,_,[]=>some ((),aY)
 |aY,k,p::r=>match cD aY k with
  |some i=>match nth bl i with
   |some B=>match iA bl aY post p B with
    |some (d,a)=>match nV bl post a (k+1) r with
     |some (ds,b)=>some ((d,ds),b)
     |none=>none
    |none=>none
   |none=>none
  |none=>none
def Jn(aY:List (Nat×Nat)):Nat->Nat->Option (List Nat)
 |_,0=>some []
 |k,n+1=>match cD aY k,Jn aY (k+1) n with
  |some i,some r=>some (i::r)
  |_,_=>none
def L6(n:Nat):List (Nat×Nat)->Bool
 |[]=>true
 |p::r=>ez p.1 n&&L6 n r
def ii(bl:List (aD El))(aY:List (Nat×Nat))(post:Bool)(pas:List cL)(pbs:List bI)(ys:List (aH El)):Option ((dn El pas×cF El pbs)×List Nat):=
 match lH bl aY pas ys with
 |some (da,b)=>match nV bl post b 0 pbs with
  |some (db,a)=>match Jn a 0 pbs.length,L6 pbs.length a with
   |some sel,true=>some ((da,db),sel)
   |_,_=>none
  |none=>none
 |none=>none
end
structure jz (aY:List (Nat×Nat)):Prop where
 fn:∀p∈aY,∀q∈aY,p.1=q.1 ->p.2=q.2
 inj:∀p∈aY,∀q∈aY,p.2=q.2 ->p.1=q.1
theorem aia{α:Type}{j:Nat}:∀ {l:List (Nat×α)},cD l j=none-> ∀p∈l,p.1≠j
 |[],_,p,aI=>by simp at aI
 |q::r,h,p,aI=>by
  simp only[cD]at h;split at h
  ·cases h
  ·rename_i af
   rcases cR.1 aI with rfl |aI
   ·intro e;subst e;simp at af
   ·exact aia h p aI
theorem ac2{i:Nat}:∀ {l:List (Nat×Nat)},L8 l i=true-> ∀p∈l,p.2≠i
 |[],_,p,aI=>by simp at aI
 |q::r,h,p,aI=>by
  simp only[L8,bH,gI]at h;rcases cR.1 aI with rfl |aI
  ·intro e;rw[e]at h;simp at h
  ·exact ac2 h.2 p aI
theorem HS{aY a:List (Nat×Nat)}{j i:Nat}(h:vg aY j i=some a)(aL:jz aY):jz a:=by
 unfold vg at h;split at h
 ·split at h
  ·simp only[aF]at h;subst h;exact aL
  ·cases h
 ·rename_i c
  split at h
  ·rename_i ad
   simp only[aF]at h
   subst h
   have b:=aia c
   have J:=ac2 ad
   refine⟨λ p aI q aM e=>?_,λ p aI q aM e=>?_⟩
   ·rcases cR.1 aI with rfl |aI<;>rcases cR.1 aM with rfl |aM
    ·rfl
    ·exact absurd e.symm (b q aM)
    ·exact absurd e (b p aI)
    ·exact aL.fn p aI q aM e
   ·rcases cR.1 aI with rfl |aI<;>rcases cR.1 aM with rfl |aM
    ·rfl
    ·exact absurd e.symm (J q aM)
    ·exact absurd e (J p aI)
    ·exact aL.inj p aI q aM e
  ·cases h
section
variable{T:bR}{F F':Nat->Prop}{w:World}{ρ ρ':List Value}{bl bl':List (aD T.El)}{σ g:Nat->Nat}
theorem afP:∀ {dY:List Nat}{cs:List (aH T.El)}{aY a:List (Nat×Nat)},jz aY->lI aY dY cs=some a->jz a
 |[],[],aY,a,aL,h=>by simp only[lI,aF]at h;subst h;exact aL
 |j::r,y::ys,aY,a,aL,h=>by
  unfold lI at h;split at h
  ·rename_i e;cases e
  ·rename_i b ak
   simp only[hA]at b ak
   obtain⟨rfl,rfl⟩:=b
   obtain⟨_,rfl⟩:=ak
   split at h
   ·rename_i c
    exact afP (HS c aL) h
   ·cases h
  ·cases h
 |[],y::ys,aY,a,aL,h=>by simp[lI]at h
 |j::r,[],aY,a,aL,h=>by simp[lI]at h
theorem afR{aY b:List (Nat×Nat)}(aL:jz aY):∀ {p:iS}{y:aH T.El}{d:xJ T.El p},ih bl aY p y=some (d,b)->jz b
 | .i k,y,d,h=>by obtain⟨x,_,h⟩:=cu.1 h;cases h;exact aL
 | .b,y,d,h=>by obtain⟨x,_,h⟩:=cu.1 h;cases h;exact aL
 | .s,y,d,h=>by obtain⟨x,_,h⟩:=cu.1 h;cases h;exact aL
 | .l t,y,d,h=>by obtain⟨x,_,h⟩:=cu.1 h;cases h;exact aL
 | .x t,y,d,h=>by obtain⟨x,_,h⟩:=cu.1 h;cases h;exact aL
 | .n kt vt,y,d,h=>by obtain⟨x,_,h⟩:=cu.1 h;cases h;exact aL
 | .gC,y,d,h=>by
   simp only[ih]at h;split at h
   ·cases h;exact aL
   ·cases h
 | .B j,y,d,h=>by
   simp only[ih]at h;split at h
   ·obtain⟨x,a,h⟩:=cu.1 h;cases h;exact HS a aL
   ·cases h
 | .R j,y,d,h=>by
   simp only[ih]at h;split at h
   ·split at h
    ·obtain⟨x,a,h⟩:=cu.1 h;cases h;exact HS a aL
    ·cases h
   ·cases h
 | .M j,y,d,h=>by
   simp only[ih]at h;split at h
   ·obtain⟨x,a,h⟩:=cu.1 h;cases h;exact HS a aL
   ·cases h
 | .P j sz,y,d,h=>by
   simp only[ih]at h;split at h
   ·split at h
    ·obtain⟨x,a,h⟩:=cu.1 h;cases h;exact HS a aL
    ·cases h
   ·cases h
 | .F g dY,y,d,h=>by
   simp only[ih]at h;split at h
   ·split at h
    ·obtain⟨x,a,h⟩:=cu.1 h;cases h;exact afP aL a
    ·cases h
   ·cases h
theorem q4.sub{aY a:List (Nat×Nat)}(h:q4 σ a ρ ρ')(aj:∀q∈aY,q∈a):q4 σ aY ρ ρ':=⟨λ p b=>h.at_ p (aj p b)⟩
theorem Im:∀ {ps:List iS}{ys:List (aH T.El)}{aY a:List (Nat×Nat)}{d:u0 T.El ps},nW bl aY ps ys=some (d,a)->(∀q∈aY,q∈a)/\(jz aY->jz a)
 |[],[],aY,a,d,h=>by simp only[nW]at h;cases h;exact⟨λ q b=>b,λ h=>h⟩
 |p::r,y::ys,aY,a,d,h=>by
  simp only[nW]at h;split at h
  ·rename_i i j c
   split at h
   ·rename_i k l J
    cases h
    obtain⟨e,f⟩:=Im J
    exact⟨λ q b=>e q (afT c q b),λ aL=>f (afR aL c)⟩
   ·cases h
  ·cases h
 |[],y::ys,aY,a,d,h=>by simp[nW]at h
 |p::r,[],aY,a,d,h=>by simp[nW]at h
theorem Na(e:∀k,F k->F' k)(f:∀j,g j=b1 bl'[σ j]?):∀ {ps:List iS}{ys:List (aH T.El)}{aY a:List (Nat×Nat)}{d:u0 T.El ps}{vs:List Value},q4 σ a ρ ρ'->nW bl aY ps ys=some (d,a)->a7 T F w ρ bl ys vs->a7 T F' w ρ' bl' (sh σ g ps d) vs
 |[],[],aY,a,d,vs,c,h,b=>by simp only[a7]at b;subst b;simp[sh,a7]
 |p::r,y::ys,aY,a,d,vs,c,h,b=>by
  simp only[nW]at h;split at h
  ·rename_i m n i
   split at h
   ·rename_i o q J
    cases h
    simp only[a7]at b
    obtain⟨u,us,rfl,l,ak⟩:=b
    simp only[sh,a7]
    exact⟨u,us,rfl,afS e f (c.sub (Im J).1) i l,Na e f c J ak⟩
   ·cases h
  ·cases h
 |[],y::ys,aY,a,d,vs,_,h,_=>by simp[nW]at h
 |p::r,[],aY,a,d,vs,_,h,_=>by simp[nW]at h
theorem aww:∀ {p:cL}{y:aH T.El}{aY a:List (Nat×Nat)}{d:Eg T.El p},Ik bl aY p y=some (d,a)->(∀q∈aY,q∈a)/\(jz aY->jz a)
 | .p p,y,aY,a,d,h=>⟨afT h,λ aL=>afR aL h⟩
 | .a ps,y,aY,a,d,h=>Im h
 | .f fn ps,y,aY,a,d,h=>by
   simp only[Ik]at h;split at h
   ·split at h
    ·exact Im h
    ·cases h
   ·cases h
theorem awv(e:∀k,F k->F' k)(f:∀j,g j=b1 bl'[σ j]?):∀ {p:cL}{y:aH T.El}{aY b:List (Nat×Nat)}{d:Eg T.El p}{v:Value},q4 σ b ρ ρ'->SF p y=true->Ik bl aY p y=some (d,b)->ar T F w ρ bl y v->ar T F' w ρ' bl' (zD σ g p d) v
 | .p p,y,aY,b,d,v,c,_,h,a=>afS e f c h a
 | .a ps,y,aY,b,d,v,c,hy,h,a=>by
   simp only[SF]at hy;have:=Na e f c h (oZ a);simp only[zD,ar];cases y<;>simp only[lf,reduceCtorEq]at hy
   ·rename_i u
    cases u<;>simp only[lf,reduceCtorEq]at hy
    simp only[ar]at a
    subst a
    exact⟨_,rfl,this⟩
   ·simp only[ar]at a
    obtain⟨vs,rfl,_⟩:=a
    exact⟨vs,rfl,this⟩
 | .f fn ps,y,aY,b,d,v,c,_,h,a=>by
   simp only[Ik]at h;split at h
   ·split at h
    ·rename_i af
     have af:=bd af
     subst af
     simp only[ar]at a
     obtain⟨vs,rfl,J⟩:=a
     simp only[zD,ar]
     exact⟨vs,rfl,Na e f c h J⟩
    ·cases h
   ·cases h
end
end bc
namespace bc
open Go Go.RowKit aw I
section
variable{T:bR}{F F':Nat->Prop}{w:World}{ρ ρ':List Value}{bl bl':List (aD T.El)}{σ g:Nat->Nat}
theorem M_:∀ {ps:List cL}{ys:List (aH T.El)}{aY a:List (Nat×Nat)}{d:dn T.El ps},lH bl aY ps ys=some (d,a)->(∀q∈aY,q∈a)/\(jz aY->jz a)
 |[],[],aY,a,d,h=>by simp only[lH]at h;cases h;exact⟨λ q b=>b,λ h=>h⟩
 |p::r,y::ys,aY,a,d,h=>by
  simp only[lH]at h;split at h
  ·rename_i k l m c
   split at h
   ·rename_i n o J
    cases h
    obtain⟨e,f⟩:=M_ J
    obtain⟨i,j⟩:=aww c
    exact⟨λ q b=>e q (i q b),λ aL=>f (j aL)⟩
   ·cases h
  ·cases h
 |[],y::ys,aY,a,d,h=>by simp[lH]at h
 |p::r,[],aY,a,d,h=>by simp[lH]at h
theorem afL(e:∀k,F k->F' k)(f:∀j,g j=b1 bl'[σ j]?):∀ {ps:List cL}{ys:List (aH T.El)}{aY a:List (Nat×Nat)}{d:dn T.El ps}{vs:List Value},q4 σ a ρ ρ'->lH bl aY ps ys=some (d,a)->a7 T F w ρ bl ys vs->a7 T F' w ρ' bl' (ga σ g ps d) vs
 |[],[],aY,a,d,vs,c,h,b=>by simp only[a7]at b;subst b;simp[ga,a7]
 |p::r,y::ys,aY,a,d,vs,c,h,b=>by
  simp only[lH]at h;split at h
  ·rename_i n o i l
   split at h
   ·rename_i q s J
    cases h
    simp only[a7]at b
    obtain⟨u,us,rfl,m,ak⟩:=b
    simp only[ga,a7]
    exact⟨u,us,rfl,awv e f (c.sub (M_ J).1) i l m,afL e f c J ak⟩
   ·cases h
  ·cases h
 |[],y::ys,aY,a,d,vs,_,h,_=>by simp[lH]at h
 |p::r,[],aY,a,d,vs,_,h,_=>by simp[lH]at h
theorem M'{post:Bool}:∀ {p:bI}{B:aD T.El}{aY a:List (Nat×Nat)}{d:sQ T.El p},iA bl aY post p B=some (d,a)->(∀q∈aY,q∈a)/\(jz aY->jz a)
 | .c ty ps,B,aY,a,d,h=>by
   simp only[iA]at h;split at h
   ·split at h
    ·exact Im h
    ·cases h
   ·cases h
 | .r t same,B,aY,a,d,h=>by
   simp only[iA]at h;split at h
   ·split at h
    ·obtain⟨x,_,h⟩:=cu.1 h;cases h;exact⟨λ q b=>b,λ h=>h⟩
    ·cases h
   ·cases h
 | .m kt vt,B,aY,a,d,h=>by
   simp only[iA]at h;split at h
   ·obtain⟨x,_,h⟩:=cu.1 h;cases h;exact⟨λ q b=>b,λ h=>h⟩
   ·cases h
 | .d,B,aY,a,d,h=>by
   simp only[iA]at h;split at h<;>first |(cases h;exact⟨λ q b=>b,λ h=>h⟩)|cases h
theorem ajZ{t' t:Nat}{l:List (T.El t')}{l':List (T.El t)}(h:BR l=some l'):∃e:t'=t,l'=e▸l:=by
 unfold BR at h;split at h
 ·rename_i e _
  simp only[aF]at h
  exact⟨e,h.symm⟩
 ·cases h
theorem awz(n:∀k,F k->F' k)(q:∀j,g j=b1 bl'[σ j]?){post:Bool}:∀ {p:bI}{B:aD T.El}{aY f:List (Nat×Nat)}{d:sQ T.El p}{h:Value},q4 σ f ρ ρ'->iA bl aY post p B=some (d,f)->iU T F w ρ bl B h->iU T F' w ρ' bl' (dx σ g post p d) h/\ ∀u k,k∈bB (dx σ g post p d) u->k∈bB B u
 | .c ty ps,B,aY,f,d,h,m,a,bO=>by
   simp only[iA]at a;split at a
   ·rename_i v cs
    split at a
    ·rename_i af
     have af:=bd af
     subst af
     obtain⟨s,vs,i,ak,aS⟩:=bO
     exact⟨⟨s,vs,i,ak,Na n q m a aS⟩,λ u k b=>b⟩
    ·cases a
   ·cases a
 | .r t same,B,aY,f,d,h,m,a,bO=>by
   simp only[iA]at a;split at a
   ·rename_i t' g' k' l
    split at a
    ·obtain⟨x,o,a⟩:=cu.1 a
     cases a
     obtain⟨e,rfl⟩:=ajZ o
     subst e
     obtain⟨A,c,xs,i,ak,aS⟩:=bO
     exact⟨⟨A,c,xs,i,ak,ov _ (λ k b=>⟨n k b,rfl⟩) aS⟩,λ u k b=>b⟩
    ·cases a
   ·cases a
 | .m kt vt,B,aY,f,d,h,m,a,bO=>by
   simp only[iA]at a;split at a
   ·obtain⟨x,o,a⟩:=cu.1 a
    cases a
    obtain⟨r,i,ak⟩:=bO
    exact⟨⟨r,i,(adz o ak).law (λ k b=>⟨n k b,rfl⟩) rfl⟩,λ u k b=>b⟩
   ·cases a
 | .d,B,aY,f,d,h,m,a,bO=>⟨trivial,λ u k b=>by simp[dx,bB]at b⟩
theorem E_{post:Bool}:∀ {ps:List bI}{aY a:List (Nat×Nat)}{k:Nat}{d:cF T.El ps},nV bl post aY k ps=some (d,a)->(∀q∈aY,q∈a)/\(jz aY->jz a)
 |[],aY,a,k,d,h=>by simp only[nV]at h;cases h;exact⟨λ q b=>b,λ h=>h⟩
 |p::r,aY,a,k,d,h=>by
  simp only[nV]at h;split at h
  ·split at h
   ·split at h
    ·rename_i l m c
     split at h
     ·rename_i n o J
      cases h
      obtain⟨e,f⟩:=E_ J
      obtain⟨i,j⟩:=M' c
      exact⟨λ q b=>e q (i q b),λ aL=>f (j aL)⟩
     ·cases h
    ·cases h
   ·cases h
  ·cases h
theorem mU{post:Bool}:∀ {ps:List bI}{d:cF T.El ps},(bM σ g post ps d).length=ps.length
 |[],d=>rfl
 |p::r,d=>by simp[bM,mU (ps:=r)]
theorem U4(f:∀k,F k->F' k)(l:∀j,g j=b1 bl'[σ j]?){post:Bool}:∀ {ps:List bI}{aY a:List (Nat×Nat)}{k:Nat}{d:cF T.El ps},nV bl post aY k ps=some (d,a)->q4 σ a ρ ρ'-> ∀(m:Nat)(B':aD T.El),(bM σ g post ps d)[m]? =some B' ->
 ∃i B,(k+m,i)∈a/\bl[i]? =some B/\(∀h,iU T F w ρ bl B h->iU T F' w ρ' bl' B' h)/\ ∀u k,k∈bB B' u->k∈bB B u
 |[],aY,a,k,d,_,_,m,B',c=>by simp[bM]at c
 |p::r,aY,a,k,d,h,n,m,B',c=>by
  simp only[nV]at h;split at h
  ·rename_i i hi
   split at h
   ·rename_i B bO
    split at h
    ·rename_i v x e
     split at h
     ·rename_i y z J
      cases h
      have o:=(E_ J).1
      have q:=(M' e).1
      rw[c7]at bO
      cases m with
      |zero=>
       simp only[bM,dG,aF]at c
       subst c
       exact⟨i,B,o _ (q _ (ob hi)),bO,λ h af=>(awz f l (n.sub o) e af).1,awb e⟩
      |succ m=>
       obtain⟨i',q5,s,ak,aS⟩:=U4 f l J n m B' (by simpa[bM]using c)
       exact⟨i',q5,by rw[show k+(m+1)=k+1+m by omega];exact s,ak,aS⟩
     ·cases h
    ·cases h
   ·cases h
  ·cases h
where
 awb {post:Bool}:∀ {p:bI}{B:aD T.El}{aY a:List (Nat×Nat)}{d:sQ T.El p},iA bl aY post p B=some (d,a)-> ∀u k,k∈bB (dx σ g post p d) u->k∈bB B u
  | .c ty ps,B,aY,a,d,h,u,k,b=>by
    simp only[iA]at h;split at h
    ·exact b
    ·cases h
  | .r t same,B,aY,a,d,h,u,k,b=>by
    simp only[iA]at h;split at h
    ·exact b
    ·cases h
  | .m kt vt,B,aY,a,d,h,u,k,b=>by
    simp only[iA]at h;split at h
    ·exact b
    ·cases h
  | .d,B,aY,a,d,h,u,k,b=>by simp[dx,bB]at b
end
end bc
namespace bc
open Go Go.RowKit aw I
structure mv {El:Nat->Type} (bl:List (aD El)) (ρ:List Value) (bl':List (aD El)) (ρ':List Value) (sel:List Nat):Prop where
 len:ρ'.length=bl'.length
 at_:∀(j:Nat)(B':aD El)(h':Value),bl'[j]? =some B'->ρ'[j]? =some h'-> ∃i B,sel[j]? =some i/\bl[i]? =some B/\ρ[i]? =some h'/\ ∀u k,k∈bB B' u->k∈bB B u
 inj:∀(j gy i:Nat),sel[j]? =some i->sel[gy]? =some i->j=gy
def rz{El:Nat->Type}:List (aD El)->List Value->List Nat
 |B::r,h::s=>bB B h++rz r s
 |_,_=>[]
theorem th{El:Nat->Type}{k:Nat}:∀ {bl:List (aD El)}{ρ:List Value},k∈rz bl ρ↔pT bl ρ k
 |[],ρ=>by simp[rz,pT]
 |B::r,[]=>by simp[rz,pT]
 |B::r,h::s=>by
  simp only[rz,b_,th (bl:=r)];constructor
  ·rintro(e |⟨i,C,u,a,J,ap⟩)
   ·exact⟨0,B,h,rfl,rfl,e⟩
   ·exact⟨i+1,C,u,by simpa using a,by simpa using J,ap⟩
  ·rintro⟨i,C,u,a,J,ap⟩
   cases i with
   |zero=>
    simp only[dG,aF]at a J
    subst a;subst J
    exact .inl ap
   |succ i=>exact .inr ⟨i,C,u,by simpa using a,by simpa using J,ap⟩
section
variable{T:bR}{W w:World}{M0:List Nat}{X:Nat->Prop}{bl bl':List (aD T.El)}{ρ ρ':List Value}{sel:List Nat}
theorem mv.own(h:mv bl ρ bl' ρ' sel){k:Nat}(a:pT bl' ρ' k):pT bl ρ k:=by
 obtain⟨j,B',h',b,J,ap⟩:=a;obtain⟨i,B,_,ak,aS,bN⟩:=h.at_ j B' h' b J;exact⟨i,B,h',ak,aS,bN _ _ ap⟩
theorem mv.bz(h:mv bl ρ bl' ρ' sel)(f:Mem T W M0 X bl ρ w)(i j:Nat)(B C:aD T.El)(u v:Value)(g:bl'[i]? =some B)(J:ρ'[i]? =some u)(ap:bl'[j]? =some C)(l:ρ'[j]? =some v)(m:i≠j):∀k∈bB B u,k∉bB C v:=λ k c d=>by
 obtain⟨a,iR,n,ak,aS,bN⟩:=h.at_ i B u g J;obtain⟨b,LN,o,p,q,r⟩:=h.at_ j C v ap l;have c:=bN _ _ c;have d:=r _ _ d;refine f.bz a b iR LN u v ak aS p q (λ e=>?_) k c d;subst e;exact m (h.inj i j a n o)
def jE(X:Nat->Prop)(bl:List (aD T.El))(ρ:List Value)(sel:List Nat)(k:Nat):Prop:=X k\/ ∃i B h,i∉sel/\bl[i]? =some B/\ρ[i]? =some h/\k∈bB B h
theorem mv.Gq(h:mv bl ρ bl' ρ' sel){k:Nat}(a:bi X bl ρ w k):bi (jE X bl ρ sel) bl' ρ' w k:=
 ⟨λ b=>by
  rcases b with b |⟨i,B,u,_,c,J,ap⟩
  ·exact a.1 b
  ·exact a.2.1 ⟨i,B,u,c,J,ap⟩,λ d=>a.2.1 (h.own d),a.2.2⟩
theorem mv.Kj(h:mv bl ρ bl' ρ' sel){k:Nat}(a:bi X bl ρ w k):bi X bl' ρ' w k:=⟨a.1,λ b=>a.2.1 (h.own b),a.2.2⟩
theorem mv.enter(h:mv bl ρ bl' ρ' sel)(a:Mem T W M0 X bl ρ w)(f:∀(j:Nat)(B':aD T.El)(h':Value),bl'[j]? =some B'->ρ'[j]? =some h'->iU T (bi (jE X bl ρ sel) bl' ρ' w) w ρ' bl' B' h'):Mem T w (rz bl' ρ') (jE X bl ρ sel) bl' ρ' w:=by
 refine⟨bp.refl _ _,h.len,λ k b=>?_,λ k b=>?_,h.bz a,f⟩
 ·rcases b with c |⟨i,B,u,hi,d,J,ap⟩
  ·refine⟨en (a.hL k c).1 a.bW.size,λ e=>?_⟩
   exact a.aiQ (h.own (th.1 e)) c
  ·refine⟨(a.lt k ⟨i,B,u,d,J,ap⟩).1,λ e=>?_⟩
   obtain⟨j,B',h',g,ak,aS⟩:=th.1 e
   obtain⟨i',iR,l,m,n,o⟩:=h.at_ j B' h' g ak
   have aS:=o _ _ aS
   refine a.bz i i' B iR u h' d J m n (λ e=>?_) k ap aS
   subst e
   exact hi (bE l)
 ·exact⟨(a.lt k (h.own b)).1,.inl (th.2 b)⟩
theorem mv.leave(h:mv bl ρ bl' ρ' sel)(a:Mem T W M0 X bl ρ w)(b:∀(j:Nat)(B':aD T.El)(h':Value),bl'[j]? =some B'->ρ'[j]? =some h'->iU T (bi X bl' ρ' w) w ρ' bl' B' h'):Mem T W M0 X bl' ρ' w:=
 ⟨a.bW,h.len,a.hL,λ k c=>a.lt k (h.own c),h.bz a,b⟩
end
def b'(post:Bool)(pbs:List bI)(j:Nat):Nat:=eZ post (pbs[j]?)
def gF(ρ:List Value)(sel:List Nat):List Value:=sel.map λ i=>ρ.getD i undef
section
variable{T:bR}{W w:World}{M0:List Nat}{X:Nat->Prop}{bl bl':List (aD T.El)}{ρ ρ':List Value}{sel:List Nat}
theorem Gi{σ g:Nat->Nat}{post:Bool}:∀ {ps:List bI}{d:cF T.El ps}{j:Nat},b1 (bM σ g post ps d)[j]? =eZ post ps[j]?
 |[],d,j=>by simp[bM,b1,eZ]
 |p::r,d,0=>by
  simp only[bM,dG];cases p<;>rfl
 |p::r,d,j+1=>by simpa[bM]using Gi (ps:=r)
theorem Wr{aY:List (Nat×Nat)}:∀ {n k:Nat}{sel:List Nat},Jn aY k n=some sel->sel.length=n/\ ∀j i,sel[j]? =some i->(k+j,i)∈aY
 |0,k,sel,h=>by simp only[Jn,aF]at h;subst h;simp
 |n+1,k,sel,h=>by
  simp only[Jn]at h;split at h
  ·rename_i i r a J
   simp only[aF]at h
   subst h
   obtain⟨b,c⟩:=Wr J
   refine⟨by simp[b],λ j i' aA=>?_⟩
   cases j with
   |zero=>simp only[dG,aF]at aA;subst aA;exact ob a
   |succ j=>rw[show k+(j+1)=k+1+j by omega];exact c j i' (by simpa using aA)
  ·cases h
theorem acW{n:Nat}:∀ {aY:List (Nat×Nat)},L6 n aY=true-> ∀p∈aY,p.1<n
 |[],_,p,aI=>by simp at aI
 |q::r,h,p,aI=>by
  simp only[L6,bH]at h;rcases cR.1 aI with rfl |aI
  ·exact cv h.1
  ·exact acW h.2 p aI
theorem tq(l:Mem T W M0 X bl ρ w){aY:List (Nat×Nat)}(aL:jz aY){post:Bool}{pas:List cL}{pbs:List bI}{ys:List (aH T.El)}{da:dn T.El pas}{db:cF T.El pbs}(h:ii bl aY post pas pbs ys=some ((da,db),sel)) :
 mv bl ρ (bM id (b' post pbs) post pbs db) (gF ρ sel) sel/\(∀p∈aY,sel[p.1]? =some p.2)/\
 ∀F':Nat->Prop,(∀k,bi X bl ρ w k->F' k)->(∀vs,a7 T (bi X bl ρ w) w ρ bl ys vs->a7 T F' w (gF ρ sel) (bM id (b' post pbs) post pbs db) (ga id (b' post pbs) pas da) vs)/\
  ∀(j:Nat)(B':aD T.El)(h':Value),(bM id (b' post pbs) post pbs db)[j]? =some B'->(gF ρ sel)[j]? =some h'->iU T F' w (gF ρ sel) (bM id (b' post pbs) post pbs db) B' h':=by
 unfold ii at h
 split at h
 ·rename_i S N q
  split at h
  ·rename_i n s J
   split at h
   ·rename_i b ap O
    simp only[aF,ca]at h
    obtain⟨⟨rfl,rfl⟩,rfl⟩:=h
    obtain⟨z,G⟩:=M_ q
    obtain⟨t,H⟩:=E_ J
    have I:=H (G aL)
    obtain⟨l1,A⟩:=Wr ap
    have K:=acW O
    have v:∀p∈s,b[p.1]? =some p.2:=λ p f=>by
     have C:p.1<b.length:=by rw[l1];exact K p f
     have e:=aJ C;have:=A p.1 _ e;rw[jx]at this;have ak:b[p.1]=p.2:=I.fn _ this p f rfl;rw[e,ak]
    have c:(bM id (b' post pbs) post pbs n).length=pbs.length:=mU
    have base:∀(j:Nat)(B':aD T.El),(bM id (b' post pbs) post pbs n)[j]? =some B'-> ∃i B u,b[j]? =some i/\bl[i]? =some B/\ρ[i]? =some u/\(gF ρ b)[j]? =some u:=λ j B' aA=>by
     have x:∀j,b' post pbs j=b1 (bM id (b' post pbs) post pbs n)[id j]? :=λ j=>Gi.symm;have D:∀i,(j,i)∈s-> ∀B,bl[i]? =some B-> ∃i B u,b[j]? =some i/\bl[i]? =some B/\ρ[i]? =some u/\(gF ρ b)[j]? =some u:=λ i hi B bO=>by
      obtain⟨u,L⟩:=l.rY bO;have aj:=v _ hi;refine⟨i,B,u,aj,bO,L,?_⟩;rw[gF,jb,aj];simp[List.getD_eq_getElem?_getD,L]
     obtain⟨i,B,a,ak⟩:=afN J j B' aA;exact D i (by simpa using a) B ak
    have o:q4 id s ρ (gF ρ b):=⟨λ p f=>by
     have aj:=v p f;have C:p.1<(bM id (b' post pbs) post pbs n).length:=by rw[c];exact K p f
     obtain⟨i,B,u,a,ak,aS,bN⟩:=base p.1 _ (aJ C);rw[aj]at a;cases a;show(gF ρ b)[p.1]? =_
     rw[bN,aS]⟩
    have x:∀j,b' post pbs j=b1 (bM id (b' post pbs) post pbs n)[id j]? :=λ j=>Gi.symm
    refine⟨⟨by rw[c];simp[gF,l1],λ j B' h' aA E=>?_,λ j gy i aA P=>?_⟩,λ p f=>v p (t p (z p f)),λ F' M=>⟨λ vs Q=>afL M x (o.sub t) q Q,λ j B' h' aA E=>?_⟩⟩
    ·obtain⟨i,B,a,ak,_,aS⟩:=U4 (F:=λ _=>False) (F':=λ _=>False) (w:=w) (λ _ h=>h) x J o j B' aA
     rw[jx]at a
     have aj:=v _ a
     refine⟨i,B,aj,ak,?_,aS⟩
     rw[<-o.at_ _ a];exact E
    ·have a:=A j i aA
     have ak:=A gy i P
     have:=I.inj _ a _ ak rfl
     simpa using this
    ·obtain⟨i,B,a,ak,aS,_⟩:=U4 M x J o j B' aA
     rw[jx]at a
     have R:ρ[i]? =some h':=by rw[<-o.at_ _ a];exact E
     exact aS h' (l.ok i B h' ak R)
   ·cases h
  ·cases h
 ·cases h
where
 afN {post:Bool} {σ g:Nat->Nat}:∀ {ps:List bI}{aY y:List (Nat×Nat)}{k:Nat}{d:cF T.El ps},nV bl post aY k ps=some (d,y)-> ∀(m:Nat)(B':aD T.El),(bM σ g post ps d)[m]? =some B'-> ∃i B,(k+m,i)∈y/\bl[i]? =some B
  |[],aY,y,k,d,_,m,B',l=>by simp[bM]at l
  |p::r,aY,y,k,d,h,m,B',l=>by
   simp only[nV]at h;split at h
   ·rename_i i hi
    split at h
    ·rename_i B bO
     split at h
     ·rename_i G N q
      split at h
      ·rename_i H s J
       cases h
       have t:=(E_ J).1
       have z:=(M' q).1
       rw[c7]at bO
       cases m with
       |zero=>exact⟨i,B,t _ (z _ (ob hi)),bO⟩
       |succ m=>
        obtain⟨i',q5,a,ak⟩:=afN J m B' (by simpa[bM]using l)
        exact⟨i',q5,by rw[show k+(m+1)=k+1+m by omega];exact a,ak⟩
      ·cases h
     ·cases h
    ·cases h
   ·cases h
end
end bc
namespace bc
open Go Go.RowKit aw I
def fZ{α:Type}:List α->List Nat->List α->List α
 |l,[],qs=>l++qs
 |l,i::r,q::qs=>fZ (l.set i q) r qs
 |l,_::_,[]=>l
section
variable{α:Type}
theorem Xp:∀ {sel:List Nat}{l qs:List α},sel.length<=qs.length->(fZ l sel qs).length=l.length+(qs.length-sel.length)
 |[],l,qs,_=>by simp[fZ]
 |i::r,l,q::qs,h=>by
  simp only[fZ];rw[Xp (by simpa using h)];simp
 |i::r,l,[],h=>by simp at h
theorem FZ:∀ {sel:List Nat}{l qs:List α}{i:Nat},i∉sel->i<l.length->(fZ l sel qs)[i]? =l[i]?
 |[],l,qs,i,_,hi=>by simp[fZ,fc hi]
 |j::r,l,q::qs,i,h,hi=>by
  simp only[cR,not_or]at h;simp only[fZ];rw[FZ h.2 (by simpa using hi),jg (Ne.symm h.1)]
 |j::r,l,[],i,_,_=>rfl
theorem OE:∀ {sel:List Nat}{l qs:List α}{j i:Nat},sel.length<=qs.length->sel.Nodup->(∀i∈sel,i<l.length)->sel[j]? =some i->(fZ l sel qs)[i]? =qs[j]?
 |[],l,qs,j,i,_,_,_,h=>by simp at h
 |a::r,l,q::qs,0,i,b,d,c,h=>by
  simp only[dG,aF]at h;subst h;have e:=im.1 d;simp only[fZ];rw[FZ e.1 (by simpa using c a (by simp)),fH (c a (by simp))];rfl
 |a::r,l,q::qs,j+1,i,b,d,c,h=>by
  have e:=im.1 d;simp only[fZ];rw[OE (by simpa using b) e.2 (λ i hi=>by simpa using c i (dX _ hi)) (by simpa using h)];rfl
 |a::r,l,[],j,i,b,_,_,_=>by simp at b
theorem OG:∀ {sel:List Nat}{l qs:List α}{m:Nat},sel.length<=qs.length->(fZ l sel qs)[l.length+m]? =qs[sel.length+m]?
 |[],l,qs,m,_=>by simp[fZ,fI]
 |a::r,l,q::qs,m,b=>by
  simp only[fZ];have:=OG (sel:=r) (l:=l.set a q) (qs:=qs) (m:=m) (by simpa using b);rw[kb]at this;rw[this,show(a::r).length+m=(r.length+m)+1 by simp;omega];rfl
 |a::r,l,[],m,b=>by simp at b
theorem aCs{sel:List Nat}{l qs:List α}(a:sel.length<=qs.length)(c:sel.Nodup)(d:∀i∈sel,i<l.length){i:Nat}{x:α}(h:(fZ l sel qs)[i]? =some x) :
 (i∉sel/\i<l.length/\l[i]? =some x)\/ ∃j,qs[j]? =some x/\((j<sel.length/\sel[j]? =some i)\/(sel.length<=j/\i=l.length+(j-sel.length))):=by
 rcases gg i l.length with e |e
 ·by_cases hi:i∈sel
  ·obtain⟨j,aA,rfl⟩:=iP.1 hi
   have b:=aJ aA
   rw[OE a c d b]at h
   exact .inr ⟨j,h,.inl ⟨aA,b⟩⟩
  ·rw[FZ hi e]at h
   exact .inl ⟨hi,e,h⟩
 ·right
  obtain⟨m,rfl⟩:∃m,i=l.length+m:=⟨i-l.length,by omega⟩
  rw[OG a]at h
  exact⟨sel.length+m,h,.inr ⟨by omega,by omega⟩⟩
end
def iH(sel:List Nat)(len j:Nat):Nat:=match nth sel j with
 |some i=>i
 |none=>len+(j-sel.length)
theorem Gz{sel:List Nat}{len j i:Nat}(h:sel[j]? =some i):iH sel len j=i:=by rw[iH,c7,h]
theorem ZR{sel:List Nat}{len j:Nat}(h:sel.length<=j):iH sel len j=len+(j-sel.length):=by
 rw[iH,c7,gH h]
def hd{El:Nat->Type}:Option (aD El)->aD El->aD El
 |some (.r _ g k _),.r t g' k' l=>.r t (g+g') (k+k') l
 |some (.r _ g _ _),.no g'=>.no (g+g')
 |some (.no g),.no g'=>.no (g+g')
 |_,B=>B
def xf{El:Nat->Type}(bl:List (aD El)):List Nat->List (aD El)->List (aD El)
 |i::r,B::qs=>hd (nth bl i) B::xf bl r qs
 |_,qs=>qs
theorem alj{El:Nat->Type}{bl:List (aD El)}:∀ {sel:List Nat}{qs:List (aD El)},(xf bl sel qs).length=qs.length
 |[],qs=>rfl
 |i::r,B::qs=>by simp[xf,alj (sel:=r)]
 |i::r,[]=>rfl
theorem ali{El:Nat->Type}{bl:List (aD El)}:∀ {sel:List Nat}{qs:List (aD El)}{j:Nat},(xf bl sel qs)[j]? =(qs[j]?).map λ B=>(match sel[j]? with
 |some i=>hd (nth bl i) B
 |none=>B)
 |[],qs,j=>by simp[xf]
 |i::r,B::qs,0=>by simp[xf]
 |i::r,B::qs,j+1=>by simpa[xf]using ali (sel:=r) (qs:=qs) (j:=j)
 |i::r,[],j=>by simp[xf]
theorem KS{El:Nat->Type}{o:Option (aD El)}{B:aD El}{u:Value}:bB (hd o B) u=bB B u:=by
 unfold hd;split<;>rfl
section
variable{T:bR}{F F':Nat->Prop}{w:World}{ρ ρ':List Value}{bl bl':List (aD T.El)}{σ g g':Nat->Nat}
theorem adx(a:∀j v,ρ[j]? =some v->ρ'[σ j]? =some v):∀ {dY:List Nat}{vs:List Value},a7 T F w ρ bl (dY.map λ j=>.b (id j) 0) vs->a7 T F' w ρ' bl' (dY.map λ j=>.b (σ j) 0) vs
 |[],vs,h=>by simpa only[hS,a7]using h
 |j::r,vs,h=>by
  simp only[eu,a7,ar]at h⊢;obtain⟨u,us,e,⟨b,c,ak⟩,aS⟩:=h;exact⟨u,us,e,⟨b,a j _ c,ak⟩,adx a aS⟩
theorem ajv(e:∀k,F k->F' k)(f:∀j v,ρ[j]? =some v->ρ'[σ j]? =some v)(n:∀j,g j=b1 bl[j]?)(o:∀j v,ρ[j]? =some v->g' j=b1 bl'[σ j]?):∀ {p:iS}{d:xJ T.El p}{v:Value},ar T F w ρ bl (gE id g p d) v->ar T F' w ρ' bl' (gE σ g' p d) v
 | .i k,d,v,h=>by simpa only[gE,ar]using h
 | .b,d,v,h=>by simpa only[gE,ar]using h
 | .s,d,v,h=>by simpa only[gE,ar]using h
 | .l t,d,v,h=>by simp only[gE,ar]at h⊢;exact(b3 (T.ty t)).law (λ k i=>⟨e k i,rfl⟩) h
 | .x t,d,v,h=>by
   simp only[gE,ar]at h⊢;obtain⟨a,q,cs,b,ak,aS,bN⟩:=h;exact⟨a,q,cs,b,e a ak,(T.ty t).law (λ k i=>⟨e k i,rfl⟩) aS,bN⟩
 | .n kt vt,d,v,h=>by
   simp only[gE,ar]at h⊢;obtain⟨r,b,ak,aS⟩:=h;exact⟨r,b,e r ak,aS.law (λ k i=>⟨e k i,rfl⟩) rfl⟩
 | .gC,d,v,h=>by simpa only[gE,ar]using h
 | .B j,d,v,h=>by
   simp only[gE,ar,id]at h⊢;obtain⟨l,b,ak⟩:=h;exact⟨l,f j _ b,ak⟩
 | .R j,d,v,h=>by
   simp only[gE,ar,id]at h⊢;obtain⟨u,m,b,ak,aS⟩:=h;exact⟨u,m,f j _ b,by rw[o j _ b];exact cC _,λ _=>aS (n j)⟩
 | .M j,d,v,h=>by
   simp only[gE,ar,id]at h⊢;obtain⟨l,b,ak⟩:=h;exact⟨l,f j _ b,ak⟩
 | .P j sz,d,v,h=>by
   simp only[gE,ar,id]at h⊢;obtain⟨A,c,b,ak,aS,bN⟩:=h;refine⟨A,c,b,ak,aS,λ x=>?_⟩;obtain⟨y,z,xs,B,C⟩:=bN x;exact⟨y,e _ z,xs,B.imp λ q v ⟨D,m,s,G,E⟩=>⟨D,m,f j _ s,by rw[o j _ s];exact cC _,λ _=>E (n j)⟩,C⟩
 | .F g dY,d,v,h=>by
   simp only[gE,ar]at h⊢;obtain⟨vs,b,ak⟩:=h;exact⟨vs,b,adx f ak⟩
theorem Pm(a:∀k,F k->F' k)(b:∀j v,ρ[j]? =some v->ρ'[σ j]? =some v)(c:∀j,g j=b1 bl[j]?)(f:∀j v,ρ[j]? =some v->g' j=b1 bl'[σ j]?):∀ {ps:List iS}{d:u0 T.El ps}{vs:List Value},a7 T F w ρ bl (sh id g ps d) vs->a7 T F' w ρ' bl' (sh σ g' ps d) vs
 |[],d,vs,h=>by simpa only[sh,a7]using h
 |p::r,d,vs,h=>by
  simp only[sh,a7]at h⊢;obtain⟨u,us,e,i,J⟩:=h;exact⟨u,us,e,ajv a b c f i,Pm a b c f J⟩
theorem aDT(a:∀k,F k->F' k)(b:∀j v,ρ[j]? =some v->ρ'[σ j]? =some v)(c:∀j,g j=b1 bl[j]?)(f:∀j v,ρ[j]? =some v->g' j=b1 bl'[σ j]?):∀ {p:cL}{d:Eg T.El p}{v:Value},ar T F w ρ bl (zD id g p d) v->ar T F' w ρ' bl' (zD σ g' p d) v
 | .p p,d,v,h=>ajv a b c f h
 | .a ps,d,v,h=>by
   simp only[zD,ar]at h⊢;obtain⟨vs,e,i⟩:=h;exact⟨vs,e,Pm a b c f i⟩
 | .f fn ps,d,v,h=>by
   simp only[zD,ar]at h⊢;obtain⟨vs,e,i⟩:=h;exact⟨vs,e,Pm a b c f i⟩
theorem aju(a:∀k,F k->F' k)(b:∀j v,ρ[j]? =some v->ρ'[σ j]? =some v)(c:∀j,g j=b1 bl[j]?)(f:∀j v,ρ[j]? =some v->g' j=b1 bl'[σ j]?):∀ {ps:List cL}{d:dn T.El ps}{vs:List Value},a7 T F w ρ bl (ga id g ps d) vs->a7 T F' w ρ' bl' (ga σ g' ps d) vs
 |[],d,vs,h=>by simpa only[ga,a7]using h
 |p::r,d,vs,h=>by
  simp only[ga,a7]at h⊢;obtain⟨u,us,e,i,J⟩:=h;exact⟨u,us,e,aDT a b c f i,aju a b c f J⟩
theorem aDU(i:∀k,F k->F' k)(m:∀j v,ρ[j]? =some v->ρ'[σ j]? =some v)(n:∀j,g j=b1 bl[j]?)(q:∀j v,ρ[j]? =some v->g' j=b1 bl'[σ j]?){post:Bool}{o:Option (aD T.El)}:∀ {p:bI}{d:sQ T.El p}{h:Value},iU T F w ρ bl (dx id g post p d) h->iU T F' w ρ' bl' (hd o (dx σ g' post p d)) h
 | .c ty ps,d,h,bO=>by
   have:hd o (dx σ g' post (.c ty ps) d)=dx σ g' post (.c ty ps) d:=by unfold hd;split<;>first |rfl |(rename_i e;cases e)
   rw[this];obtain⟨s,vs,a,ak,aS⟩:=bO;exact⟨s,vs,a,ak,Pm i m n q aS⟩
 | .r t same,d,h,bO=>by
   obtain⟨A,c,xs,a,ak,aS⟩:=bO;have:∃b f,hd o (dx σ g' post (.r t same) d)= .r t b f d:=by
    unfold hd;split
    ·rename_i e;cases e;exact⟨_,_,rfl⟩
    ·rename_i e;cases e
    ·rename_i e;cases e
    ·exact⟨_,_,rfl⟩
   obtain⟨b,f,e⟩:=this;rw[e];exact⟨A,c,xs,a,ak,ov _ (λ k l=>⟨i k l,rfl⟩) aS⟩
 | .m kt vt,d,h,bO=>by
   have:hd o (dx σ g' post (.m kt vt) d)=dx σ g' post (.m kt vt) d:=by unfold hd;split<;>first |rfl |(rename_i e;cases e)
   rw[this];obtain⟨r,a,ak⟩:=bO;exact⟨r,a,ak.law (λ k l=>⟨i k l,rfl⟩) rfl⟩
 | .d,d,h,bO=>by
   have:∃b,hd o (dx σ g' post .d d)= .no b:=by
    unfold hd;split
    ·rename_i e;cases e
    ·exact⟨_,rfl⟩
    ·exact⟨_,rfl⟩
    ·exact⟨_,rfl⟩
   obtain⟨b,e⟩:=this;rw[e];trivial
end
end bc
namespace bc
open Go Go.RowKit aw I
def qk{El:Nat->Type}:bI->aD El->Prop
 | .c _ _,.c _ _=>True
 | .r t _,.r t' _ _ _=>t'=t
 | .m _ _,.m _ _ _=>True
 | .d,.c _ _=>True
 | .d,.r _ _ _ _=>True
 | .d,.m _ _ _=>True
 | .d,.no _=>True
 |_,_=>False
def yX:bI->bI->Bool
 | .c _ _,.c _ _=>true
 | .r t _,.r t' _=>bS t t'
 | .m _ _,.m _ _=>true
 | .c _ _,.d=>true
 | .r _ _,.d=>true
 | .m _ _,.d=>true
 |_,_=>false
def jU:List bI->List bI->Bool
 |[],_=>true
 |p::r,q::s=>yX p q&&jU r s
 |_::_,[]=>false
theorem Kt:∀ {ps qs:List bI},jU ps qs=true->ps.length<=qs.length
 |[],_,_=>by simp
 |p::r,q::s,h=>by
  simp only[jU,bH]at h;have:=Kt h.2;simp;omega
 |p::r,[],h=>by cases h
theorem Ks:∀ {ps qs:List bI}{j:Nat}{p q:bI},jU ps qs=true->ps[j]? =some p->qs[j]? =some q->yX p q=true
 |[],_,j,p,q,_,h,_=>by simp at h
 |a::r,b::s,0,p,q,c,h,h'=>by
  simp only[dG,aF]at h h';subst h;subst h';simp only[jU,bH]at c;exact c.1
 |a::r,b::s,j+1,p,q,c,h,h'=>by
  simp only[jU,bH]at c;exact Ks c.2 (by simpa using h) (by simpa using h')
 |a::r,[],j,p,q,c,_,_=>by cases c
def fi{El:Nat->Type}(bl:List (aD El))(sel:List Nat)(a:List bI)(j:Nat):Nat:=(match nth sel j with
 |some i=>tr bl i
 |none=>0)+b' true a j
def vh{El:Nat->Type}(bl:List (aD El))(sel:List Nat)(a:List bI)(b:cF El a):List (aD El):=xf bl sel (bM (iH sel bl.length) (fi bl sel a) true a b)
def gj{El:Nat->Type}(bl:List (aD El))(sel:List Nat)(a:List bI)(b:cF El a):List (aD El):=fZ bl sel (vh bl sel a b)
section
variable{T:bR}{W w w':World}{M0:List Nat}{X:Nat->Prop}{bl:List (aD T.El)}{ρ ny dK:List Value}{sel:List Nat}{pre cn:List bI}{dp:cF T.El pre}{eC:cF T.El cn}{mC gq:Nat->Nat}
theorem Pk{σ g:Nat->Nat}{post:Bool}:∀ {ps:List bI}{d:cF T.El ps}{j:Nat}{B:aD T.El},(bM σ g post ps d)[j]? =some B-> ∃p a,ps[j]? =some p/\B=dx σ g post p a/\ ∀σ' g',(bM σ' g' post ps d)[j]? =some (dx σ' g' post p a)
 |[],d,j,B,h=>by simp[bM]at h
 |p::r,d,0,B,h=>by
  simp only[bM,dG,aF]at h;subst h;exact⟨p,d.1,rfl,rfl,λ _ _=>rfl⟩
 |p::r,d,j+1,B,h=>by
  obtain⟨q,a,b,J,ap⟩:=Pk (ps:=r) (d:=d.2) (j:=j) (by simpa[bM]using h);exact⟨q,a,by simpa using b,J,λ σ' g'=>by simpa[bM]using ap σ' g'⟩
theorem back(o:Mem T W M0 X bl ρ w)(aj:mv bl ρ (bM id mC false pre dp) ny sel)(kx:sel.length=pre.length)(c:∀(j i:Nat)(B:aD T.El)(p:bI),sel[j]? =some i->bl[i]? =some B->pre[j]? =some p->qk p B)(b5:jU pre cn=true)
 (bC:∀i∈sel,i<bl.length)(axZ:∀j,gq j=b' true cn j)
 (r:Mem T w (rz (bM id mC false pre dp) ny) (jE X bl ρ sel) (bM id gq true cn eC) dK w')(aK:To (jE X bl ρ sel) (bM id mC false pre dp) (bM id gq true cn eC) ny dK w w') :
 Mem T W M0 X (gj bl sel cn eC) (fZ ρ sel dK) w'/\To X bl (gj bl sel cn eC) ρ (fZ ρ sel dK) w w'/\gW bl ρ w w' sel/\
  ∀pas (da:dn T.El pas) vs,a7 T (bi (jE X bl ρ sel) (bM id gq true cn eC) dK w') w' dK (bM id gq true cn eC) (ga id gq pas da) vs->a7 T (bi X (gj bl sel cn eC) (fZ ρ sel dK) w') w' (fZ ρ sel dK) (gj bl sel cn eC) (ga (iH sel bl.length) (fi bl sel cn) pas da) vs:=by
 have agG:(bM id mC false pre dp).length=pre.length:=mU
 have VR:(bM id gq true cn eC).length=cn.length:=mU
 have azv:dK.length=cn.length:=by rw[r.len,VR]
 have aMO:ny.length=pre.length:=by rw[aj.len,agG]
 have af':=Kt b5
 have ka:sel.Nodup:=by
  refine jr.2 λ i j hi aA IU e=>?_;have:=aj.inj i j _ (aJ hi) (by rw[e];exact aJ aA);omega
 have aBM:(vh bl sel cn eC).length=cn.length:=by rw[vh,alj,mU]
 have Z:sel.length<=(vh bl sel cn eC).length:=by omega
 have s2:sel.length<=dK.length:=by omega
 have ayl:∀i∈sel,i<ρ.length:=λ i hi=>by rw[o.len];exact bC i hi
 have l1:(gj bl sel cn eC).length=bl.length+(cn.length-sel.length):=by rw[gj,Xp Z,aBM]
 have cI:(fZ ρ sel dK).length=bl.length+(cn.length-sel.length):=by rw[Xp s2,o.len,azv]
 have RO:∀(j:Nat)(v:Value),dK[j]? =some v->(fZ ρ sel dK)[iH sel bl.length j]? =some v:=λ j v aA=>by
  rcases gg j sel.length with e |e
  ·have d:=aJ e
   rw[Gz d,OE s2 ka ayl d];exact aA
  ·rw[ZR e,<-o.len,OG s2,show sel.length+(j-sel.length)=j by omega];exact aA
 have A:∀(j:Nat),j<cn.length->(gj bl sel cn eC)[iH sel bl.length j]? =(vh bl sel cn eC)[j]? :=λ j aA=>by
  rcases gg j sel.length with e |e
  ·have d:=aJ e
   rw[Gz d,gj,OE Z ka bC d]
  ·rw[ZR e,gj,OG Z,show sel.length+(j-sel.length)=j by omega]
 have E:∀(j:Nat),j<sel.length-> ∃i B h,sel[j]? =some i/\bl[i]? =some B/\ρ[i]? =some h/\ny[j]? =some h/\ ∃p,pre[j]? =some p/\qk p B:=λ j aA=>by
  have NA:j<(bM id mC false pre dp).length:=by omega
  have Ck:j<ny.length:=by omega
  obtain⟨i,B,d,ak,aS,_⟩:=aj.at_ j _ _ (aJ NA) (aJ Ck);have F:j<pre.length:=by omega
  exact⟨i,B,_,d,ak,aS,aJ Ck,_,aJ F,c j i B _ d ak (aJ F)⟩
 have G:∀B:aD T.El,hd none B=B:=λ B=>by cases B<;>rfl
 have Sj:∀(j:Nat)(B:aD T.El),(vh bl sel cn eC)[j]? =some B-> ∃q f,cn[j]? =some q/\(bM id gq true cn eC)[j]? =some (dx id gq true q f)/\B=hd ((sel[j]?).bind λ i=>nth bl i) (dx (iH sel bl.length) (fi bl sel cn) true q f):=λ j B bO=>by
  rw[vh,ali,cu]at bO;obtain⟨iR,s,J⟩:=bO;obtain⟨q,f,d,ak,aS⟩:=Pk s;refine⟨q,f,d,aS _ _,?_⟩;subst ak;rw[<-J];cases aMI:sel[j]? with
  |none=>exact(G _).symm
  |some i=>rfl
 have H:∀(q:bI)(f:sQ T.El q)(σ g σ' g':Nat->Nat)(u:Value),bB (dx σ g true q f) u=bB (dx σ' g' true q f) u:=λ q f σ g σ' g' u=>by cases q<;>rfl
 have cs:∀(i:Nat)(B:aD T.El)(h:Value),(gj bl sel cn eC)[i]? =some B->(fZ ρ sel dK)[i]? =some h->(i∉sel/\bl[i]? =some B/\ρ[i]? =some h)\/
  ∃j q f,cn[j]? =some q/\dK[j]? =some h/\iH sel bl.length j=i/\(bM id gq true cn eC)[j]? =some (dx id gq true q f)/\B=hd ((sel[j]?).bind λ i=>nth bl i) (dx (iH sel bl.length) (fi bl sel cn) true q f):=λ i B h bO I=>by
  rcases aCs Z ka bC bO with⟨d,ak,aS⟩|⟨j,d,ak⟩
  ·left
   rw[FZ d (by rw[o.len];exact ak)]at I
   exact⟨d,aS,I⟩
  ·right
   obtain⟨q,f,m,n,l⟩:=Sj j B d
   have aA:j<cn.length:=(aO.1 m).1
   have K:iH sel bl.length j=i:=by
    rcases ak with⟨_,ak⟩|⟨ak,aS⟩
    ·exact Gz ak
    ·rw[ZR ak,aS]
   have L:=RO j _ (aJ (by omega:j<dK.length))
   rw[K,I]at L
   simp only[aF]at L
   exact⟨j,q,f,m,by rw[L];exact aJ _,K,n,l⟩
 have X1:∀k,pT (gj bl sel cn eC) (fZ ρ sel dK) k->(∃i B h,i∉sel/\bl[i]? =some B/\ρ[i]? =some h/\k∈bB B h)\/pT (bM id gq true cn eC) dK k:=λ k c=>by
  obtain⟨i,B,h,s,J,ap⟩:=c;rcases cs i B h s J with⟨d,ak,aS⟩|⟨j,q,f,d,ak,aS,bN,rfl⟩
  ·exact .inl ⟨i,B,h,d,ak,aS,ap⟩
  ·rw[KS,H q f _ _ id gq]at ap
   exact .inr ⟨j,_,h,bN,ak,ap⟩
 have M:∀k,bi (jE X bl ρ sel) (bM id gq true cn eC) dK w' k->bi X (gj bl sel cn eC) (fZ ρ sel dK) w' k:=λ k c=>⟨λ aa=>c.1 (.inl aa),λ N=>by
  rcases X1 k N with h |h
  ·exact c.1 (.inr h)
  ·exact c.2.1 h,c.2.2⟩
 have O:∀k,bi X bl ρ w k->bi X (gj bl sel cn eC) (fZ ρ sel dK) w' k/\w'.heap[k]? =w.heap[k]? :=λ k c=>⟨⟨c.1,λ N=>by
  rcases X1 k N with⟨i,B,h,_,s,J,ap⟩|h
  ·exact c.2.1 ⟨i,B,h,s,J,ap⟩
  ·rcases(r.lt k h).2 with e |e
   ·exact c.2.1 (aj.own (th.1 e))
   ·have:=c.2.2;omega,en c.2.2 r.bW.size⟩,r.bW.block k c.2.2 λ e=>c.2.1 (aj.own (th.1 e))⟩
 have P:∀j,gq j=b1 (bM id gq true cn eC)[j]? :=λ j=>by rw[Gi];exact axZ j
 have ki:∀(j:Nat)(q:bI),cn[j]? =some q->j<sel.length-> ∃i B,sel[j]? =some i/\bl[i]? =some B/\qk q B:=λ j q aA al=>by
  obtain⟨i,B,h,d,ak,_,_,p,dq,eH⟩:=E j al;have:=Ks b5 dq aA;refine⟨i,B,d,ak,?_⟩;cases p<;>cases q<;>simp only[yX,hG]at this<;>cases B<;>simp only[qk]at eH⊢;rw[eH,bd this]
 have ft:∀j v,dK[j]? =some v->fi bl sel cn j=b1 (gj bl sel cn eC)[iH sel bl.length j]? :=λ j v aA=>by
  have mG:j<cn.length:=by have:=(aO.1 aA).1;omega
  rw[A j mG];have Q:j<(vh bl sel cn eC).length:=by omega
  obtain⟨q,f,d,ak,aS⟩:=Sj j _ (aJ Q);rw[aJ Q,aS];rw[fi,c7,b',d];rcases gg j sel.length with al |al
  ·obtain⟨i,B,m,n,l⟩:=ki j q d al
   rw[m]
   simp only[ae,c7,n,B6]
   cases q<;>cases B<;>simp only[qk]at l<;>simp[hd,dx,b1,eZ]
  ·rw[gH al]
   simp only[Option.bind_none,G,jx]
   cases q<;>rfl
 have R:mr T ρ (fZ ρ sel dK) bl (gj bl sel cn eC):=⟨λ i h hi=>by
  have cq:i<ρ.length:=(aO.1 hi).1;by_cases fk:i∈sel
  ·obtain⟨j,aA,rfl⟩:=iP.1 fk
   obtain⟨i,B,aG,d,ak,aS,bN,p,dq,eH⟩:=E j aA
   have Th:sel[j]=i:=by rw[aJ aA]at d;exact ei d
   rw[Th]at hi⊢
   rw[hi]at aS
   cases aS
   obtain⟨h',bk,bh,cd,dh⟩:=aK.L.at_ j h bN
   have mG:j<cn.length:=by omega
   have Q:j<(vh bl sel cn eC).length:=by omega
   obtain⟨q,f,m,n,l⟩:=Sj j _ (aJ Q)
   have bO:=A j mG
   rw[Gz d,aJ Q,l,d]at bO
   simp only[ae,c7,ak]at bO
   have az:=RO j h' bk
   rw[Gz d]at az
   refine⟨h',az,bh,?_⟩
   rw[bO,ak]
   obtain⟨i2,q5,m1,m2,m3⟩:=ki j q m aA
   rw[d]at m1
   cases m1
   rw[ak]at m2
   cases m2
   have t:b1 (bM id mC false pre dp)[j]? =0:=by
    rw[Gi,dq];cases p<;>rfl
   have y:b1 (bM id gq true cn eC)[j]? =eZ true (some q):=by rw[Gi,m]
   rw[t,y]at dh
   cases q<;>cases B<;>simp only[qk]at m3
   ·exact⟨cC _,λ _=>⟨(dh rfl).1,rfl,cC _,λ _=>rfl⟩⟩
   ·subst m3
    refine⟨by simp[hd,dx,b1],λ e=>⟨(dh (by simpa[hd,dx,b1]using e)).1,rfl,by simp[hd,dx,gQ],λ e=>?_⟩⟩
    simp[hd,dx,gQ,z7]at e
   ·exact⟨cC _,λ _=>⟨(dh rfl).1,rfl,cC _,λ _=>rfl⟩⟩
   ·exact⟨gK _,λ e=>by simp[hd,dx,b1,eZ]at e⟩
   ·exact⟨by simp[hd,dx,b1],λ e=>by simp[hd,dx,b1,eZ]at e⟩
   ·exact⟨gK _,λ e=>by simp[hd,dx,b1,eZ]at e⟩
   ·exact⟨by simp[hd,dx,b1],λ e=>by simp[hd,dx,b1,eZ]at e⟩
  ·have af:(gj bl sel cn eC)[i]? =bl[i]? :=FZ fk (by rw[<-o.len];exact cq)
   refine⟨h,by rw[FZ fk cq];exact hi,λ _=>rfl,?_⟩
   rw[af]
   exact⟨cC _,λ _=>⟨rfl,rfl,cC _,λ _=>rfl⟩⟩⟩
 have S:∀(i:Nat)(B:aD T.El)(h:Value),i∉sel->bl[i]? =some B->ρ[i]? =some h-> ∀k∈bB B h,k<w.heap.size/\k∉rz (bM id mC false pre dp) ny:=λ i B h hi s J k c=>by
  refine⟨(o.lt k ⟨i,B,h,s,J,c⟩).1,λ e=>?_⟩;obtain⟨j,C,u,m,n,l⟩:=th.1 e;obtain⟨i',iR,t,y,U,V⟩:=aj.at_ j C u m n;have l:=V _ _ l;refine o.bz i i' B iR h u s J y U (λ e=>?_) k c l;subst e;exact hi (bE t)
 have asB:To X bl (gj bl sel cn eC) ρ (fZ ρ sel dK) w w':=⟨O,R,r.bW.size,λ i B' h' hi I k c VS=>by
  rcases cs i B' h' hi I with⟨_,ak,aS⟩|⟨j,q,f,d,ak,aS,bN,rfl⟩
  ·exact⟨B',h',ak,aS,c⟩
  ·rw[KS,H q f _ _ id gq]at c
   obtain⟨iR,aG,m,n,l⟩:=aK.nT j _ h' bN ak k c VS
   obtain⟨i',B,t,y,U,V⟩:=aj.at_ j iR aG m n
   rw[Gz t]at aS
   subst aS
   exact⟨B,aG,y,U,V _ _ l⟩⟩
 refine⟨⟨o.bW.trans r.bW λ k c=>(o.lt k (aj.own (th.1 c))).2,by rw[l1,cI],o.hL,λ k c=>?_,?_,?_⟩,asB,λ k c aC=>?_,λ pas da vs L=>aju M RO P ft L⟩
 ·rcases X1 k c with⟨i,B,h,_,s,J,ap⟩|h
  ·have:=o.lt k ⟨i,B,h,s,J,ap⟩
   exact⟨en this.1 r.bW.size,this.2⟩
  ·refine⟨(r.lt k h).1,?_⟩
   rcases(r.lt k h).2 with e |e
   ·exact(o.lt k (aj.own (th.1 e))).2
   ·exact .inr (gJ o.bW.size e)
 ·intro a b B C u v s J ap a' b2 k c z
  have Y:∀(i:Nat)(D:aD T.El)(x:Value),i∉sel->bl[i]? =some D->ρ[i]? =some x->k∈bB D x->pT (bM id gq true cn eC) dK k->False:=λ i D x hi d1 d2 d3 N=>by
   obtain⟨br,bA⟩:=S i D x hi d1 d2 k d3;rcases(r.lt k N).2 with e |e
   ·exact bA e
   ·omega
  rcases cs a B u s J with⟨d,ak,aS⟩|⟨j,q,f,d,ak,aS,bN,rfl⟩
  ·rcases cs b C v ap a' with⟨m,n,l⟩|⟨gy,Dg,H4,m,n,l,f4,rfl⟩
   ·exact o.bz a b B C u v ak aS n l b2 k c z
   ·rw[KS,H Dg H4 _ _ id gq]at z
    exact Y a B u d ak aS c ⟨gy,_,v,f4,n,z⟩
  ·rw[KS,H q f _ _ id gq]at c
   rcases cs b C v ap a' with⟨m,n,l⟩|⟨gy,Dg,H4,m,n,l,f4,rfl⟩
   ·exact Y b C v m n l z ⟨j,_,u,bN,ak,c⟩
   ·rw[KS,H Dg H4 _ _ id gq]at z
    refine r.bz j gy _ _ u v bN ak f4 n (λ e=>?_) k c z
    subst e
    exact b2 (aS.symm.trans l)
 ·intro i B h s J
  rcases cs i B h s J with⟨d,ak,aS⟩|⟨j,q,f,d,ak,aS,bN,rfl⟩
  ·exact(o.ok i B h ak aS).later O R λ k c=>by
    obtain⟨br,bA⟩:=S i B h d ak aS k c;exact r.bW.block k br bA
  ·exact aDU M RO P ft (r.ok j _ h bN ak)
 ·refine r.bW.block k c λ e=>?_
  obtain⟨j,C,u,m,n,l⟩:=th.1 e
  obtain⟨i',iR,t,y,U,V⟩:=aj.at_ j C u m n
  have l:=V _ _ l
  exact aC i' (bE t) iR u y U l
end
end bc
namespace bc
open Go Go.RowKit aw I
def n5:Nat->List (Nat×Nat)
 |0=>[]
 |n+1=>(n,n)::n5 n
theorem Cx{n:Nat}{p:Nat×Nat}:p∈n5 n↔p.1<n/\p.2=p.1:=by
 induction n with
 |zero=>simp[n5]
 |succ n d=>
  simp only[n5,cR,d]
  constructor
  ·rintro(rfl |⟨c,J⟩)
   ·exact⟨lv _,rfl⟩
   ·exact⟨by omega,J⟩
  ·rintro⟨c,J⟩
   rcases gg p.1 n with e |e
   ·exact .inr ⟨e,J⟩
   ·left
    obtain⟨a,b⟩:=p
    simp only at c J e
    simp only[ca]
    omega
theorem Cw{n:Nat}:jz (n5 n):=⟨λ p a q b e=>by rw[(Cx.1 a).2,(Cx.1 b).2,e],λ p a q b e=>by rw[<-(Cx.1 a).2,<-(Cx.1 b).2,e]⟩
theorem s6:jz []:=⟨λ p a=>by simp at a,λ p a=>by simp at a⟩
def xd{El:Nat->Type}(n:Nat)(y:aH El):List (aH El):=match bS n 1 with
 |true=>[y]
 |false=>match y with
  | .u ys=>ys
  | .p (.tuple ⟨vs⟩)=>vs.map .p
  |y=>[y]
section
variable{T:bR}{W w w':World}{M0:List Nat}{X:Nat->Prop}{bl:List (aD T.El)}{ρ:List Value}
theorem N5{El:Nat->Type}{pre c:List bI}(a:jU pre c=true){j:Nat}{p:bI}{B:aD El}(b:pre[j]? =some p)(h:p≠ .d->qk p B):qk p B:=h λ e=>by
 subst e;have aA:=(aO.1 b).1;have d:=Kt a;have:=Ks a b (aJ (by omega));simp[yX]at this
theorem awy{aY b:List (Nat×Nat)}{post:Bool}:∀ {p:bI}{B:aD T.El}{d:sQ T.El p},iA bl aY post p B=some (d,b)->(p≠ .d->qk p B)/\(post=true->eZ true (some p)=0 ->b1 (some B)=0)
 | .c ty ps,B,d,h=>by
   simp only[iA]at h;split at h
   ·exact⟨λ _=>trivial,λ _ _=>rfl⟩
   ·cases h
 | .r t same,B,d,h=>by
   simp only[iA]at h;split at h
   ·split at h
    ·rename_i af
     obtain⟨x,c,h⟩:=cu.1 h
     obtain⟨e,_⟩:=ajZ c
     refine⟨λ _=>e,λ f a=>?_⟩
     subst f
     cases same with
     |false=>simp[eZ]at a
     |true=>simpa[b1]using bd (by simpa using af)
    ·cases h
   ·cases h
 | .m kt vt,B,d,h=>by
   simp only[iA]at h;split at h
   ·exact⟨λ _=>trivial,λ _ _=>rfl⟩
   ·cases h
 | .d,B,d,h=>by
   simp only[iA]at h;split at h<;>first |exact⟨λ h=>absurd rfl h,λ _ a=>by simp[eZ]at a⟩|cases h
theorem afO{post:Bool}:∀ {ps:List bI}{aY b:List (Nat×Nat)}{k:Nat}{d:cF T.El ps},nV bl post aY k ps=some (d,b)-> ∀(m:Nat)(p:bI),ps[m]? =some p-> ∃i B,(k+m,i)∈b/\bl[i]? =some B/\(p≠ .d->qk p B)/\(post=true->eZ true (some p)=0 ->b1 (some B)=0)
 |[],aY,b,k,d,_,m,p,a=>by simp at a
 |q::r,aY,b,k,d,h,m,p,a=>by
  simp only[nV]at h;split at h
  ·rename_i i hi
   split at h
   ·rename_i B bO
    split at h
    ·rename_i j l c
     split at h
     ·rename_i n o J
      cases h
      have e:=(E_ J).1
      have f:=(M' c).1
      rw[c7]at bO
      cases m with
      |zero=>
       simp only[dG,aF]at a
       subst a
       exact⟨i,B,e _ (f _ (ob hi)),bO,awy c⟩
      |succ m=>
       obtain⟨i',q5,g,ak,aS⟩:=afO J m p (by simpa using a)
       exact⟨i',q5,by rw[show k+(m+1)=k+1+m by omega];exact g,ak,aS⟩
     ·cases h
    ·cases h
   ·cases h
  ·cases h
theorem B5{aY:List (Nat×Nat)}(aL:jz aY){post:Bool}{pas:List cL}{pbs:List bI}{ys:List (aH T.El)}{a:dn T.El pas×cF T.El pbs}{sel:List Nat}(h:ii bl aY post pas pbs ys=some (a,sel)) :
 sel.length=pbs.length/\ ∀(j i:Nat)(p:bI),sel[j]? =some i->pbs[j]? =some p-> ∃B,bl[i]? =some B/\(p≠ .d->qk p B)/\(post=true->eZ true (some p)=0 ->b1 (some B)=0):=by
 unfold ii at h
 split at h
 ·rename_i g k b
  split at h
  ·rename_i l m J
   split at h
   ·rename_i n ap o
    simp only[aF,ca]at h
    obtain⟨rfl,rfl⟩:=h
    have c:=(E_ J).2 ((M_ b).2 aL)
    obtain⟨l1,d⟩:=Wr ap
    refine⟨l1,λ j i p aA e=>?_⟩
    obtain⟨i',B,f,ak,aS⟩:=afO J j p e
    have:=c.fn _ f _ (d j i aA) rfl
    simp only at this
    subst this
    exact⟨B,ak,aS⟩
   ·cases h
  ·cases h
 ·cases h
theorem W'{pre a:List bI}{dp:cF T.El pre}{f:cF T.El a}{mC gq:Nat->Nat}{s C D:List Value}{t:List (aD T.El)}{sel:List Nat}(J:s.length=pre.length)(b:To X (bM id mC false pre dp) t s D w w')(aj:mv t D (bM id gq true a f) C sel)
 (u:∀j,j<pre.length->sel[j]? =some j)(Z:sel.length=a.length)(E:jU pre a=true)(g:∀(j i:Nat)(p:bI),sel[j]? =some i->a[j]? =some p-> ∃B,t[i]? =some B/\(p≠ .d->qk p B)/\(true=true->eZ true (some p)=0 ->b1 (some B)=0)) :
 To X (bM id mC false pre dp) (bM id gq true a f) s C w w':=by
 have K:=Kt E
 refine⟨λ k g=>⟨aj.Kj (b.F k g).1,(b.F k g).2⟩,⟨λ i h hi=>?_⟩,b.sz,λ i B' h' hi L k v M=>?_⟩
 ·have c:i<pre.length:=by have:=(aO.1 hi).1;omega
  obtain⟨h',N,O,cd,l⟩:=b.L.at_ i h hi
  have m:i<(bM id gq true a f).length:=by rw[mU];omega
  obtain⟨i',B,n,ak,aS,bN⟩:=aj.at_ i _ _ (aJ m) (aJ (by rw[aj.len];exact m))
  rw[u i c]at n
  cases n
  rw[N]at aS
  have aS:=ei aS
  refine⟨h',by rw[aJ (by rw[aj.len];exact m),aS],O,?_⟩
  have F:i<pre.length:=c
  have G:=aJ F
  have x:i<a.length:=by omega
  have y:=aJ x
  have kk:=Ks E G y
  obtain⟨q5,P,m2,o⟩:=g i i _ (u i c) y
  obtain⟨Q,z⟩:∃B,(bM id mC false pre dp)[i]? =some B:=⟨_,aJ (by rw[mU];exact F)⟩
  obtain⟨R,H⟩:∃B,(bM id gq true a f)[i]? =some B:=⟨_,aJ m⟩
  obtain⟨pp,dL,q,r,_⟩:=Pk z
  obtain⟨S,H4,I,U,_⟩:=Pk H
  rw[G]at q
  rw[y]at I
  subst r;subst U
  have A:=ei q
  have d:=ei I
  rw[A,d]at kk
  rw[d]at o
  rw[z,H]
  rw[z,P]at l
  cases pp<;>cases S<;>simp only[yX,hG]at kk
  ·exact⟨cC _,λ _=>⟨(l (o rfl rfl)).1,rfl,cC _,λ _=>rfl⟩⟩
  ·exact⟨gK _,λ e=>by simp[dx,b1,eZ]at e⟩
  ·have:=bd kk
   subst this
   refine⟨by simp[dx,b1,eZ],λ e=>⟨(l ?_).1,rfl,by simp[dx,gQ,z7],λ e=>by simp[dx,gQ,z7]at e⟩⟩
   have:=o rfl (by simpa[dx,b1,eZ]using e)
   simpa[dx,b1,eZ]using this
  ·exact⟨by simp[dx,b1,eZ],λ e=>by simp[dx,b1,eZ]at e⟩
  ·exact⟨cC _,λ _=>⟨(l (o rfl rfl)).1,rfl,cC _,λ _=>rfl⟩⟩
  ·exact⟨gK _,λ e=>by simp[dx,b1,eZ]at e⟩
 ·obtain⟨i',B,n,ak,aS,bN⟩:=aj.at_ i B' h' hi L
  have v:=bN _ _ v
  obtain⟨iR,V,q,r,Y⟩:=b.nT i' B h' ak aS k v M
  have c:i'<pre.length:=by have:=(aO.1 r).1;omega
  have:=aj.inj i i' i' n (u i' c)
  subst this
  exact⟨iR,V,q,r,Y⟩
end
end bc
namespace bc
open Go Go.RowKit aw I
section
variable{El:Nat->Type}
def Ic(pbs:List bI)(p:iS)(bl:List (aD El))(y:aH El):List (aD El)×aH El:=match p with
 | .l _=>gk bl y
 | .R j=>match y,nth pbs j with
   | .p (.slice none 0 0),some (.r t _)=>(bl++[.r t 0 0 []],.r bl.length 0)
   | .v i g (.ofNat 0) hi,_=>match nth bl i with
     |some (.r t a _ l)=>match bS g a with
      |true=>(bl.set i (.r t (a+1) 0 (l.take hi.toNat)),.r i (a+1))
      |false=>(bl,y)
     |_=>(bl,y)
   |_,_=>(bl,y)
 |_=>(bl,y)
def p8(pbs:List bI):List iS->List (aD El)->List (aH El)->List (aD El)×List (aH El)
 |p::r,bl,y::ys=>match Ic pbs p bl y with
  |(a,b)=>match p8 pbs r a ys with
   |(c,d)=>(c,b::d)
 |_,bl,ys=>(bl,ys)
def Ia(pbs:List bI)(p:cL)(bl:List (aD El))(y:aH El):List (aD El)×aH El:=match p with
 | .p p=>Ic pbs p bl y
 | .a ps=>match lf y with
   |true=>match p8 pbs ps bl (cellsOf y)with
    |(a,ys)=>(a,.a ys)
   |false=>(bl,y)
 | .f _ ps=>match y with
   | .f g cs=>match p8 pbs ps bl cs with
     |(a,ys)=>(a,.f g ys)
   |_=>(bl,y)
def nO(pbs:List bI):List cL->List (aD El)->List (aH El)->List (aD El)×List (aH El)
 |p::r,bl,y::ys=>match Ia pbs p bl y with
  |(a,b)=>match nO pbs r a ys with
   |(c,d)=>(c,b::d)
 |_,bl,ys=>(bl,ys)
def vw(pbs:List bI):List (Nat×Nat)->Nat->List bI->List (aD El)->List (aD El)
 |aY,k,.c ty ps::r,bl=>match cD aY k with
  |some i=>match nth bl i with
   |some (.c _ cs)=>match p8 pbs ps bl cs with
    |(a,b)=>match nth a i with
     |some (.c c _)=>match nW (a.set i (.c c b)) aY ps b with
      |some (_,d)=>vw pbs d (k+1) r (a.set i (.c c b))
      |none=>a.set i (.c c b)
     |_=>bl
   |_=>bl
  |none=>bl
 |aY,k,_::r,bl=>vw pbs aY (k+1) r bl
 |_,_,[],bl=>bl
def gv(aY:List (Nat×Nat))(pas:List cL)(pbs:List bI)(bl:List (aD El))(ys:List (aH El)):List (aD El)×List (aH El):=match nO pbs pas bl ys with
 |(a,b)=>match lH a aY pas b with
  |some (_,c)=>(vw pbs c 0 pbs a,b)
  |none=>(a,b)
end
section
variable{T:bR}{W w:World}{M0:List Nat}{X:Nat->Prop}{bl bl':List (aD T.El)}{ρ:List Value}{pbs:List bI}
theorem Mem.atP(a:Mem T W M0 X bl ρ w){i t g k:Nat}{l:List (T.El t)}{A:Option Addr}{c q:Nat}(hi:bl[i]? =some (.r t g k l))(b:ρ[i]? =some (.slice A l.length c))(d:q<=l.length) :
 Mem T W M0 X (bl.set i (.r t (g+1) 0 (l.take q))) (ρ.set i (.slice A q c)) w/\To X bl (bl.set i (.r t (g+1) 0 (l.take q))) ρ (ρ.set i (.slice A q c)) w w:=by
 obtain⟨cj,n,xs,j,ak,aS⟩:=a.ok i _ _ hi b
 simp only[Value.slice.injEq,true_and]at j
 obtain⟨rfl,rfl⟩:=j
 have ad:∀k'∈bB (aD.r (El:=T.El) t (g+1) 0 (l.take q)) (.slice A q c),k'∈bB (aD.r t g k l) (.slice A l.length c)\/(w.heap.size<=k'/\k'<w.heap.size):=λ k' m=>by
  left;revert m;cases A<;>cases c<;>simp[bB,af]
 have f:=a.Dq (B':=aD.r t (g+1) 0 (l.take q)) (h':=.slice A q c) (w':=w) hi b (bp.refl _ _) ad ⟨λ h=>absurd trivial h,Nat.le_succ _,λ e=>by simp[b1]at e⟩
 refine⟨a.gP hi b (bp.refl _ _) ad f ⟨A,c,xs.take (q*(T.ty t).size),by rw[gw,lJ d],?_,?_⟩,f⟩
 ·rw[gw,lJ d]
  exact ak.short d
 ·have:=uu 0 q (ov _ f.F aS)
  simpa using this
theorem afu(a:Mem T W M0 X bl ρ w){p:iS}{y e9:aH T.El}{v:Value}(h:Ic pbs p bl y=(bl',e9))(b:ar T (bi X bl ρ w) w ρ bl y v):∃ρ',Mem T W M0 X bl' ρ' w/\To X bl bl' ρ ρ' w w/\ar T (bi X bl' ρ' w) w ρ' bl' e9 v:=by
 have same:(bl,y)=(bl',e9)-> ∃ρ',Mem T W M0 X bl' ρ' w/\To X bl bl' ρ ρ' w w/\ar T (bi X bl' ρ' w) w ρ' bl' e9 v:=λ h=>by
  simp only[ca]at h;obtain⟨rfl,rfl⟩:=h;exact⟨ρ,a,.refl,b⟩
 unfold Ic at h;split at h
 ·obtain⟨r,J,ap⟩:=afF a h b
  exact⟨ρ,r,J,ap⟩
 ·split at h
  ·rename_i t _ _
   simp only[ca]at h
   obtain⟨rfl,rfl⟩:=h
   simp only[ar]at b
   subst b
   have ad:∀k∈bB (aD.r (El:=T.El) t 0 0 []) (.slice none 0 0),w.heap.size<=k/\k<w.heap.size:=λ k s=>by simp[bB,af]at s
   have x:=a.push (B:=aD.r t 0 0 []) (h:=.slice none 0 0) (bp.refl _ _) ad ⟨none,0,[],rfl,.inr ⟨rfl,rfl,none,rfl⟩,rfl⟩
   refine⟨_,x,a.z1 (bp.refl _ _) ad,?_⟩
   simp only[ar]
   refine⟨trivial,.slice none 0 0,by rw[<-a.len];simp,gK _,λ _=>rfl⟩
  ·rename_i i g hi
   split at h
   ·rename_i t F k l bO
    rw[c7]at bO
    split at h
    ·rename_i af
     simp only[ca]at h
     obtain⟨rfl,rfl⟩:=h
     simp only[ar]at b
     obtain⟨_,u,d,G,m⟩:=b
     rw[bO]at m
     obtain⟨A,n,c,B,o,H,I,z,e,f6,K⟩:=m (bd af)
     obtain⟨cj,L,xs,f,C,M⟩:=a.ok i _ _ bO d
     rw[o]at f
     simp only[Value.slice.injEq]at f
     obtain⟨rfl,rfl,rfl⟩:=f
     rw[o]at d
     have j:=f6 rfl
     subst j
     have e:v= .slice B hi.toNat c:=by simpa using e
     subst e
     obtain⟨D,E⟩:=a.atP bO d (q:=hi.toNat) (by have:hi<=(l.length:Int):=z;omega)
     refine⟨_,D,E,?_⟩
     simp only[ar]
     refine⟨trivial,_,fH (aO.1 d).1,?_,λ _=>rfl⟩
     rw[fH (aO.1 bO).1]
     exact cC _
    ·exact same h
   ·exact same h
  ·exact same h
 ·exact same h
theorem MP:∀ {ps:List iS}{ys b:List (aH T.El)}{bl bl':List (aD T.El)}{ρ:List Value}{vs:List Value},Mem T W M0 X bl ρ w->p8 pbs ps bl ys=(bl',b)->a7 T (bi X bl ρ w) w ρ bl ys vs-> ∃ρ',Mem T W M0 X bl' ρ' w/\To X bl bl' ρ ρ' w w/\a7 T (bi X bl' ρ' w) w ρ' bl' b vs
 |[],ys,b,bl,bl',ρ,vs,c,h,a=>by
  simp only[p8,ca]at h;obtain⟨rfl,rfl⟩:=h;exact⟨ρ,c,.refl,a⟩
 |_::_,[],b,bl,bl',ρ,vs,c,h,a=>by
  simp only[p8,ca]at h;obtain⟨rfl,rfl⟩:=h;exact⟨ρ,c,.refl,a⟩
 |p::r,y::ys,b,bl,bl',ρ,vs,c,h,a=>by
  simp only[a7]at a;obtain⟨u,us,rfl,g,i⟩:=a;simp only[p8]at h;cases d:Ic pbs p bl y with
  |mk j o=>
   rw[d]at h
   cases J:p8 pbs r j ys with
   |mk q s=>
    rw[J]at h
    simp only[ca]at h
    obtain⟨rfl,rfl⟩:=h
    obtain⟨ev,k,e,v1⟩:=afu c d g
    obtain⟨l,m,f,n⟩:=MP k J (e.vs i)
    refine⟨l,m,e.trans f,?_⟩
    simp only[a7]
    exact⟨u,us,rfl,f.v v1,n⟩
theorem av3(c:Mem T W M0 X bl ρ w){p:cL}{y e9:aH T.El}{v:Value}(h:Ia pbs p bl y=(bl',e9))(a:ar T (bi X bl ρ w) w ρ bl y v):∃ρ',Mem T W M0 X bl' ρ' w/\To X bl bl' ρ ρ' w w/\ar T (bi X bl' ρ' w) w ρ' bl' e9 v:=by
 have same:(bl,y)=(bl',e9)-> ∃ρ',Mem T W M0 X bl' ρ' w/\To X bl bl' ρ ρ' w w/\ar T (bi X bl' ρ' w) w ρ' bl' e9 v:=λ h=>by
  simp only[ca]at h;obtain⟨rfl,rfl⟩:=h;exact⟨ρ,c,.refl,a⟩
 unfold Ia at h;split at h
 ·exact afu c h a
 ·rename_i ps
  split at h
  ·rename_i f
   cases b:p8 pbs ps bl (cellsOf y)with
   |mk i ys=>
    rw[b]at h
    simp only[ca]at h
    obtain⟨rfl,rfl⟩:=h
    obtain⟨ev,d,e,v1⟩:=MP c b (oZ a)
    refine⟨ev,d,e,?_⟩
    rw[Jq (E:=⟨default,T,[],true,[],0,λ _=>[]⟩) f a]
    simp only[ar]
    exact⟨_,rfl,v1⟩
  ·exact same h
 ·rename_i j ps
  split at h
  ·rename_i g cs
   cases b:p8 pbs ps bl cs with
   |mk i ys=>
    rw[b]at h
    simp only[ca]at h
    obtain⟨rfl,rfl⟩:=h
    simp only[ar]at a
    obtain⟨vs,rfl,a⟩:=a
    obtain⟨ev,d,e,v1⟩:=MP c b a
    refine⟨ev,d,e,?_⟩
    simp only[ar]
    exact⟨_,rfl,v1⟩
  ·exact same h
theorem aft:∀ {ps:List cL}{ys b:List (aH T.El)}{bl bl':List (aD T.El)}{ρ:List Value}{vs:List Value},Mem T W M0 X bl ρ w->nO pbs ps bl ys=(bl',b)->a7 T (bi X bl ρ w) w ρ bl ys vs-> ∃ρ',Mem T W M0 X bl' ρ' w/\To X bl bl' ρ ρ' w w/\a7 T (bi X bl' ρ' w) w ρ' bl' b vs
 |[],ys,b,bl,bl',ρ,vs,c,h,a=>by
  simp only[nO,ca]at h;obtain⟨rfl,rfl⟩:=h;exact⟨ρ,c,.refl,a⟩
 |_::_,[],b,bl,bl',ρ,vs,c,h,a=>by
  simp only[nO,ca]at h;obtain⟨rfl,rfl⟩:=h;exact⟨ρ,c,.refl,a⟩
 |p::r,y::ys,b,bl,bl',ρ,vs,c,h,a=>by
  simp only[a7]at a;obtain⟨u,us,rfl,g,i⟩:=a;simp only[nO]at h;cases d:Ia pbs p bl y with
  |mk j o=>
   rw[d]at h
   cases J:nO pbs r j ys with
   |mk q s=>
    rw[J]at h
    simp only[ca]at h
    obtain⟨rfl,rfl⟩:=h
    obtain⟨ev,k,e,v1⟩:=av3 c d g
    obtain⟨l,m,f,n⟩:=aft k J (e.vs i)
    refine⟨l,m,e.trans f,?_⟩
    simp only[a7]
    exact⟨u,us,rfl,f.v v1,n⟩
theorem Mem.aGq(e:Mem T W M0 X bl ρ w){i g ty:Nat}{cs a:List (aH T.El)}{vs:List Value}(hi:bl[i]? =some (.c ty cs))(c:ρ[i]? =some (.pointer (some ⟨g,0,none⟩)))(hc:w.heap[g]? =some (.cells ⟨vs⟩ ty (0,0)))(h:a7 T (bi X bl ρ w) w ρ bl a vs):Mem T W M0 X (bl.set i (.c ty a)) ρ w/\To X bl (bl.set i (.c ty a)) ρ ρ w w:=by
 have b:=e.Dq (B':=aD.c ty a) (h':=.pointer (some ⟨g,0,none⟩)) (w':=w) hi c (bp.refl _ _) (λ q d=>.inl d) ⟨λ _=>rfl,cC _,λ _=>⟨rfl,rfl,cC _,λ _=>rfl⟩⟩;have f:=e.gP (B':=aD.c ty a) (h':=.pointer (some ⟨g,0,none⟩)) (w':=w) hi c (bp.refl _ _) (λ q d=>.inl d) b ⟨g,vs,rfl,hc,b.vs h⟩;rw[Gy c]at f b;exact⟨f,b⟩
theorem Ib:∀ {ps:List bI}{aY:List (Nat×Nat)}{k:Nat}{bl:List (aD T.El)}{ρ:List Value},Mem T W M0 X bl ρ w-> ∃ρ',Mem T W M0 X (vw pbs aY k ps bl) ρ' w/\To X bl (vw pbs aY k ps bl) ρ ρ' w w
 |[],aY,k,bl,ρ,a=>⟨ρ,a,.refl⟩
 | .r _ _::r,aY,k,bl,ρ,a=>by simp only[vw];exact Ib a
 | .m _ _::r,aY,k,bl,ρ,a=>by simp only[vw];exact Ib a
 | .d::r,aY,k,bl,ρ,a=>by simp only[vw];exact Ib a
 | .c ty ps::r,aY,k,bl,ρ,a=>by
   simp only[vw];split
   ·rename_i i hi
    split
    ·rename_i t0 cs bO
     rw[c7]at bO
     cases n:p8 pbs ps bl cs with
     |mk s t=>
      simp only
      split
      ·rename_i v x b
       rw[c7]at b
       obtain⟨u,f⟩:=a.rY bO
       obtain⟨g,vs,rfl,hc,o⟩:=a.ok i _ u bO f
       obtain⟨ev,h,c,v1⟩:=MP a n o
       obtain⟨y,d,p,_⟩:=c.L.at_ i _ f
       rw[p (by simp[kE])]at d
       obtain⟨g',z,j,ak,_⟩:=h.ok i _ _ b d
       simp only[Value.pointer.injEq,aF,Addr.mk.injEq,and_true]at j
       subst j
       rw[hc]at ak
       simp only[aF,Obj.cells.injEq,Array.mk.injEq,and_true]at ak
       obtain⟨rfl,rfl⟩:=ak
       obtain⟨l,m⟩:=h.aGq b d hc v1
       split
       ·obtain⟨e,q,t3⟩:=Ib l (ps:=r)
        exact⟨e,q,(c.trans m).trans t3⟩
       ·exact⟨ev,l,c.trans m⟩
      ·exact⟨ρ,a,.refl⟩
    ·exact⟨ρ,a,.refl⟩
   ·exact⟨ρ,a,.refl⟩
theorem vx(f:Mem T W M0 X bl ρ w){aY:List (Nat×Nat)}{pas:List cL}{ys a:List (aH T.El)}{vs:List Value}(h:gv aY pas pbs bl ys=(bl',a))(g:a7 T (bi X bl ρ w) w ρ bl ys vs):∃ρ',Mem T W M0 X bl' ρ' w/\To X bl bl' ρ ρ' w w/\a7 T (bi X bl' ρ' w) w ρ' bl' a vs:=by
 unfold gv at h;cases b:nO pbs pas bl ys with
 |mk k l=>
  rw[b]at h
  obtain⟨ev,c,d,v1⟩:=aft f b g
  simp only at h
  split at h
  ·simp only[ca]at h
   obtain⟨rfl,rfl⟩:=h
   obtain⟨i,j,e⟩:=Ib c (pbs:=pbs) (ps:=pbs)
   exact⟨i,j,d.trans e,e.vs v1⟩
  ·simp only[ca]at h
   obtain⟨rfl,rfl⟩:=h
   exact⟨ev,c,d,v1⟩
end
end bc
namespace bc
open Go Go.RowKit aw I
structure ej (T:bR) where
 pas:List cL
 pbs:List bI
 et:List cL
 dl:List bI
 fn:dn T.El pas×cF T.El pbs->Option (dn T.El et×cF T.El dl)
def ej.run(E:Env)(c:ej E.T)(ys:List (aH E.T.El))(bl:List (aD E.T.El)):D (fg E.T.El):=match gv [] c.pas c.pbs bl ys with
 |(a,b)=>match jU c.pbs c.dl,ii a [] false c.pas c.pbs b with
  |true,some (d,sel)=>.op (c.fn d) λ r=>.ok ⟨.ret (qB (ga (iH sel a.length) (fi a sel c.dl) c.et r.1)),gj a sel c.dl r.2,sel⟩
  |_,_=>.no
def ej.fin{T:bR}(c:ej T)(r:fg T.El):Option (dn T.El c.et×cF T.El c.dl):=match r.e with
 | .ret y=>match gv (n5 c.pbs.length) c.et c.dl r.bl (xd c.et.length y)with
   |(a,b)=>match ii a (n5 c.pbs.length) true c.et c.dl b with
    |some (d,_)=>some d
    |none=>none
 | .zB _=>none
def ej.Eq(E:Env)(bt:fb E)(LE:kV E)(f:Nat)(c:ej E.T):Prop:=∀(da:dn E.T.El c.pas)(db:cF E.T.El c.pbs),(nQ E bt LE f (ga id (b' false c.pbs) c.pas da) (bM id (b' false c.pbs) false c.pbs db)).run c.fin=c.fn (da,db)
section
variable{T:bR}{F:Nat->Prop}{w:World}{ρ:List Value}{bl:List (aD T.El)}
theorem U3:∀ {ps:List cL}{ys:List (aH T.El)}{aY a:List (Nat×Nat)}{d:dn T.El ps},lH bl aY ps ys=some (d,a)->ys.length=ps.length
 |[],[],aY,a,d,h=>rfl
 |p::r,y::ys,aY,a,d,h=>by
  simp only[lH]at h;split at h
  ·split at h
   ·rename_i J
    simp[U3 J]
   ·cases h
  ·cases h
 |[],y::ys,aY,a,d,h=>by simp[lH]at h
 |p::r,[],aY,a,d,h=>by simp[lH]at h
theorem aja:∀ {vs:List Value},vs.length≠1 ->pack vs= .tuple ⟨vs⟩
 |[],_=>rfl
 |[v],h=>by simp at h
 |v::u::r,_=>rfl
theorem alg{n:Nat}{y:aH T.El}{v:Value}(a:(xd n y).length=n)(h:ar T F w ρ bl y v):∃vs,a7 T F w ρ bl (xd n y) vs/\pack vs=v:=by
 unfold xd at a⊢;split at a
 ·refine⟨[v],?_,rfl⟩
  simp only[a7]
  exact⟨v,[],rfl,h,rfl⟩
 ·rename_i af
  have b:n≠1:=λ e=>by subst e;simp at af
  split at a
  ·simp only[ar]at h
   obtain⟨vs,rfl,J⟩:=h
   exact⟨vs,J,aja (by rw[J.len,a];exact b)⟩
  ·simp only[ar]at h
   subst h
   rename_i vs
   exact⟨vs,PG (E:=⟨default,T,[],true,[],0,λ _=>[]⟩) vs,aja (by simpa using(by simpa using a:vs.length=n)▸b)⟩
  ·simp at a
   exact absurd a.symm b
end
section
variable{E:Env}{bt:fb E}{LE:kV E}{f:Nat}
theorem afs{pbs:List bI}:∀ {ps:List cL}{ys a:List (aH E.T.El)}{bl bl':List (aD E.T.El)},nO pbs ps bl ys=(bl',a)->a.length=ys.length
 |[],ys,a,bl,bl',h=>by simp only[nO,ca]at h;rw[h.2]
 |_::_,[],a,bl,bl',h=>by simp only[nO,ca]at h;rw[<-h.2]
 |p::r,y::ys,a,bl,bl',h=>by
  simp only[nO]at h;cases b:Ia pbs p bl y with
  |mk c d=>
   rw[b]at h
   cases J:nO pbs r c ys with
   |mk e g=>
    rw[J]at h
    simp only[ca]at h
    rw[<-h.2,de,afs J,de]
theorem afv{aY:List (Nat×Nat)}{pas:List cL}{pbs:List bI}{ys a:List (aH E.T.El)}{bl bl':List (aD E.T.El)}(h:gv aY pas pbs bl ys=(bl',a)):a.length=ys.length:=by
 unfold gv at h;cases b:nO pbs pas bl ys with
 |mk c d=>
  rw[b]at h
  simp only at h
  split at h<;>(simp only[ca]at h;rw[<-h.2];exact afs b)
def ej.Sa(E:Env)(bt:fb E)(LE:kV E)(f:Nat)(c:ej E.T):Prop:=∀(da:dn E.T.El c.pas)(db:cF E.T.El c.pbs)(F:Nat->Prop)(w:World)(ρ:List Value)(bl:List (aD E.T.El))(vs:List Value),a7 E.T F w ρ bl (ga id (b' false c.pbs) c.pas da) vs ->
 ∃ys,a7 E.T F w ρ bl ys vs/\ ∀r,c.fn (da,db)=some r->(nQ E bt LE f ys (bM id (b' false c.pbs) false c.pbs db)).run c.fin=some r
theorem ej.Eq.v{c:ej E.T}(h:c.Eq E bt LE f):c.Sa E bt LE f:=λ da db _ _ _ _ _ a=>⟨_,a,λ _ b=>(h da db).trans b⟩
def ej.nC(E:Env)(bt:fb E)(LE:kV E)(f:Nat)(c:ej E.T):Prop:=∀(da:dn E.T.El c.pas)(db:cF E.T.El c.pbs) r,c.fn (da,db)=some r->(nQ E bt LE f (ga id (b' false c.pbs) c.pas da) (bM id (b' false c.pbs) false c.pbs db)).run c.fin=some r
theorem ej.nC.v{c:ej E.T}(h:c.nC E bt LE f):c.Sa E bt LE f:=λ da db _ _ _ _ _ a=>⟨_,a,λ r b=>h da db r b⟩
def ej.AU(E:Env)(f:Nat)(c:ej E.T):Prop:=∀(da:dn E.T.El c.pas)(db:cF E.T.El c.pbs) eS,c.fn (da,db)=some eS-> ∀(W:World)(M0:List Nat)(X:Nat->Prop)(ρ:List Value)(w:World)(vs:List Value),Mem E.T W M0 X (bM id (b' false c.pbs) false c.pbs db) ρ w->a7 E.T (bi X (bM id (b' false c.pbs) false c.pbs db) ρ w) w ρ (bM id (b' false c.pbs) false c.pbs db) (ga id (b' false c.pbs) c.pas da) vs ->
 ∃a,c.fin a=some eS/\Calls E.P f ⟨vs⟩ w λ e w'=>∃ρ',Mem E.T W M0 X a.bl ρ' w'/\To X (bM id (b' false c.pbs) false c.pbs db) a.bl ρ ρ' w w'/\gW (bM id (b' false c.pbs) false c.pbs db) ρ w w' a.ws/\BF E X a.bl ρ' w' a.e e
theorem Mr{c:ej E.T}(K:c.AU E f):j3 E f (c.run E):=by
 intro ys L r b W M0 X ρ0 w vs M _ N;unfold ej.run at b;cases C:gv [] c.pas c.pbs L ys with
 |mk bl cK=>
 rw[C]at b;obtain⟨ρ,q,io,O⟩:=vx M C N;simp only at b;split at b
 ·rename_i d sel s D
  obtain⟨da,db⟩:=d
  obtain⟨eS,P,J⟩:=b
  obtain⟨F,G⟩:=eS
  have J:(⟨.ret (qB (ga (iH sel bl.length) (fi bl sel c.dl) c.et F)),gj bl sel c.dl G,sel⟩:fg E.T.El)=r:=J
  subst J
  obtain⟨aj,_,Q⟩:=tq q s6 D
  obtain⟨R,g⟩:=B5 s6 D
  obtain⟨S,bO⟩:=Q (bi (jE X bl ρ sel) (bM id (b' false c.pbs) false c.pbs db) (gF ρ sel) w) λ k g=>aj.Gq g
  have T:=aj.enter q bO
  obtain⟨t,a,hc⟩:=K da db _ P _ _ _ _ _ vs T (S vs O)
  refine hc.mono λ e w' U=>?_
  obtain⟨u,V,Y,kN,l⟩:=U
  unfold ej.fin at a
  cases H:t.e with
  |zB y=>rw[H]at a;cases a
  |ret y=>
   rw[H]at a l
   simp only at a
   cases e with
   |returned v=>
    have l:ar E.T _ w' u t.bl y v:=l
    cases x:gv (n5 c.pbs.length) c.et c.dl t.bl (xd c.et.length y)with
    |mk HU nw=>
    rw[x]at a
    simp only at a
    split at a
    ·rename_i yl Z n
     have a:=ei a
     subst a
     have o:(xd c.et.length y).length=c.et.length:=by
      rw[<-afv x];unfold ii at n;split at n
      ·rename_i Vx
       exact U3 Vx
      ·cases n
     obtain⟨us,z,mb⟩:=alg o l
     obtain⟨AP,gM,Z8,z⟩:=vx V x z
     have KN:=Y.trans Z8
     obtain⟨A,rN,I'⟩:=tq gM Cw n
     obtain⟨yC,IY⟩:=B5 Cw n
     obtain⟨Cs,rE⟩:=I' (bi (jE X bl ρ sel) (bM id (b' true c.dl) true c.dl G) (gF AP Z) w') λ k g=>A.Kj g
     have VW:=A.leave gM rE
     have Wc:=W' (by rw[aj.len,mU]) KN A (λ j aA=>rN (j,j) (Cx.2 ⟨aA,rfl⟩)) yC s λ j i p h h'=>by
      obtain⟨B,m,ak,aS⟩:=IY j i p h h';exact⟨B,m,ak,aS⟩
     obtain⟨bQ,dS,fB,fL⟩:=back (gq:=b' true c.dl) q aj R (λ j i B p h h' I=>by
      obtain⟨B',m,ak,_⟩:=g j i p h I;rw[h']at m;cases m;exact N5 s I ak) s (λ i hi=>by
       obtain⟨j,aA,rfl⟩:=iP.1 hi;obtain⟨B,m,_⟩:=g j _ _ (aJ aA) (aJ (by omega:j<c.pbs.length));exact(aO.1 m).1) (λ j=>rfl) VW Wc
     refine⟨_,bQ,io.trans dS,?_,?_⟩
     ·have:=gW.nil.bF io fB
      rwa [hp]at this
     ·show ar E.T _ w' _ _ (qB _) v
      rw[<-mb]
      exact X2 (fL c.et F us (Cs us z))
    ·cases a
   |panicked yi=>exact l.elim
   |outgrown=>exact l.elim
 ·exact b.elim
theorem ES(a6:c8 E)(b:kU E bt)(d:u2 E LE)(e:E.cQ=[]){c:ej E.T}(h:c.Sa E bt LE f):j3 E f (c.run E):=Mr λ da db eS i W M0 X ρ w vs j k=>by
 obtain⟨l,m,heq⟩:=h da db _ _ _ _ _ k;obtain⟨n,o,p⟩:=D.sn (heq _ i);have q:∀ {r bl' ρ' w'},Hw E r bl' ρ' w':=λ{_ _ _ _} g y a=>by rw[e]at a;simp[cD]at a
 exact⟨n,p,((MR a6 b d).ok _ _ _ _ o).2 _ _ _ _ _ vs j q m⟩
theorem S5(a6:c8 E)(a:kU E bt)(b:u2 E LE)(d:E.cQ=[]){c:ej E.T}(e:c.Eq E bt LE f):j3 E f (c.run E):=ES a6 a b d e.v
end
end bc
namespace bc
open Go Go.RowKit aw I
structure mu where
 et:List cL
 dl:List bI
@[reducible] def Ei(El:Nat->Type)(w:mu):Type:=dn El w.et×cF El w.dl
@[reducible] def xK(El:Nat->Type):List mu->Type
  |[]=>Empty
  |[w]=>Ei El w
  |w::v::r=>Ei El w⊕xK El (v::r)
structure kq (T:bR) where
 pas:List cL
 pbs:List bI
 ws:List mu
 fn:dn T.El pas×cF T.El pbs->Option (xK T.El ws)
def Kn(E:Env)(bl:List (aD E.T.El))(sel:List Nat)(w:mu)(r:Ei E.T.El w):D (fg E.T.El):=.ok ⟨.ret (qB (ga (iH sel bl.length) (fi bl sel w.dl) w.et r.1)),gj bl sel w.dl r.2,sel⟩
def Gs(E:Env)(bl:List (aD E.T.El))(sel:List Nat):(ws:List mu)->Option (xK E.T.El ws)->D (fg E.T.El)
 |[],_=>.no
 |[w],o=>.op o λ d=>Kn E bl sel w d
 |w::v::r,o=>.uA o (λ d=>Kn E bl sel w d) (λ q=>Gs E bl sel (v::r) (some q))
def JX(pbs:List bI):List mu->Bool
 |[]=>true
 |w::r=>jU pbs w.dl&&JX pbs r
def kq.run(E:Env)(c:kq E.T)(ys:List (aH E.T.El))(bl:List (aD E.T.El)):D (fg E.T.El):=match gv [] c.pas c.pbs bl ys with
 |(a,b)=>match JX c.pbs c.ws,ii a [] false c.pas c.pbs b with
  |true,some (d,sel)=>Gs E a sel c.ws (c.fn d)
  |_,_=>.no
def Py{El:Nat->Type}(gC:Nat)(y:aH El)(bl:List (aD El))(w:mu):Option (Ei El w):=match gv (n5 gC) w.et w.dl bl (xd w.et.length y)with
 |(a,b)=>match ii a (n5 gC) true w.et w.dl b with
  |some (d,_)=>some d
  |none=>none
def PQ{El:Nat->Type}(gC:Nat)(y:aH El)(bl:List (aD El)):(ws:List mu)->Option (xK El ws)
 |[]=>none
 |[w]=>Py gC y bl w
 |w::v::r=>match Py gC y bl w with
  |some d=>some (.inl d)
  |none=>match PQ gC y bl (v::r)with
   |some q=>some (.inr q)
   |none=>none
def kq.fin{T:bR}(c:kq T)(r:fg T.El):Option (xK T.El c.ws):=match r.e with
 | .ret y=>PQ c.pbs.length y r.bl c.ws
 | .zB _=>none
def kq.Eq(E:Env)(bt:fb E)(LE:kV E)(f:Nat)(c:kq E.T):Prop:=∀(da:dn E.T.El c.pas)(db:cF E.T.El c.pbs),(nQ E bt LE f (ga id (b' false c.pbs) c.pas da) (bM id (b' false c.pbs) false c.pbs db)).run c.fin=c.fn (da,db)
section
variable{E:Env}{bt:fb E}{LE:kV E}{f:Nat}
theorem aiY{pbs:List bI}:∀ {ws:List mu}{w:mu},JX pbs ws=true->w∈ws->jU pbs w.dl=true
 |[],w,_,h=>by simp at h
 |v::r,w,h,hm=>by
  simp only[JX,bH]at h;rcases cR.1 hm with rfl |hm
  ·exact h.1
  ·exact aiY h.2 hm
theorem akp{gC:Nat}{y:aH E.T.El}{bl:List (aD E.T.El)}:∀ {ws:List mu}{r:xK E.T.El ws},PQ gC y bl ws=some r-> ∃(w:mu)(d:Ei E.T.El w),w∈ws/\Py gC y bl w=some d/\ ∀bl' sel t,(Gs E bl' sel ws (some r)).out t->(Kn E bl' sel w d).out t
 |[],r,h=>by cases h
 |[w],r,h=>⟨w,r,by simp,h,λ bl' sel t b=>by
  obtain⟨d,a,ak⟩:=b;simp only[aF]at a;subst a;exact ak⟩
 |w::v::ws,r,h=>by
  simp only[PQ]at h;split at h
  ·rename_i d aL
   simp only[aF]at h
   subst h
   refine⟨w,d,by simp,aL,λ bl' sel t b=>?_⟩
   rcases b with⟨d',a,ak⟩|⟨d',a,ak⟩
   ·simp only[aF,Sum.inl.injEq]at a
    subst a
    exact ak
   ·simp at a
  ·split at h
   ·rename_i q c
    simp only[aF]at h
    subst h
    obtain⟨w',d,e,J,ap⟩:=akp c
    refine⟨w',d,dX _ e,J,λ bl' sel t b=>?_⟩
    rcases b with⟨d',a,ak⟩|⟨d',a,ak⟩
    ·simp at a
    ·simp only[aF,Sum.inr.injEq]at a
     subst a
     exact ap bl' sel t ak
   ·cases h
theorem aGp{bl:List (aD E.T.El)}{sel:List Nat}:∀ {ws:List mu}{o:Option (xK E.T.El ws)}{t:fg E.T.El},(Gs E bl sel ws o).out t-> ∃r,o=some r/\(Gs E bl sel ws (some r)).out t
 |[],o,t,h=>h.elim
 |[w],o,t,h=>by
  obtain⟨d,a,ak⟩:=h;exact⟨d,a,d,rfl,ak⟩
 |w::v::r,o,t,h=>by
  rcases h with⟨d,a,ak⟩|⟨d,a,ak⟩
  ·exact⟨_,a,.inl ⟨d,rfl,ak⟩⟩
  ·exact⟨_,a,.inr ⟨d,rfl,ak⟩⟩
def kq.nC(E:Env)(bt:fb E)(LE:kV E)(f:Nat)(c:kq E.T):Prop:=∀(da:dn E.T.El c.pas)(db:cF E.T.El c.pbs) r,c.fn (da,db)=some r->(nQ E bt LE f (ga id (b' false c.pbs) c.pas da) (bM id (b' false c.pbs) false c.pbs db)).run c.fin=some r
theorem kq.Eq.one{c:kq E.T}(h:c.Eq E bt LE f):c.nC E bt LE f:=λ da db _ a=>(h da db).trans a
theorem adP(a6:c8 E)(R:kU E bt)(S:u2 E LE)(T:E.cQ=[]){c:kq E.T}(U:c.nC E bt LE f):j3 E f (c.run E):=by
 intro ys V r b W M0 X ρ0 w vs Y _ Z;unfold kq.run at b;cases K:gv [] c.pas c.pbs V ys with
 |mk bl cK=>
 rw[K]at b;obtain⟨ρ,t,io,ag⟩:=vx Y K Z;simp only at b;split at b
 ·rename_i d sel u L
  obtain⟨da,db⟩:=d
  obtain⟨eS,h1,J⟩:=aGp b
  obtain⟨aj,_,k9⟩:=tq t s6 L
  obtain⟨kx,l⟩:=B5 s6 L
  obtain⟨e1,bO⟩:=k9 (bi (jE X bl ρ sel) (bM id (b' false c.pbs) false c.pbs db) (gF ρ sel) w) λ k l=>aj.Gq l
  have iB:=aj.enter t bO
  have v':=e1 vs ag
  obtain⟨x,gN,a⟩:=D.sn (U da db _ h1)
  have qd:∀ {kX bl' ρ' w'},Hw E kX bl' ρ' w':=λ{_ _ _ _} g y M=>by rw[T]at M;simp[cD]at M
  have hc:=((MR a6 R S).ok _ _ _ _ gN).2 _ _ _ _ _ vs iB qd v'
  unfold kq.fin at a
  cases z:x.e with
  |zB y=>rw[z]at a;cases a
  |ret y=>
   rw[z]at a
   simp only at a
   obtain⟨iV,N,hw,m,A⟩:=akp a
   have C:=aiY u hw
   have J:=A _ _ _ J
   obtain⟨O,P⟩:=N
   have J:(⟨.ret (qB (ga (iH sel bl.length) (fi bl sel iV.dl) iV.et O)),gj bl sel iV.dl P,sel⟩:fg E.T.El)=r:=J
   subst J
   refine hc.mono λ e w' az=>?_
   obtain⟨F,Xj,Z7,kN,n⟩:=az
   rw[z]at n
   cases e with
   |returned v=>
    have n:ar E.T _ w' F x.bl y v:=n
    unfold Py at m
    cases G:gv (n5 c.pbs.length) iV.et iV.dl x.bl (xd iV.et.length y)with
    |mk HU nw=>
    rw[G]at m
    simp only at m
    split at m
    ·rename_i N ZQ q
     have a:=ei m
     subst a
     have s:(xd iV.et.length y).length=iV.et.length:=by
      rw[<-afv G];unfold ii at q;split at q
      ·rename_i Vx
       exact U3 Vx
      ·cases q
     obtain⟨us,H,mb⟩:=alg s n
     obtain⟨AP,gM,Z8,H⟩:=vx Xj G H
     have KN:=Z7.trans Z8
     obtain⟨I,rN,I'⟩:=tq gM Cw q
     obtain⟨yC,IY⟩:=B5 Cw q
     obtain⟨Cs,rE⟩:=I' (bi (jE X bl ρ sel) (bM id (b' true iV.dl) true iV.dl P) (gF AP ZQ) w') λ k l=>I.Kj l
     have VW:=I.leave gM rE
     have Wc:=W' (by rw[aj.len,mU]) KN I (λ j aA=>rN (j,j) (Cx.2 ⟨aA,rfl⟩)) yC C λ j i p h h'=>by
      obtain⟨B,o,ak,aS⟩:=IY j i p h h';exact⟨B,o,ak,aS⟩
     obtain⟨bQ,dS,fB,fL⟩:=back (gq:=b' true iV.dl) t aj kx (λ j i B p h h' Q=>by
      obtain⟨B',o,ak,_⟩:=l j i p h Q;rw[h']at o;cases o;exact N5 C Q ak) C (λ i hi=>by
       obtain⟨j,aA,rfl⟩:=iP.1 hi;obtain⟨B,o,_⟩:=l j _ _ (aJ aA) (aJ (by omega:j<c.pbs.length));exact(aO.1 o).1) (λ j=>rfl) VW Wc
     refine⟨_,bQ,io.trans dS,?_,?_⟩
     ·have:=gW.nil.bF io fB
      rwa [hp]at this
     ·show ar E.T _ w' _ _ (qB _) v
      rw[<-mb]
      exact X2 (fL iV.et O us (Cs us H))
    ·cases m
   |panicked yi=>exact n.elim
   |outgrown=>exact n.elim
 ·exact b.elim
end
end bc
namespace bc
open Go Go.RowKit aw I
def uW{α:Type}:List Nat->List α->List (Nat×α)
 |s::r,y::ys=>(s,y)::uW r ys
 |_,_=>[]
def sf:List bI->List bI->Bool
 | .r _ s::r,.r _ s'::a=>(s|| !s')&&sf r a
 |_::r,_::a=>sf r a
 |_,_=>true
def Gp(E:Env)(gC:Nat)(bl:List (aD E.T.El))(f:cy E.T.El)(ss:List Nat)(pas:List cL)(pbs:List bI):Option (dn E.T.El pas×cF E.T.El pbs):=match po E bl f [] (ss.map .tmp)with
 |some ys=>match gv (n5 gC) pas pbs bl ys with
  |(a,b)=>match ii a (n5 gC) true pas pbs b with
   |some (d,_)=>some d
   |none=>none
 |none=>none
section
variable{T:bR}{F:Nat->Prop}{w w':World}{ρ:List Value}{bl:List (aD T.El)}
theorem awx{aY:List (Nat×Nat)}{p:bI}{B:aD T.El}{r:sQ T.El p×List (Nat×Nat)}(h:iA bl aY true p B=some r):iA bl aY false p B=some r:=by
 cases p with
 |c ty ps=>exact h
 |m kt vt=>exact h
 |d=>exact h
 |r t same=>
  simp only[iA]at h⊢
  split at h
  ·split at h
   ·simpa using h
   ·cases h
  ·cases h
theorem afM:∀ {ps:List bI}{aY:List (Nat×Nat)}{k:Nat}{r:cF T.El ps×List (Nat×Nat)},nV bl true aY k ps=some r->nV bl false aY k ps=some r
 |[],aY,k,r,h=>h
 |p::ps,aY,k,r,h=>by
  simp only[nV]at h⊢;split at h
  ·split at h
   ·split at h
    ·rename_i d b a
     rw[awx a]
     simp only
     split at h
     ·rename_i c e J
      rw[afM J]
      exact h
     ·cases h
    ·cases h
   ·cases h
  ·cases h
theorem awA{aY:List (Nat×Nat)}{pas:List cL}{pbs:List bI}{ys:List (aH T.El)}{r:(dn T.El pas×cF T.El pbs)×List Nat}(h:ii bl aY true pas pbs ys=some r):ii bl aY false pas pbs ys=some r:=by
 unfold ii at h⊢;split at h
 ·split at h
  ·rename_i J
   rw[afM J]
   exact h
  ·cases h
 ·cases h
theorem RM{t:Nat}{y:aH T.El}{a:Act}:∀ {ss:List Nat}{ys:List (aH T.El)},a7 T F w ρ bl ys ((ss.map Operand.tmp).map a.eval)->cD (uW ss ys) t=some y->ar T F w ρ bl y (a.tmps.getD t undef)
 |[],ys,_,h=>by simp[uW,cD]at h
 |s::r,[],_,h=>by simp[uW,cD]at h
 |s::r,z::ys,b,h=>by
  simp only[eu,a7]at b;obtain⟨u,us,e,c,J⟩:=b;simp only[hA]at e;obtain⟨rfl,rfl⟩:=e;simp only[uW,cD]at h;split at h
  ·rename_i af
   simp only[aF]at h
   subst h
   rw[<-bd af]
   exact c
  ·exact RM J h
theorem Pl{σ g σ' g':Nat->Nat}{post post':Bool}:∀ {ps:List bI}{d:cF T.El ps}{j:Nat}{B:aD T.El},(bM σ g post ps d)[j]? =some B-> ∃B',(bM σ' g' post' ps d)[j]? =some B'/\ ∀u,bB B' u=bB B u
 |[],d,j,B,h=>by simp[bM]at h
 |p::r,d,0,B,h=>by
  simp only[bM,dG,aF]at h;subst h;refine⟨dx σ' g' post' p d.1,rfl,λ u=>?_⟩;cases p<;>rfl
 |p::r,d,j+1,B,h=>by
  obtain⟨B',a,J⟩:=Pl (σ':=σ') (g':=g') (post':=post') (ps:=r) (d:=d.2) (j:=j) (by simpa[bM]using h);exact⟨B',by simpa[bM]using a,J⟩
theorem aj7{X:Nat->Prop}{σ g σ' g':Nat->Nat}{post post':Bool}{ps:List bI}{d:cF T.El ps}{k:Nat}(h:bi X (bM σ g post ps d) ρ w k):bi X (bM σ' g' post' ps d) ρ w k:=⟨h.1,λ⟨j,B,u,a,J,ap⟩=>by
 obtain⟨B',b,ak⟩:=Pl (σ':=σ) (g':=g) (post':=post) a;exact h.2.1 ⟨j,B',u,b,J,by rw[ak];exact ap⟩,h.2.2⟩
theorem aiZ:∀ {ps qs:List bI}{j:Nat}{p q:bI},sf ps qs=true->ps[j]? =some p->qs[j]? =some q->yX p q=true->eZ true (some q)=0 ->eZ true (some p)=0
 |[],_,j,p,q,_,h,_,_,_=>by simp at h
 |a::r,[],j,p,q,_,_,h,_,_=>by simp at h
 |a::r,b::s,0,p,q,c,h,h',e,d=>by
  simp only[dG,aF]at h h';subst h;subst h';cases a<;>cases b<;>simp only[yX,hG]at e<;>try first |rfl |(simp[eZ]at d;done)
  simp only[sf,bH,hV,gI]at c;rename_i i f k g;cases f<;>cases g<;>simp[eZ]at c d⊢
 |a::r,b::s,j+1,p,q,c,h,h',e,d=>by
  refine aiZ (ps:=r) (qs:=s) (j:=j) ?_ (by simpa using h) (by simpa using h') e d;cases a<;>cases b<;>simp only[sf,bH]at c<;>first |exact c.2 |exact c
variable{X:Nat->Prop}{pre cn:List bI}{d0 d1:cF T.El pre}{d2:cF T.El cn}{ρ0 ev lz:List Value}{w0 dI cS:World}
theorem J7{σ g:Nat->Nat}{post:Bool}:∀ {ps:List bI}{d:cF T.El ps}{j:Nat},j<ps.length-> ∃p a,ps[j]? =some p/\ ∀σ' g' post',(bM σ' g' post' ps d)[j]? =some (dx σ' g' post' p a)
 |[],d,j,h=>by simp at h
 |p::r,d,0,h=>⟨p,d.1,rfl,λ _ _ _=>rfl⟩
 |p::r,d,j+1,h=>by
  obtain⟨q,a,b,J⟩:=J7 (σ:=σ) (g:=g) (post:=post) (ps:=r) (d:=d.2) (j:=j) (by simpa using h);exact⟨q,a,by simpa using b,λ σ' g' post'=>by simpa[bM]using J σ' g' post'⟩
theorem aHr:To X (bM id (b' false pre) false pre d0) (bM id (b' true pre) true pre d0) ρ0 ρ0 w w:=by
 refine⟨λ k a=>⟨aj7 a,rfl⟩,⟨λ i h hi=>⟨h,hi,λ _=>rfl,?_⟩⟩,cC _,λ i B' h' hi f k a _=>?_⟩
 ·rcases gg i pre.length with al |al
  ·obtain⟨p,j,b,ak⟩:=J7 (σ:=id) (g:=id) (post:=true) (d:=d0) al
   rw[ak,ak]
   cases p with
   |c ty ps=>exact⟨cC _,λ _=>⟨rfl,rfl,cC _,λ _=>rfl⟩⟩
   |r t s=>exact⟨by simp[dx,b1,eZ],λ _=>⟨rfl,rfl,by simp[dx,gQ,z7],λ e=>by simp[dx,gQ,z7]at e⟩⟩
   |m kt vt=>exact⟨cC _,λ _=>⟨rfl,rfl,cC _,λ _=>rfl⟩⟩
   |d=>exact⟨by simp[dx,b1,eZ],λ e=>by simp[dx,b1,eZ]at e⟩
  ·rw[gH (by rw[mU];exact al),gH (by rw[mU];exact al)]
   exact⟨cC _,λ _=>⟨rfl,rfl,cC _,λ _=>rfl⟩⟩
 ·obtain⟨B,b,ak⟩:=Pl (σ':=id) (g':=b' false pre) (post':=false) hi
  exact⟨B,h',b,f,by rw[ak];exact a⟩
theorem ak4(m:jU pre cn=true)(x:sf pre cn=true)(K:ρ0.length=pre.length)(h:To X (bM id (b' false pre) false pre d0) (bM id (b' true pre) true pre d1) ρ0 ev w0 dI)(k:To X (bM id (b' false pre) false pre d1) (bM id (b' true cn) true cn d2) ev lz dI cS) :
 To X (bM id (b' false pre) false pre d0) (bM id (b' true cn) true cn d2) ρ0 lz w0 cS:=by
 have y:=Kt m
 refine⟨λ q j=>?_,⟨λ i u hi=>?_⟩,gJ h.sz k.sz,λ i B' h' hi z q j n=>?_⟩
 ·obtain⟨a,ak⟩:=h.F q j
  obtain⟨aS,bN⟩:=k.F q (aj7 a)
  exact⟨aS,bN.trans ak⟩
 ·have o:i<pre.length:=by have:=(aO.1 hi).1;omega
  obtain⟨p,L,a,ak⟩:=J7 (σ:=id) (g:=id) (post:=true) (d:=d0) o
  obtain⟨M,N,b,c⟩:=J7 (σ:=id) (g:=id) (post:=true) (d:=d1) o
  obtain⟨q,A,r,s⟩:=J7 (σ:=id) (g:=id) (post:=true) (d:=d2) (show i<cn.length by omega)
  rw[a]at b
  cases b
  have l:=Ks m a r
  have C:=aiZ x a r l
  obtain⟨D,E,G,a3,a4⟩:=h.L.at_ i u hi
  obtain⟨H,I,J,O,f⟩:=k.L.at_ i D E
  rw[ak,c]at a4
  rw[c,s]at f
  refine⟨H,I,λ aj=>?_,?_⟩
  ·have e:=G aj
   rw[J (by rw[e];exact aj),e]
  ·rw[ak,s]
   cases p<;>cases q<;>simp only[yX,hG]at l
   ·exact⟨cC _,λ _=>⟨(f rfl).1.trans (a4 rfl).1,rfl,cC _,λ _=>rfl⟩⟩
   ·exact⟨gK _,λ e=>by simp[dx,b1,eZ]at e⟩
   ·have:=bd l
    subst this
    rename_i t v
    refine⟨by cases t<;>cases v<;>simp[dx,b1,eZ],λ e=>⟨(f ?_).1.trans (a4 ?_).1,rfl,by simp[dx,gQ,z7],λ e=>by simp[dx,gQ,z7]at e⟩⟩<;>cases t<;>cases v<;>simp[dx,b1,eZ]at e C⊢
   ·exact⟨by simp[dx,b1,eZ],λ e=>by simp[dx,b1,eZ]at e⟩
   ·exact⟨cC _,λ _=>⟨(f rfl).1.trans (a4 rfl).1,rfl,cC _,λ _=>rfl⟩⟩
   ·exact⟨gK _,λ e=>by simp[dx,b1,eZ]at e⟩
 ·obtain⟨B,u,a,ak,aS⟩:=k.nT i B' h' hi z q j (en n h.sz)
  obtain⟨AQ,b,c⟩:=Pl (σ':=id) (g':=b' true pre) (post':=true) a
  exact h.nT i AQ u b ak q (by rw[c];exact aS) n
end
section
variable{E:Env}{W w w':World}{M0:List Nat}{X:Nat->Prop}{n:cB}{f:cy E.T.El}{bl:List (aD E.T.El)}{ρ ny:List Value}{a:Act}{pre pbs:List bI}{pas:List cL}{dp:cF E.T.El pre}{da:dn E.T.El pas}{db:cF E.T.El pbs}{ss:List Nat}
def Told(E:Env)(W:World)(M0:List Nat)(X:Nat->Prop)(ss:List Nat)(pas:List cL)(pbs:List bI)(da:dn E.T.El pas)(db:cF E.T.El pbs)(ρ:List Value)(a:Act)(w:World)(post:Bool):Prop:=
 Mem E.T W M0 X (bM id (b' post pbs) post pbs db) ρ w/\a7 E.T (bi X (bM id (b' post pbs) post pbs db) ρ w) w ρ (bM id (b' post pbs) post pbs db) (ga id (b' post pbs) pas da) ((ss.map Operand.tmp).map a.eval)
theorem Zs(h:R E W M0 X n f bl ρ a w')(u:ny.length=pre.length)(v:jU pre pbs=true)(x:To X (bM id (b' false pre) false pre dp) bl ny ρ w w')(b:Gp E pre.length bl f ss pas pbs=some (da,db)) :
 ∃r,(∀post,Told E W M0 X ss pas pbs da db r a w' post)/\To X (bM id (b' false pre) false pre dp) (bM id (b' true pbs) true pbs db) ny r w w':=by
 unfold Gp at b
 split at b
 ·rename_i ys y
  have z:=zx h (cur:=[]) trivial y
  cases s:gv (n5 pre.length) pas pbs bl ys with
  |mk I J=>
  rw[s]at b
  simp only at b
  split at b
  ·rename_i d sel e
   simp only[aF]at b
   subst b
   obtain⟨ev,c,A,v1⟩:=vx h.mem s z
   obtain⟨g,C,D⟩:=tq c Cw e
   obtain⟨t,_,l⟩:=tq c Cw (awA e)
   obtain⟨F,G⟩:=B5 Cw e
   refine⟨gF ev sel,λ post=>?_,W' u (x.trans A) g (λ j aA=>C (j,j) (Cx.2 ⟨aA,rfl⟩)) F v λ j i p h h'=>?_⟩
   ·cases post with
    |true=>
     obtain⟨m,o⟩:=D (bi X (bM id (b' true pbs) true pbs db) (gF ev sel) w') λ k q=>g.Kj q
     exact⟨g.leave c o,m _ v1⟩
    |false=>
     obtain⟨m,o⟩:=l (bi X (bM id (b' false pbs) false pbs db) (gF ev sel) w') λ k q=>t.Kj q
     exact⟨t.leave c o,m _ v1⟩
   ·obtain⟨B,H,ak,aS⟩:=G j i p h h'
    exact⟨B,H,ak,aS⟩
  ·cases b
 ·cases b
end
end bc
namespace bc
open Go Go.RowKit aw I
inductive x_
 |nm
 |ex (id:Nat)
 |rt
structure j6 where
 x:x_
 ss:List Nat
 et:List cL
 dl:List bI
def Rr:x_->x_->Bool
 | .nm,.nm=>true
 | .ex i,.ex j=>bS i j
 | .rt,.rt=>true
 |_,_=>false
theorem anY{x y:x_}(h:Rr x y=true):x=y:=by
 cases x<;>cases y<;>simp only[Rr,hG]at h<;>try rfl
 rw[bd h]
def Hl{El:Nat->Type}:x_->L3 El
 | .nm=>.nm
 | .ex i=>.ex i
 | .rt=>.rt
@[reducible] def xL(El:Nat->Type)(w:j6):Type:=dn El w.et×cF El w.dl
@[reducible] def xM(El:Nat->Type):List j6->Type
  |[]=>Empty
  |[w]=>xL El w
  |w::v::r=>xL El w⊕xM El (v::r)
structure fo (T:bR) where
 ss:List Nat
 pas:List cL
 pbs:List bI
 ws:List j6
 fn:Nat->dn T.El pas×cF T.El pbs->Option (xM T.El ws)
def Dx(E:Env)(gC:Nat)(x:x_)(bl:List (aD E.T.El))(f:cy E.T.El):(ws:List j6)->Option (xM E.T.El ws)
 |[]=>none
 |[w]=>match Rr w.x x with
  |true=>Gp E gC bl f w.ss w.et w.dl
  |false=>none
 |w::v::r=>match(match Rr w.x x with
   |true=>Gp E gC bl f w.ss w.et w.dl
   |false=>none)with
  |some d=>some (.inl d)
  |none=>match Dx E gC x bl f (v::r)with
   |some q=>some (.inr q)
   |none=>none
def Pn(E:Env)(bl:List (aD E.T.El))(sel ws:List Nat)(w:j6)(d:xL E.T.El w):D (b6 E.T.El):=.ok ⟨Hl w.x,⟨⟨uW w.ss (ga (iH sel bl.length) (fi bl sel w.dl) w.et d.1),[],[]⟩,gj bl sel w.dl d.2,sel++ws⟩⟩
def Gj(E:Env)(bl:List (aD E.T.El))(sel us:List Nat):(ws:List j6)->Option (xM E.T.El ws)->D (b6 E.T.El)
 |[],_=>.no
 |[w],o=>.op o λ d=>Pn E bl sel us w d
 |w::v::r,o=>.uA o (λ d=>Pn E bl sel us w d) (λ q=>Gj E bl sel us (v::r) (some q))
def F6(pbs:List bI):List j6->Bool
 |[]=>true
 |w::r=>jU pbs w.dl&&sf pbs w.dl&&F6 pbs r
def fo.run(E:Env)(F:Nat)(c:fo E.T)(s:eG E.T.El):D (b6 E.T.El):=match po E s.bl s.f [] (c.ss.map .tmp)with
 |some ys=>match gv [] c.pas c.pbs s.bl ys with
  |(a,b)=>match F6 c.pbs c.ws&&(jU c.pbs c.pbs&&sf c.pbs c.pbs),ii a [] false c.pas c.pbs b with
   |true,some (d,sel)=>Gj E a sel s.ws c.ws (c.fn F d)
   |_,_=>.no
 |none=>.no
def afl(id i:Nat):x_:=match bS i id with
 |true=>.nm
 |false=>.ex i
def fo.fin(E:Env)(c:fo E.T)(id k:Nat)(t:b6 E.T.El):Option (xM E.T.El c.ws):=match t.x with
 | .nm=>match Gp E c.pbs.length t.s.bl t.s.f c.ss c.pas c.pbs with
   |some d=>c.fn k d
   |none=>none
 | .ex i=>Dx E c.pbs.length (afl id i) t.s.bl t.s.f c.ws
 | .rt=>Dx E c.pbs.length .rt t.s.bl t.s.f c.ws
 | .hP _=>none
def yG(E:Env)(c:fo E.T)(da:dn E.T.El c.pas)(db:cF E.T.El c.pbs):eG E.T.El:=⟨⟨uW c.ss (ga id (b' false c.pbs) c.pas da),[],[]⟩,bM id (b' false c.pbs) false c.pbs db,[]⟩
structure fo.Eq (E:Env) (bt:fb E) (LE:nB E) (n id:Nat) (body:Code) (c:fo E.T):Prop where
 zero:∀d,c.fn 0 d=none
 succ:∀k (da:dn E.T.El c.pas)(db:cF E.T.El c.pbs),(den E bt LE n body (yG E c da db)).run (c.fin E id k)=c.fn (k+1) (da,db)
structure fo.nC (E:Env) (bt:fb E) (LE:nB E) (n id:Nat) (body:Code) (c:fo E.T):Prop where
 zero:∀d,c.fn 0 d=none
 succ:∀k (da:dn E.T.El c.pas)(db:cF E.T.El c.pbs) r,c.fn (k+1) (da,db)=some r->(den E bt LE n body (yG E c da db)).run (c.fin E id k)=some r
theorem fo.Eq.one{E:Env}{bt:fb E}{LE:nB E}{n id:Nat}{body:Code}{c:fo E.T}(h:c.Eq E bt LE n id body):c.nC E bt LE n id body:=⟨h.zero,λ k da db _ a=>(h.succ k da db).trans a⟩
section
variable{E:Env}{bt:fb E}{LE:nB E}
theorem alD{gC:Nat}{x:x_}{bl:List (aD E.T.El)}{f:cy E.T.El}:∀ {ws:List j6}{r:xM E.T.El ws},Dx E gC x bl f ws=some r ->
 ∃(w:j6)(da:dn E.T.El w.et)(db:cF E.T.El w.dl),w∈ws/\w.x=x/\Gp E gC bl f w.ss w.et w.dl=some (da,db)/\ ∀bl' sel us t,(Gj E bl' sel us ws (some r)).out t->⟨Hl w.x,⟨⟨uW w.ss (ga (iH sel bl'.length) (fi bl' sel w.dl) w.et da),[],[]⟩,gj bl' sel w.dl db,sel++us⟩⟩=t
 |[],r,h=>by cases h
 |[w],r,h=>by
  simp only[Dx]at h;split at h
  ·rename_i c
   refine⟨w,r.1,r.2,by simp,anY c,h,λ bl' sel us t b=>?_⟩
   obtain⟨d,a,ak⟩:=b
   simp only[aF]at a
   subst a
   exact ak
  ·cases h
 |w::v::ws,r,h=>by
  simp only[Dx]at h;split at h
  ·rename_i d aL
   simp only[aF]at h
   subst h
   split at aL
   ·rename_i c
    refine⟨w,d.1,d.2,by simp,anY c,aL,λ bl' sel us t b=>?_⟩
    rcases b with⟨d',a,ak⟩|⟨d',a,ak⟩
    ·simp only[aF,Sum.inl.injEq]at a
     subst a
     exact ak
    ·simp at a
   ·cases aL
  ·split at h
   ·rename_i q e
    simp only[aF]at h
    subst h
    obtain⟨w',da,db,g,J,ap,i⟩:=alD e
    refine⟨w',da,db,dX _ g,J,ap,λ bl' sel us t b=>?_⟩
    rcases b with⟨d',a,ak⟩|⟨d',a,ak⟩
    ·simp at a
    ·simp only[aF,Sum.inr.injEq]at a
     subst a
     exact i bl' sel us t ak
   ·cases h
theorem ajy{bl:List (aD E.T.El)}{sel us:List Nat}:∀ {ws:List j6}{o:Option (xM E.T.El ws)}{t:b6 E.T.El},(Gj E bl sel us ws o).out t-> ∃r,o=some r/\(Gj E bl sel us ws (some r)).out t
 |[],o,t,h=>h.elim
 |[w],o,t,h=>by
  obtain⟨d,a,ak⟩:=h;exact⟨d,a,d,rfl,ak⟩
 |w::v::r,o,t,h=>by
  rcases h with⟨d,a,ak⟩|⟨d,a,ak⟩
  ·exact⟨_,a,.inl ⟨d,rfl,ak⟩⟩
  ·exact⟨_,a,.inr ⟨d,rfl,ak⟩⟩
theorem O8{pbs:List bI}:∀ {ws:List j6}{w:j6},F6 pbs ws=true->w∈ws->jU pbs w.dl=true/\sf pbs w.dl=true
 |[],w,_,h=>by simp at h
 |v::r,w,h,hm=>by
  simp only[F6,bH]at h;rcases cR.1 hm with rfl |hm
  ·exact h.1
  ·exact O8 h.2 hm
theorem aB7(a6:c8 E)(aB:kU E bt)(dU:E.cQ=[]){n:cB}{hq:Nat}{body:Code}(al:j5 E LE n body){c:fo E.T}(he:c.nC E bt LE n.n hq body)(F:Nat):AW E n (c.run E F) (.block hq (.loop body)):=by
 intro s t q W M0 X b0 ρ0 w0 ρ a w Q h k;have qd:∀ {kX:Nat->Prop}{bl':List (aD E.T.El)}{ρ':List Value}{w':World},∀g y,cD E.cQ g=some y->ar E.T (bi kX bl' ρ' w') w' ρ' bl' y (.pointer (some ⟨g,0,none⟩)):=λ{_ _ _ _} g y ay=>by rw[dU]at ay;simp[cD]at ay
 unfold fo.run at q;split at q
 ·rename_i ys Cv
  cases ij:gv [] c.pas c.pbs s.bl ys with
  |mk bl cK=>
  rw[ij]at q
  simp only at q
  obtain⟨ev,P,io,ag⟩:=vx h.r.mem ij (zx h.r (cur:=[]) trivial Cv)
  split at q
  ·rename_i d sel Ja eJ
   simp only[bH]at Ja
   obtain⟨yR,U',S⟩:=Ja
   obtain⟨da,db⟩:=d
   obtain⟨eS,h3,J⟩:=ajy q
   obtain⟨aj,_,k9⟩:=tq P s6 eJ
   obtain⟨kx,M⟩:=B5 s6 eJ
   obtain⟨e1,bO⟩:=k9 (bi (jE X bl ev sel) (bM id (b' false c.pbs) false c.pbs db) (gF ev sel) w) λ k M=>aj.Gq M
   have iB:=aj.enter P bO
   have v':=e1 _ ag
   have r:(gF ev sel).length=c.pbs.length:=by rw[aj.len,mU]
   have leave:∀(b:j6),b∈c.ws-> ∀(C:dn E.T.El b.et)(G:cF E.T.El b.dl)(f:List Value)(l:Act)(w':World),l.tmps.size=n.n->l.defers=n.ds ->
    Told E w (rz (bM id (b' false c.pbs) false c.pbs db) (gF ev sel)) (jE X bl ev sel) b.ss b.et b.dl C G f l w' true ->
    To (jE X bl ev sel) (bM id (b' false c.pbs) false c.pbs db) (bM id (b' true b.dl) true b.dl G) (gF ev sel) f w w' ->
    t=⟨Hl b.x,⟨⟨uW b.ss (ga (iH sel bl.length) (fi bl sel b.dl) b.et C),[],[]⟩,gj bl sel b.dl G,sel++s.ws⟩⟩ ->
    BK E X t.s.bl (fZ ev sel f) Q l w' (Hl b.x):=λ b T C G f l w' U V H N aK=>by
    obtain⟨L,dF⟩:=O8 yR T
    obtain⟨bQ,dS,fB,fL⟩:=back (gq:=b' true b.dl) P aj kx (λ j i B p h h' p_=>by
     obtain⟨B',O,ak,_⟩:=M j i p h p_;rw[h']at O;cases O;exact N5 L p_ ak) L (λ i hi=>by
      obtain⟨j,aA,rfl⟩:=iP.1 hi;obtain⟨B,O,_⟩:=M j _ _ (aJ aA) (aJ (by omega:j<c.pbs.length));exact(aO.1 O).1) (λ j=>rfl) H.1 N
    have FF:=fL b.et C _ H.2
    have yQ:gW s.bl ρ w w' sel:=by
     have:=gW.nil.bF io fB;rwa [hp]at this
    have:=k (fZ ev sel f) l w' (by
     subst aK;exact⟨⟨bQ,⟨⟨U,V,λ t y hy=>RM FF hy⟩,λ p v=>by simp at v,λ p v=>by simp at v⟩,qd⟩,h.to.trans (io.trans dS),h.wr.bF h.to yQ⟩)
    rw[aK]at this⊢
    exact this
   refine wp_block (wp_loop_ghost (λ m l w'=>∃(I:dn E.T.El c.pas)(z:cF E.T.El c.pbs)(ρ':List Value),l.tmps.size=n.n/\l.defers=n.ds/\Told E w (rz (bM id (b' false c.pbs) false c.pbs db) (gF ev sel)) (jE X bl ev sel) c.ss c.pas c.pbs I z ρ' l w' false/\
    To (jE X bl ev sel) (bM id (b' false c.pbs) false c.pbs db) (bM id (b' true c.pbs) true c.pbs z) (gF ev sel) ρ' w w'/\c.fn m (I,z)=some eS) F ⟨da,db,gF ev sel,h.r.dT.ef.size,h.r.dT.ef.defers,⟨iB,v'⟩,aHr,h3⟩ λ m l w' jI=>?_)
   obtain⟨I,z,ρ',U,V,H,N,Y⟩:=jI
   cases m with
   |zero=>rw[he.zero]at Y;cases Y
   |succ m=>
    obtain⟨Z,gN,o⟩:=D.sn (he.succ _ _ _ _ Y)
    have o8:ρ'.length=c.pbs.length:=by rw[H.1.len,mU]
    have eb:R E w (rz (bM id (b' false c.pbs) false c.pbs db) (gF ev sel)) (jE X bl ev sel) n (yG E c I z).f (yG E c I z).bl ρ' l w':=⟨H.1,⟨⟨U,V,λ t y hy=>RM H.2 hy⟩,λ p v=>by simp[yG]at v,λ p v=>by simp[yG]at v⟩,qd⟩
    refine nJ (b0:=(yG E c I z).bl) (ρ0:=ρ') (w0:=w') a6 aB body al gN ⟨eb,.refl,.nil⟩ λ AP SB kN u=>?_
    have out:∀x,Dx E c.pbs.length x Z.s.bl Z.s.f c.ws=some eS-> ∃(b:j6)(f:List Value),BK E X t.s.bl (fZ ev sel f) Q SB kN (Hl b.x)/\b.x=x:=λ x K=>by
     obtain⟨b,C,G,br,bA,bU,gd⟩:=alD K;obtain⟨L,dF⟩:=O8 yR br;obtain⟨f,cW,eF⟩:=Zs u.r o8 L u.to bU;have J:=gd _ _ _ _ J;exact⟨b,f,leave b br C G f SB kN u.r.dT.ef.size u.r.dT.ef.defers (cW true) (ak4 L dF r N eF) J.symm,bA⟩
    unfold fo.fin at o
    cases K:Z.x with
    |nm=>
     rw[K]at o
     simp only at o
     split at o
     ·rename_i yl axH
      obtain⟨f,cW,eF⟩:=Zs u.r o8 U' u.to axH
      exact⟨m,lv m,yl.1,yl.2,f,u.r.dT.ef.size,u.r.dT.ef.defers,cW false,ak4 U' S r N eF,o⟩
     ·cases o
    |ex i=>
     rw[K]at o
     obtain⟨b,f,A,J⟩:=out _ o
     show Exit.inBlock hq Q (.exit i) SB kN
     unfold afl at J
     split at J
     ·rename_i af
      rw[bd af]
      simp only[Exit.inBlock,if_true]
      rw[J]at A
      exact A
     ·rename_i af
      have b2:i≠hq:=λ e=>by subst e;simp at af
      simp only[Exit.inBlock,if_neg b2]
      rw[J]at A
      exact A
    |rt=>
     rw[K]at o
     obtain⟨b,f,A,J⟩:=out _ o
     rw[J]at A
     exact A
    |hP y=>rw[K]at o;cases o
  ·exact q.elim
 ·exact q.elim
end
end bc
namespace bc
open Go Go.RowKit aw I
def fh(i:Nat):Code->Option Code
 | .seq x y=>match fh i x with
   |some b=>some b
   |none=>fh i y
 | .cond _ x y=>match fh i x with
   |some b=>some b
   |none=>fh i y
 | .block id c=>match bS id i with
   |true=>match c with
    | .loop b=>some b
    |_=>none
   |false=>fh i c
 | .loop c=>fh i c
 | .scope c=>fh i c
 |_=>none
def ic(i:Nat):Code->Nat
 | .seq x y=>ic i x+ic i y
 | .cond _ x y=>ic i x+ic i y
 | .block id c=>match bS id i with
   |true=>ic i c+1
   |false=>ic i c
 | .loop c=>ic i c
 | .scope c=>ic i c
 |_=>0
def sT(E:Env)(i:Nat)(g:eG E.T.El->D (b6 E.T.El))(n:cB):Code->Prop
 | .seq x y=>sT E i g n x/\sT E i g n y
 | .cond _ x y=>sT E i g n x/\sT E i g n y
 | .block id c=>(id=i->AW E n g (.block id c))/\sT E i g n c
 | .loop c=>sT E i g n c
 | .scope c=>sT E i g n c
 |_=>True
section
variable{E:Env}{LE:nB E}{n:cB}{i:Nat}{g:eG E.T.El->D (b6 E.T.El)}
theorem qq:∀ {c:Code},ic i c=0 ->sT E i g n c
 | .seq x y,h=>by
   simp only[ic]at h;exact⟨qq (by omega),qq (by omega)⟩
 | .cond _ x y,h=>by
   simp only[ic]at h;exact⟨qq (by omega),qq (by omega)⟩
 | .block id c,h=>by
   simp only[ic]at h;split at h
   ·omega
   ·rename_i af
    exact⟨λ e=>by subst e;simp at af,qq h⟩
 | .loop c,h=>qq (c:=c) h
 | .scope c,h=>qq (c:=c) h
 | .skip,_ | .region _ _ _,_ | .rangeFunc _ _ _ _,_ | .exit _,_ | .label _,_ | .goto _,_ | .ret,_ | .refuse _,_=>trivial
theorem ry:∀ {c b:Code},fh i c=some b->0<ic i c
 | .seq x y,b,h=>by
   simp only[fh]at h;simp only[ic];split at h
   ·rename_i a;have:=ry a;omega
   ·have:=ry h;omega
 | .cond _ x y,b,h=>by
   simp only[fh]at h;simp only[ic];split at h
   ·rename_i a;have:=ry a;omega
   ·have:=ry h;omega
 | .block id c,b,h=>by
   simp only[fh]at h;simp only[ic];split at h
   ·omega
   ·exact ry h
 | .loop c,b,h=>by simp only[ic];exact ry (c:=c) h
 | .scope c,b,h=>by simp only[ic];exact ry (c:=c) h
 | .skip,_,h | .region _ _ _,_,h | .rangeFunc _ _ _ _,_,h | .exit _,_,h | .label _,_,h | .goto _,_,h | .ret,_,h | .refuse _,_,h=>by simp[fh]at h
theorem y1{b:Code}(a:AW E n g (.block i (.loop b))):∀ {c:Code},ic i c<=1 ->fh i c=some b->sT E i g n c
 | .seq x y,h,ad=>by
   simp only[ic]at h;simp only[fh]at ad;split at ad
   ·rename_i d
    have:=ry d
    simp only[aF]at ad
    subst ad
    exact⟨y1 a (by omega) d,qq (by omega)⟩
   ·have:=ry ad
    exact⟨qq (by omega),y1 a (by omega) ad⟩
 | .cond _ x y,h,ad=>by
   simp only[ic]at h;simp only[fh]at ad;split at ad
   ·rename_i d
    have:=ry d
    simp only[aF]at ad
    subst ad
    exact⟨y1 a (by omega) d,qq (by omega)⟩
   ·have:=ry ad
    exact⟨qq (by omega),y1 a (by omega) ad⟩
 | .block id c,h,ad=>by
   simp only[ic]at h;simp only[fh]at ad;split at ad
   ·rename_i af
    rw[af]at h
    have e:=bd af
    subst e
    split at ad
    ·simp only[aF]at ad
     subst ad
     exact⟨λ _=>a,qq (by simp only at h;omega)⟩
    ·cases ad
   ·rename_i af
    rw[af]at h
    exact⟨λ e=>by subst e;simp at af,y1 a h ad⟩
 | .loop c,h,ad=>y1 (c:=c) a h ad
 | .scope c,h,ad=>y1 (c:=c) a h ad
 | .skip,_,h | .region _ _ _,_,h | .rangeFunc _ _ _ _,_,h | .exit _,_,h | .label _,_,h | .goto _,_,h | .ret,_,h | .refuse _,_,h=>by simp[fh]at h
theorem yY{d:nB E}(hi:i<1000000)(a:∀j h,d j=some h->(j=i/\h=g)\/LE j=some h):∀ {c:Code},j5 E LE n c->sT E i g n c->j5 E d n c
 | .seq x y,h,h'=>⟨(λ q r rest b e=>by
   unfold J1 at b;split at b
   ·rename_i id _
    rcases a _ q b with⟨f,_⟩|ak
    ·omega
    ·exact h.1 q r rest ak e
   ·cases b),yY hi a h.2.1 h'.1,yY hi a h.2.2 h'.2⟩
 | .cond _ x y,h,h'=>⟨yY hi a h.1 h'.1,yY hi a h.2 h'.2⟩
 | .block id c,h,h'=>⟨λ q b=>by
   rcases a id q b with⟨f,ak⟩|e
   ·rw[ak];exact h'.1 f
   ·exact h.1 q e,yY hi a h.2 h'.2⟩
 | .loop c,h,h'=>yY (c:=c) hi a h h'
 | .scope c,h,h'=>yY (c:=c) hi a h h'
 | .skip,_,_ | .region _ _ _,_,_ | .rangeFunc _ _ _ _,_,_ | .exit _,_,_ | .label _,_,_ | .goto _,_,_ | .ret,_,_ | .refuse _,_,_=>trivial
def kJ:Code->List (Nat×Code×Code)
 | .seq x y=>(match x,y with
   | .seq (.region a b c) (.block id d),.seq r _=>[(id,.seq (.region a b c) (.block id d),r)]
   |_,_=>[])++kJ x++kJ y
 | .cond _ x y=>kJ x++kJ y
 | .block _ c=>kJ c
 | .loop c=>kJ c
 | .scope c=>kJ c
 |_=>[]
def qj:Code->Bool
 | .seq x y=>qj x&&qj y
 | .cond _ x y=>qj x&&qj y
 | .block id c=>ez id 1000000&&qj c
 | .loop c=>qj c
 | .scope c=>qj c
 |_=>true
theorem yZ{s:nB E}(o:∀j h,s j=some h->(j=1000000+i/\h=g)\/LE j=some h):∀ {c:Code},(∀x r,(i,x,r)∈kJ c->xS E n g x r)->qj c=true->j5 E LE n c->j5 E s n c
 | .seq x y,m,af,h=>by
   simp only[qj,bH]at af;refine⟨λ q r rest p e=>?_,yZ o (λ f k l=>m f k (by simp only[kJ];simp[l])) af.1 h.2.1,yZ o (λ f k l=>m f k (by simp only[kJ];simp[l])) af.2 h.2.2⟩;unfold J1 at p;split at p
   ·rename_i a b c id d
    rcases o _ q p with⟨t,ak⟩|ak
    ·have:id=i:=by omega
     subst this
     subst e
     rw[ak]
     exact m _ _ (by simp only[kJ];simp)
    ·exact h.1 q r rest ak e
   ·cases p
 | .cond _ x y,m,af,h=>by
   simp only[qj,bH]at af;exact⟨yZ o (λ f k l=>m f k (by simp only[kJ];simp[l])) af.1 h.1,yZ o (λ f k l=>m f k (by simp only[kJ];simp[l])) af.2 h.2⟩
 | .block id c,m,af,h=>by
   simp only[qj,bH]at af;refine⟨λ q p=>?_,yZ o (λ f k l=>m f k (by simpa only[kJ]using l)) af.2 h.2⟩;rcases o id q p with⟨t,_⟩|e
   ·have:=cv af.1
    omega
   ·exact h.1 q e
 | .loop c,m,af,h=>yZ (c:=c) o (λ f k l=>m f k (by simpa only[kJ]using l)) af h
 | .scope c,m,af,h=>yZ (c:=c) o (λ f k l=>m f k (by simpa only[kJ]using l)) af h
 | .skip,_,_,_ | .region _ _ _,_,_,_ | .rangeFunc _ _ _ _,_,_,_ | .exit _,_,_,_ | .label _,_,_,_ | .goto _,_,_,_ | .ret,_,_,_ | .refuse _,_,_,_=>trivial
theorem y0:∀ {c b:Code},j5 E LE n c->fh i c=some b->j5 E LE n b
 | .seq x y,b,h,ad=>by
   simp only[fh]at ad;split at ad
   ·rename_i a
    simp only[aF]at ad
    subst ad
    exact y0 h.2.1 a
   ·exact y0 h.2.2 ad
 | .cond _ x y,b,h,ad=>by
   simp only[fh]at ad;split at ad
   ·rename_i a
    simp only[aF]at ad
    subst ad
    exact y0 h.1 a
   ·exact y0 h.2 ad
 | .block id c,b,h,ad=>by
   simp only[fh]at ad;split at ad
   ·split at ad
    ·simp only[aF]at ad
     subst ad
     exact h.2
    ·cases ad
   ·exact y0 h.2 ad
 | .loop c,b,h,ad=>y0 (c:=c) h ad
 | .scope c,b,h,ad=>y0 (c:=c) h ad
 | .skip,_,_,h | .region _ _ _,_,_,h | .rangeFunc _ _ _ _,_,_,h | .exit _,_,_,h | .label _,_,_,h | .goto _,_,_,h | .ret,_,_,h | .refuse _,_,_,h=>by simp[fh]at h
end
structure cO (E:Env) where
 ce:List (Nat×(List (aH E.T.El)->List (aD E.T.El)->D (fg E.T.El)))
 le:List (Nat×Nat×(eG E.T.El->D (b6 E.T.El)))
def FT{E:Env}:List (Nat×Nat×(eG E.T.El->D (b6 E.T.El)))->kV E
 |[],_,_=>none
 |p::r,g,i=>match bS p.1 g&&bS p.2.1 i with
  |true=>some p.2.2
  |false=>FT r g i
def Xd{E:Env}:List (Nat×(List (aH E.T.El)->List (aD E.T.El)->D (fg E.T.El)))->Hu E
 |[],_=>none
 |p::r,g=>match bS p.1 g with
  |true=>some p.2
  |false=>Xd r g
def cO.ko{E:Env}(t:cO E):Hu E:=Xd t.ce
def cO.LE{E:Env}(t:cO E):kV E:=FT t.le
noncomputable def cO.bt{E:Env}(t:cO E):fb E:=E6 E t.ko t.LE 100
def cO.f{E:Env}(t:cO E)(g:Nat)(h:List (aH E.T.El)->List (aD E.T.El)->D (fg E.T.El)):cO E:=⟨(g,h)::t.ce,t.le⟩
def cO.l{E:Env}(t:cO E)(g i:Nat)(h:eG E.T.El->D (b6 E.T.El)):cO E:=⟨t.ce,(g,i,h)::t.le⟩
structure cO.Ok {E:Env} (t:cO E):Prop where
 ce:LQ E t.ko
 le:u2 E t.LE
def ej.fit(E:Env)(c:ej E.T)(ys:List (aH E.T.El))(bl:List (aD E.T.El)):Bool:=match gv [] c.pas c.pbs bl ys with
 |(a,b)=>match ii a [] false c.pas c.pbs b with
  |some _=>true
  |none=>false
def fo.fit(E:Env)(c:fo E.T)(s:eG E.T.El):Bool:=match po E s.bl s.f [] (c.ss.map .tmp)with
 |some ys=>match gv [] c.pas c.pbs s.bl ys with
  |(a,b)=>match ii a [] false c.pas c.pbs b with
   |some _=>true
   |none=>false
 |none=>false
noncomputable def cO.E5{E:Env}(t:cO E)(g:Nat)(c:ej E.T):cO E:=t.f g λ ys bl=>match c.fit E ys bl with
 |true=>c.run E ys bl
 |false=>t.bt g ys bl
noncomputable def cO.Oj{E:Env}(t:cO E)(g i:Nat)(c:fo E.T)(F:Nat):cO E:=t.l g i λ s=>match c.fit E s with
 |true=>c.run E F s
 |false=>match t.LE g i with
  |some h=>h s
  |none=>.no
def p5(P:Program)(g:Nat):Code:=match P.funcs[g]? with
 |some fn=>match fn.body with
  |some c=>c
  |none=>.skip
 |none=>.skip
def hg(P:Program)(g i:Nat):Code:=match fh i (p5 P g)with
 |some b=>b
 |none=>.skip
def fl(P:Program)(g:Nat):Nat:=match P.funcs[g]? with
 |some fn=>fn.ntmps
 |none=>0
def oj(P:Program)(g i:Nat):Bool:=match fh i (p5 P g)with
 |some _=>jc (ic i (p5 P g)) 1&&ez i 1000000
 |none=>false
section
variable{E:Env}{t:cO E}
theorem cO.Ok.oW(h:t.Ok){f:Nat}{r:List (aH E.T.El)->List (aD E.T.El)->D (fg E.T.El)}(ad:e2 E.cb f=true)(hc:j3 E f r):(t.f f r).Ok:=by
 have key:∀g q,(t.f f r).ko g=some q->(g=f/\q=r)\/t.ko g=some q:=λ g q a=>by
  simp only[cO.ko,cO.f,Xd]at a;split at a
  ·rename_i af
   simp only[aF]at a
   exact .inl ⟨(bd af).symm,a.symm⟩
  ·exact .inr a
 refine⟨⟨λ g q a=>?_,λ g q a=>?_⟩,h.le⟩
 ·rcases key g q a with⟨rfl,_⟩|e
  ·exact rV ad
  ·exact h.ce.cb g q e
 ·rcases key g q a with⟨rfl,rfl⟩|e
  ·exact hc
  ·exact h.ce.ok g q e
theorem cO.Ok.fn(a6:c8 E)(a:E.cQ=[])(h:t.Ok){f:Nat}(ad:e2 E.cb f=true){c:ej E.T}(b:c.Eq E t.bt t.LE f):(t.f f (c.run E)).Ok:=h.oW ad (S5 a6 (k1 a6 h.ce h.le 100) h.le a b)
theorem cO.Ok.L4(a6:c8 E)(h:t.Ok){g i:Nat}(d:oj E.P g i=true){r:eG E.T.El->D (b6 E.T.El)}(a:g∈E.cb->AW E ⟨fl E.P g,[]⟩ r (.block i (.loop (hg E.P g i)))):(t.l g i r).Ok:=by
 refine⟨h.ce,λ g' fn l m k n=>?_⟩;have c:=h.le g' fn l m k n;by_cases e:g'=g
 ·subst e
  have p:p5 E.P g'=l:=by unfold p5;rw[k];simp only;rw[n]
  have s:fl E.P g'=fn.ntmps:=by unfold fl;rw[k]
  have a:=a m
  unfold oj at d
  unfold hg at a
  rw[p]at d a
  rw[s]at a
  split at d
  ·rename_i b af
   rw[af]at a
   simp only at a
   simp only[bH]at d
   refine yY (i:=i) (cv d.2) (λ j q f=>?_) c (y1 a (cv d.1) af)
   simp only[cO.LE,cO.l,FT]at f
   split at f
   ·rename_i o
    simp only[bH]at o
    simp only[aF]at f
    exact .inl ⟨(bd o.2).symm,f.symm⟩
   ·exact .inr f
  ·cases d
 ·have same:∀j,(t.l g i r).LE g' j=t.LE g' j:=λ j=>by
   simp only[cO.LE,cO.l,FT];have:bS g g'=false:=by
    rw[hz];intro af;exact e (bd af).symm
   rw[this];rfl
  have:(t.l g i r).LE g'=t.LE g':=funext same;rw[this];exact c
def Dd(P:Program)(g i:Nat):Option (Code×Code):=match(kJ (p5 P g)).filter (λ p=>bS p.1 i),qj (p5 P g)with
 |[p],true=>some p.2
 |_,_=>none
theorem cO.Ok.asD(h:t.Ok){g i:Nat}{x y:Code}(b:Dd E.P g i=some (x,y)){r:eG E.T.El->D (b6 E.T.El)}(d:g∈E.cb->xS E ⟨fl E.P g,[]⟩ r x y):(t.l g (1000000+i) r).Ok:=by
 refine⟨h.ce,λ g' fn f l k m=>?_⟩;have a:=h.le g' fn f l k m;by_cases e:g'=g
 ·subst e
  have s:p5 E.P g'=f:=by unfold p5;rw[k];simp only;rw[m]
  have u:fl E.P g'=fn.ntmps:=by unfold fl;rw[k]
  have d:=d l
  unfold Dd at b
  rw[s]at b
  rw[u]at d
  split at b
  ·rename_i p v w
   simp only[aF]at b
   refine yZ (i:=i) (g:=r) (λ j q c=>?_) (λ z A B=>?_) w a
   ·simp only[cO.LE,cO.l,FT]at c
    split at c
    ·rename_i n
     simp only[bH]at n
     simp only[aF]at c
     exact .inl ⟨(bd n.2).symm,c.symm⟩
    ·exact .inr c
   ·have o:(i,z,A)∈(kJ f).filter (λ p=>bS p.1 i):=i_.2 ⟨B,by simp⟩
    rw[v]at o
    have:=dR.1 o
    rw[<-this]at b
    cases b
    exact d
  ·cases b
 ·have same:∀j,(t.l g (1000000+i) r).LE g' j=t.LE g' j:=λ j=>by
   simp only[cO.LE,cO.l,FT];have:bS g g'=false:=by
    rw[hz];intro af;exact e (bd af).symm
   rw[this];rfl
  have:(t.l g (1000000+i) r).LE g'=t.LE g':=funext same;rw[this];exact a
theorem cO.Ok.Nb(a6:c8 E)(j:E.cQ=[])(h:t.Ok){g i:Nat}(d:oj E.P g i=true){c:fo E.T}(e:c.nC E t.bt (t.LE g) (fl E.P g) i (hg E.P g i))(F:Nat):g∈E.cb->AW E ⟨fl E.P g,[]⟩ (c.run E F) (.block i (.loop (hg E.P g i))):=λ k=>by
 unfold oj at d;split at d
 ·rename_i b af
  have l:hg E.P g i=b:=by unfold hg;rw[af]
  rw[l]at e⊢
  unfold p5 at af
  split at af
  ·rename_i fn f
   split at af
   ·rename_i m o
    have a:=h.le g fn m k f o
    have p:fl E.P g=fn.ntmps:=by unfold fl;rw[f]
    rw[p]at e⊢
    exact aB7 (n:=⟨fn.ntmps,[]⟩) a6 (k1 a6 h.ce h.le 100) j (y0 a af) e F
   ·simp[fh]at af
  ·simp[fh]at af
 ·cases d
theorem cO.Ok.fR(a6:c8 E)(b:E.cQ=[])(h:t.Ok){g i:Nat}(a:oj E.P g i=true){c:fo E.T}(d:c.Eq E t.bt (t.LE g) (fl E.P g) i (hg E.P g i))(F:Nat):(t.l g i (c.run E F)).Ok:=h.L4 a6 a (h.Nb a6 b a d.one F)
theorem wG{LE:nB E}{n:cB}{i:Nat}{q:eG E.T.El->D (b6 E.T.El)}(a:LE i=some q):∀ {c b:Code},j5 E LE n c->fh i c=some b->AW E n q (.block i (.loop b))
 | .seq x y,b,h,ad=>by
   simp only[fh]at ad;split at ad
   ·rename_i d
    simp only[aF]at ad
    subst ad
    exact wG a h.2.1 d
   ·exact wG a h.2.2 ad
 | .cond _ x y,b,h,ad=>by
   simp only[fh]at ad;split at ad
   ·rename_i d
    simp only[aF]at ad
    subst ad
    exact wG a h.1 d
   ·exact wG a h.2 ad
 | .block id c,b,h,ad=>by
   simp only[fh]at ad;split at ad
   ·rename_i af
    have e:=bd af
    subst e
    split at ad
    ·simp only[aF]at ad
     subst ad
     exact h.1 q a
    ·cases ad
   ·exact wG a h.2 ad
 | .loop c,b,h,ad=>wG (c:=c) a h ad
 | .scope c,b,h,ad=>wG (c:=c) a h ad
 | .skip,_,_,h | .region _ _ _,_,_,h | .rangeFunc _ _ _ _,_,_,h | .exit _,_,_,h | .label _,_,_,h | .goto _,_,_,h | .ret,_,_,h | .refuse _,_,_,h=>by simp[fh]at h
theorem cO.Ok.aB8(a6:c8 E)(k:E.cQ=[])(h:t.Ok){g i:Nat}(a:oj E.P g i=true){c:fo E.T}(l:c.Eq E t.bt (t.LE g) (fl E.P g) i (hg E.P g i))(F:Nat):(t.Oj g i c F).Ok:=by
 refine h.L4 a6 a λ f s r d=>?_;split at d
 ·exact h.Nb a6 k a l.one F f s r d
 ·split at d
  ·rename_i q m
   have v:=a
   unfold oj at a
   split at a
   ·rename_i b af
    have n:hg E.P g i=b:=by unfold hg;rw[af]
    rw[n]
    unfold p5 at af
    split at af
    ·rename_i fn j
     split at af
     ·rename_i o p
      have e:=h.le g fn o f j p
      have u:fl E.P g=fn.ntmps:=by unfold fl;rw[j]
      rw[u]
      exact wG m e af s r d
     ·simp[fh]at af
    ·simp[fh]at af
   ·cases a
  ·exact d.elim
theorem cO.Ok.iV(a6:c8 E)(a:E.cQ=[])(h:t.Ok){f:Nat}(ad:e2 E.cb f=true){c:kq E.T}(b:c.Eq E t.bt t.LE f):(t.f f (c.run E)).Ok:=h.oW ad (adP a6 (k1 a6 h.ce h.le 100) h.le a b.one)
theorem cO.Ok.awa(a6:c8 E)(b:E.cQ=[])(h:t.Ok){f:Nat}(ad:e2 E.cb f=true){c:ej E.T}(d:c.Eq E t.bt t.LE f):(t.E5 f c).Ok:=by
 refine h.oW ad λ ys bl r a=>?_;split at a
 ·exact S5 a6 (k1 a6 h.ce h.le 100) h.le b d ys bl r a
 ·exact((k1 a6 h.ce h.le 100).ok f ys bl r a).2
end
end bc
