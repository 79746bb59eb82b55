/- Part 3 of the proof that is ended in the last text: small logic, what the functions compute, walks, plain laws. -/
import Derived.Test.YteeliipnilghaaaGreatGc2
open Array renaming getD_eq_getD_getElem?->dP,getElem?_eq_getElem->iR,getElem?_eq_none->hA,getElem?_eq_some_iff->ft,getElem?_setIfInBounds->fe,getElem?_toList->gS,setIfInBounds_comm->jc
open Bool renaming and_eq_true->bC,eq_false_iff->gX,false_eq_true->hv,not_eq_true'->ga,or_eq_false_iff->hQ,or_eq_true->hM
open List renaming all_eq_true->jN,any_eq_true->h7,append_nil->gL,cons.injEq->hh,getElem?_append_left->eW,getElem?_append_right->fs,getElem?_cons_zero->de,getElem?_drop->iN,getElem?_eq_getElem->aH,getElem?_eq_none->gz,getElem?_eq_some_iff->aM,getElem?_map->iT,getElem?_set_ne->iQ,getElem?_set_self->ff,getElem?_take->gI,length_cons->cV,length_set->iP,length_take->fP,map_cons->eu,map_nil->hK,mem_append->b3,mem_cons->cm,mem_cons_of_mem->ez,mem_filter->iA,mem_iff_getElem->iv,mem_of_getElem?->bB,mem_singleton->dK,nodup_cons->iO,not_mem_nil->hR,pairwise_iff_getElem->jt
open Nat renaming beq->bP,ble->iI,blt->ee,decEq->kS,eq_of_beq_eq_true->a_,le_of_ble_eq_true->ck,le_refl->cu,le_trans->gm,lt_of_lt_of_le->dQ,lt_or_ge->fN,lt_succ_self->kU,min_eq_left->lD,zero_add->ji,zero_le->gD
open Option renaming bind_some->ae,getD_some->ie,map_eq_some_iff->cd,some.inj->dT,some.injEq->aD
open Prod renaming mk.injEq->b5
namespace a8
open Go Go.RowKit aq I
inductive ab' (El:Nat->Type):Type
 |ret (y:aF El)
 |Ap (y:aF El)
structure fj (El:Nat->Type) where
 e:ab' El
 bl:List (aC El)
 ws:List Nat
abbrev fc(E:Env):=Nat->List (aF E.T.El)->List (aC E.T.El)->D (fj E.T.El)
structure eB (El:Nat->Type) where
 f:cq El
 bl:List (aC El)
 ws:List Nat
inductive Mp (El:Nat->Type):Type
 |nm
 |ex (id:Nat)
 |rt
 |hS (y:aF El)
structure b2 (El:Nat->Type) where
 x:Mp El
 s:eB El
def gW{El:Nat->Type}(bl:List (aC El))(ρ:List Value)(w w':World)(ws:List Nat):Prop:=∀k,k<w.heap.size->(∀i∈ws,∀B h,bl[i]? =some B->ρ[i]? =some h->k∉bz B h)->w'.heap[k]? =w.heap[k]?
section
variable{T:bN}{X:Nat->Prop}{bl bl' vV:List (aC T.El)}{ρ ρ' HM:List Value}{w w' w'':World}{s s':List Nat}
theorem gW.nil:gW bl ρ w w []:=λ _ _ _=>rfl
theorem gW.bD(h:gW bl ρ w w' s)(b:To X bl bl' ρ ρ' w w')(k:gW bl' ρ' w' w'' s'):gW bl ρ w w'' (s'++s):=λ q a c=>
 (k q (dQ a b.sz) λ i hi B h af d e=>by
  obtain⟨iU,f,e1,e2,e3⟩:=b.nT i B h af d q e a;exact c i (b3.2 (.inl hi)) iU f e1 e2 e3).trans (h q a λ i hi=>c i (b3.2 (.inr hi)))
theorem gW.same(h:gW bl ρ w w' s)(e:∀q:Nat,w''.heap[q]? =w'.heap[q]?):gW bl ρ w w'' s:=λ q a b=>(e q).trans (h q a b)
end
def Cl(E:Env)(X:Nat->Prop)(bl:List (aC E.T.El))(ρ:List Value)(w:World):ab' E.T.El->Ending->Prop
 | .ret y,.returned v=>ao E.T (bi X bl ρ w) w ρ bl y v
 | .Ap y,.panicked c=>∃v,c=[{ v,recovered:=false }]/\ao E.T (bi X bl ρ w) w ρ bl y v
 |_,_=>False
def HS(E:Env)(X:Nat->Prop)(bl:List (aC E.T.El))(ρ:List Value)(w:World):Prop:=∀g y,cv E.cM g=some y->ao E.T (bi X bl ρ w) w ρ bl y (.pointer (some ⟨g,0,none⟩))
structure kZ (E:Env) (br:fc E):Prop where
 ok:∀f ys bl r,(br f ys bl).out r->(∀args w,(callFunc f args).run E.P w= .ok (.enter f args) w)/\
  ∀(W:World)(M0:List Nat)(X:Nat->Prop)(ρ:List Value)(w:World)(vs:List Value),Mem E.T W M0 X bl ρ w->HS E X bl ρ w->a1 E.T (bi X bl ρ w) w ρ bl ys vs ->
   Calls E.P f ⟨vs⟩ w λ e w'=>∃ρ',Mem E.T W M0 X r.bl ρ' w'/\To X bl r.bl ρ ρ' w w'/\gW bl ρ w w' r.ws/\Cl E X r.bl ρ' w' r.e e
structure pT (El:Nat->Type) where
 f:cq El
 aK:Option (Option Nat)
def X4(E:Env)(bl:List (aC E.T.El))(f:cq E.T.El)(d:Nat)(op:Op):D (pT E.T.El):=(FH E bl f [] op).bind λ y=>.ok ⟨f.put d y,qt E bl f [] op⟩
def PK(E:Env)(bl:List (aC E.T.El))(f:cq E.T.El)(d:Nat)(want c:Bool)(op:Op):D (pT E.T.El):=match Fk c want with
 |true=>X4 E bl f d op
 |false=>.ok ⟨f.put d (.p undef),none⟩
def cq.know{El:Nat->Type}(f:cq El)(j:Nat)(b:Bool):cq El:=⟨f.fr,f.gs,(j,b)::f.ea⟩
def akr(E:Env)(ops:Array Oper)(d:Nat):List Oper->Bool
 |[]=>false
 |o::r=>(match o.guard with
  |some (j,_)=>match IL ops j,(match o.op with
   | .indexAddr _ _ _=>Mi.e
   | .index _ _ _=>Mi.e
   | .slice _ _ _ _ _=>Mi.e
   |op=>OA E.P op)with
    |_,.q=>false
    |some d',_=>bP d' d
    |none,_=>false
  |none=>false)||akr E ops d r
def PL(E:Env)(ops:Array Oper)(n:Nat)(bl:List (aC E.T.El))(f:cq E.T.El)(o:Oper):D (pT E.T.El):=match o.dst with
 |none=>.no
 |some d=>match ee d n with
  |false=>.no
  |true=>match Ny E ops f n o.guard with
   | .run=>X4 E bl f d o.op
   | .skip=>.ok ⟨f.put d (.p undef),none⟩
   | .maybe bu want b=>match FH E bl f [(bu,want)] o.op,bP bu d||akr E ops d ops.toList with
     | .ok y,false=>.ok ⟨f.qF d bu want y,qt E bl f [(bu,want)] o.op⟩
     |_,_=>.p0 b (PK E bl (f.know bu true) d want true o.op) (PK E bl (f.know bu false) d want false o.op)
   | .cond bu want=>match FH E bl f [(bu,want)] o.op,bP bu d with
     | .ok y,false=>.ok ⟨f.qF d bu want y,qt E bl f [(bu,want)] o.op⟩
     |_,_=>.no
   | .no=>.no
section
variable{E:Env}{W w w':World}{M0:List Nat}{X:Nat->Prop}{n:ct}{f:cq E.T.El}{bl:List (aC E.T.El)}{ρ:List Value}{a:Act}{ops:Array Oper}{o:Oper}
theorem R.qF{d j:Nat}{b:Bool}{y:aF E.T.El}{v:Value}(h:R E W M0 X n f bl ρ a w)(aK:ee d n.n=true)(c:bP j d=false)(e:a.tmps.getD j undef= .bool b->ao E.T (bi X bl ρ w) w ρ bl y v):R E W M0 X n (f.qF d j b y) bl ρ (a.put (some d) v) w:=⟨h.mem,h.dL.qF aK c e,h.cM⟩
theorem R.know{j:Nat}{b:Bool}(h:R E W M0 X n f bl ρ a w)(aA:a.tmps.getD j undef= .bool b):R E W M0 X n (f.know j b) bl ρ a w:=⟨h.mem,⟨h.dL.dZ,h.dL.gs,λ p aE=>by
 rcases cm.1 aE with rfl |aE
 ·exact aA
 ·exact h.dL.ea p aE⟩,h.cM⟩
def HY(E:Env)(W:World)(M0:List Nat)(X:Nat->Prop)(n:ct)(bl:List (aC E.T.El))(ρ:List Value)(a:Act)(w:World)(ops:Array Oper)(o:Oper)(d:Nat)(r:pT E.T.El):Prop:=
 ∃u,R E W M0 X n r.f bl ρ (a.put (some d) u) w/\((Region.wanted o (yielded ops a.tmps)=true/\yV E.P o a X bl ρ w u r.aK)\/(Region.wanted o (yielded ops a.tmps)=false/\u=undef))
theorem ajh(aZ:cX E)(h:R E W M0 X n f bl ρ a w){d:Nat}(aK:ee d n.n=true)(b:Region.wanted o (yielded ops a.tmps)=true){r:pT E.T.El}(c:(X4 E bl f d o.op).out r):HY E W M0 X n bl ρ a w ops o d r:=by
 obtain⟨y,e,J⟩:=D.jS c;have J:(⟨f.put d y,qt E bl f [] o.op⟩:pT E.T.El)=r:=J;subst J;obtain⟨u,g,i⟩:=aeO aZ h (cur:=[]) trivial rfl e;exact⟨u,h.put aK g,.inl ⟨b,i⟩⟩
theorem ajj(h:R E W M0 X n f bl ρ a w){d:Nat}(aK:ee d n.n=true)(b:Region.wanted o (yielded ops a.tmps)=false):HY E W M0 X n bl ρ a w ops o d ⟨f.put d (.p undef),none⟩:=
 ⟨undef,h.put aK (by simp only[ao]),.inr ⟨b,rfl⟩⟩
theorem aji(aZ:cX E)(h:R E W M0 X n f bl ρ a w){d bu:Nat}{want c:Bool}(aK:ee d n.n=true)(aA:a.tmps.getD bu undef= .bool c)(e:Region.wanted o (yielded ops a.tmps)=true↔a.tmps.getD bu undef= .bool want){r:pT E.T.El}(b:(PK E bl f d want c o.op).out r):HY E W M0 X n bl ρ a w ops o d r:=by
 unfold PK at b;split at b
 ·rename_i af
  rw[yZ]at af
  subst af
  exact ajh aZ h aK (e.2 aA) b
 ·rename_i af
  have b:(⟨f.put d (.p undef),none⟩:pT E.T.El)=r:=b
  subst b
  refine ajj h aK ((gX).2 λ g=>?_)
  have:=e.1 g
  rw[aA]at this
  injection this with this
  rw[yZ.2 this]at af
  cases af
theorem ajg(aZ:cX E)(h:R E W M0 X n f bl ρ a w){d bu:Nat}{want:Bool}(aK:ee d n.n=true)(c:bP bu d=false)(e:Region.wanted o (yielded ops a.tmps)=true↔a.tmps.getD bu undef= .bool want){y:aF E.T.El}(g:FH E bl f [(bu,want)] o.op= .ok y):HY E W M0 X n bl ρ a w ops o d ⟨f.qF d bu want y,qt E bl f [(bu,want)] o.op⟩:=by
 by_cases af:a.tmps.getD bu undef= .bool want
 ·obtain⟨u,i,j⟩:=aeO aZ h (cur:=[(bu,want)]) (o:=o) (z:=y) ⟨af,trivial⟩ rfl (by rw[g];rfl)
  exact⟨u,h.qF aK c λ _=>i,.inl ⟨e.2 af,j⟩⟩
 ·exact⟨undef,h.qF aK c λ b=>absurd b af,.inr ⟨(gX).2 λ b=>af (e.1 b),rfl⟩⟩
theorem X5(aZ:cX E)(h:R E W M0 X n f bl ρ a w){r:pT E.T.El}(c:(PL E ops n.n bl f o).out r):∃d,o.dst=some d/\HY E W M0 X n bl ρ a w ops o d r:=by
 have e:=afo (ops:=ops) (o:=o) h;unfold PL at c;split at c
 ·exact c.elim
 ·rename_i d k
  refine⟨d,k,?_⟩
  split at c
  ·exact c.elim
  ·rename_i aK
   split at c
   ·rename_i g
    rw[g]at e
    exact ajh aZ h aK e c
   ·rename_i g
    rw[g]at e
    have c:(⟨f.put d (.p undef),none⟩:pT E.T.El)=r:=c
    subst c
    exact ajj h aK e
   ·rename_i bu want b g
    rw[g]at e
    obtain⟨m,j,i⟩:=e
    split at c
    ·rename_i y l J
     have c:(⟨f.qF d bu want y,qt E bl f [(bu,want)] o.op⟩:pT E.T.El)=r:=c
     subst c
     exact ajg aZ h aK (hQ.1 J).1 i l
    ·rcases c with⟨rfl,c⟩|⟨rfl,c⟩
     ·exact aji aZ (h.know j) aK j i c
     ·exact aji aZ (h.know j) aK j i c
   ·rename_i bu want g
    rw[g]at e
    obtain⟨m,i⟩:=e
    split at c
    ·rename_i y l J
     have c:(⟨f.qF d bu want y,qt E bl f [(bu,want)] o.op⟩:pT E.T.El)=r:=c
     subst c
     exact ajg aZ h aK J i l
    ·exact c.elim
   ·exact c.elim
end
def KU{T:bN}(n:Nat)(f:cq T.El)(y:aF T.El):Option Nat->Option (cq T.El)
 |none=>some f
 |some d=>match ee d n with
  |true=>some (f.put d y)
  |false=>none
def ad6(E:Env)(n:Nat)(bl:List (aC E.T.El))(f:cq E.T.El)(o:Oper):D (b2 E.T.El):=(M_ E bl f [] o.op).bind λ e=>match KU n f (e.y.getD (.p undef)) o.dst with
 |some a=>.ok ⟨.nm,a,e.bl,e.ws⟩
 |none=>.no
def TU{El:Nat->Type}:aF El->Option (Nat×List (aF El)×List (aF El))
 | .p (.func (.func g) ⟨us⟩ ⟨cs⟩)=>some (g,us.map .p,cs.map .p)
 | .f (.func g) cs=>some (g,[],cs)
 | .h (.func g) us=>some (g,us,[])
 |_=>none
def SL(E:Env)(br:fc E)(n:Nat)(bl:List (aC E.T.El))(f:cq E.T.El)(a:Option Nat):Op->D (b2 E.T.El)
 | .call ⟨.value b,⟨xs⟩,_⟩=>match od E bl f [] b,pj E bl f [] xs with
   |some c,some ys=>match TU c with
    |some (g,us,cs)=>(br g (us++ys++cs) bl).bind λ r=>match r.e with
     | .ret y=>match KU n f y a with
       |some d=>.ok ⟨.nm,d,r.bl,r.ws⟩
       |none=>.no
     | .Ap y=>.ok ⟨.hS y,f,r.bl,r.ws⟩
    |none=>.no
   |_,_=>.no
 |_=>.no
def Rn(E:Env)(br:fc E)(n:Nat)(bl:List (aC E.T.El))(f:cq E.T.El)(o:Oper):D (b2 E.T.El):=match OA E.P o.op with
 | .e=>ad6 E n bl f o
 | .c=>SL E br n bl f o.dst o.op
 |_=>.no
def Rp{T:bN}(n:Nat)(bl:List (aC T.El))(f:cq T.El)(o:Oper):D (b2 T.El):=match KU n f (.p undef) o.dst with
 |some a=>.ok ⟨.nm,a,bl,[]⟩
 |none=>.no
def Ro(E:Env)(br:fc E)(n:Nat)(bl:List (aC E.T.El))(f:cq E.T.El)(want c:Bool)(o:Oper):D (b2 E.T.El):=match Fk c want with
 |true=>Rn E br n bl f o
 |false=>Rp n bl f o
def Rq(E:Env)(br:fc E)(ops:Array Oper)(n:Nat)(bl:List (aC E.T.El))(f:cq E.T.El)(o:Oper):D (b2 E.T.El):=match Ny E ops f n o.guard with
 | .run=>Rn E br n bl f o
 | .skip=>Rp n bl f o
 | .maybe bu want b=>.p0 b (Ro E br n bl (f.know bu true) want true o) (Ro E br n bl (f.know bu false) want false o)
 |_=>.no
structure iW (E:Env) (W:World) (M0:List Nat) (X:Nat->Prop) (n:ct) (b0:List (aC E.T.El)) (ρ0:List Value) (w0:World) (s:eB E.T.El) (ρ:List Value) (a:Act) (w:World):Prop where
 r:R E W M0 X n s.f s.bl ρ a w
 to:To X b0 s.bl ρ0 ρ w0 w
 wr:gW b0 ρ0 w0 w s.ws
def Cq(E:Env)(X:Nat->Prop)(bl:List (aC E.T.El))(ρ:List Value)(Q:Exit->Act->World->Prop)(a:Act)(w:World):Mp E.T.El->Prop
 | .nm=>Q .normal a w
 | .ex id=>Q (.exit id) a w
 | .rt=>Q .ret a w
 | .hS y=>∀v,ao E.T (bi X bl ρ w) w ρ bl y v-> ∀b,b.defers=a.defers->Q (.panic [{ v,recovered:=false }]) b w
section
variable{E:Env}{br:fc E}{W w w':World}{M0:List Nat}{X:Nat->Prop}{n:ct}{f:cq E.T.El}{bl:List (aC E.T.El)}{ρ:List Value}{a:Act}{ops:Array Oper}{o:Oper}
theorem R.set{c:cq E.T.El}{y:aF E.T.El}{v:Value}{b:Option Nat}(h:R E W M0 X n f bl ρ a w)(aj:KU n.n f y b=some c)(d:ao E.T (bi X bl ρ w) w ρ bl y v):R E W M0 X n c bl ρ (a.put b v) w:=by
 unfold KU at aj;split at aj
 ·simp only[aD]at aj
  subst aj
  exact h
 ·split at aj
  ·rename_i aK
   simp only[aD]at aj
   subst aj
   exact h.put aK d
  ·cases aj
def Fi(E:Env)(W:World)(M0:List Nat)(X:Nat->Prop)(n:ct)(bl:List (aC E.T.El))(ρ:List Value)(a:Act)(w:World)(ops:Array Oper)(o:Oper)(r:b2 E.T.El):Prop:=
 ∀(K:Act->World->Prop)(Q:Exit->Act->World->Prop),
  (∀ρ' b w',R E W M0 X n r.s.f r.s.bl ρ' b w'->To X bl r.s.bl ρ ρ' w w'->gW bl ρ w w' r.s.ws->Cq E X r.s.bl ρ' (Exit.then K Q) b w' r.x) ->
  if Region.wanted o (yielded ops a.tmps)then o.wp E.P a w K Q else K (a.put o.dst undef) w
theorem auE(aZ:cX E)(h:R E W M0 X n f bl ρ a w)(i:Region.wanted o (yielded ops a.tmps)=true){r:b2 E.T.El}(j:(ad6 E n.n bl f o).out r):Fi E W M0 X n bl ρ a w ops o r:=by
 obtain⟨e,l,J⟩:=D.jS j;obtain⟨w',ρ',m,b,d,hy⟩:=avo aZ h (cur:=[]) (o:=o) trivial rfl l;intro K Q k;rw[if_pos i];split at J
 ·rename_i p aj
  have J:(⟨.nm,p,e.bl,e.ws⟩:b2 E.T.El)=r:=J
  subst J
  have g:=h.to b m
  unfold Oper.wp
  split at hy
  ·rename_i y c
   obtain⟨v,q,s⟩:=hy
   rw[show(execOp a.eval o).run E.P w=_ from q]
   rw[c]at aj
   exact k ρ' _ w' (g.set aj s) b d
  ·rename_i c
   rw[show(execOp a.eval o).run E.P w=_ from hy]
   rw[c]at aj
   exact k ρ' _ w' (g.set (y:=.p undef) aj (by simp only[ao])) b d
 ·exact J.elim
theorem PZ{F:Nat->Prop}:∀(l:List Value),a1 E.T F w ρ bl (l.map .p) l
 |[]=>by simp[a1]
 |v::r=>by simp only[eu,a1];exact⟨v,r,rfl,rfl,PZ r⟩
theorem avR{F:Nat->Prop}{y:aF E.T.El}{v:Value}{g:Nat}{us cs:List (aF E.T.El)}(h:TU y=some (g,us,cs))(b:ao E.T F w ρ bl y v):∃u c,v= .func (.func g) ⟨u⟩ ⟨c⟩/\a1 E.T F w ρ bl us u/\a1 E.T F w ρ bl cs c:=by
 unfold TU at h;split at h
 ·simp only[aD,b5]at h
  obtain⟨rfl,rfl,rfl⟩:=h
  simp only[ao]at b
  exact⟨_,_,b,PZ _,PZ _⟩
 ·simp only[aD,b5]at h
  obtain⟨rfl,rfl,rfl⟩:=h
  simp only[ao]at b
  obtain⟨vs,d,J⟩:=b
  exact⟨[],vs,d,by simp[a1],J⟩
 ·simp only[aD,b5]at h
  obtain⟨rfl,rfl,rfl⟩:=h
  simp only[ao]at b
  obtain⟨vs,d,J⟩:=b
  exact⟨vs,[],d,J,by simp[a1]⟩
 ·cases h
theorem asU(s:kZ E br)(h:R E W M0 X n f bl ρ a w)(t:Region.wanted o (yielded ops a.tmps)=true){op:Op}(ap:o.op=op){r:b2 E.T.El}(d:(SL E br n.n bl f o.dst op).out r):Fi E W M0 X n bl ρ a w ops o r:=by
 unfold SL at d;split at d
 ·rename_i L xs M
  split at d
  ·rename_i N ys x J
   split at d
   ·rename_i g us cs z
    obtain⟨j,A,b⟩:=D.jS d
    obtain⟨u,c,e1,e2,e3⟩:=avR z (di h (cur:=[]) trivial x)
    have e4:=Al h (cur:=[]) trivial J
    obtain⟨B,l⟩:=s.ok _ _ _ _ A
    have hc:=l W M0 X ρ w (u++xs.map a.eval++c) h.mem h.cM ((e2.bD e4).bD e3)
    intro K Q k
    rw[if_pos t]
    unfold Oper.wp
    have C:(execOp a.eval o).run E.P w= .ok (.enter g ⟨u++xs.map a.eval++c⟩) w:=by
     simp only[execOp,ap,resolve,e1];simp[Deferred.ofValue,invoke,B]
    rw[C]
    refine hc.mono λ e w' F=>?_
    obtain⟨ρ',G,m,p,i⟩:=F
    have q:=h.to m G
    split at b
    ·rename_i y hy
     rw[hy]at i
     split at b
     ·rename_i H aj
      have b:(⟨.nm,H,j.bl,j.ws⟩:b2 E.T.El)=r:=b
      subst b
      cases e with
      |returned v=>exact k ρ' _ w' (q.set aj i) m p
      |panicked c=>exact i.elim
      |outgrown=>exact i.elim
     ·exact b.elim
    ·rename_i y hy
     rw[hy]at i
     have b:(⟨.hS y,f,j.bl,j.ws⟩:b2 E.T.El)=r:=b
     subst b
     cases e with
     |returned v=>exact i.elim
     |panicked c=>
      obtain⟨v,rfl,I⟩:=i
      exact k ρ' a w' q m p v I a rfl
     |outgrown=>exact i.elim
   ·exact d.elim
  ·exact d.elim
 ·exact d.elim
theorem anw(aZ:cX E)(d:kZ E br)(h:R E W M0 X n f bl ρ a w)(c:Region.wanted o (yielded ops a.tmps)=true){r:b2 E.T.El}(b:(Rn E br n.n bl f o).out r):Fi E W M0 X n bl ρ a w ops o r:=by
 unfold Rn at b;split at b
 ·exact auE aZ h c b
 ·exact asU d h c rfl b
 ·exact b.elim
theorem anz(h:R E W M0 X n f bl ρ a w)(c:Region.wanted o (yielded ops a.tmps)=false){r:b2 E.T.El}(b:(Rp n.n bl f o).out r):Fi E W M0 X n bl ρ a w ops o r:=by
 unfold Rp at b;split at b
 ·rename_i d aj
  have b:(⟨.nm,d,bl,[]⟩:b2 E.T.El)=r:=b
  subst b
  intro K Q k
  rw[if_neg (by simp[c])]
  exact k ρ _ w (h.set aj (by simp only[ao])) .refl .nil
 ·exact b.elim
theorem anx(aZ:cX E)(e:kZ E br)(h:R E W M0 X n f bl ρ a w){bu:Nat}{want c:Bool}(aA:a.tmps.getD bu undef= .bool c)(d:Region.wanted o (yielded ops a.tmps)=true↔a.tmps.getD bu undef= .bool want){r:b2 E.T.El}(b:(Ro E br n.n bl f want c o).out r):Fi E W M0 X n bl ρ a w ops o r:=by
 unfold Ro at b;split at b
 ·rename_i af
  rw[yZ]at af
  subst af
  exact anw aZ e h (d.2 aA) b
 ·rename_i af
  refine anz h ((gX).2 λ g=>?_) b
  have:=d.1 g
  rw[aA]at this
  injection this with this
  rw[yZ.2 this]at af
  cases af
theorem abE(aZ:cX E)(i:kZ E br)(h:R E W M0 X n f bl ρ a w){r:b2 E.T.El}(c:(Rq E br ops n.n bl f o).out r):Fi E W M0 X n bl ρ a w ops o r:=by
 have d:=afo (ops:=ops) (o:=o) h;unfold Rq at c;split at c
 ·rename_i e
  rw[e]at d
  exact anw aZ i h d c
 ·rename_i e
  rw[e]at d
  exact anz h d c
 ·rename_i bu want b e
  rw[e]at d
  obtain⟨k,g,j⟩:=d
  rcases c with⟨rfl,c⟩|⟨rfl,c⟩
  ·exact anx aZ i (h.know g) g j c
  ·exact anx aZ i (h.know g) g j c
 ·exact c.elim
end
noncomputable def opsL(E:Env)(br:fc E)(ops:Array Oper)(n:Nat):List Oper->eB E.T.El->D (b2 E.T.El)
 |[],s=>.ok ⟨.nm,s⟩
 |o::r,s=>match OA E.P o.op with
  | .q=>(PL E ops n s.bl s.f o).bind λ q=>DV E q.f λ f=>opsL E br ops n r ⟨f,s.bl,s.ws⟩
  | .no=>.no
  |_=>(Rq E br ops n s.bl s.f o).bind λ t=>match t.x with
   | .nm=>DV E t.s.f λ f=>Ki E t.s.ws s.bl.length t.s.bl λ bl=>opsL E br ops n r ⟨f,bl,t.s.ws++s.ws⟩
   |x=>.ok ⟨x,t.s.f,t.s.bl,t.s.ws++s.ws⟩
def Fin(E:Env)(W:World)(M0:List Nat)(X:Nat->Prop)(n:ct)(b0:List (aC E.T.El))(ρ0:List Value)(w0:World)(t:b2 E.T.El)(Q:Exit->Act->World->Prop):Prop:=
 ∀ρ a w,iW E W M0 X n b0 ρ0 w0 t.s ρ a w->Cq E X t.s.bl ρ Q a w t.x
section
variable{E:Env}{br:fc E}{W:World}{M0:List Nat}{X:Nat->Prop}{n:ct}{b0:List (aC E.T.El)}{ρ0:List Value}{w0:World}{ops:Array Oper}{Q:Exit->Act->World->Prop}
theorem iW.next{s s':eB E.T.El}{ρ ρ':List Value}{a b:Act}{w w':World}(h:iW E W M0 X n b0 ρ0 w0 s ρ a w)(c:R E W M0 X n s'.f s'.bl ρ' b w')(d:To X s.bl s'.bl ρ ρ' w w')(e:gW s.bl ρ w w' s'.ws):iW E W M0 X n b0 ρ0 w0 ⟨s'.f,s'.bl,s'.ws++s.ws⟩ ρ' b w':=
 ⟨c,h.to.trans d,h.wr.bD h.to e⟩
theorem XM(aZ:cX E)(i:kZ E br):∀(os:List Oper){s:eB E.T.El}{t:b2 E.T.El}{ρ:List Value}{a:Act}{w:World},(opsL E br ops n.n os s).out t->iW E W M0 X n b0 ρ0 w0 s ρ a w->Fin E W M0 X n b0 ρ0 w0 t Q->wpList E.P ops Q os a w
 |[],s,t,ρ,a,w,c,h,k=>by
  have c:(⟨.nm,s⟩:b2 E.T.El)=t:=c;subst c;exact k ρ a w h
 |o::r,s,t,ρ,a,w,c,h,k=>by
  simp only[opsL]at c;split at c
  ·obtain⟨q,j,J⟩:=D.jS c
   rw[DW]at J
   obtain⟨d,aK,u,l,hy⟩:=X5 (ops:=ops) aZ h.r j
   have next:=XM aZ i r J (ρ:=ρ) (a:=a.put (some d) u) (w:=w) ⟨l,h.to,h.wr⟩ k
   refine wpList_step λ K p=>?_
   rcases hy with⟨e,hy⟩|⟨e,hy⟩
   ·rw[if_pos e]
    unfold Oper.wp
    rw[show(execOp a.eval o).run E.P w=_ from hy.now]
    show K (a.put o.dst u) w
    rw[aK]
    exact p _ _ next
   ·rw[if_neg (by simp[e]),aK,<-hy]
    exact p _ _ next
  ·exact c.elim
  ·obtain⟨b,j,J⟩:=D.jS c
   have f:=abE aZ i h.r j
   have f:=f (wpList E.P ops Q r) Q λ ρ' m w' l v e=>by
    have aj:=h.next l v e;cases g:b.x with
    |nm=>
     rw[g]at J
     simp only[DW,Pn]at J
     exact XM aZ i r J aj k
    |ex id=>
     rw[g]at J
     have J:(⟨.ex id,b.s.f,b.s.bl,b.s.ws++s.ws⟩:b2 E.T.El)=t:=J
     subst J
     exact k ρ' m w' aj
    |rt=>
     rw[g]at J
     have J:(⟨.rt,b.s.f,b.s.bl,b.s.ws++s.ws⟩:b2 E.T.El)=t:=J
     subst J
     exact k ρ' m w' aj
    |hS y=>
     rw[g]at J
     have J:(⟨.hS y,b.s.f,b.s.bl,b.s.ws++s.ws⟩:b2 E.T.El)=t:=J
     subst J
     exact k ρ' m w' aj
   unfold wpList
   split
   ·rename_i e
    rw[if_pos e]at f
    exact .inl f
   ·rename_i e
    rw[if_neg e]at f
    exact f
end
end a8
namespace a8
open Go Go.RowKit aq I
section
variable{P:Program}{ops:Array Oper}{Q:Exit->Act->World->Prop}
def ku(H:List (List Nat×(World->Prop)))(a:Array Bool)(w:World):Prop:=∀h∈H,(∀v∈h.1,a.getD v false=false)->h.2 w
def nb(P:Program)(ops:Array Oper)(Q:Exit->Act->World->Prop)(H:List (List Nat×(World->Prop))):Nat->Array Bool->Act->World->Prop
 |0,b,a,w=>Region.ready .any ops b=[]/\Q .normal a w
 |cz+1,b,a,w=>(Region.ready .any ops b=[]->Q .normal a w)/\ ∀i∈Region.ready .any ops b,wpOp P ops Q i (λ c w'=>ku H (b.setIfInBounds i true) w'/\nb P ops Q H cz (b.setIfInBounds i true) c w') a w
theorem alk{H:List (List Nat×(World->Prop))}:∀(cz:Nat)(b:Array Bool)(a:Act)(w:World),nb P ops Q H cz b a w->Go.wpAny P .any ops Q cz b a w
 |0,_,_,_,h=>h
 |cz+1,_,_,_,h=>⟨h.1,λ i hi=>wpOp_mono (λ c w' h'=>alk cz _ c w' h'.2) (h.2 i hi)⟩
theorem Z'{H c:List (List Nat×(World->Prop))}(d:∀b w,ku H b w->ku c b w):∀(cz:Nat)(b:Array Bool)(a:Act)(w:World),nb P ops Q H cz b a w->nb P ops Q c cz b a w
 |0,_,_,_,h=>h
 |cz+1,_,_,_,h=>⟨h.1,λ i hi=>wpOp_mono (λ e w' h'=>⟨d _ _ h'.1,Z' d cz _ e w' h'.2⟩) (h.2 i hi)⟩
theorem IJ{a:Array Bool}{i v:Nat}(h:i≠v):(a.setIfInBounds i true).getD v false=a.getD v false:=getD_set_ne false h
theorem aGL{a:Array Bool}{i v:Nat}(h:(a.setIfInBounds i true).getD v false=false):a.getD v false=false:=by
 by_cases e:i=v
 ·subst e
  rcases fN i a.size with h' |h'
  ·simp[h']at h
  ·simp[hA h']
 ·rwa [IJ e]at h
theorem aln{H:List (List Nat×(World->Prop))}{i:Nat}{oi:Oper}{v:Value}{S:World->Prop}{U V:List Nat}(hi:ops[i]? =some oi)(G:∀(j:Nat)(o:Oper) cs b,ops[j]? =some o->o.op≠ .select cs b)
 (T:∀c a w,Q (.panic c) (a.put oi.dst v) w->Q (.panic c) a w)(X:EV ops i U)(Y:∀v∈V,v∈U)(Z:i∉V)(Vt:∀h∈H,i∉h.1) :
 ∀(t:Nat)(d:Array Bool)(a:Act)(w:World),
  (∀j g,ops[j]? =some g->j≠i->d.getD j true=false->(∀e∈g.after,Region.binds .any e=true->e.on≠i)->oi.apart ops g=true) ->
  (∀u∈U,d.getD u false=false)->i∈Region.ready .any ops d->ku H d w->S w->YieldsIf P ops S oi v a ->
  nb P ops Q ((V,S)::H) t (d.setIfInBounds i true) (a.put oi.dst v) w->nb P ops Q H (t+1) d a w:=by
 have mono:∀(d:Array Bool)(w:World),ku ((V,S)::H) d w->ku H d w:=λ d w h p q=>h p (ez _ q)
 have put:∀ {d:Array Bool}{w:World},ku H d w->ku H (d.setIfInBounds i true) w:=λ{d w} h p q r=>h p q λ v l=>aGL (r v l)
 intro t
 induction t with
 |zero=>
  intro d a w _ _ m D E hy W
  refine⟨λ h=>(by rw[h]at m;cases m),λ j aA=>?_⟩
  by_cases f:j=i
  ·subst f;exact hy.wpOp hi E ⟨put D,W⟩
  ·have:=ready_mono aA f
   rw[W.1]at this
   cases this
 |succ t ba=>
  intro d a w I s m D E hy W
  refine⟨λ h=>(by rw[h]at m;cases m),λ j aA=>?_⟩
  by_cases f:j=i
  ·subst f;exact hy.wpOp hi E ⟨put D,Z' mono _ _ _ _ W⟩
  ·have n:=W.2 j (ready_mono aA f)
   obtain⟨K,g,A,L⟩:=mem_ready.1 aA
   have M:∀e∈g.after,Region.binds .any e=true->e.on≠i:=λ e B af heq=>by
    have n:=L e B af;have N:=(mem_ready.1 m).1;rw[heq]at n;rcases fN i d.size with h' |h'
    ·simp[h']at N n;rw[N]at n;cases n
    ·simp[hA h']at n
   have O:j∉U:=λ Jg=>by
    obtain⟨eE,F,e,B,af,J⟩:=X j Jg;rw[A]at F;simp only[aD]at F;subst F;rcases J with J |J
    ·exact M e B af J
    ·have C:=L e B af
     rw[s _ J]at C
     cases C
   have V2:∀u∈U,(d.setIfInBounds j true).getD u false=false:=λ u r=>by
    have x:j≠u:=λ e=>O (e▸r);rw[IJ x];exact s u r
   have J:=wpOp_putIf A (I j g A f K M) (λ cs b=>G i oi cs b hi) (λ cs b=>G j g cs b A) T hy n
   have I8:∀k ok,ops[k]? =some ok->k≠i->(d.setIfInBounds j true).getD k true=false ->
    (∀e∈ok.after,Region.binds .any e=true->e.on≠i)->oi.apart ops ok=true:=λ k ok hk Jj s jL=>by
    refine I k ok hk Jj ?_ jL
    by_cases R:j=k
    ·subst R;exact K
    ·rw[getD_set_ne true R]at s;exact s
   refine wpOp_mono (λ aQ w' C=>?_) J
   obtain⟨sZ,c3,jp⟩:=C
   have NI:S w':=c3 (V,S) (by simp) λ v l=>by
    have y:=Y v l;have x:j≠v:=λ e=>O (e▸y);have VM:i≠v:=λ e=>Z (e▸l);rw[IJ x,IJ VM];exact s v y
   have z:ku H (d.setIfInBounds j true) w':=λ p q r=>c3 p (ez _ q) λ v l=>by
    have x:i≠v:=λ e=>Vt p q (e▸l);rw[jc _ _ (Ne.symm f),IJ x];exact r v l
   refine⟨z,ba (d.setIfInBounds j true) aQ w' I8 V2 (ready_mono m (Ne.symm f)) z NI sZ ?_⟩
   rw[jc _ _ f]
   exact jp
theorem aHR{H:List (List Nat×(World->Prop))}{i:Nat}{oi:Oper}{v:Value}(hi:ops[i]? =some oi)(l:∀(j:Nat)(o:Oper) cs b,ops[j]? =some o->o.op≠ .select cs b)
 (m:∀c a w,Q (.panic c) (a.put oi.dst v) w->Q (.panic c) a w)(n:∀h∈H,i∉h.1){g:Nat}{d:Array Bool}{a:Act}{w:World}
 (q:∀j k,ops[j]? =some k->j≠i->d.getD j true=false->(∀e∈k.after,Region.binds .any e=true->e.on≠i)->oi.apart ops k=true)
 (r:i∈Region.ready .any ops d)(s:ku H d w)(hy:YieldsIf P ops (λ _=>True) oi v a)(h:nb P ops Q H g (d.setIfInBounds i true) (a.put oi.dst v) w):nb P ops Q H (g+1) d a w:=
 aln (S:=λ _=>True) (U:=[]) (V:=[]) hi l m (λ u f=>by simp at f) (λ v t=>by simp at t) (by simp) n g d a w q (λ u f=>by simp at f) r s trivial hy
  (Z' (λ d w h p aE f=>by
   rcases cm.1 aE with rfl |aE
   ·trivial
   ·exact h p aE f) _ _ _ _ h)
end
def Wn:Op->Bool
 | .select _ _=>true
 |_=>false
def y9(o:Oper)(i:Nat):Bool:=o.after.toList.any λ e=>Region.binds .any e&&bP e.on i
def adA(o:Oper)(d:Nat):Bool:=match o.dst with
 |some d'=>bP d' d
 |none=>false
def Lg(ops:Array Oper)(x:Oper)(i:Nat)(d:Nat):Nat->List Oper->Bool
 |_,[]=>true
 |j,y::r=>(bP i j||(y9 x j||(!adA y d&&(!eX (y.looksAt ops) d||y9 y i))))&&Lg ops x i d (j+1) r
def Eg(ops:Array Oper)(all:List Oper):Nat->List Oper->Bool
 |_,[]=>true
 |i,x::r=>(!Wn x.op&&(match x.dst with
  |none=>true
  |some d=>Lg ops x i d 0 all))&&Eg ops all (i+1) r
section
variable{ops:Array Oper}
theorem Of{l:List Nat}{j:Nat}:eX l j=true↔j∈l:=by
 refine⟨r7,λ h=>?_⟩;induction l with
 |nil=>simp at h
 |cons i r a=>
  simp only[eX,hM]
  rcases cm.1 h with rfl |h
  ·exact .inl (by simp)
  ·exact .inr (a h)
theorem Z_{x:Oper}{i d:Nat}:∀ {l:List Oper}{k:Nat},Lg ops x i d k l=true-> ∀(m:Nat)(y:Oper),l[m]? =some y->i≠k+m->y9 x (k+m)=true\/(y.dst≠some d/\(d∈y.looksAt ops->y9 y i=true))
 |[],_,_,m,y,a,_=>by simp at a
 |z::r,k,h,m,y,a,b=>by
  simp only[Lg,bC,hM,ga]at h;cases m with
  |zero=>
   simp only[de,aD]at a
   subst a
   rcases h.1 with e |e |⟨e1,e2⟩
   ·exact absurd (a_ e) (by simpa using b)
   ·exact .inl (by simpa using e)
   ·refine .inr ⟨λ e=>?_,λ c=>?_⟩
    ·simp[adA,e]at e1
    ·rcases e2 with e2 |e2
     ·rw[Of.2 c]at e2;cases e2
     ·exact e2
  |succ m=>
   have:=Z_ h.2 m y (by simpa using a) (by omega)
   rwa [show k+1+m=k+(m+1) by omega]at this
theorem QF{all:List Oper}:∀ {l:List Oper}{k:Nat},Eg ops all k l=true-> ∀(m:Nat)(x:Oper),l[m]? =some x->Wn x.op=false/\ ∀d,x.dst=some d->Lg ops x (k+m) d 0 all=true
 |[],_,_,m,x,a=>by simp at a
 |z::r,k,h,m,x,a=>by
  simp only[Eg,bC,ga]at h;cases m with
  |zero=>
   simp only[de,aD]at a
   subst a
   refine⟨h.1.1,λ d aK=>?_⟩
   have:=h.1.2
   rw[aK]at this
   exact this
  |succ m=>
   have:=QF h.2 m x (by simpa using a)
   rwa [show k+1+m=k+(m+1) by omega]at this
theorem S'{o:Oper}{i:Nat}(h:y9 o i=true):∃e∈o.after,Region.binds .any e=true/\e.on=i:=by
 simp only[y9,h7,bC]at h;obtain⟨e,a,J,b⟩:=h;exact⟨e,by simpa using a,J,a_ b⟩
theorem alg(h:Eg ops ops.toList 0 ops.toList=true)(j:Nat)(o:Oper)(cs:_)(b:Bool)(ap:ops[j]? =some o):o.op≠ .select cs b:=λ e=>by
 have:=(QF h j o (by rw[gS];exact ap)).1;rw[e]at this;simp[Wn]at this
theorem aHN(h:Eg ops ops.toList 0 ops.toList=true){b:Array Bool}(aj:b.size=ops.size){i:Nat}{oi:Oper}(hi:ops[i]? =some oi)(p:i∈Region.ready .any ops b) :
 ∀j a,ops[j]? =some a->j≠i->b.getD j true=false->(∀e∈a.after,Region.binds .any e=true->e.on≠i)->oi.apart ops a=true:=λ j a aA u c g=>by
 have k:ops.toList[i]? =some oi:=by rw[gS];exact hi
 have l:ops.toList[j]? =some a:=by rw[gS];exact aA
 have m:=(QF h i oi k).2
 have n:=(QF h j a l).2
 simp only[ji]at m n
 have done:y9 oi j=true->False:=λ hc=>by
  obtain⟨e,e1,e2,e3⟩:=S' hc;obtain⟨_,v,o,q⟩:=mem_ready.1 p;rw[hi]at o;cases o;have:=q e e1 e2;rw[e3]at this;have r:j<b.size:=by rw[aj];exact(ft.1 aA).1
  simp[r]at this c;rw[this]at c;cases c
 unfold Oper.apart
 rw[bC]
 constructor
 ·cases aK:oi.dst with
  |none=>rfl
  |some d=>
   rcases Z_ (m d aK) j a l (by omega)with hc |⟨s,f⟩
   ·exact(done (by simpa using hc)).elim
   simp only[bC,ga,bne_iff_ne,ne_eq]
   refine⟨?_,s⟩
   rw[gX]
   intro hc
   obtain⟨e,e1,e2,e3⟩:=S' (f (by simpa using hc))
   exact g e e1 e2 e3
 ·cases aK:a.dst with
  |none=>rfl
  |some d=>
   simp only[ga]
   rw[gX]
   intro hc
   rcases Z_ (n d aK) i oi k (by omega)with t |⟨_,f⟩
   ·obtain⟨e,e1,e2,e3⟩:=S' (by simpa using t:y9 a i=true)
    exact g e e1 e2 e3
   ·exact done (f (by simpa using hc))
end
end a8
namespace a8
open Go Go.RowKit aq I
inductive j7 (El:Nat->Type):Type
 |ro
 |Cv (i:Nat)
 |cl (i o:Nat) (y:aF El)
def MU{El:Nat->Type}(bl:List (aC El)):aF El->Bool
 | .b _ _=>true
 | .m _=>true
 | .r i g=>bP g (tG bl i)
 |_=>false
def Zx{El:Nat->Type}:aF El->aF El->Bool
 | .b i o,.b j p=>bP i j&&bP o p
 | .m i,.m j=>bP i j
 | .r i g,.r j h=>bP i j&&bP g h
 |_,_=>false
def SS(E:Env)(bl:List (aC E.T.El))(f:cq E.T.El):Op->Option (Nat×Nat×aF E.T.El)
 | .load t x=>match od E bl f [] x with
   |some (.b i o)=>match nth bl i,lay E.P t with
    |some (.c _ cs),some (false,_)=>match nth cs o with
     |some y=>match MU bl y with
      |true=>some (i,o,y)
      |false=>none
     |none=>none
    |_,_=>none
   |_=>none
 |_=>none
def Dm(P:Program)(o:Oper):Bool:=match OA P o.op with
 | .q=>true
 |_=>false
def Cy(P:Program)(ops:Array Oper):List Nat->List Nat
 |[]=>[]
 |v::r=>match nth ops.toList v with
  |some o=>match Dm P o with
   |true=>Cy P ops r
   |false=>v::Cy P ops r
  |none=>Cy P ops r
def ends(P:Program)(ops:Array Oper)(i:Nat):List Nat:=Cy P ops (nK ops.toList 0 i [])
def af4(E:Env)(bl:List (aC E.T.El))(f:cq E.T.El)(op:Op)(b:Nat):j7 E.T.El:=match SS E bl f op with
 |some (i,o,y)=>.cl i o y
 |none=>.Cv b
def acx(E:Env)(ops:Array Oper)(bl:List (aC E.T.El))(f:cq E.T.El)(i:Nat)(op:Op)(aj:List (List Nat×j7 E.T.El)):Option (Option Nat)->List (List Nat×j7 E.T.El)
 |none=>aj
 |some none=>(ends E.P ops i,.ro)::aj
 |some (some b)=>(ends E.P ops i,af4 E bl f op b)::aj
def NN{El:Nat->Type}(ws:List Nat)(bl':List (aC El)):j7 El->Bool
 | .ro=>true
 | .Cv i=>!eX ws i
 | .cl i o y=>!eX ws i||match nth bl' i with
   |some (.c _ cs)=>match nth cs o with
    |some a=>Zx y a&&MU bl' y
    |none=>false
   |_=>false
def Dq{El:Nat->Type}(e:Nat)(ws:List Nat)(bl':List (aC El)):List (List Nat×j7 El)->Option (List (List Nat×j7 El))
 |[]=>some []
 |(V,h)::r=>match Dq e ws bl' r with
  |none=>none
  |some a=>match eX V e with
   |true=>some a
   |false=>match NN ws bl' h with
    |true=>some ((V,h)::a)
    |false=>none
section
variable{T:bN}{W w w':World}{M0:List Nat}{X:Nat->Prop}{bl bl':List (aC T.El)}{ρ ρ':List Value}
def vG(bl:List (aC T.El))(ρ:List Value)(q i:Nat):Prop:=∀j B h,bl[j]? =some B->ρ[j]? =some h->q∈bz B h->j=i
def Mg(X:Nat->Prop)(bl:List (aC T.El))(ρ:List Value)(w:World)(S:World->Prop):j7 T.El->Prop
 | .ro=>∃q,bi X bl ρ w q/\ ∀w':World,w'.heap[q]? =w.heap[q]? ->S w'
 | .Cv i=>∃q,q<w.heap.size/\vG bl ρ q i/\ ∀w':World,w'.heap[q]? =w.heap[q]? ->S w'
 | .cl i o y=>∃g u,ρ[i]? =some (.pointer (some ⟨g,0,none⟩))/\g<w.heap.size/\vG bl ρ g i/\ao T (bi X bl ρ w) w ρ bl y u/\w.cell? ⟨g,o,none⟩=some u/\ ∀w':World,w'.cell? ⟨g,o,none⟩=some u->S w'
def vE(X:Nat->Prop)(bl:List (aC T.El))(ρ:List Value)(w:World)(S:World->Prop)(h:j7 T.El):Prop:=(∀w',S w')\/Mg X bl ρ w S h
theorem vE.now{S:World->Prop}{h:j7 T.El}(k:vE X bl ρ w S h):S w:=by
 rcases k with k |k
 ·exact k w
 ·cases h with
  |ro=>obtain⟨q,_,k⟩:=k;exact k w rfl
  |Cv i=>obtain⟨q,_,_,k⟩:=k;exact k w rfl
  |cl i o y=>obtain⟨g,u,_,_,_,_,hc,k⟩:=k;exact k w hc
theorem vG.to(a:To X bl bl' ρ ρ' w w'){q i:Nat}(b:q<w.heap.size)(h:vG bl ρ q i):vG bl' ρ' q i:=λ j B g aA c d=>by
 obtain⟨iU,e,e1,e2,e3⟩:=a.nT j B g aA c q d b;exact h j iU e e1 e2 e3
theorem vG.alq{s:List Nat}(a:gW bl ρ w w' s){q i:Nat}(b:q<w.heap.size)(h:vG bl ρ q i)(hi:i∉s):w'.heap[q]? =w.heap[q]? :=
 a q b λ j aA B g af c d=>hi (h j B g af c d▸aA)
theorem atG(j:Mem T W M0 X bl ρ w){y:aF T.El}{u v:Value}(aK:MU bl y=true)(a:ao T (bi X bl ρ w) w ρ bl y u)(b:ao T (bi X bl ρ w) w ρ bl y v):u=v:=by
 cases y<;>simp only[MU,hv]at aK
 ·simp only[ao]at a b
  obtain⟨g,c,rfl⟩:=a
  obtain⟨g',J,rfl⟩:=b
  rw[c]at J
  simp only[aD,Value.pointer.injEq,Addr.mk.injEq]at J
  rw[J.1]
 ·rename_i i g
  simp only[ao]at a b
  have e:=a_ aK
  rw[CK]at e
  obtain⟨_,h,c,_,J⟩:=a
  obtain⟨_,h',d,_,f⟩:=b
  rw[c]at d
  cases d
  rw[J e,f e]
 ·simp only[ao]at a b
  obtain⟨g,c,rfl⟩:=a
  obtain⟨g',J,rfl⟩:=b
  rw[c]at J
  simp only[aD,Value.map.injEq]at J
  rw[J]
theorem aGA{y z:aF T.El}(h:Zx y z=true):y=z:=by
 unfold Zx at h;split at h
 ·simp only[bC]at h
  rw[a_ h.1,a_ h.2]
 ·rw[a_ h]
 ·simp only[bC]at h
  rw[a_ h.1,a_ h.2]
 ·cases h
theorem vE.eQ(l:Mem T W M0 X bl' ρ' w')(b:To X bl bl' ρ ρ' w w'){ws:List Nat}(m:gW bl ρ w w' ws){S:World->Prop}{h:j7 T.El}(k:vE X bl ρ w S h)(hk:NN ws bl' h=true):vE X bl' ρ' w' S h:=by
 rcases k with k |k
 ·exact .inl k
 refine .inr ?_;cases h with
 |ro=>
  obtain⟨q,c,J⟩:=k
  have:=b.F q c
  exact⟨q,this.1,λ w'' e=>J w'' (e.trans this.2)⟩
 |Cv i=>
  obtain⟨q,c,J,f⟩:=k
  simp only[NN,ga]at hk
  have hi:i∉ws:=λ e=>by rw[Of.2 e]at hk;cases hk
  exact⟨q,dQ c b.sz,J.to b c,λ w'' e=>f w'' (e.trans (J.alq m c hi))⟩
 |cl i o y=>
  obtain⟨g,u,c,J,f,n,p,r⟩:=k
  obtain⟨B,e1,e2,_⟩:=b.L.at_ i _ c
  have e3:=e2 (by simp[kJ])
  subst e3
  have d:=b.v n
  refine⟨g,u,e1,dQ J b.sz,f.to b J,d,?_,r⟩
  simp only[NN,hM,ga]at hk
  rcases hk with hk |hk
  ·have hi:i∉ws:=λ e=>by rw[Of.2 e]at hk;cases hk
   rw[<-p]
   exact World.cell?_of_block (a:=⟨g,o,none⟩) (f.alq m J hi)
  ·split at hk
   ·rename_i t cs af
    split at hk
    ·rename_i C hy
     simp only[bC]at hk
     have:=aGA hk.1
     subst this
     rw[cW]at af hy
     obtain⟨g',vs,j,s,x⟩:=l.ok i _ _ af e1
     simp only[Value.pointer.injEq,aD,Addr.mk.injEq]at j
     have j:=j.1
     subst j
     obtain⟨v,z,A⟩:=x.at_ hy
     rw[atG l hk.2 d A]
     have:=y1 (g:=g) (t:=t) (cs:=vs) (w:=w') (by simpa[a7.b']using s) z
     simpa using this
    ·cases hk
   ·cases hk
def gU(P:Program)(ops:Array Oper)(X:Nat->Prop)(bl:List (aC T.El))(ρ:List Value)(w:World):List (List Nat×j7 T.El)->List (List Nat×(World->Prop))->Prop
 |[],H=>H=[]
 |p::r,H=>∃S a,H=(p.1,S)::a/\(∀v∈p.1,∃o,ops[v]? =some o/\Dm P o=false)/\vE X bl ρ w S p.2/\gU P ops X bl ρ w r a
theorem gU.y5{P:Program}{ops:Array Oper}:∀ {aj:List (List Nat×j7 T.El)}{H:List (List Nat×(World->Prop))},gU P ops X bl ρ w aj H-> ∀a,ku H a w
 |[],H,h,a=>by simp only[gU]at h;subst h;intro p b;simp at b
 |p::r,H,h,a=>by
  simp only[gU]at h;obtain⟨S,e,rfl,_,J,c⟩:=h;intro q aJ d;rcases cm.1 aJ with rfl |aJ
  ·exact J.now
  ·exact gU.y5 c a q aJ d
theorem gU.aiw{P:Program}{ops:Array Oper}:∀ {aj:List (List Nat×j7 T.El)}{H:List (List Nat×(World->Prop))},gU P ops X bl ρ w aj H-> ∀h∈H,∀v∈h.1,∃o,ops[v]? =some o/\Dm P o=false
 |[],H,h,p,a=>by simp only[gU]at h;subst h;simp at a
 |p::r,H,h,q,aJ=>by
  simp only[gU]at h;obtain⟨S,d,rfl,b,_,c⟩:=h;rcases cm.1 aJ with rfl |aJ
  ·exact b
  ·exact gU.aiw c q aJ
theorem gU.eQ{P:Program}{ops:Array Oper}(i:Mem T W M0 X bl' ρ' w')(j:To X bl bl' ρ ρ' w w'){ws:List Nat}(k:gW bl ρ w w' ws){e:Nat}:∀ {aj b8:List (List Nat×j7 T.El)}{H:List (List Nat×(World->Prop))},gU P ops X bl ρ w aj H->Dq e ws bl' aj=some b8 ->
 ∃l,gU P ops X bl' ρ' w' b8 l/\ ∀b w,b.getD e false=true->ku l b w->ku H b w
 |[],b8,H,h,a=>by
  simp only[Dq,aD]at a;subst a;exact⟨H,h,λ _ _ _ h=>h⟩
 |(V,aK)::r,b8,H,h,a=>by
  simp only[gU]at h;obtain⟨S,o,rfl,s,J,t⟩:=h;simp only[Dq]at a;split at a
  ·cases a
  ·rename_i y u
   obtain⟨f,m,n⟩:=gU.eQ i j k t u
   split at a
   ·rename_i v
    simp only[aD]at a
    subst a
    refine⟨f,m,λ b w d hc p aE c=>?_⟩
    rcases cm.1 aE with rfl |aE
    ·have:=c e (r7 v)
     rw[d]at this
     cases this
    ·exact n b w d hc p aE c
   ·split at a
    ·rename_i g
     simp only[aD]at a
     subst a
     refine⟨(V,S)::f,?_,λ b w d hc p aE c=>?_⟩
     ·simp only[gU]
      exact⟨S,f,rfl,s,J.eQ i j k g,m⟩
     ·rcases cm.1 aE with rfl |aE
      ·exact hc _ (by simp) c
      ·exact n b w d (λ q x=>hc q (ez _ x)) p aE c
    ·cases a
end
section
variable{E:Env}{W w w':World}{M0:List Nat}{X:Nat->Prop}{n:ct}{f:cq E.T.El}{bl:List (aC E.T.El)}{ρ:List Value}{a:Act}{ops:Array Oper}{o:Oper}
theorem aiJ(b:Mem E.T W M0 X bl ρ w){i:Nat}{B:aC E.T.El}{h:Value}(hi:bl[i]? =some B)(c:ρ[i]? =some h){q:Nat}(d:q∈bz B h):q<w.heap.size/\vG bl ρ q i:=by
 refine⟨(b.lt q ⟨i,B,h,hi,c,d⟩).1,λ j C g aA k l=>?_⟩;by_cases e:j=i
 ·exact e
 ·exact absurd l (b.bu i j B C h g hi c aA k (Ne.symm e) q d)
theorem atf(h:R E W M0 X n f bl ρ a w){i p:Nat}{y:aF E.T.El}(b:SS E bl f o.op=some (i,p,y)):∃S,Mg X bl ρ w S (.cl i p y)/\ ∃u,∀w',S w'->bc E.P o a w' u w':=by
 unfold SS at b;split at b
 ·rename_i t x ap
  split at b
  ·rename_i j k l
   split at b
   ·rename_i t' cs F d m
    split at b
    ·rename_i G hy
     split at b
     ·simp only[aD,b5]at b
      obtain⟨rfl,rfl,rfl⟩:=b
      have e:=di h (cur:=[]) trivial l
      simp only[ao]at e
      obtain⟨g,e1,e2⟩:=e
      rw[cW]at d hy
      obtain⟨g',vs,c,r,s⟩:=h.mem.ok j _ _ d e1
      simp only[Value.pointer.injEq,aD,Addr.mk.injEq]at c
      have c:=c.1
      subst c
      obtain⟨v,z,A⟩:=s.at_ hy
      obtain⟨B,C⟩:=aiJ h.mem d e1 (q:=g) (by simp[bz,af])
      have hc:=y1 (g:=g) (t:=t') (cs:=vs) (w:=w) (by simpa[a7.b']using r) z
      exact⟨λ w'=>w'.cell? ⟨g,k,none⟩=some v,⟨g,v,e1,B,C,A,by simpa using hc,λ _ h=>h⟩,v,λ w' D=>yn (JY m).1 ap e2 D⟩
     ·cases b
    ·cases b
   ·cases b
  ·cases b
 ·cases b
end
end a8
namespace a8
open Go Go.RowKit aq I
section
variable{T:bN}{W w w':World}{M0:List Nat}{X:Nat->Prop}{bl:List (aC T.El)}{ρ:List Value}{B C:aC T.El}{h g:Value}
theorem Ha(b:ρ.length=bl.length){j:Nat}{D:aC T.El}{u:Value}(aA:(bl++[B,C])[j]? =some D)(a:(ρ++[h,g])[j]? =some u) :
 (j<bl.length/\bl[j]? =some D/\ρ[j]? =some u)\/(j=bl.length/\D=B/\u=h)\/(j=bl.length+1/\D=C/\u=g):=by
 rcases fN j bl.length with e |e
 ·rw[eW e]at aA
  rw[eW (by rw[b];exact e)]at a
  exact .inl ⟨e,aA,a⟩
 ·rw[fs e]at aA
  rw[fs (by rw[b];exact e),b]at a
  right
  cases aK:j-bl.length with
  |zero=>
   rw[aK]at aA a
   simp only[de,aD]at aA a
   exact .inl ⟨by omega,aA.symm,a.symm⟩
  |succ q=>
   cases q with
   |zero=>
    rw[aK]at aA a
    simp only[List.getElem?_cons_succ,de,aD]at aA a
    exact .inr ⟨by omega,aA.symm,a.symm⟩
   |succ q=>rw[aK]at aA;simp at aA
theorem Mem.ZT(b:Mem T W M0 X bl ρ w)(c:bj [] w w')(ad:∀k∈bz B h,w.heap.size<=k/\k<w'.heap.size)(i:∀k∈bz C g,w.heap.size<=k/\k<w'.heap.size):To X bl (bl++[B,C]) ρ (ρ++[h,g]) w w':=by
 refine⟨λ k a=>⟨⟨a.1,?_,dQ a.2.2 c.size⟩,c.block k a.2.2 (by simp)⟩,⟨λ j u aA=>?_⟩,c.size,λ j D u aA d k a l=>?_⟩
 ·rintro⟨j,D,u,aA,d,f⟩
  have:=a.2.2
  rcases Ha b.len aA d with⟨_,e1,e2⟩|⟨_,rfl,rfl⟩|⟨_,rfl,rfl⟩
  ·exact a.2.1 ⟨j,D,u,e1,e2,f⟩
  ·have:=(ad k f).1;omega
  ·have:=(i k f).1;omega
 ·have e:=(aM.1 aA).1
  have e':j<bl.length:=by rw[<-b.len];exact e
  refine⟨u,by rw[eW e];exact aA,λ _=>rfl,?_⟩
  rw[eW e']
  exact⟨cu _,λ _=>⟨rfl,rfl,cu _,λ _=>rfl⟩⟩
 ·rcases Ha b.len aA d with⟨_,e1,e2⟩|⟨_,rfl,rfl⟩|⟨_,rfl,rfl⟩
  ·exact⟨D,u,e1,e2,a⟩
  ·have:=(ad k a).1;omega
  ·have:=(i k a).1;omega
theorem Mem.ai_(d:Mem T W M0 X bl ρ w)(l:bj [] w w')(ad:∀k∈bz B h,w.heap.size<=k/\k<w'.heap.size)(f:∀k∈bz C g,w.heap.size<=k/\k<w'.heap.size)(aK:∀k∈bz B h,k∉bz C g)
 (q:iX T (bi X (bl++[B,C]) (ρ++[h,g]) w') w' (ρ++[h,g]) (bl++[B,C]) B h)(r:iX T (bi X (bl++[B,C]) (ρ++[h,g]) w') w' (ρ++[h,g]) (bl++[B,C]) C g):Mem T W M0 X (bl++[B,C]) (ρ++[h,g]) w':=by
 have p:=d.ZT l ad f
 have qC:∀ {j:Nat}{D:aC T.El}{u:Value}{k:Nat},bl[j]? =some D->ρ[j]? =some u->k∈bz D u->k<w.heap.size:=λ{j D u k} s J t=>(d.lt k ⟨j,D,u,s,J,t⟩).1
 refine⟨d.bS.trans l (by simp),by simp[d.len],d.hP,?_,?_,?_⟩
 ·rintro k ⟨j,D,u,aA,i,c⟩
  rcases Ha d.len aA i with⟨_,e1,e2⟩|⟨_,rfl,rfl⟩|⟨_,rfl,rfl⟩
  ·have:=d.lt k ⟨j,D,u,e1,e2,c⟩
   exact⟨dQ this.1 l.size,this.2⟩
  ·exact⟨(ad k c).2,.inr (gm d.bS.size (ad k c).1)⟩
  ·exact⟨(f k c).2,.inr (gm d.bS.size (f k c).1)⟩
 ·intro a b D G u v x i y z m k c e
  rcases Ha d.len x i with⟨_,e1,e2⟩|⟨A,rfl,rfl⟩|⟨A,rfl,rfl⟩<;>rcases Ha d.len y z with⟨_,n,o⟩|⟨E,rfl,rfl⟩|⟨E,rfl,rfl⟩
  ·exact d.bu _ _ _ _ _ _ e1 e2 n o m k c e
  ·have:=qC e1 e2 c;have:=(ad k e).1;omega
  ·have:=qC e1 e2 c;have:=(f k e).1;omega
  ·have:=qC n o e;have:=(ad k c).1;omega
  ·exact m (by omega)
  ·exact aK k c e
  ·have:=qC n o e;have:=(f k c).1;omega
  ·exact aK k e c
  ·exact m (by omega)
 ·intro j D u aA i
  rcases Ha d.len aA i with⟨_,e1,e2⟩|⟨_,rfl,rfl⟩|⟨_,rfl,rfl⟩
  ·exact(d.ok j D u e1 e2).later p.F p.L λ k c=>l.block k (qC e1 e2 c) (by simp)
  ·exact q
  ·exact r
theorem Mg.bS(b:bj [] w w'){S:World->Prop}{d:j7 T.El}(k:vE X bl ρ w S d):S w':=by
 rcases k with k |k
 ·exact k w'
 ·cases d with
  |ro=>obtain⟨q,c,k⟩:=k;exact k w' (b.block q c.2.2 (by simp))
  |Cv i=>obtain⟨q,c,_,k⟩:=k;exact k w' (b.block q c (by simp))
  |cl i o y=>
   obtain⟨g,u,_,J,_,_,hc,k⟩:=k
   refine k w' ?_
   rw[<-hc]
   exact World.cell?_of_block (a:=⟨g,o,none⟩) (b.block g J (by simp))
theorem gU.bS{P:Program}{ops:Array Oper}(b:bj [] w w'):∀ {aj:List (List Nat×j7 T.El)}{H:List (List Nat×(World->Prop))},gU P ops X bl ρ w aj H-> ∀a,ku H a w'
 |[],H,h,a=>by simp only[gU]at h;subst h;intro p c;simp at c
 |p::r,H,h,a=>by
  simp only[gU]at h;obtain⟨S,f,rfl,_,J,d⟩:=h;intro q aJ e;rcases cm.1 aJ with rfl |aJ
  ·exact Mg.bS b J
  ·exact gU.bS b d a q aJ e
end
def two(E:Env)(n:Nat)(bl:List (aC E.T.El))(f:cq E.T.El)(oi a:Oper):Option (cq E.T.El×List (aC E.T.El)):=match oi.op,a.op,oi.guard,a.guard,oi.dst,a.dst with
 | .alloc ti,.alloc c,none,none,some b,some bu=>match ES E.P ti,ES E.P c,ee b n&&(ee bu n&& !bP b bu)with
   |some d,some e,true=>some ((f.put b (.b bl.length 0)).put bu (.b (bl.length+1) 0),bl++[.c ti (d.map .p),.c c (e.map .p)])
   |_,_,_=>none
 |_,_,_,_,_,_=>none
section
variable{E:Env}{W w:World}{M0:List Nat}{X:Nat->Prop}{n:ct}{f f2:cq E.T.El}{bl y0:List (aC E.T.El)}{ρ:List Value}{a:Act}{oi dH:Oper}
abbrev uB(g:Nat):Value:=.pointer (some ⟨g,0,none⟩)
theorem aHe(h:R E W M0 X n f bl ρ a w)(i:two E n.n bl f oi dH=some (f2,y0)):∃m bu ti o j l,oi.dst=some m/\dH.dst=some bu/\m≠bu/\oi.guard=none/\dH.guard=none/\
 (∀a w,bc E.P oi a w (uB w.heap.size) (w.alloc (.cells ⟨j⟩ ti)))/\(∀a w,bc E.P dH a w (uB w.heap.size) (w.alloc (.cells ⟨l⟩ o)))/\
 ∀d g b,bj [] w b->w.heap.size<=d->d<b.heap.size->w.heap.size<=g->g<b.heap.size->d≠g->b.heap[d]? =some (.cells ⟨j⟩ ti (0,0))->b.heap[g]? =some (.cells ⟨l⟩ o (0,0)) ->
  ∃r,R E W M0 X n f2 y0 r ((a.put (some m) (uB d)).put (some bu) (uB g)) b/\To X bl y0 ρ r w b/\gW bl ρ w b []:=by
 unfold two at i
 split at i
 ·rename_i ti o m bu v J x y z A
  split at i
  ·rename_i j l e1 e2 e3
   simp only[bC,ga]at e3
   obtain⟨p,B,C⟩:=e3
   simp only[aD,b5]at i
   obtain⟨rfl,rfl⟩:=i
   obtain⟨S,D,F⟩:=L2 e1
   obtain⟨G,l1,H⟩:=L2 e2
   refine⟨m,bu,ti,o,j,l,z,A,λ e=>by subst e;simp at C,x,y,λ a w=>Br D F v,λ a w=>Br l1 H J,λ d g b q I K L M N O P=>?_⟩
   have ad:∀k∈bz (aC.c (El:=E.T.El) ti (j.map .p)) (uB d),w.heap.size<=k/\k<b.heap.size:=λ k c=>by
    simp only[bz,af,dK]at c;subst c;exact⟨I,K⟩
   have s:∀k∈bz (aC.c (El:=E.T.El) o (l.map .p)) (uB g),w.heap.size<=k/\k<b.heap.size:=λ k c=>by
    simp only[bz,af,dK]at c;subst c;exact⟨L,M⟩
   have t:=h.mem.ZT q ad s
   have Q:=h.mem.ai_ q ad s (λ k c u=>by
    simp only[bz,af,dK]at c u;exact N (c.symm.trans u)) ⟨d,j,rfl,O,sA j⟩ ⟨g,l,rfl,P,sA l⟩
   refine⟨_,((h.to t Q).put p ?_).put B ?_,t,λ k c _=>q.block k c (by simp)⟩
   ·simp only[ao]
    exact⟨d,by rw[<-h.mem.len];simp,rfl⟩
   ·simp only[ao]
    exact⟨g,by rw[<-h.mem.len];simp,rfl⟩
  ·cases i
 ·cases i
end
end a8
namespace a8
open Go Go.RowKit aq I
def sy(ds:List Nat)(o:Oper):Bool:=o.after.toList.all λ e=>!Region.binds .any e||eX ds e.on
def Ks(P:Program)(ds:List Nat):List (Nat×Oper)->Option (Nat×Oper)
 |[]=>none
 |(i,o)::r=>match Dm P o&&sy ds o with
  |true=>some (i,o)
  |false=>Ks P ds r
def mY(ds:List Nat):List (Nat×Oper)->List (Nat×Oper)
 |[]=>[]
 |(i,o)::r=>match sy ds o with
  |true=>(i,o)::mY ds r
  |false=>mY ds r
def mh(i:Nat):List (Nat×Oper)->List (Nat×Oper)
 |[]=>[]
 |(j,o)::r=>match bP j i with
  |true=>mh i r
  |false=>(j,o)::mh i r
def GB:Nat->List Oper->List (Nat×Oper)
 |_,[]=>[]
 |i,o::r=>(i,o)::GB (i+1) r
noncomputable def vR(E:Env)(br:fc E)(ops:Array Oper)(n:Nat):Nat->List (Nat×Oper)->List Nat->List (List Nat×j7 E.T.El)->eB E.T.El->D (b2 E.T.El)
 |0,rem,ds,_,s=>match mY ds rem with
  |[]=>.ok ⟨.nm,s⟩
  |_=>.no
 |cz+1,rem,ds,aj,s=>match Ks E.P ds rem with
  |some (i,o)=>(PL E ops n s.bl s.f o).bind λ q=>DV E q.f λ f=>vR E br ops n cz (mh i rem) (i::ds) (acx E ops s.bl s.f i o.op aj q.aK) ⟨f,s.bl,s.ws⟩
  |none=>match mY ds rem with
   |[]=>.ok ⟨.nm,s⟩
   |[(i,o)]=>(Rq E br ops n s.bl s.f o).bind λ t=>match t.x with
    | .nm=>match Dq i t.s.ws t.s.bl aj with
      |some b8=>DV E t.s.f λ f=>Ki E t.s.ws s.bl.length t.s.bl λ bl=>vR E br ops n cz (mh i rem) (i::ds) b8 ⟨f,bl,t.s.ws++s.ws⟩
      |none=>.no
    |x=>.ok ⟨x,t.s.f,t.s.bl,t.s.ws++s.ws⟩
   |[(i,oi),(j,b)]=>match two E n s.bl s.f oi b with
    |some (c,a)=>match mY (i::ds) (mh i rem),mY (j::ds) (mh j rem)with
     |[(io,_)],[(d,_)]=>match bP io j&&bP d i,Dq i [] a aj with
      |true,some e=>match Dq j [] a e,cz with
       |some J,cz+1=>DV E c λ f=>Ki E [] s.bl.length a λ bl=>vR E br ops n cz (mh j (mh i rem)) (j::i::ds) J ⟨f,bl,s.ws⟩
       |_,_=>.no
      |_,_=>.no
     |_,_=>.no
    |none=>.no
   |_=>.no
structure yS (ops:Array Oper) (rem:List (Nat×Oper)) (ds:List Nat):Prop where
 mem:∀i o,(i,o)∈rem↔ops[i]? =some o/\i∉ds
 lt:∀i∈ds,i<ops.size
 cl:∀i∈ds,∀o,ops[i]? =some o->sy ds o=true
section
variable{ops:Array Oper}{rem:List (Nat×Oper)}{ds:List Nat}
theorem OY{n:Nat}:∀ {ds:List Nat},(dG n ds).size=n
 |[]=>by simp[dG]
 |i::r=>by simp[dG,OY (ds:=r)]
theorem Gw{n j:Nat}{b:Bool}:∀ {ds:List Nat},j∈ds->j<n->(dG n ds).getD j b=true
 |i::r,h,a=>by
  simp only[dG,dP,fe];by_cases e:i=j
  ·subst e;simp[OY,a]
  ·rw[if_neg e]
   rcases cm.1 h with rfl |h
   ·exact absurd rfl e
   ·have:=Gw (b:=b) h a
    simpa[dP]using this
theorem OX{n j:Nat}:∀ {ds:List Nat},j∉ds->(dG n ds).getD j false=false
 |[],_=>by
  simp only[dG,dP,Array.getElem?_replicate];split<;>rfl
 |i::r,h=>by
  simp only[cm,not_or]at h;have:=OX (n:=n) h.2;simp only[dG,dP,fe,if_neg (Ne.symm h.1)]at this⊢;exact this
theorem aB4{n j:Nat}(b:j<n)(h:j∉ds):(dG n ds).getD j true=false:=by
 have a:=OX (n:=n) h;have c:j<(dG n ds).size:=by rw[OY];exact b
 simp only[dP,iR c,ie]at a⊢;exact a
theorem KJ{o:Oper}:sy ds o=true↔ ∀e∈o.after,Region.binds .any e=true->e.on∈ds:=by
 simp only[sy,jN,hM,ga];constructor
 ·intro h e a af
  rcases h e (by simpa using a)with h |h
  ·rw[af]at h;cases h
  ·exact r7 h
 ·intro h e a
  cases af:Region.binds .any e with
  |false=>exact .inl rfl
  |true=>exact .inr (Of.2 (h e (by simpa using a) af))
theorem uH(c:yS ops rem ds){i:Nat}:i∈Region.ready .any ops (dG ops.size ds)↔ ∃o,(i,o)∈rem/\sy ds o=true:=by
 rw[mem_ready];constructor
 ·rintro⟨a,o,J,b⟩
  have f:=(ft.1 J).1
  refine⟨o,(c.mem i o).2 ⟨J,λ e=>?_⟩,KJ.2 λ e d af=>?_⟩
  ·rw[Gw e f]at a;cases a
  ·by_cases aK:e.on∈ds
   ·exact aK
   ·have:=b e d af
    rw[OX aK]at this
    cases this
 ·rintro⟨o,a,J⟩
  obtain⟨b,g⟩:=(c.mem i o).1 a
  refine⟨aB4 (ft.1 b).1 g,o,b,λ e d af=>?_⟩
  have:=KJ.1 J e d af
  exact Gw this (c.lt _ this)
theorem Zt{i j:Nat}{o:Oper}:∀ {rem:List (Nat×Oper)},(j,o)∈mh i rem↔(j,o)∈rem/\j≠i
 |[]=>by simp[mh]
 |(k,p)::r=>by
  simp only[mh];cases af:bP k i with
  |true=>
   have:=a_ af
   subst this
   rw[Zt (rem:=r)]
   simp only[cm,b5]
   constructor
   ·rintro⟨h1,J⟩;exact⟨.inr h1,J⟩
   ·rintro⟨h1,J⟩
    rcases h1 with⟨h1,_⟩|h1
    ·exact absurd h1 J
    ·exact⟨h1,J⟩
  |false=>
   have a:k≠i:=λ e=>by subst e;simp at af
   simp only[cm,b5,Zt (rem:=r)]
   constructor
   ·rintro(⟨rfl,rfl⟩|⟨h1,J⟩)
    ·exact⟨.inl ⟨rfl,rfl⟩,a⟩
    ·exact⟨.inr h1,J⟩
   ·rintro⟨h1 |h1,J⟩
    ·exact .inl h1
    ·exact .inr ⟨h1,J⟩
theorem yS.next(f:yS ops rem ds){i:Nat}{o:Oper}(hi:(i,o)∈rem)(ap:sy ds o=true):yS ops (mh i rem) (i::ds):=by
 obtain⟨g,J⟩:=(f.mem i o).1 hi;have up:∀ {p:Oper},sy ds p=true->sy (i::ds) p=true:=λ{p} d=>KJ.2 λ e h af=>ez _ (KJ.1 d e h af);refine⟨λ j p=>?_,λ j aA=>?_,λ j aA p d=>?_⟩
 ·rw[Zt,f.mem]
  simp only[cm,not_or]
  exact⟨λ⟨⟨a,b⟩,c⟩=>⟨a,c,b⟩,λ⟨a,c,b⟩=>⟨⟨a,b⟩,c⟩⟩
 ·rcases cm.1 aA with rfl |aA
  ·exact(ft.1 g).1
  ·exact f.lt j aA
 ·rcases cm.1 aA with rfl |aA
  ·rw[g]at d;cases d;exact up ap
  ·exact up (f.cl j aA p d)
theorem aiY{P:Program}{i:Nat}{o:Oper}:∀ {rem:List (Nat×Oper)},Ks P ds rem=some (i,o)->(i,o)∈rem/\Dm P o=true/\sy ds o=true
 |[],h=>by simp[Ks]at h
 |(k,p)::r,h=>by
  simp only[Ks]at h;split at h
  ·rename_i af
   simp only[aD,b5]at h
   obtain⟨rfl,rfl⟩:=h
   rw[bC]at af
   exact⟨by simp,af⟩
  ·obtain⟨a,J⟩:=aiY h
   exact⟨ez _ a,J⟩
theorem qL{i:Nat}{o:Oper}:∀ {rem:List (Nat×Oper)},(i,o)∈mY ds rem↔(i,o)∈rem/\sy ds o=true
 |[]=>by simp[mY]
 |(k,p)::r=>by
  simp only[mY];split
  ·rename_i af
   simp only[cm,b5,qL (rem:=r)]
   constructor
   ·rintro(⟨rfl,rfl⟩|⟨h1,J⟩)
    ·exact⟨.inl ⟨rfl,rfl⟩,af⟩
    ·exact⟨.inr h1,J⟩
   ·rintro⟨h1 |h1,J⟩
    ·exact .inl h1
    ·exact .inr ⟨h1,J⟩
  ·rename_i af
   simp only[cm,b5,qL (rem:=r)]
   constructor
   ·rintro⟨h1,J⟩;exact⟨.inr h1,J⟩
   ·rintro⟨⟨rfl,rfl⟩|h1,J⟩
    ·rw[J]at af;cases af
    ·exact⟨h1,J⟩
theorem ajR(a:yS ops rem ds)(h:mY ds rem=[]):Region.ready .any ops (dG ops.size ds)=[]:=by
 refine List.eq_nil_iff_forall_not_mem.2 λ i hi=>?_;obtain⟨o,b,J⟩:=(uH a).1 hi;have:=(qL (ds:=ds)).2 ⟨b,J⟩;rw[h]at this;simp at this
theorem aix{i:Nat}{o:Oper}:∀ {l:List Oper}{k:Nat},(i,o)∈GB k l↔k<=i/\l[i-k]? =some o
 |[],k=>by simp[GB]
 |p::r,k=>by
  simp only[GB,cm,b5,aix (l:=r)];constructor
  ·rintro(⟨rfl,rfl⟩|⟨h1,J⟩)
   ·exact⟨cu _,by simp⟩
   ·refine⟨by omega,?_⟩
    rw[show i-k=(i- (k+1))+1 by omega]
    simpa using J
  ·rintro⟨h1,J⟩
   rcases Nat.eq_or_lt_of_le h1 with rfl |h1
   ·left;simpa using J.symm
   ·right
    refine⟨h1,?_⟩
    rw[show i-k=(i- (k+1))+1 by omega]at J
    simpa using J
theorem aF6:yS ops (GB 0 ops.toList) []:=⟨λ i o=>by rw[aix];simp,λ i hi=>by simp at hi,λ i hi=>by simp at hi⟩
theorem adw(a:yS ops rem ds){i:Nat}(hi:i∉ds):∀ {l:List Oper}{k:Nat}{acc:List Nat},(∀m o,l[m]? =some o->ops[k+m]? =some o)->(∀u∈acc,u∉ds)-> ∀u∈nK l k i acc,u∉ds
 |[],_,_,_,h=>h
 |o::r,k,acc,b,h=>by
  rw[nK];refine adw a hi (λ m c d=>by have:=b (m+1) c (by simpa using d);rwa [show k+(m+1)=k+1+m by omega]at this) ?_;split
  ·rename_i af
   intro u hu
   rcases cm.1 hu with rfl |hu
   ·intro f
    simp only[h7,bC,hM]at af
    obtain⟨e,g,j,J⟩:=af
    have:=KJ.1 (a.cl u f o (by simpa using b 0 o rfl)) e (by simpa using g) j
    rcases J with J |J
    ·rw[a_ J]at this;exact hi this
    ·exact h _ (r7 J) this
   ·exact h u hu
  ·exact h
theorem Ix{P:Program}{v:Nat}:∀ {l:List Nat},v∈Cy P ops l->v∈l/\ ∃o,ops[v]? =some o/\Dm P o=false
 |[],h=>by simp[Cy]at h
 |k::r,h=>by
  simp only[Cy]at h;split at h
  ·rename_i o ap
   rw[cW,gS]at ap
   split at h
   ·obtain⟨a,J⟩:=Ix h;exact⟨ez _ a,J⟩
   ·rename_i b
    rcases cm.1 h with rfl |h
    ·exact⟨by simp,o,ap,b⟩
    ·obtain⟨a,J⟩:=Ix h;exact⟨ez _ a,J⟩
  ·obtain⟨a,J⟩:=Ix h;exact⟨ez _ a,J⟩
end
def my(Q:Exit->Act->World->Prop):Exit->Act->World->Prop
 | .panic c,a,w=>∀b,b.defers=a.defers->Q (.panic c) b w
 |e,a,w=>Q e a w
theorem my.imp{Q:Exit->Act->World->Prop}:∀(e:Exit)(a:Act)(w:World),my Q e a w->Q e a w:=λ e a w h=>by
 cases e<;>first |exact h |exact h a rfl
theorem my.put{Q:Exit->Act->World->Prop}{d:Option Nat}{v:Value}(c:List PanicEntry)(a:Act)(w:World)(h:my Q (.panic c) (a.put d v) w):my Q (.panic c) a w:=λ b e=>h b (by rw[e];cases d<;>rfl)
section
variable{E:Env}{br:fc E}{W:World}{M0:List Nat}{X:Nat->Prop}{n:ct}{b0:List (aC E.T.El)}{ρ0:List Value}{w0:World}{ops:Array Oper}{Q:Exit->Act->World->Prop}
theorem QG{P:Program}{H c:List (List Nat×(World->Prop))}{i:Nat}(d:∀(b:Array Bool) w,b.getD i false=true->ku H b w->ku c b w):∀(cz:Nat)(b:Array Bool)(a:Act)(w:World),b.getD i false=true->nb P ops Q H cz b a w->nb P ops Q c cz b a w
 |0,_,_,_,_,h=>h
 |cz+1,_,_,_,e,h=>⟨h.1,λ j aA=>wpOp_mono (λ f w' h'=>⟨d _ _ (getD_set_true e) h'.1,QG d cz _ f w' (getD_set_true e) h'.2⟩) (h.2 j aA)⟩
theorem W9{m i:Nat}{ds:List Nat}:(dG m ds).setIfInBounds i true=dG m (i::ds):=rfl
theorem If(aZ:cX E)(ay:kZ E br)(I:Eg ops ops.toList 0 ops.toList=true):∀(cz:Nat){rem:List (Nat×Oper)}{ds:List Nat}{aj:List (List Nat×j7 E.T.El)}{H:List (List Nat×(World->Prop))}{s:eB E.T.El}{t:b2 E.T.El}{ρ:List Value}{a:Act}{w:World},
 (vR E br ops n.n cz rem ds aj s).out t->iW E W M0 X n b0 ρ0 w0 s ρ a w->yS ops rem ds->gU E.P ops X s.bl ρ w aj H->Fin E W M0 X n b0 ρ0 w0 t Q->nb E.P ops (my Q) H cz (dG ops.size ds) a w
 |0,rem,ds,aj,H,s,t,ρ,a,w,f,h,g,C,k=>by
  simp only[vR]at f;split at f
  ·rename_i az
   have f:(⟨.nm,s⟩:b2 E.T.El)=t:=f
   subst f
   exact⟨ajR g az,k ρ a w h⟩
  ·exact f.elim
 |cz+1,rem,ds,aj,H,s,t,ρ,a,w,f,h,g,C,k=>by
  simp only[vR]at f;split at f
  ·rename_i i o aE
   obtain⟨L,dX,eA⟩:=aiY aE
   obtain⟨F,su⟩:=(g.mem i o).1 L
   obtain⟨q,h1,J⟩:=D.jS f
   rw[DW]at J
   obtain⟨d,aK,u,ayI,hy⟩:=X5 (ops:=ops) aZ h.r h1
   have tV:iW E W M0 X n b0 ρ0 w0 ⟨q.f,s.bl,s.ws⟩ ρ (a.put (some d) u) w:=⟨ayI,h.to,h.wr⟩
   have lY:=g.next L eA
   have U:=(uH g).2 ⟨o,L,eA⟩
   have o3:=aHN I (OY (ds:=ds)) F U
   have FY:=C.y5 (dG ops.size ds)
   have agn:∀h∈H,i∉h.1:=λ p aE hi=>by
    obtain⟨M,e1,e2⟩:=C.aiw p aE i hi;rw[F]at e1;cases e1;rw[dX]at e2;cases e2
   have qa:∀v∈ends E.P ops i,v∈nK ops.toList 0 i []:=λ v N=>(Ix N).1
   have afX:∀v∈ends E.P ops i,∃o,ops[v]? =some o/\Dm E.P o=false:=λ v N=>(Ix N).2
   have Vu:i∉ends E.P ops i:=λ hi=>by
    obtain⟨M,e1,e2⟩:=afX i hi;rw[F]at e1;cases e1;rw[dX]at e2;cases e2
   have I0:EV ops i (nK ops.toList 0 i []):=S3 (λ m o hm=>by simpa using hm) (λ u O=>by simp at O)
   have awN:∀u∈nK ops.toList 0 i [],(dG ops.size ds).getD u false=false:=λ u O=>OX (adw g su (λ m o hm=>by simpa using hm) (λ u O=>by simp at O) u O)
   have one:∀(rW:j7 E.T.El)(S:World->Prop),vE X s.bl ρ w S rW->YieldsIf E.P ops S o u a->(vR E br ops n.n cz (mh i rem) (i::ds) ((ends E.P ops i,rW)::aj) ⟨q.f,s.bl,s.ws⟩).out t->nb E.P ops (my Q) H (cz+1) (dG ops.size ds) a w:=λ rW S e1 e2 e3=>by
    have next:=If aZ ay I cz e3 tV lY (H:=(ends E.P ops i,S)::H) (by simp only[gU];exact⟨S,H,rfl,afX,e1,C⟩) k
    refine aln F (alg I) (λ c a w h=>my.put c a w h) I0 qa Vu agn cz _ a w o3 awN U FY e1.now e2 ?_;rw[aK];exact next
   have free:(vR E br ops n.n cz (mh i rem) (i::ds) aj ⟨q.f,s.bl,s.ws⟩).out t->YieldsIf E.P ops (λ _=>True) o u a->nb E.P ops (my Q) H (cz+1) (dG ops.size ds) a w:=λ e3 e2=>by
    have next:=If aZ ay I cz e3 tV lY C k
    refine aHR F (alg I) (λ c a w h=>my.put c a w h) agn o3 U FY e2 ?_;rw[aK];exact next
   rcases hy with⟨l,hy⟩|⟨l,hy⟩
   ·cases Ja:q.aK with
    |none=>
     rw[Ja]at J hy
     exact free J (.inl ⟨l,λ w' _=>hy w'⟩)
    |some b=>
     rw[Ja]at J hy
     obtain⟨Kw,S,cE,lG,sZ,HI⟩:=hy
     cases b with
     |none=>exact one .ro S (.inr ⟨Kw,cE,sZ⟩) (.inl ⟨l,HI⟩) J
     |some b=>
      obtain⟨B,bK,vy,z2,z3⟩:=cE
      obtain⟨gO,cZ⟩:=aiJ h.r.mem vy z2 z3
      simp only[acx,af4]at J
      split at J
      ·rename_i r M fR hq
       obtain⟨Fg,V,py,G⟩:=atf (o:=o) h.r hq
       have e1:vE X s.bl ρ w Fg (.cl r M fR):=.inr V
       have e2:=G w e1.now
       have e3:=HI w lG
       have O:py=u:=by
        have:=(show(execOp a.eval o).run E.P w=_ from e2).symm.trans (show(execOp a.eval o).run E.P w=_ from e3);injection this with this;injection this
       subst O
       exact one _ Fg e1 (.inl ⟨l,G⟩) J
      ·exact one (.Cv b) S (.inr ⟨Kw,gO,(cZ:vG s.bl ρ Kw b),sZ⟩) (.inl ⟨l,HI⟩) J
   ·have wW:YieldsIf E.P ops (λ _=>True) o u a:=.inr ⟨l,hy⟩
    cases Ja:q.aK with
    |none=>rw[Ja]at J;exact free J wW
    |some b=>
     rw[Ja]at J
     cases b with
     |none=>exact one _ _ (.inl λ _=>trivial) wW J
     |some b=>exact one _ _ (.inl λ _=>trivial) wW J
  ·split at f
   ·rename_i az
    have f:(⟨.nm,s⟩:b2 E.T.El)=t:=f
    subst f
    exact⟨λ _=>k ρ a w h,by rw[ajR g az];simp⟩
   ·rename_i i o C6
    have Vv:(i,o)∈mY ds rem:=by rw[C6];simp
    obtain⟨L,eA⟩:=qL.1 Vv
    obtain⟨F,su⟩:=(g.mem i o).1 L
    have lY:=g.next L eA
    have bw:=(ft.1 F).1
    have U:=(uH g).2 ⟨o,L,eA⟩
    obtain⟨x,h1,J⟩:=D.jS f
    have Y:=abE aZ ay h.r h1
    refine⟨λ e=>by rw[e]at U;simp at U,λ j aA=>?_⟩
    have fz:j=i:=by
     obtain⟨M,e1,e2⟩:=(uH g).1 aA;have:=qL.2 ⟨e1,e2⟩;rw[C6]at this;simp only[dK,b5]at this;exact this.1
    subst fz
    have Y:=Y (λ Z w'=>ku H ((dG ops.size ds).setIfInBounds j true) w'/\nb E.P ops (my Q) H cz ((dG ops.size ds).setIfInBounds j true) Z w') (my Q) λ ρ' Z w' n2 aG l=>by
     have jM:=h.next n2 aG l;cases kH:x.x with
     |nm=>
      rw[kH]at J
      simp only at J
      split at J
      ·rename_i b8 hk
       obtain⟨mv,V,G⟩:=C.eQ n2.mem aG l hk
       simp only[DW,Pn]at J
       have next:=If aZ ay I cz J jM lY V k
       have ai:((dG ops.size ds).setIfInBounds j true).getD j false=true:=Gw (ds:=j::ds) (by simp) bw
       exact⟨G _ _ ai (V.y5 _),QG G cz _ Z w' ai next⟩
      ·exact J.elim
     |ex id=>
      rw[kH]at J
      have J:(⟨.ex id,x.s.f,x.s.bl,x.s.ws++s.ws⟩:b2 E.T.El)=t:=J
      subst J
      exact k ρ' Z w' jM
     |rt=>
      rw[kH]at J
      have J:(⟨.rt,x.s.f,x.s.bl,x.s.ws++s.ws⟩:b2 E.T.El)=t:=J
      subst J
      exact k ρ' Z w' jM
     |hS y=>
      rw[kH]at J
      have J:(⟨.hS y,x.s.f,x.s.bl,x.s.ws++s.ws⟩:b2 E.T.El)=t:=J
      subst J
      have:=k ρ' Z w' jM
      exact λ v N b af kb gi=>this v N kb (gi.trans af)
    unfold wpOp
    simp only[F]
    split
    ·rename_i l
     rw[if_pos l]at Y
     exact .inl Y
    ·rename_i l
     rw[if_neg l]at Y
     exact Y
   ·rename_i i oi j dH Jc
    split at f
    ·rename_i f2 dU ayX
     split at f
     ·rename_i io Pp r aiA cB dw
      split at f
      ·rename_i h1 e1 e2
       split at f
       ·rename_i J cz e3
        simp only[DW,Pn]at f
        simp only[bC]at e1
        have auR:=a_ e1.1
        have Ta:=a_ e1.2
        subst auR;subst Ta
        obtain⟨rH,bu,ti,qP,pP,pQ,d1,d2,bX,afA,afB,anY,anZ,fin⟩:=aHe h.r ayX
        obtain⟨XV,aiX⟩:=qL.1 (show(r,oi)∈mY ds rem by rw[Jc];simp)
        obtain⟨ai0,aDo⟩:=qL.1 (show(io,dH)∈mY ds rem by rw[Jc];simp)
        obtain⟨Pz,aMm⟩:=(g.mem r oi).1 XV
        obtain⟨GO,aMn⟩:=(g.mem io dH).1 ai0
        have axQ:r≠io:=λ e=>by
         subst e;rw[Pz]at GO;cases GO;rw[d1]at d2;exact bX (dT d2)
        have N5:=g.next XV aiX
        have agv:=g.next ai0 aDo
        obtain⟨YW,ajl⟩:=qL.1 (show(io,Pp)∈mY (r::ds) (mh r rem) by rw[cB];simp)
        have auS:Pp=dH:=by
         have:=((N5.mem io Pp).1 YW).1;rw[GO]at this;exact(dT this).symm
        subst auS
        have n2:=N5.next YW ajl
        have li:=(ft.1 Pz).1
        have aBG:=(ft.1 GO).1
        have step:∀ {q:Nat}{o:Oper}{d t:Nat}{z:List Value}{b:Act}{v:World}{K:Act->World->Prop},ops[q]? =some o->o.guard=none->o.dst=some d->bc E.P o b v (uB v.heap.size) (v.alloc (.cells ⟨z⟩ t))->K (b.put (some d) (uB v.heap.size)) (v.alloc (.cells ⟨z⟩ t))->wpOp E.P ops (my Q) q K b v:=by
         intro q o d t z b v K aJ au aK hy b1;have l:Region.wanted o (yielded ops b.tmps)=true:=QB au;unfold wpOp;simp only[aJ,l,if_true];left;unfold Oper.wp;rw[show(execOp b.eval o).run E.P v=_ from hy];show K (b.put o.dst _) _
         rw[aK];exact b1
        have aeV:∀P R a2 A,a2=(a.put (some rH) (uB P)).put (some bu) (uB R)->bj [] w A->w.heap.size<=P->P<A.heap.size->w.heap.size<=R->R<A.heap.size->P≠R->A.heap[P]? =some (.cells ⟨pP⟩ ti (0,0))->A.heap[R]? =some (.cells ⟨pQ⟩ qP (0,0)) ->
         ku H (dG ops.size (io::r::ds)) A/\nb E.P ops (my Q) H cz (dG ops.size (io::r::ds)) a2 A:=λ P R a2 A ax N i1 i2 kK o_ au bn bx=>by
         obtain⟨lI,s1,s2,AD⟩:=fin P R A N i1 i2 kK o_ au bn bx
         subst ax
         have jM:=h.next (s':=⟨f2,dU,[]⟩) s1 s2 AD
         obtain⟨H1,V,G⟩:=C.eQ s1.mem s2 AD e2
         obtain⟨aLx,b9,c8⟩:=V.eQ s1.mem .refl .nil e3
         have next:=If aZ ay I cz f jM n2 b9 k
         have x:(dG ops.size (io::r::ds)).getD io false=true:=Gw (by simp) aBG
         have t2:(dG ops.size (io::r::ds)).getD r false=true:=Gw (by simp) li
         exact⟨G _ _ t2 (c8 _ _ x (b9.y5 _)),QG G cz _ _ A t2 (QG c8 cz _ _ A x next)⟩
        have ajO:=(uH g).2 ⟨oi,XV,aiX⟩
        have sz:∀(v:World)(o:Obj),(v.alloc o).heap.size=v.heap.size+1:=λ v o=>by simp
        refine⟨λ e=>by rw[e]at ajO;simp at ajO,λ q aJ=>?_⟩
        have wQ:q=r\/q=io:=by
         obtain⟨M,e1,e2⟩:=(uH g).1 aJ;have:=qL.2 ⟨e1,e2⟩;rw[Jc]at this;simp only[cm,b5,hR,or_false]at this;rcases this with⟨e,_⟩|⟨e,_⟩
         ·exact .inl e
         ·exact .inr e
        rcases wQ with rfl |rfl
        ·refine step Pz afA d1 (anY _ _) ⟨gU.bS (bj.alloc _ _ _) C _,?_⟩
         have KI:=(uH N5).2 ⟨Pp,YW,ajl⟩
         refine⟨λ e=>by rw[W9]at e;rw[e]at KI;simp at KI,λ q aJ=>?_⟩
         have:q=io:=by
          obtain⟨M,e1,e2⟩:=(uH N5).1 aJ;have:=qL.2 ⟨e1,e2⟩;rw[cB]at this;simp only[dK,b5]at this;exact this.1
         subst this
         refine step GO afB d2 (anZ _ _) ?_
         exact aeV w.heap.size (w.heap.size+1) _ _ (by simp) ((bj.alloc [] w _).trans (bj.alloc [] _ _) (by simp)) (cu _) (by rw[sz,sz];omega) (Nat.le_succ _) (by rw[sz,sz];omega) (by omega)
          (by rw[Below.heap_alloc _ _ _ (by rw[sz];omega)];exact heap_alloc_new w _) (by have:=heap_alloc_new (w.alloc (.cells ⟨pP⟩ ti)) (.cells ⟨pQ⟩ qP);rwa [sz]at this)
        ·refine step GO afB d2 (anZ _ _) ⟨gU.bS (bj.alloc _ _ _) C _,?_⟩
         obtain⟨aDX,aDY⟩:=qL.1 (show(r,aiA)∈mY (q::ds) (mh q rem) by rw[dw];simp)
         have KI:=(uH agv).2 ⟨aiA,aDX,aDY⟩
         refine⟨λ e=>by rw[W9]at e;rw[e]at KI;simp at KI,λ p aE=>?_⟩
         have:p=r:=by
          obtain⟨M,e1,e2⟩:=(uH agv).1 aE;have:=qL.2 ⟨e1,e2⟩;rw[dw]at this;simp only[dK,b5]at this;exact this.1
         subst this
         refine step Pz afA d1 (anY _ _) ?_
         have ax3:(dG ops.size (q::ds)).setIfInBounds p true=dG ops.size (q::p::ds):=by
          show((dG ops.size ds).setIfInBounds q true).setIfInBounds p true=((dG ops.size ds).setIfInBounds p true).setIfInBounds q true
          exact jc _ _ (Ne.symm axQ)
         rw[W9,ax3]
         exact aeV (w.heap.size+1) w.heap.size _ _ (by
          simp only[Act.put,sz];rw[jc _ _ (Ne.symm bX)]) ((bj.alloc [] w _).trans (bj.alloc [] _ _) (by simp)) (Nat.le_succ _) (by rw[sz,sz];omega) (cu _) (by rw[sz,sz];omega) (by omega)
          (by have:=heap_alloc_new (w.alloc (.cells ⟨pQ⟩ qP)) (.cells ⟨pP⟩ ti);rwa [sz]at this) (by rw[Below.heap_alloc _ _ _ (by rw[sz];omega)];exact heap_alloc_new w _)
       ·exact f.elim
      ·exact f.elim
     ·exact f.elim
    ·exact f.elim
   ·exact f.elim
end
end a8
namespace a8
open Go Go.RowKit aq I
abbrev nB(E:Env):=Nat->Option (eB E.T.El->D (b2 E.T.El))
def OQ{El:Nat->Type}(g:eB El->D (b2 El)):Nat->eB El->D (b2 El)
 |0,_=>.no
 |k+1,s=>(g s).bind λ t=>match t.x with
  | .nm=>OQ g k t.s
  |_=>.ok t
def aiI{El:Nat->Type}(id:Nat)(t:b2 El):D (b2 El):=match t.x with
 | .ex i=>match bP i id with
   |true=>.ok ⟨.nm,t.s⟩
   |false=>.ok t
 |_=>.ok t
def ahj{El:Nat->Type}(f:cq El):Operand->Option Bool
 | .tmp t=>cv f.ea t
 |_=>none
def eB.WC{El:Nat->Type}(s:eB El)(b:Bool):Operand->eB El
 | .tmp t=>⟨s.f.know t b,s.bl,s.ws⟩
 |_=>s
def Kp{E:Env}(LE:nB E):Code->Option (eB E.T.El->D (b2 E.T.El))
 | .seq (.region _ _ _) (.block id _)=>LE (1000000+id)
 |_=>none
noncomputable def den(E:Env)(br:fc E)(LE:nB E)(n:Nat):Code->eB E.T.El->D (b2 E.T.El)
 | .skip,s=>.ok ⟨.nm,s⟩
 | .label _,s=>.ok ⟨.nm,s⟩
 | .exit id,s=>.ok ⟨.ex id,s⟩
 | .ret,s=>.ok ⟨.rt,s⟩
 | .region _ ops false,s=>opsL E br ops n ops.toList s
 | .region _ ops true,s=>match Eg ops ops.toList 0 ops.toList with
   |true=>vR E br ops n ops.size (GB 0 ops.toList) [] [] s
   |false=>.no
 | .seq x y,s=>match Kp LE x with
   |none=>(den E br LE n x s).bind λ t=>match t.x with
    | .nm=>den E br LE n y t.s
    |_=>.ok t
   |some g=>match y with
    | .seq _ rest=>(g s).bind λ t=>match t.x with
      | .nm=>den E br LE n rest t.s
      |_=>.ok t
    |_=>.no
 | .cond c x y,s=>match od E s.bl s.f [] c with
   |some (.p (.bool b))=>match E.cl with
    |true=>match b with
     |true=>den E br LE n x s
     |false=>den E br LE n y s
    |false=>match ahj s.f c with
     |some true=>den E br LE n x s
     |some false=>den E br LE n y s
     |none=>.p0 b (den E br LE n x (s.WC true c)) (den E br LE n y (s.WC false c))
   |_=>.no
 | .block id c,s=>match LE id with
   |some g=>g s
   |none=>(den E br LE n c s).bind (aiI id)
 | .loop c,s=>OQ (den E br LE n c) 1000000 s
 | .scope c,s=>den E br LE n c s
 |_,_=>.no
def Bz(E:Env)(n:ct)(g:eB E.T.El->D (b2 E.T.El))(c:Code):Prop:=
 ∀s t,(g s).out t-> ∀(W:World)(M0:List Nat)(X:Nat->Prop)(b0:List (aC E.T.El))(ρ0:List Value)(w0:World)(ρ:List Value)(a:Act)(w:World)(Q:Exit->Act->World->Prop),iW E W M0 X n b0 ρ0 w0 s ρ a w->Fin E W M0 X n b0 ρ0 w0 t Q->c.wp E.P Q a w
def yB(E:Env)(n:ct)(g:eB E.T.El->D (b2 E.T.El))(x r:Code):Prop:=
 ∀rest s t,(g s).out t-> ∀(W:World)(M0:List Nat)(X:Nat->Prop)(b0:List (aC E.T.El))(ρ0:List Value)(w0:World)(ρ:List Value)(a:Act)(w:World)(Q:Exit->Act->World->Prop),iW E W M0 X n b0 ρ0 w0 s ρ a w->Fin E W M0 X n b0 ρ0 w0 t (Exit.then (rest.wp E.P Q) Q)->(Code.seq x (.seq r rest)).wp E.P Q a w
def j8(E:Env)(LE:nB E)(n:ct):Code->Prop
 | .seq x y=>(∀g r rest,Kp LE x=some g->y= .seq r rest->yB E n g x r)/\j8 E LE n x/\j8 E LE n y
 | .cond _ x y=>j8 E LE n x/\j8 E LE n y
 | .block id c=>(∀g,LE id=some g->Bz E n g (.block id c))/\j8 E LE n c
 | .loop c=>j8 E LE n c
 | .scope c=>j8 E LE n c
 |_=>True
section
variable{E:Env}{br:fc E}{LE:nB E}{W:World}{M0:List Nat}{X:Nat->Prop}{n:ct}{b0:List (aC E.T.El)}{ρ0:List Value}{w0:World}
theorem uc(h:∀id,LE id=none):∀c,j8 E LE n c
 | .seq x y=>⟨(λ g r rest a=>by
  unfold Kp at a;split at a
  ·rw[h]at a;cases a
  ·cases a),uc h x,uc h y⟩
 | .cond _ x y=>⟨uc h x,uc h y⟩
 | .block id c=>⟨(λ g a=>by rw[h id]at a;cases a),uc h c⟩
 | .loop c=>uc h c
 | .scope c=>uc h c
 | .skip | .region _ _ _ | .rangeFunc _ _ _ _ | .exit _ | .label _ | .goto _ | .ret | .refuse _=>trivial
theorem R.drew{f:cq E.T.El}{bl:List (aC E.T.El)}{ρ:List Value}{a:Act}{w w':World}(h:R E W M0 X n f bl ρ a w)(b:bj [] w w'):R E W M0 X n f bl ρ a w':=h.to (Mem.sG b) (h.mem.eQ b)
theorem iW.drew{s:eB E.T.El}{ρ:List Value}{a:Act}{w w':World}(h:iW E W M0 X n b0 ρ0 w0 s ρ a w)(b:bj [] w w'):iW E W M0 X n b0 ρ0 w0 s ρ a w':=
 ⟨h.r.drew b,h.to.trans (Mem.sG b),by
  have:=h.wr.bD h.to (s':=[]) (w'':=w') (bl':=s.bl) (ρ':=ρ) λ q c _=>b.block q c (by simp);simpa using this⟩
theorem anC{K:Act->World->Prop}{Q:Exit->Act->World->Prop}{bl:List (aC E.T.El)}{ρ:List Value}{a:Act}{w:World}{x:Mp E.T.El}(b:x= .nm->K a w)(h:x≠ .nm->Cq E X bl ρ Q a w x):Cq E X bl ρ (Exit.then K Q) a w x:=by
 cases x with
 |nm=>exact b rfl
 |ex id=>exact h (by simp)
 |rt=>exact h (by simp)
 |hS y=>exact h (by simp)
theorem nJ(aZ:cX E)(q:kZ E br):∀(c:Code){s:eB E.T.El}{t:b2 E.T.El}{ρ:List Value}{a:Act}{w:World}{Q:Exit->Act->World->Prop},j8 E LE n c->(den E br LE n.n c s).out t->iW E W M0 X n b0 ρ0 w0 s ρ a w->Fin E W M0 X n b0 ρ0 w0 t Q->c.wp E.P Q a w
 | .skip,s,t,ρ,a,w,Q,_,d,h,k=>by
   have d:(⟨.nm,s⟩:b2 E.T.El)=t:=d;subst d;exact wp_skip (k ρ a w h)
 | .label l,s,t,ρ,a,w,Q,_,d,h,k=>by
   have d:(⟨.nm,s⟩:b2 E.T.El)=t:=d;subst d;exact wp_label (k ρ a w h)
 | .exit id,s,t,ρ,a,w,Q,_,d,h,k=>by
   have d:(⟨.ex id,s⟩:b2 E.T.El)=t:=d;subst d;exact wp_exit (k ρ a w h)
 | .ret,s,t,ρ,a,w,Q,_,d,h,k=>by
   have d:(⟨.rt,s⟩:b2 E.T.El)=t:=d;subst d;exact wp_ret (k ρ a w h)
 | .region id ops false,s,t,ρ,a,w,Q,_,d,h,k=>by
   simp only[den]at d;exact wp_region_list (XM aZ q ops.toList d h k)
 | .region id ops true,s,t,ρ,a,w,Q,_,d,h,k=>by
   simp only[den]at d;split at d
   ·rename_i I
    have aK:iW E W M0 X n b0 ρ0 w0 s ρ a w.drew:=h.drew (bj.drew [] w)
    have:=If aZ q I ops.size d aK aF6 (H:=[]) (by simp[gU]) k
    exact Code.wp_mono my.imp (wp_region_any aZ.aB3 (alk _ _ _ _ this))
   ·exact d.elim
 | .seq x y,s,t,ρ,a,w,Q,j,d,h,k=>by
   have v:∀ {z:Code}{f:b2 E.T.El}(_:j8 E LE n z),(match f.x with| .nm=>den E br LE n.n z f.s |_=>.ok f:D (b2 E.T.El)).out t->(∀ {s':eB E.T.El}{ρ':List Value}{o:Act}{w':World},(den E br LE n.n z s').out t->iW E W M0 X n b0 ρ0 w0 s' ρ' o w'->z.wp E.P Q o w')-> ∀ρ' o w',iW E W M0 X n b0 ρ0 w0 f.s ρ' o w'->Cq E X f.s.bl ρ' (Exit.then (z.wp E.P Q) Q) o w' f.x:=λ{z f} K J aK ρ' o w' aj=>anC (λ p=>by
    rw[p]at J;exact aK J aj) λ p=>by
    have J:f=t:=by
     revert J;cases C:f.x with
     |nm=>exact absurd C p
     |_=>exact λ h=>h
    subst J;exact k ρ' o w' aj
   simp only[den]at d;split at d
   ·obtain⟨f,A,J⟩:=D.jS d
    exact wp_seq (nJ aZ q x j.2.1 A h (v j.2.2 J λ aK F=>nJ aZ q y j.2.2 aK F k))
   ·rename_i g G
    split at d
    ·rename_i r rest
     obtain⟨f,A,J⟩:=D.jS d
     exact j.1 g r rest G rfl rest s f A _ _ _ _ _ _ _ _ _ _ h (v j.2.2.2.2 J λ aK F=>nJ aZ q rest j.2.2.2.2 aK F k)
    ·exact d.elim
 | .cond c x y,s,t,ρ,a,w,Q,j,d,h,k=>by
   simp only[den]at d;split at d
   ·rename_i b hc
    have u:=di h.r (cur:=[]) trivial hc
    simp only[ao]at u
    split at d
    ·split at d
     ·exact wp_cond_split u (λ _=>nJ aZ q x j.1 d h k) (λ e=>by cases e)
     ·exact wp_cond_split u (λ e=>by cases e) (λ _=>nJ aZ q y j.2 d h k)
    ·have ea:∀B,ahj s.f c=some B->a.eval c= .bool B:=λ B af=>by
      cases c with
      |tmp t=>exact h.r.dL.ea _ (oa af)
      |_=>cases af
     have kw:∀B,a.eval c= .bool B->iW E W M0 X n b0 ρ0 w0 (s.WC B c) ρ a w:=λ B af=>by
      cases c with
      |tmp t=>exact⟨h.r.know af,h.to,h.wr⟩
      |_=>exact h
     split at d
     ·rename_i af
      have:=ea _ af
      rw[u]at this
      cases this
      exact wp_cond_split u (λ _=>nJ aZ q x j.1 d h k) (λ e=>by cases e)
     ·rename_i af
      have:=ea _ af
      rw[u]at this
      cases this
      exact wp_cond_split u (λ e=>by cases e) (λ _=>nJ aZ q y j.2 d h k)
     ·rcases d with⟨rfl,d⟩|⟨rfl,d⟩
      ·exact wp_cond_split u (λ _=>nJ aZ q x j.1 d (kw _ u) k) (λ e=>by cases e)
      ·exact wp_cond_split u (λ e=>by cases e) (λ _=>nJ aZ q y j.2 d (kw _ u) k)
   ·exact d.elim
 | .block id c,s,t,ρ,a,w,Q,j,d,h,k=>by
   simp only[den]at d;split at d
   ·rename_i g G
    exact j.1 g G s t d _ _ _ _ _ _ _ _ _ _ h k
   ·obtain⟨f,A,J⟩:=D.jS d
    refine wp_block (nJ aZ q c j.2 A h λ ρ' o w' aj=>?_)
    unfold aiI at J
    cases p:f.x with
    |nm=>
     rw[p]at J
     have J:f=t:=J
     subst J
     have:=k ρ' o w' aj
     rw[p]at this
     exact this
    |ex i=>
     rw[p]at J
     simp only at J
     show Exit.inBlock id Q (.exit i) o w'
     split at J
     ·rename_i af
      have J:(⟨.nm,f.s⟩:b2 E.T.El)=t:=J
      subst J
      rw[a_ af]
      simp only[Exit.inBlock,if_true]
      exact k ρ' o w' aj
     ·rename_i af
      have J:f=t:=J
      subst J
      have L:i≠id:=λ e=>by subst e;simp at af
      simp only[Exit.inBlock,if_neg L]
      have:=k ρ' o w' aj
      rw[p]at this
      exact this
    |rt=>
     rw[p]at J
     have J:f=t:=J
     subst J
     have:=k ρ' o w' aj
     rw[p]at this
     exact this
    |hS y=>
     rw[p]at J
     have J:f=t:=J
     subst J
     have:=k ρ' o w' aj
     rw[p]at this
     exact this
 | .loop c,s,t,ρ,a,w,Q,j,d,h,k=>by
   simp only[den]at d;refine wp_loop_ghost (λ m a w=>∃s ρ,iW E W M0 X n b0 ρ0 w0 s ρ a w/\(OQ (den E br LE n.n c) m s).out t) 1000000 ⟨s,ρ,h,d⟩ λ m a w M=>?_;obtain⟨s,ρ,h,d⟩:=M;cases m with
   |zero=>exact d.elim
   |succ m=>
    simp only[OQ]at d
    obtain⟨f,A,J⟩:=D.jS d
    refine nJ aZ q c j A h λ ρ' o w' aj=>anC (λ p=>?_) λ p=>?_
    ·rw[p]at J
     exact⟨m,kU m,_,_,aj,J⟩
    ·have J:f=t:=by
      revert J;cases C:f.x with
      |nm=>exact absurd C p
      |_=>exact λ h=>h
     subst J;exact k ρ' o w' aj
 | .scope c,s,t,ρ,a,w,Q,j,d,h,k=>by
   simp only[den]at d;refine wp_scope_straight (nJ aZ q c j d h λ ρ' o w' aj=>?_);have:=k ρ' o w' aj;revert this;cases t.x with
   |nm=>exact λ h=>h
   |ex i=>exact λ h=>h
   |rt=>exact λ h=>h
   |hS y=>exact λ h=>h
 | .rangeFunc _ _ _ _,s,t,ρ,a,w,Q,_,d,_,_=>by simp only[den]at d;exact d.elim
 | .goto _,s,t,ρ,a,w,Q,_,d,_,_=>by simp only[den]at d;exact d.elim
 | .refuse _,s,t,ρ,a,w,Q,_,d,_,_=>by simp only[den]at d;exact d.elim
end
end a8
namespace a8
open Go Go.RowKit aq I
def FE{El:Nat->Type}:Nat->List (aF El)->List (Nat×aF El)
 |_,[]=>[]
 |k,y::r=>(k,y)::FE (k+1) r
def Zl(E:Env)(s:eB E.T.El):ResultVar->Option (aF E.T.El)
 | .tmp t=>od E s.bl s.f [] (.tmp t)
 | .cell dW ty=>match od E s.bl s.f [] (.tmp dW),lay E.P ty with
   |some (.b i o),some a=>match nth s.bl i with
    |some (.c _ cs)=>mC cs o a
    |_=>none
   |_,_=>none
def G0(E:Env)(s:eB E.T.El):List ResultVar->Option (List (aF E.T.El))
 |[]=>some []
 |r::rs=>match Zl E s r,G0 E s rs with
  |some y,some ys=>some (y::ys)
  |_,_=>none
def qD{El:Nat->Type}:List (aF El)->aF El
 |[y]=>y
 |ys=>.u ys
def ad9(E:Env)(rs:List ResultVar)(t:b2 E.T.El):D (fj E.T.El):=match t.x with
 | .ex _=>.no
 | .hS y=>.ok ⟨.Ap y,t.s.bl,t.s.ws⟩
 |_=>match G0 E t.s rs with
  |some ys=>.ok ⟨.ret (qD ys),t.s.bl,t.s.ws⟩
  |none=>.no
abbrev k0(E:Env):=Nat->nB E
noncomputable def nQ(E:Env)(br:fc E)(LE:k0 E):fc E:=λ g ys bl=>match eX E.b7 g,E.P.funcs[g]? with
 |true,some fn=>match fn.body,iI ys.length fn.ntmps with
  |some c,true=>(den E br (LE g) fn.ntmps c ⟨⟨FE 0 ys,[],[]⟩,bl,[]⟩).bind (ad9 E fn.results.toList)
  |_,_=>.no
 |_,_=>.no
abbrev HQ(E:Env):=Nat->Option (List (aF E.T.El)->List (aC E.T.El)->D (fj E.T.El))
noncomputable def FK(E:Env)(ks:HQ E)(LE:k0 E):Nat->fc E
 |0=>λ _ _ _=>.no
 |k+1=>λ g ys bl=>match ks g with
  |some h=>h ys bl
  |none=>nQ E (FK E ks LE k) LE g ys bl
def j6(E:Env)(g:Nat)(h:List (aF E.T.El)->List (aC E.T.El)->D (fj E.T.El)):Prop:=∀ys bl r,(h ys bl).out r ->
 ∀(W:World)(M0:List Nat)(X:Nat->Prop)(ρ:List Value)(w:World)(vs:List Value),Mem E.T W M0 X bl ρ w->HS E X bl ρ w->a1 E.T (bi X bl ρ w) w ρ bl ys vs ->
  Calls E.P g ⟨vs⟩ w λ e w'=>∃ρ',Mem E.T W M0 X r.bl ρ' w'/\To X bl r.bl ρ ρ' w w'/\gW bl ρ w w' r.ws/\Cl E X r.bl ρ' w' r.e e
structure Mf (E:Env) (ks:HQ E):Prop where
 b7:∀g h,ks g=some h->g∈E.b7
 ok:∀g h,ks g=some h->j6 E g h
def vF(E:Env)(LE:k0 E):Prop:=∀g fn c,g∈E.b7->E.P.funcs[g]? =some fn->fn.body=some c->j8 E (LE g) ⟨fn.ntmps,[]⟩ c
section
variable{E:Env}{br:fc E}{LE:k0 E}{ks:HQ E}{W:World}{M0:List Nat}{X:Nat->Prop}{bl:List (aC E.T.El)}{ρ:List Value}{a:Act}{w:World}
theorem ahQ{F:Nat->Prop}{t:Nat}{y:aF E.T.El}:∀ {ys:List (aF E.T.El)}{vs:List Value}{k:Nat},a1 E.T F w ρ bl ys vs->cv (FE k ys) t=some y-> ∃v,eb (tz k vs) t=some v/\ao E.T F w ρ bl y v
 |[],vs,k,_,h=>by simp[FE,cv]at h
 |z::r,vs,k,b,h=>by
  simp only[a1]at b;obtain⟨u,us,rfl,c,J⟩:=b;simp only[FE,cv]at h;simp only[tz,eb];cases af:bP k t with
  |true=>
   rw[af]at h
   simp only[aD]at h
   subst h
   exact⟨u,rfl,c⟩
  |false=>
   rw[af]at h
   exact ahQ J h
theorem aF7{n:ct}{s:eB E.T.El}(h:R E W M0 X n s.f s.bl ρ a w){r:ResultVar}{y:aF E.T.El}(c:Zl E s r=some y):∃v,Zm E.P a w r v/\ao E.T (bi X s.bl ρ w) w ρ s.bl y v:=by
 unfold Zl at c;split at c
 ·exact⟨_,rfl,di h (cur:=[]) trivial c⟩
 ·rename_i dW ty
  split at c
  ·rename_i i o q x J
   split at c
   ·rename_i t cs k
    have l:=di h (cur:=[]) trivial x
    simp only[ao]at l
    obtain⟨g,e1,e2⟩:=l
    rw[cW]at k
    obtain⟨g',vs,d,z,e⟩:=h.mem.ok i _ _ k e1
    simp only[Value.pointer.injEq,aD,Addr.mk.injEq]at d
    have d:=d.1
    subst d
    have f:=JY J
    have hc:fb w ⟨g,0,none⟩ vs:=λ j u aA=>by simpa using y1 (g:=g) (t:=t) (cs:=vs) (w:=w) (by simpa[a7.b']using z) aA
    obtain⟨b,m⟩:=q
    cases b with
    |false=>
     simp only[mC]at c
     rw[cW]at c
     obtain⟨v,A,B⟩:=e.at_ c
     exact⟨v,⟨g,o,e2,.inr ⟨f.1,by simpa using hc o v A⟩⟩,B⟩
    |true=>
     simp only[mC]at c
     split at c
     ·rename_i af
      simp only[aD]at c
      subst c
      have C:=ck af
      have p:=e.len
      refine⟨.agg ⟨(vs.drop o).take m⟩,⟨g,o,e2,.inl ⟨(vs.drop o).take m,f.1,?_,λ j u aA=>?_,rfl⟩⟩,?_⟩
      ·have:((vs.drop o).take m).length=m:=by simp;omega
       rw[this];exact f.2
      ·rw[gI]at aA
       split at aA
       ·rw[iN]at aA
        simpa using hc (o+j) u aA
       ·cases aA
      ·simp only[ao]
       exact⟨_,rfl,a1.take m (a1.drop o e)⟩
     ·cases c
   ·cases c
  ·cases c
theorem ajT{n:ct}{s:eB E.T.El}(h:R E W M0 X n s.f s.bl ρ a w):∀ {rs:List ResultVar}{ys:List (aF E.T.El)},G0 E s rs=some ys-> ∃vs,P3 E.P a w rs vs/\a1 E.T (bi X s.bl ρ w) w ρ s.bl ys vs
 |[],ys,b=>by simp only[G0,aD]at b;subst b;exact⟨[],trivial,by simp[a1]⟩
 |r::rs,ys,b=>by
  simp only[G0]at b;split at b
  ·rename_i y i c J
   simp only[aD]at b
   subst b
   obtain⟨v,d,e⟩:=aF7 h c
   obtain⟨vs,f,g⟩:=ajT h J
   refine⟨v::vs,⟨d,f⟩,?_⟩
   simp only[a1]
   exact⟨v,vs,rfl,e,g⟩
  ·cases b
theorem XQ{F:Nat->Prop}:∀ {ys:List (aF E.T.El)}{vs:List Value},a1 E.T F w ρ bl ys vs->ao E.T F w ρ bl (qD ys) (pack vs)
 |[],vs,h=>by
  simp only[a1]at h;subst h;simp only[qD,pack,ao];exact⟨[],rfl,by simp[a1]⟩
 |[y],vs,h=>by
  simp only[a1]at h;obtain⟨u,us,rfl,b,rfl⟩:=h;exact b
 |y::z::r,vs,h=>by
  have h':=h;simp only[a1]at h;obtain⟨u,us,rfl,b,d,c,rfl,J,e⟩:=h;simp only[qD,pack,ao];exact⟨_,rfl,h'⟩
theorem Nh(aZ:cX E)(x:kZ E br)(z:vF E LE):kZ E (nQ E br LE):=by
 refine⟨λ g ys bl r b=>?_⟩;unfold nQ at b;split at b
 ·rename_i fn A q
  have d:=r7 A
  refine⟨aZ.call g d,λ W M0 X ρ w vs B C s=>?_⟩
  split at b
  ·rename_i c hc F
   obtain⟨t,G,J⟩:=D.jS b
   have f:=s.len
   refine enter q hc rfl (by rw[f];exact F) λ a ad=>?_
   have H:R E W M0 X ⟨fn.ntmps,[]⟩ ⟨FE 0 ys,[],[]⟩ bl ρ a w:=⟨B,⟨⟨ad.size,ad.defers,λ t y I=>by
    obtain⟨v,e1,e2⟩:=ahQ s I;rw[ad.get t v e1];exact e2⟩,λ p m=>by simp at m,λ p m=>by simp at m⟩,C⟩
   refine nJ (n:=⟨fn.ntmps,[]⟩) (b0:=bl) (ρ0:=ρ) (w0:=w) aZ x c (z g fn c d q hc) G ⟨H,.refl,.nil⟩ λ ρ' u w' aj=>?_
   have fr:Fr ⟨fn.ntmps,[]⟩ [] u:=⟨aj.r.dL.dZ.size,aj.r.dL.dZ.defers,λ t v h=>by simp[eb]at h⟩
   have fin:∀ {j},G0 E t.s fn.results.toList=some j->(⟨.ret (qD j),t.s.bl,t.s.ws⟩:fj E.T.El)=r->bodyPost E.P fn (λ e w'=>∃ρ',Mem E.T W M0 X r.bl ρ' w'/\To X bl r.bl ρ ρ' w w'/\gW bl ρ w w' r.ws/\Cl E X r.bl ρ' w' r.e e) .ret u w':=λ{j} k K=>by
    subst K;obtain⟨us,L,M⟩:=ajT aj.r k;exact aFg (rs:=fn.results.toList) (by simp) fr L ⟨ρ',aj.r.mem,aj.to,aj.wr,XQ M⟩
   unfold ad9 at J
   cases l:t.x with
   |nm=>
    rw[l]at J
    simp only at J
    split at J
    ·rename_i j k
     exact fin k J
    ·exact J.elim
   |rt=>
    rw[l]at J
    simp only at J
    split at J
    ·rename_i j k
     exact fin k J
    ·exact J.elim
   |ex i=>rw[l]at J;exact J.elim
   |hS y=>
    rw[l]at J
    have J:(⟨.Ap y,t.s.bl,t.s.ws⟩:fj E.T.El)=r:=J
    subst J
    intro v N Cr o
    exact⟨o.trans aj.r.dL.dZ.defers,ρ',aj.r.mem,aj.to,aj.wr,v,rfl,N⟩
  ·exact b.elim
 ·exact b.elim
theorem k6(aZ:cX E)(c:Mf E ks)(d:vF E LE):∀k,kZ E (FK E ks LE k)
 |0=>⟨λ f ys bl r b=>b.elim⟩
 |k+1=>⟨λ f ys bl r b=>by
  simp only[FK]at b;split at b
  ·rename_i h e
   exact⟨aZ.call f (c.b7 f h e),c.ok f h e ys bl r b⟩
  ·exact(Nh aZ (k6 aZ c d k) d).ok f ys bl r b⟩
end
end a8
namespace a8
open Go Go.RowKit aq I
inductive iB
 |i (k:IntKind)
 |b
 |s
 |y
 |l (t:Nat)
section
variable(El:Nat->Type)
@[reducible] def LT:iB->Type
  | .i _=>Int
  | .b=>Bool
  | .s=>List UInt8
  | .y=>UInt8
  | .l t=>List (El t)
@[reducible] def mw:List iB->Type
  |[]=>Unit
  |f::r=>LT El f×mw r
end
section
variable{El:Nat->Type}
def Fu:(f:iB)->LT El f->aF El
 | .i k,d=>.p (.int k d)
 | .b,d=>.p (.bool d)
 | .s,d=>.p (cj d)
 | .y,d=>.p (.int .u8 ((d:UInt8).toNat:Int))
 | .l t,d=>.s t d
def p6:(ls:List iB)->mw El ls->List (aF El)
 |[],_=>[]
 |f::r,d=>Fu f d.1::p6 r d.2
def Cw{t' t:Nat}(l:List (El t')):Option (List (El t)):=match kS t' t with
 |isTrue h=>some (h▸l)
 |isFalse _=>none
def Oi(k:IntKind):aF El->Option Int
 | .p (.int j m)=>match mO j k with
   |true=>some m
   |false=>none
 |_=>none
def Oh:aF El->Option Bool
 | .p (.bool d)=>some d
 |_=>none
def Oj:aF El->Option (List UInt8)
 | .p (.string ⟨⟨d⟩⟩)=>some d
 |_=>none
def Wk:aF El->Option UInt8
 | .p (.int .u8 (.ofNat m))=>match ee m 256 with
   |true=>some (UInt8.ofNat m)
   |false=>none
 |_=>none
def Ol(t:Nat):aF El->Option (List (El t))
 | .s _ l=>Cw l
 | .q _ l=>Cw l
 | .p (.slice none 0 0)=>some []
 |_=>none
def agQ:(f:iB)->aF El->Option (LT El f)
 | .i k,y=>Oi k y
 | .b,y=>Oh y
 | .s,y=>Oj y
 | .y,y=>Wk y
 | .l t,y=>Ol t y
def Dl:(ls:List iB)->List (aF El)->Option (mw El ls)
 |[],[]=>some ()
 |f::r,y::ys=>match agQ f y,Dl r ys with
  |some d,some ds=>some (d,ds)
  |_,_=>none
 |_,_=>none
def KG(ty:(t:Nat)->cY (El t))(F:Nat->Prop)(w:World):(f:iB)->Value->LT El f->Prop
 | .i k,v,d=>v= .int k d
 | .b,v,d=>v= .bool d
 | .s,v,d=>v=cj d
 | .y,v,d=>v= .int .u8 ((d:UInt8).toNat:Int)
 | .l t,v,d=>(bY (ty t)).rd F w [v] d
def eZ(ty:(t:Nat)->cY (El t))(F:Nat->Prop)(w:World):(ls:List iB)->List Value->mw El ls->Prop
 |[],xs,_=>xs=[]
 |f::r,xs,d=>∃v vs,xs=v::vs/\KG ty F w f v d.1/\eZ ty F w r vs d.2
theorem ajH{ty:(t:Nat)->cY (El t)}{F:Nat->Prop}{w:World}:∀ {ls:List iB}{xs:List Value}{d:mw El ls},eZ ty F w ls xs d->xs.length=ls.length
 |[],xs,d,h=>by simp only[eZ]at h;subst h;rfl
 |f::r,xs,d,h=>by
  obtain⟨v,vs,rfl,_,J⟩:=h;simp[ajH J]
theorem aFw{ty:(t:Nat)->cY (El t)}{F:Nat->Prop}{w:World}{f:iB}{v:Value}{d:LT El f}(h:KG ty F w f v d):v.oneCell'=true:=by
 cases f with
 |l t=>exact(bY (ty t)).one h v (by simp)
 |_=>simp only[KG]at h;subst h;rfl
theorem ajI{ty:(t:Nat)->cY (El t)}{F:Nat->Prop}{w:World}:∀ {ls:List iB}{xs:List Value}{d:mw El ls},eZ ty F w ls xs d-> ∀v∈xs,v.oneCell'=true
 |[],xs,d,h=>by simp only[eZ]at h;subst h;simp
 |f::r,xs,d,h=>by
  obtain⟨v,vs,rfl,a,J⟩:=h;intro u hu;rcases cm.1 hu with rfl |hu
  ·exact aFw a
  ·exact ajI J u hu
theorem ajG{ty:(t:Nat)->cY (El t)}{F F':Nat->Prop}{w w':World}(a:∀k,F k->F' k/\w'.heap[k]? =w.heap[k]?):∀ {ls:List iB}{xs:List Value}{d:mw El ls},eZ ty F w ls xs d->eZ ty F' w' ls xs d
 |[],xs,d,h=>h
 |f::r,xs,d,h=>by
  obtain⟨v,vs,e,b,J⟩:=h;refine⟨v,vs,e,?_,ajG a J⟩;cases f with
  |l t=>exact(bY (ty t)).law a b
  |_=>exact b
def aHg{α:Type}(ty:(t:Nat)->cY (El t))(ls:List iB)(fr:α->mw El ls):cY α where
 size:=ls.length
 rd F w xs d:=eZ ty F w ls xs (fr d)
 len h:=ajH h
 one h:=ajI h
 law a h:=ajG a h
def eU(es:List (Σ t,bZ El t)){t:Nat}(agg:Bool)(ls:List iB)(fr:El t->mw El ls)(to:mw El ls->El t)(eq:Option (El t->El t->Bool))(key:Option (hZ (El t))):bZ El t:=
 ⟨aHg (λ t=>(fD es t).ty) ls fr,agg,λ d=>p6 ls (fr d),λ l=>(Dl ls l).map to,eq,key⟩
end
structure er (T:bN) (t:Nat) (e:bZ T.El t):Prop where
 cs:∀d F w xs,e.ty.rd F w xs d->a1 T F w [] [] (e.cs d) xs
 hs:∀l d,e.hs l=some d-> ∀F w ρ bl xs,a1 T F w ρ bl l xs->e.ty.rd F w xs d
 key:∀K,e.key=some K-> ∀F w xs k,e.ty.rd F w xs k->Am e.agg xs= @lL.enc _ K.dec K.r9 k
 one:e.agg=false-> ∀d,(e.cs d).length=1
def Tk(T:bN):List (Σ t,bZ T.El t)->Prop
 |[]=>True
 |p::r=>er T p.1 p.2/\Tk T r
theorem aG0{T:bN}{t:Nat}:er T t bZ.no:=⟨λ d F w xs h=>h.elim,(λ l d h=>by cases h),(λ K h=>by cases h),(λ h=>by cases h)⟩
theorem La{T:bN}{t:Nat}:∀ {es:List (Σ t,bZ T.El t)},Tk T es->er T t (fD es t)
 |[],_=>aG0
 |p::r,h=>by
  simp only[fD];split
  ·rename_i e _
   subst e
   exact h.1
  ·exact La h.2
theorem aGZ{T:bN}(h:Tk T T.es):yT T:=⟨λ t=>(La h (t:=t)).cs,λ t=>(La h (t:=t)).hs,λ t=>(La h (t:=t)).key,λ t=>(La h (t:=t)).one⟩
def xt(T:bN)(ty:(t:Nat)->cY (T.El t)):List iB->Prop
 |[]=>True
 | .l t::r=>ty t=T.ty t/\xt T ty r
 |_::r=>xt T ty r
section
variable{T:bN}{F:Nat->Prop}{w:World}{ρ:List Value}{bl:List (aC T.El)}
theorem Fv{ty:(t:Nat)->cY (T.El t)}:∀ {ls:List iB}{xs:List Value}{d:mw T.El ls},xt T ty ls->eZ ty F w ls xs d->a1 T F w ρ bl (p6 ls d) xs
 |[],xs,d,_,h=>by simp only[eZ]at h;subst h;simp[p6,a1]
 |f::r,xs,d,c,h=>by
  obtain⟨v,vs,rfl,e,J⟩:=h;cases f with
  |l t=>
   have a:=Fv c.2 J
   simp only[p6,a1]
   refine⟨v,vs,rfl,?_,a⟩
   simp only[Fu,ao]
   simp only[KG,c.1]at e
   exact e
  |i k=>have a:=Fv (ty:=ty) (ls:=r) c J;simp only[p6,a1];exact⟨v,vs,rfl,by simp only[Fu,ao];exact e,a⟩
  |b=>have a:=Fv (ty:=ty) (ls:=r) c J;simp only[p6,a1];exact⟨v,vs,rfl,by simp only[Fu,ao];exact e,a⟩
  |s=>have a:=Fv (ty:=ty) (ls:=r) c J;simp only[p6,a1];exact⟨v,vs,rfl,by simp only[Fu,ao];exact e,a⟩
  |y=>have a:=Fv (ty:=ty) (ls:=r) c J;simp only[p6,a1];exact⟨v,vs,rfl,by simp only[Fu,ao];exact e,a⟩
theorem ada{t' t:Nat}{l:List (T.El t')}{l':List (T.El t)}(h:Cw l=some l'){xs:List Value}(a:(bY (T.ty t')).rd F w xs l):(bY (T.ty t)).rd F w xs l':=by
 unfold Cw at h;split at h
 ·rename_i e _
  subst e
  simp only[aD]at h
  subst h
  exact a
 ·cases h
theorem agR{k:IntKind}{y:aF T.El}{d:Int}{v:Value}(h:Oi k y=some d)(a:ao T F w ρ bl y v):v= .int k d:=by
 unfold Oi at h;split at h
 ·split at h
  ·rename_i b
   have:=pa b
   subst this
   simp only[aD]at h
   subst h
   simpa only[ao]using a
  ·cases h
 ·cases h
theorem agP{y:aF T.El}{d:Bool}{v:Value}(h:Oh y=some d)(a:ao T F w ρ bl y v):v= .bool d:=by
 unfold Oh at h;split at h
 ·simp only[aD]at h;subst h;simpa only[ao]using a
 ·cases h
theorem agT{y:aF T.El}{d:List UInt8}{v:Value}(h:Oj y=some d)(a:ao T F w ρ bl y v):v=cj d:=by
 unfold Oj at h;split at h
 ·simp only[aD]at h;subst h;simpa only[ao]using a
 ·cases h
theorem azv{y:aF T.El}{d:UInt8}{v:Value}(h:Wk y=some d)(a:ao T F w ρ bl y v):v= .int .u8 (d.toNat:Int):=by
 unfold Wk at h;split at h
 ·rename_i m
  split at h
  ·rename_i af
   simp only[aD]at h
   subst h
   have b:m<256:=ck af
   simp only[ao]at a
   have:(UInt8.ofNat m).toNat=m:=by simp;omega
   rw[a,this];rfl
  ·cases h
 ·cases h
theorem agU{t:Nat}{y:aF T.El}{d:List (T.El t)}{v:Value}(h:Ol t y=some d)(a:ao T F w ρ bl y v):(bY (T.ty t)).rd F w [v] d:=by
 unfold Ol at h;split at h
 ·simp only[ao]at a
  exact ada h a
 ·simp only[ao]at a
  exact ada h a.1
 ·simp only[aD]at h
  subst h
  simp only[ao]at a
  subst a
  exact⟨none,0,rfl,cu _,gD _,λ _=>rfl,λ h=>absurd rfl h⟩
 ·cases h
theorem azt{ty:(t:Nat)->cY (T.El t)}{f:iB}{y:aF T.El}{d:LT T.El f}{v:Value}(c:xt T ty [f])(h:agQ f y=some d)(a:ao T F w ρ bl y v):KG ty F w f v d:=by
 cases f with
 |i k=>exact agR h a
 |b=>exact agP h a
 |s=>exact agT h a
 |y=>exact azv h a
 |l t=>
  have:=agU h a
  show(bY (ty t)).rd F w [v] d
  rw[c.1]
  exact this
theorem aBO{ty:(t:Nat)->cY (T.El t)}{f:iB}{r:List iB}(h:xt T ty (f::r)):xt T ty [f]/\xt T ty r:=by
 cases f with
 |l t=>exact⟨⟨h.1,trivial⟩,h.2⟩
 |_=>exact⟨trivial,h⟩
theorem agS{ty:(t:Nat)->cY (T.El t)}:∀ {ls:List iB}{ys:List (aF T.El)}{d:mw T.El ls}{xs:List Value},xt T ty ls->Dl ls ys=some d->a1 T F w ρ bl ys xs->eZ ty F w ls xs d
 |[],[],d,xs,_,_,a=>by simp only[a1]at a;simp only[eZ];exact a
 |f::r,y::ys,d,xs,b,h,a=>by
  simp only[Dl]at h;split at h
  ·rename_i e es c J
   have h:=dT h
   subst h
   simp only[a1]at a
   obtain⟨u,us,rfl,g,i⟩:=a
   obtain⟨l1,j⟩:=aBO b
   exact⟨u,us,rfl,azt l1 c g,agS j J i⟩
  ·cases h
 |[],y::ys,d,xs,_,h,_=>by simp[Dl]at h
 |f::r,[],d,xs,_,h,_=>by simp[Dl]at h
theorem adp:∀ {ls:List iB}{d:mw T.El ls},(p6 ls d).length=ls.length
 |[],d=>rfl
 |f::r,d=>by simp[p6,adp (ls:=r)]
theorem e0{es:List (Σ t,bZ T.El t)}{t:Nat}{agg:Bool}{ls:List iB}{fr:T.El t->mw T.El ls}{to:mw T.El ls->T.El t}{eq:Option (T.El t->T.El t->Bool)}{key:Option (hZ (T.El t))}
 (a:xt T (λ t=>(fD es t).ty) ls)(ad:∀p,fr (to p)=p)(b:agg=false->ls.length=1)(c:∀K,key=some K-> ∀F w xs k,eZ (λ t=>(fD es t).ty) F w ls xs (fr k)->Am agg xs= @lL.enc _ K.dec K.r9 k):er T t (eU es agg ls fr to eq key):=by
 refine⟨λ d F w xs h=>Fv a h,λ l d h F w ρ bl xs e=>?_,c,λ h d=>by
  show(p6 ls (fr d)).length=1
  rw[adp];exact b h⟩
 obtain⟨p,f,J⟩:=cd.1 (show(Dl ls l).map to=some d from h)
 subst J
 show eZ _ F w ls xs (fr (to p))
 rw[ad]
 exact agS a f e
end
end a8
namespace a8
open Go Go.RowKit aq I
def ad7:List (Nat×Type)->Nat->Type
 |[],_=>Empty
 |p::r,t=>match kS p.1 t with
  |isTrue _=>p.2
  |isFalse _=>ad7 r t
def tZ:hZ Int:=⟨inferInstance,az'⟩
def JU:hZ (List UInt8):=⟨inferInstance,mQ⟩
end a8
namespace a8
open Go Go.RowKit aq I
inductive iV
 |i (k:IntKind)
 |b
 |s
 |l (t:Nat)
 |x (t:Nat)
 |n (kt vt:Nat)
 |gE
 |B (j:Nat)
 |R (j:Nat)
 |M (j:Nat)
 |P (j sz:Nat)
 |F (g:Nat) (dR:List Nat)
inductive cD
 |p (p:iV)
 |a (ps:List iV)
 |f (g:Nat) (ps:List iV)
inductive bF
 |c (ty:Nat) (ps:List iV)
 |r (t:Nat) (same:Bool)
 |m (kt vt:Nat)
 |d
section
variable(El:Nat->Type)
@[reducible] def yv:iV->Type
  | .i _=>Int
  | .b=>Bool
  | .s=>List UInt8
  | .l t=>List (El t)
  | .x t=>El t
  | .n kt vt=>List (El kt×El vt)
  | .P _ _=>List Int
  |_=>Unit
@[reducible] def vD:List iV->Type
  |[]=>Unit
  |p::r=>yv El p×vD r
@[reducible] def EU:cD->Type
  | .p p=>yv El p
  | .a ps=>vD El ps
  | .f _ ps=>vD El ps
@[reducible] def dd:List cD->Type
  |[]=>Unit
  |p::r=>EU El p×dd r
@[reducible] def s5:bF->Type
  | .c _ ps=>vD El ps
  | .r t _=>List (El t)
  | .m kt vt=>List (El kt×El vt)
  | .d=>Unit
@[reducible] def cx:List bF->Type
  |[]=>Unit
  |p::r=>s5 El p×cx r
end
def eV(post:Bool):Option bF->Nat
 |some (.r _ same)=>match post,same with
  |true,false=>1
  |_,_=>0
 |some .d=>match post with
  |true=>1
  |false=>0
 |_=>0
def AU(post:Bool):Nat:=match post with
 |true=>1
 |false=>0
section
variable{El:Nat->Type}
def gG(σ g:Nat->Nat):(p:iV)->yv El p->aF El
 | .i k,d=>.p (.int k d)
 | .b,d=>.p (.bool d)
 | .s,d=>.p (cj d)
 | .l t,d=>.s t d
 | .x t,d=>.x t d 0
 | .n kt vt,d=>.n kt vt d
 | .gE,_=>.p (.pointer none)
 | .B j,_=>.b (σ j) 0
 | .R j,_=>.r (σ j) (g j)
 | .M j,_=>.m (σ j)
 | .P j sz,d=>.pp (σ j) (g j) sz d
 | .F fn dR,_=>.f (.func fn) (dR.map λ j=>.b (σ j) 0)
def sv(σ g:Nat->Nat):(ps:List iV)->vD El ps->List (aF El)
 |[],_=>[]
 |p::r,d=>gG σ g p d.1::sv σ g r d.2
def As(σ g:Nat->Nat):(p:cD)->EU El p->aF El
 | .p p,d=>gG σ g p d
 | .a ps,d=>.a (sv σ g ps d)
 | .f fn ps,d=>.f (.func fn) (sv σ g ps d)
def f_(σ g:Nat->Nat):(ps:List cD)->dd El ps->List (aF El)
 |[],_=>[]
 |p::r,d=>As σ g p d.1::f_ σ g r d.2
def dr(σ g:Nat->Nat)(post:Bool):(p:bF)->s5 El p->aC El
 | .c ty ps,d=>.c ty (sv σ g ps d)
 | .r t same,d=>.r t (eV post (some (.r t same))) (AU post) d
 | .m kt vt,d=>.m kt vt d
 | .d,_=>.no (eV post (some .d))
def bJ(σ g:Nat->Nat)(post:Bool):(ps:List bF)->cx El ps->List (aC El)
 |[],_=>[]
 |p::r,d=>dr σ g post p d.1::bJ σ g post r d.2
def Mu:List (Nat×Nat)->Nat->Bool
 |[],_=>true
 |p::r,i=>!bP p.2 i&&Mu r i
def vS(aV:List (Nat×Nat))(j i:Nat):Option (List (Nat×Nat)):=match cv aV j with
 |some a=>match bP a i with
  |true=>some aV
  |false=>none
 |none=>match Mu aV i with
  |true=>some ((j,i)::aV)
  |false=>none
def SN{t' t:Nat}(d:El t'):Option (El t):=match kS t' t with
 |isTrue h=>some (h▸d)
 |isFalse _=>none
def MJ{k' a k v:Nat}(d:List (El k'×El a)):Option (List (El k×El v)):=match kS k' k,kS a v with
 |isTrue h,isTrue h'=>some (h▸h'▸d)
 |_,_=>none
def afz(t:Nat):aF El->Option (El t)
 | .x _ d 0=>SN d
 |_=>none
def afy(kt vt:Nat):aF El->Option (List (El kt×El vt))
 | .n _ _ d=>MJ d
 |_=>none
def lP:List (Nat×Nat)->List Nat->List (aF El)->Option (List (Nat×Nat))
 |aV,[],[]=>some aV
 |aV,j::r,.b i 0::ys=>match vS aV j i with
  |some a=>lP a r ys
  |none=>none
 |_,_,_=>none
def il(bl:List (aC El))(aV:List (Nat×Nat)):(p:iV)->aF El->Option (yv El p×List (Nat×Nat))
 | .i k,y=>(Oi k y).map λ d=>(d,aV)
 | .b,y=>(Oh y).map λ d=>(d,aV)
 | .s,y=>(Oj y).map λ d=>(d,aV)
 | .l t,y=>(Ol t y).map λ d=>(d,aV)
 | .x t,y=>(afz t y).map λ d=>(d,aV)
 | .n kt vt,y=>(afy kt vt y).map λ d=>(d,aV)
 | .gE,y=>match y with
   | .p (.pointer none)=>some ((),aV)
   |_=>none
 | .B j,y=>match y with
   | .b i 0=>(vS aV j i).map λ aV=>((),aV)
   |_=>none
 | .R j,y=>match y with
   | .r i g=>match bP g (tG bl i)with
     |true=>(vS aV j i).map λ aV=>((),aV)
     |false=>none
   |_=>none
 | .M j,y=>match y with
   | .m i=>(vS aV j i).map λ aV=>((),aV)
   |_=>none
 | .P j sz,y=>match y with
   | .pp i a b dR=>match bP a (tG bl i)&&bP b sz with
     |true=>(vS aV j i).map λ aV=>(dR,aV)
     |false=>none
   |_=>none
 | .F g dR,y=>match y with
   | .f (.func g') cs=>match bP g' g with
     |true=>(lP aV dR cs).map λ aV=>((),aV)
     |false=>none
   |_=>none
def nW(bl:List (aC El)):(aV:List (Nat×Nat))->(ps:List iV)->List (aF El)->Option (vD El ps×List (Nat×Nat))
 |aV,[],[]=>some ((),aV)
 |aV,p::r,y::ys=>match il bl aV p y with
  |some (d,a)=>match nW bl a r ys with
   |some (ds,b)=>some ((d,ds),b)
   |none=>none
  |none=>none
 |_,_,_=>none
def II(bl:List (aC El))(aV:List (Nat×Nat)):(p:cD)->aF El->Option (EU El p×List (Nat×Nat))
 | .p p,y=>il bl aV p y
 | .a ps,y=>nW bl aV ps (cellsOf y)
 | .f g ps,y=>match y with
   | .f (.func g') ys=>match bP g' g with
     |true=>nW bl aV ps ys
     |false=>none
   |_=>none
def SB:cD->aF El->Bool
 | .a _,y=>ll y
 |_,_=>true
def lO(bl:List (aC El)):(aV:List (Nat×Nat))->(ps:List cD)->List (aF El)->Option (dd El ps×List (Nat×Nat))
 |aV,[],[]=>some ((),aV)
 |aV,p::r,y::ys=>match SB p y,II bl aV p y with
  |true,some (d,a)=>match lO bl a r ys with
   |some (ds,b)=>some ((d,ds),b)
   |none=>none
  |_,_=>none
 |_,_,_=>none
end
section
variable{T:bN}{F F':Nat->Prop}{w:World}{ρ ρ':List Value}{bl bl':List (aC T.El)}{g:Nat->Nat}
theorem tr{aV a:List (Nat×Nat)}{j i:Nat}(h:vS aV j i=some a):cv a j=some i/\ ∀p∈aV,p∈a:=by
 unfold vS at h;split at h
 ·rename_i c hi
  split at h
  ·rename_i af
   simp only[aD]at h
   subst h
   rw[<-a_ af]
   exact⟨hi,λ p b=>b⟩
  ·cases h
 ·split at h
  ·simp only[aD]at h
   subst h
   exact⟨by simp[cv],λ p b=>ez _ b⟩
  ·cases h
structure rh (σ:Nat->Nat) (aV:List (Nat×Nat)) (ρ ρ':List Value):Prop where
 at_:∀p∈aV,ρ'[σ p.1]? =ρ[p.2]?
theorem as8{t' t:Nat}{d:T.El t'}{d':T.El t}(h:SN d=some d'){cs:List Value}(a:(T.ty t').rd F w cs d):(T.ty t).rd F w cs d':=by
 unfold SN at h;split at h
 ·rename_i e _
  subst e
  simp only[aD]at h
  subst h
  exact a
 ·cases h
theorem ac'{k' a k v r:Nat}{d:List (T.El k'×T.El a)}{d':List (T.El k×T.El v)}(h:MJ d=some d')(b:yA T F w k' a r d):yA T F w k v r d':=by
 unfold MJ at h;split at h
 ·rename_i e e' _ _
  subst e;subst e'
  simp only[aD]at h
  subst h
  exact b
 ·cases h
theorem UY:∀ {dR:List Nat}{cs:List (aF T.El)}{aV a:List (Nat×Nat)},lP aV dR cs=some a-> ∀q∈aV,q∈a
 |[],[],aV,a,h=>by simp only[lP,aD]at h;subst h;exact λ q b=>b
 |j::r,y::ys,aV,a,h=>by
  unfold lP at h;split at h
  ·rename_i e;cases e
  ·rename_i e1 e2
   simp only[hh]at e1 e2
   obtain⟨rfl,rfl⟩:=e1
   obtain⟨_,rfl⟩:=e2
   split at h
   ·rename_i c
    exact λ q b=>UY h q ((tr c).2 q b)
   ·cases h
  ·cases h
 |[],y::ys,aV,a,h=>by simp[lP]at h
 |j::r,[],aV,a,h=>by simp[lP]at h
theorem afu{σ:Nat->Nat}:∀ {dR:List Nat}{cs:List (aF T.El)}{aV b:List (Nat×Nat)}{vs:List Value},rh σ b ρ ρ'->lP aV dR cs=some b->a1 T F w ρ bl cs vs->a1 T F' w ρ' bl' (dR.map λ j=>.b (σ j) 0) vs
 |[],[],aV,b,vs,c,h,a=>by simp only[a1]at a;subst a;simp[a1]
 |j::r,y::ys,aV,b,vs,c,h,a=>by
  unfold lP at h;split at h
  ·rename_i e;cases e
  ·rename_i e1 e2
   simp only[hh]at e1 e2
   obtain⟨rfl,rfl⟩:=e1
   obtain⟨rfl,rfl⟩:=e2
   split at h
   ·rename_i d
    have e:=c.at_ _ (UY h _ (oa (tr d).1))
    simp only[a1,ao]at a
    obtain⟨u,us,rfl,⟨f,e1,e2⟩,e3⟩:=a
    simp only[eu,a1,ao]
    exact⟨u,us,rfl,⟨f,e.trans e1,e2⟩,afu c h e3⟩
   ·cases h
  ·cases h
 |[],y::ys,aV,b,vs,c,h,a=>by simp[lP]at h
 |j::r,[],aV,b,vs,c,h,a=>by simp[lP]at h
theorem afx{aV c:List (Nat×Nat)}:∀ {p:iV}{y:aF T.El}{d:yv T.El p},il bl aV p y=some (d,c)-> ∀q∈aV,q∈c
 | .i k,y,d,h=>by obtain⟨x,_,h⟩:=cd.1 h;cases h;exact λ q a=>a
 | .b,y,d,h=>by obtain⟨x,_,h⟩:=cd.1 h;cases h;exact λ q a=>a
 | .s,y,d,h=>by obtain⟨x,_,h⟩:=cd.1 h;cases h;exact λ q a=>a
 | .l t,y,d,h=>by obtain⟨x,_,h⟩:=cd.1 h;cases h;exact λ q a=>a
 | .x t,y,d,h=>by obtain⟨x,_,h⟩:=cd.1 h;cases h;exact λ q a=>a
 | .n kt vt,y,d,h=>by obtain⟨x,_,h⟩:=cd.1 h;cases h;exact λ q a=>a
 | .gE,y,d,h=>by
   simp only[il]at h;split at h
   ·cases h;exact λ q a=>a
   ·cases h
 | .B j,y,d,h=>by
   simp only[il]at h;split at h
   ·obtain⟨x,b,h⟩:=cd.1 h;cases h;exact(tr b).2
   ·cases h
 | .R j,y,d,h=>by
   simp only[il]at h;split at h
   ·split at h
    ·obtain⟨x,b,h⟩:=cd.1 h;cases h;exact(tr b).2
    ·cases h
   ·cases h
 | .M j,y,d,h=>by
   simp only[il]at h;split at h
   ·obtain⟨x,b,h⟩:=cd.1 h;cases h;exact(tr b).2
   ·cases h
 | .P j sz,y,d,h=>by
   simp only[il]at h;split at h
   ·split at h
    ·obtain⟨x,b,h⟩:=cd.1 h;cases h;exact(tr b).2
    ·cases h
   ·cases h
 | .F g dR,y,d,h=>by
   simp only[il]at h;split at h
   ·split at h
    ·obtain⟨x,b,h⟩:=cd.1 h;cases h;exact UY b
    ·cases h
   ·cases h
theorem afw{σ:Nat->Nat}(l:∀k,F k->F' k)(u:∀j,g j=bW bl'[σ j]?){aV z:List (Nat×Nat)}(m:rh σ z ρ ρ'):∀ {p:iV}{y:aF T.El}{d:yv T.El p}{v:Value},il bl aV p y=some (d,z)->ao T F w ρ bl y v->ao T F' w ρ' bl' (gG σ g p d) v
 | .i k,y,d,v,h,b=>by
   obtain⟨x,f,h⟩:=cd.1 h;cases h;simp only[gG,ao];exact agR f b
 | .b,y,d,v,h,b=>by
   obtain⟨x,f,h⟩:=cd.1 h;cases h;simp only[gG,ao];exact agP f b
 | .s,y,d,v,h,b=>by
   obtain⟨x,f,h⟩:=cd.1 h;cases h;simp only[gG,ao];exact agT f b
 | .l t,y,d,v,h,b=>by
   obtain⟨x,f,h⟩:=cd.1 h;cases h;simp only[gG,ao];exact(bY (T.ty t)).law (λ k n=>⟨l k n,rfl⟩) (agU f b)
 | .x t,y,d,v,h,b=>by
   obtain⟨x,f,h⟩:=cd.1 h;cases h;unfold afz at f;split at f
   ·simp only[ao]at b
    obtain⟨a,q,cs,e1,e2,e3,e4⟩:=b
    simp only[gG,ao]
    exact⟨a,q,cs,e1,l a e2,(T.ty t).law (λ k n=>⟨l k n,rfl⟩) (as8 f e3),e4⟩
   ·cases f
 | .n kt vt,y,d,v,h,b=>by
   obtain⟨x,f,h⟩:=cd.1 h;cases h;unfold afy at f;split at f
   ·simp only[ao]at b
    obtain⟨r,e1,e2,e3⟩:=b
    simp only[gG,ao]
    exact⟨r,e1,l r e2,(ac' f e3).law (λ k n=>⟨l k n,rfl⟩) rfl⟩
   ·cases f
 | .gE,y,d,v,h,b=>by
   simp only[il]at h;split at h
   ·simp only[ao]at b
    simp only[gG,ao];exact b
   ·cases h
 | .B j,y,d,v,h,b=>by
   simp only[il]at h;split at h
   ·rename_i i
    obtain⟨x,f,h⟩:=cd.1 h;cases h
    have e:=m.at_ _ (oa (tr f).1)
    simp only[ao]at b
    obtain⟨o,e1,e2⟩:=b
    simp only[gG,ao]
    exact⟨o,e.trans e1,e2⟩
   ·cases h
 | .R j,y,d,v,h,b=>by
   simp only[il]at h;split at h
   ·rename_i i C
    split at h
    ·rename_i af
     have af:=a_ af
     rw[CK]at af
     obtain⟨x,f,h⟩:=cd.1 h;cases h
     have e:=m.at_ _ (oa (tr f).1)
     simp only[ao]at b
     obtain⟨D,s,e1,e2,e3⟩:=b
     simp only[gG,ao]
     exact⟨D,s,e.trans e1,by rw[u];exact cu _,λ _=>e3 af⟩
    ·cases h
   ·cases h
 | .M j,y,d,v,h,b=>by
   simp only[il]at h;split at h
   ·rename_i i
    obtain⟨x,f,h⟩:=cd.1 h;cases h
    have e:=m.at_ _ (oa (tr f).1)
    simp only[ao]at b
    obtain⟨o,e1,e2⟩:=b
    simp only[gG,ao]
    exact⟨o,e.trans e1,e2⟩
   ·cases h
 | .P j sz,y,d,v,h,b=>by
   simp only[il]at h;split at h
   ·rename_i i C O dR
    split at h
    ·rename_i af
     simp only[bC]at af
     have B:=a_ af.1
     have E:=a_ af.2
     subst E
     rw[CK]at B
     obtain⟨x,f,h⟩:=cd.1 h;cases h
     have e:=m.at_ _ (oa (tr f).1)
     simp only[ao]at b
     obtain⟨A,c,e1,e2,e3,e4⟩:=b
     simp only[gG,ao]
     refine⟨A,c,e1,e2,e3,λ G=>?_⟩
     obtain⟨H,I,xs,J,K⟩:=e4 G
     exact⟨H,l _ I,xs,J.imp λ q v ⟨L,s,M,P,N⟩=>⟨L,s,e.trans M,by rw[u];exact cu _,λ _=>N B⟩,K⟩
    ·cases h
   ·cases h
 | .F g dR,y,d,v,h,b=>by
   simp only[il]at h;split at h
   ·rename_i g' cs
    split at h
    ·rename_i af
     have af:=a_ af
     subst af
     obtain⟨x,f,h⟩:=cd.1 h;cases h
     simp only[ao]at b
     obtain⟨vs,e1,e2⟩:=b
     simp only[gG,ao]
     exact⟨vs,e1,afu m f e2⟩
    ·cases h
   ·cases h
end
end a8
namespace a8
open Go Go.RowKit aq I
section
variable{El:Nat->Type}
def iE(bl:List (aC El))(aV:List (Nat×Nat))(post:Bool):(p:bF)->aC El->Option (s5 El p×List (Nat×Nat))
 | .c ty ps,B=>match B with
   | .c a cs=>match bP a ty with
     |true=>nW bl aV ps cs
     |false=>none
   |_=>none
 | .r t same,B=>match B with
   | .r _ g _ l=>match !post|| !same||bP g 0 with
     |true=>(Cw l).map λ d=>(d,aV)
     |false=>none
   |_=>none
 | .m kt vt,B=>match B with
   | .m _ _ d=>(MJ d).map λ d=>(d,aV)
   |_=>none
 | .d,B=>match B with
   | .c _ _=>some ((),aV)
   | .r _ _ _ _=>some ((),aV)
   | .m _ _ _=>some ((),aV)
   | .no _=>some ((),aV)
   | .z _ _ _ _=>some ((),aV)
   |_=>none
def nV(bl:List (aC El))(post:Bool):List (Nat×Nat)->Nat->(ps:List bF)->Option (cx El ps×List (Nat×Nat))
 |aV,_,[]=>some ((),aV)
 |aV,k,p::r=>match cv aV k with
  |some i=>match nth bl i with
   |some B=>match iE bl aV post p B with
    |some (d,a)=>match nV bl post a (k+1) r with
     |some (ds,b)=>some ((d,ds),b)
     |none=>none
    |none=>none
   |none=>none
  |none=>none
def JK(aV:List (Nat×Nat)):Nat->Nat->Option (List Nat)
 |_,0=>some []
 |k,n+1=>match cv aV k,JK aV (k+1) n with
  |some i,some r=>some (i::r)
  |_,_=>none
def Ms(n:Nat):List (Nat×Nat)->Bool
 |[]=>true
 |p::r=>ee p.1 n&&Ms n r
def im(bl:List (aC El))(aV:List (Nat×Nat))(post:Bool)(pas:List cD)(pbs:List bF)(ys:List (aF El)):Option ((dd El pas×cx El pbs)×List Nat):=
 match lO bl aV pas ys with
 |some (da,b)=>match nV bl post b 0 pbs with
  |some (db,a)=>match JK a 0 pbs.length,Ms pbs.length a with
   |some sel,true=>some ((da,db),sel)
   |_,_=>none
  |none=>none
 |none=>none
end
structure jA (aV:List (Nat×Nat)):Prop where
 fn:∀p∈aV,∀q∈aV,p.1=q.1 ->p.2=q.2
 inj:∀p∈aV,∀q∈aV,p.2=q.2 ->p.1=q.1
theorem ahR{α:Type}{j:Nat}:∀ {l:List (Nat×α)},cv l j=none-> ∀p∈l,p.1≠j
 |[],_,p,aE=>by simp at aE
 |q::r,h,p,aE=>by
  simp only[cv]at h;split at h
  ·cases h
  ·rename_i af
   rcases cm.1 aE with rfl |aE
   ·intro e;subst e;simp at af
   ·exact ahR h p aE
theorem acG{i:Nat}:∀ {l:List (Nat×Nat)},Mu l i=true-> ∀p∈l,p.2≠i
 |[],_,p,aE=>by simp at aE
 |q::r,h,p,aE=>by
  simp only[Mu,bC,ga]at h;rcases cm.1 aE with rfl |aE
  ·intro e;rw[e]at h;simp at h
  ·exact acG h.2 p aE
theorem Ii{aV a:List (Nat×Nat)}{j i:Nat}(h:vS aV j i=some a)(aK:jA aV):jA a:=by
 unfold vS at h;split at h
 ·split at h
  ·simp only[aD]at h;subst h;exact aK
  ·cases h
 ·rename_i c
  split at h
  ·rename_i ad
   simp only[aD]at h
   subst h
   have b:=ahR c
   have J:=acG ad
   refine⟨λ p aE q aJ e=>?_,λ p aE q aJ e=>?_⟩
   ·rcases cm.1 aE with rfl |aE<;>rcases cm.1 aJ with rfl |aJ
    ·rfl
    ·exact absurd e.symm (b q aJ)
    ·exact absurd e (b p aE)
    ·exact aK.fn p aE q aJ e
   ·rcases cm.1 aE with rfl |aE<;>rcases cm.1 aJ with rfl |aJ
    ·rfl
    ·exact absurd e.symm (J q aJ)
    ·exact absurd e (J p aE)
    ·exact aK.inj p aE q aJ e
  ·cases h
section
variable{T:bN}{F F':Nat->Prop}{w:World}{ρ ρ':List Value}{bl bl':List (aC T.El)}{σ g:Nat->Nat}
theorem aft:∀ {dR:List Nat}{cs:List (aF T.El)}{aV a:List (Nat×Nat)},jA aV->lP aV dR cs=some a->jA a
 |[],[],aV,a,aK,h=>by simp only[lP,aD]at h;subst h;exact aK
 |j::r,y::ys,aV,a,aK,h=>by
  unfold lP at h;split at h
  ·rename_i e;cases e
  ·rename_i e1 e2
   simp only[hh]at e1 e2
   obtain⟨rfl,rfl⟩:=e1
   obtain⟨_,rfl⟩:=e2
   split at h
   ·rename_i b
    exact aft (Ii b aK) h
   ·cases h
  ·cases h
 |[],y::ys,aV,a,aK,h=>by simp[lP]at h
 |j::r,[],aV,a,aK,h=>by simp[lP]at h
theorem afv{aV b:List (Nat×Nat)}(aK:jA aV):∀ {p:iV}{y:aF T.El}{d:yv T.El p},il bl aV p y=some (d,b)->jA b
 | .i k,y,d,h=>by obtain⟨x,_,h⟩:=cd.1 h;cases h;exact aK
 | .b,y,d,h=>by obtain⟨x,_,h⟩:=cd.1 h;cases h;exact aK
 | .s,y,d,h=>by obtain⟨x,_,h⟩:=cd.1 h;cases h;exact aK
 | .l t,y,d,h=>by obtain⟨x,_,h⟩:=cd.1 h;cases h;exact aK
 | .x t,y,d,h=>by obtain⟨x,_,h⟩:=cd.1 h;cases h;exact aK
 | .n kt vt,y,d,h=>by obtain⟨x,_,h⟩:=cd.1 h;cases h;exact aK
 | .gE,y,d,h=>by
   simp only[il]at h;split at h
   ·cases h;exact aK
   ·cases h
 | .B j,y,d,h=>by
   simp only[il]at h;split at h
   ·obtain⟨x,a,h⟩:=cd.1 h;cases h;exact Ii a aK
   ·cases h
 | .R j,y,d,h=>by
   simp only[il]at h;split at h
   ·split at h
    ·obtain⟨x,a,h⟩:=cd.1 h;cases h;exact Ii a aK
    ·cases h
   ·cases h
 | .M j,y,d,h=>by
   simp only[il]at h;split at h
   ·obtain⟨x,a,h⟩:=cd.1 h;cases h;exact Ii a aK
   ·cases h
 | .P j sz,y,d,h=>by
   simp only[il]at h;split at h
   ·split at h
    ·obtain⟨x,a,h⟩:=cd.1 h;cases h;exact Ii a aK
    ·cases h
   ·cases h
 | .F g dR,y,d,h=>by
   simp only[il]at h;split at h
   ·split at h
    ·obtain⟨x,a,h⟩:=cd.1 h;cases h;exact aft aK a
    ·cases h
   ·cases h
theorem rh.sub{aV a:List (Nat×Nat)}(h:rh σ a ρ ρ')(aj:∀q∈aV,q∈a):rh σ aV ρ ρ':=⟨λ p b=>h.at_ p (aj p b)⟩
theorem IK:∀ {ps:List iV}{ys:List (aF T.El)}{aV a:List (Nat×Nat)}{d:vD T.El ps},nW bl aV ps ys=some (d,a)->(∀q∈aV,q∈a)/\(jA aV->jA a)
 |[],[],aV,a,d,h=>by simp only[nW]at h;cases h;exact⟨λ q b=>b,λ h=>h⟩
 |p::r,y::ys,aV,a,d,h=>by
  simp only[nW]at h;split at h
  ·rename_i i j c
   split at h
   ·rename_i k l J
    cases h
    obtain⟨e,f⟩:=IK J
    exact⟨λ q b=>e q (afx c q b),λ aK=>f (afv aK c)⟩
   ·cases h
  ·cases h
 |[],y::ys,aV,a,d,h=>by simp[nW]at h
 |p::r,[],aV,a,d,h=>by simp[nW]at h
theorem NB(e:∀k,F k->F' k)(f:∀j,g j=bW bl'[σ j]?):∀ {ps:List iV}{ys:List (aF T.El)}{aV a:List (Nat×Nat)}{d:vD T.El ps}{vs:List Value},rh σ a ρ ρ'->nW bl aV ps ys=some (d,a)->a1 T F w ρ bl ys vs->a1 T F' w ρ' bl' (sv σ g ps d) vs
 |[],[],aV,a,d,vs,c,h,b=>by simp only[a1]at b;subst b;simp[sv,a1]
 |p::r,y::ys,aV,a,d,vs,c,h,b=>by
  simp only[nW]at h;split at h
  ·rename_i l m i
   split at h
   ·rename_i n o J
    cases h
    simp only[a1]at b
    obtain⟨u,us,rfl,e1,e2⟩:=b
    simp only[sv,a1]
    exact⟨u,us,rfl,afw e f (c.sub (IK J).1) i e1,NB e f c J e2⟩
   ·cases h
  ·cases h
 |[],y::ys,aV,a,d,vs,_,h,_=>by simp[nW]at h
 |p::r,[],aV,a,d,vs,_,h,_=>by simp[nW]at h
theorem awe:∀ {p:cD}{y:aF T.El}{aV a:List (Nat×Nat)}{d:EU T.El p},II bl aV p y=some (d,a)->(∀q∈aV,q∈a)/\(jA aV->jA a)
 | .p p,y,aV,a,d,h=>⟨afx h,λ aK=>afv aK h⟩
 | .a ps,y,aV,a,d,h=>IK h
 | .f fn ps,y,aV,a,d,h=>by
   simp only[II]at h;split at h
   ·split at h
    ·exact IK h
    ·cases h
   ·cases h
theorem awd(e:∀k,F k->F' k)(f:∀j,g j=bW bl'[σ j]?):∀ {p:cD}{y:aF T.El}{aV b:List (Nat×Nat)}{d:EU T.El p}{v:Value},rh σ b ρ ρ'->SB p y=true->II bl aV p y=some (d,b)->ao T F w ρ bl y v->ao T F' w ρ' bl' (As σ g p d) v
 | .p p,y,aV,b,d,v,c,_,h,a=>afw e f c h a
 | .a ps,y,aV,b,d,v,c,hy,h,a=>by
   simp only[SB]at hy;have:=NB e f c h (oV a);simp only[As,ao];cases y<;>simp only[ll,reduceCtorEq]at hy
   ·rename_i u
    cases u<;>simp only[ll,reduceCtorEq]at hy
    simp only[ao]at a
    subst a
    exact⟨_,rfl,this⟩
   ·simp only[ao]at a
    obtain⟨vs,rfl,_⟩:=a
    exact⟨vs,rfl,this⟩
 | .f fn ps,y,aV,b,d,v,c,_,h,a=>by
   simp only[II]at h;split at h
   ·split at h
    ·rename_i af
     have af:=a_ af
     subst af
     simp only[ao]at a
     obtain⟨vs,rfl,J⟩:=a
     simp only[As,ao]
     exact⟨vs,rfl,NB e f c h J⟩
    ·cases h
   ·cases h
end
end a8
namespace a8
open Go Go.RowKit aq I
section
variable{T:bN}{F F':Nat->Prop}{w:World}{ρ ρ':List Value}{bl bl':List (aC T.El)}{σ g:Nat->Nat}
theorem Nz:∀ {ps:List cD}{ys:List (aF T.El)}{aV a:List (Nat×Nat)}{d:dd T.El ps},lO bl aV ps ys=some (d,a)->(∀q∈aV,q∈a)/\(jA aV->jA a)
 |[],[],aV,a,d,h=>by simp only[lO]at h;cases h;exact⟨λ q b=>b,λ h=>h⟩
 |p::r,y::ys,aV,a,d,h=>by
  simp only[lO]at h;split at h
  ·rename_i k l m c
   split at h
   ·rename_i n o J
    cases h
    obtain⟨e,f⟩:=Nz J
    obtain⟨i,j⟩:=awe c
    exact⟨λ q b=>e q (i q b),λ aK=>f (j aK)⟩
   ·cases h
  ·cases h
 |[],y::ys,aV,a,d,h=>by simp[lO]at h
 |p::r,[],aV,a,d,h=>by simp[lO]at h
theorem afp(e:∀k,F k->F' k)(f:∀j,g j=bW bl'[σ j]?):∀ {ps:List cD}{ys:List (aF T.El)}{aV a:List (Nat×Nat)}{d:dd T.El ps}{vs:List Value},rh σ a ρ ρ'->lO bl aV ps ys=some (d,a)->a1 T F w ρ bl ys vs->a1 T F' w ρ' bl' (f_ σ g ps d) vs
 |[],[],aV,a,d,vs,c,h,b=>by simp only[a1]at b;subst b;simp[f_,a1]
 |p::r,y::ys,aV,a,d,vs,c,h,b=>by
  simp only[lO]at h;split at h
  ·rename_i m n i l
   split at h
   ·rename_i o q J
    cases h
    simp only[a1]at b
    obtain⟨u,us,rfl,e1,e2⟩:=b
    simp only[f_,a1]
    exact⟨u,us,rfl,awd e f (c.sub (Nz J).1) i l e1,afp e f c J e2⟩
   ·cases h
  ·cases h
 |[],y::ys,aV,a,d,vs,_,h,_=>by simp[lO]at h
 |p::r,[],aV,a,d,vs,_,h,_=>by simp[lO]at h
theorem NA{post:Bool}:∀ {p:bF}{B:aC T.El}{aV a:List (Nat×Nat)}{d:s5 T.El p},iE bl aV post p B=some (d,a)->(∀q∈aV,q∈a)/\(jA aV->jA a)
 | .c ty ps,B,aV,a,d,h=>by
   simp only[iE]at h;split at h
   ·split at h
    ·exact IK h
    ·cases h
   ·cases h
 | .r t same,B,aV,a,d,h=>by
   simp only[iE]at h;split at h
   ·split at h
    ·obtain⟨x,_,h⟩:=cd.1 h;cases h;exact⟨λ q b=>b,λ h=>h⟩
    ·cases h
   ·cases h
 | .m kt vt,B,aV,a,d,h=>by
   simp only[iE]at h;split at h
   ·obtain⟨x,_,h⟩:=cd.1 h;cases h;exact⟨λ q b=>b,λ h=>h⟩
   ·cases h
 | .d,B,aV,a,d,h=>by
   simp only[iE]at h;split at h<;>first |(cases h;exact⟨λ q b=>b,λ h=>h⟩)|cases h
theorem ajE{t' t:Nat}{l:List (T.El t')}{l':List (T.El t)}(h:Cw l=some l'):∃e:t'=t,l'=e▸l:=by
 unfold Cw at h;split at h
 ·rename_i e _
  simp only[aD]at h
  exact⟨e,h.symm⟩
 ·cases h
theorem awh(n:∀k,F k->F' k)(q:∀j,g j=bW bl'[σ j]?){post:Bool}:∀ {p:bF}{B:aC T.El}{aV f:List (Nat×Nat)}{d:s5 T.El p}{h:Value},rh σ f ρ ρ'->iE bl aV post p B=some (d,f)->iX T F w ρ bl B h->iX T F' w ρ' bl' (dr σ g post p d) h/\ ∀u k,k∈bz (dr σ g post p d) u->k∈bz B u
 | .c ty ps,B,aV,f,d,h,m,a,i=>by
   simp only[iE]at a;split at a
   ·rename_i v cs
    split at a
    ·rename_i af
     have af:=a_ af
     subst af
     obtain⟨s,vs,e1,e2,e3⟩:=i
     exact⟨⟨s,vs,e1,e2,NB n q m a e3⟩,λ u k b=>b⟩
    ·cases a
   ·cases a
 | .r t same,B,aV,f,d,h,m,a,i=>by
   simp only[iE]at a;split at a
   ·rename_i t' g' k' l
    split at a
    ·obtain⟨x,o,a⟩:=cd.1 a
     cases a
     obtain⟨e,rfl⟩:=ajE o
     subst e
     obtain⟨A,c,xs,e1,e2,e3⟩:=i
     exact⟨⟨A,c,xs,e1,e2,ou _ (λ k b=>⟨n k b,rfl⟩) e3⟩,λ u k b=>b⟩
    ·cases a
   ·cases a
 | .m kt vt,B,aV,f,d,h,m,a,i=>by
   simp only[iE]at a;split at a
   ·obtain⟨x,o,a⟩:=cd.1 a
    cases a
    obtain⟨r,e1,e2⟩:=i
    exact⟨⟨r,e1,(ac' o e2).law (λ k b=>⟨n k b,rfl⟩) rfl⟩,λ u k b=>b⟩
   ·cases a
 | .d,B,aV,f,d,h,m,a,i=>⟨trivial,λ u k b=>by simp[dr,bz]at b⟩
theorem FO{post:Bool}:∀ {ps:List bF}{aV a:List (Nat×Nat)}{k:Nat}{d:cx T.El ps},nV bl post aV k ps=some (d,a)->(∀q∈aV,q∈a)/\(jA aV->jA a)
 |[],aV,a,k,d,h=>by simp only[nV]at h;cases h;exact⟨λ q b=>b,λ h=>h⟩
 |p::r,aV,a,k,d,h=>by
  simp only[nV]at h;split at h
  ·split at h
   ·split at h
    ·rename_i l m c
     split at h
     ·rename_i n o J
      cases h
      obtain⟨e,f⟩:=FO J
      obtain⟨i,j⟩:=NA c
      exact⟨λ q b=>e q (i q b),λ aK=>f (j aK)⟩
     ·cases h
    ·cases h
   ·cases h
  ·cases h
theorem mX{post:Bool}:∀ {ps:List bF}{d:cx T.El ps},(bJ σ g post ps d).length=ps.length
 |[],d=>rfl
 |p::r,d=>by simp[bJ,mX (ps:=r)]
theorem UX(f:∀k,F k->F' k)(l:∀j,g j=bW bl'[σ j]?){post:Bool}:∀ {ps:List bF}{aV a:List (Nat×Nat)}{k:Nat}{d:cx T.El ps},nV bl post aV k ps=some (d,a)->rh σ a ρ ρ'-> ∀(m:Nat)(B':aC T.El),(bJ σ g post ps d)[m]? =some B' ->
 ∃i B,(k+m,i)∈a/\bl[i]? =some B/\(∀h,iX T F w ρ bl B h->iX T F' w ρ' bl' B' h)/\ ∀u k,k∈bz B' u->k∈bz B u
 |[],aV,a,k,d,_,_,m,B',c=>by simp[bJ]at c
 |p::r,aV,a,k,d,h,n,m,B',c=>by
  simp only[nV]at h;split at h
  ·rename_i i hi
   split at h
   ·rename_i B o
    split at h
    ·rename_i x y e
     split at h
     ·rename_i z A J
      cases h
      have q:=(FO J).1
      have s:=(NA e).1
      rw[cW]at o
      cases m with
      |zero=>
       simp only[bJ,de,aD]at c
       subst c
       exact⟨i,B,q _ (s _ (oa hi)),o,λ h af=>(awh f l (n.sub q) e af).1,avT e⟩
      |succ m=>
       obtain⟨v,ri,e1,e2,e3⟩:=UX f l J n m B' (by simpa[bJ]using c)
       exact⟨v,ri,by rw[show k+(m+1)=k+1+m by omega];exact e1,e2,e3⟩
     ·cases h
    ·cases h
   ·cases h
  ·cases h
where
 avT {post:Bool}:∀ {p:bF}{B:aC T.El}{aV a:List (Nat×Nat)}{d:s5 T.El p},iE bl aV post p B=some (d,a)-> ∀u k,k∈bz (dr σ g post p d) u->k∈bz B u
  | .c ty ps,B,aV,a,d,h,u,k,b=>by
    simp only[iE]at h;split at h
    ·exact b
    ·cases h
  | .r t same,B,aV,a,d,h,u,k,b=>by
    simp only[iE]at h;split at h
    ·exact b
    ·cases h
  | .m kt vt,B,aV,a,d,h,u,k,b=>by
    simp only[iE]at h;split at h
    ·exact b
    ·cases h
  | .d,B,aV,a,d,h,u,k,b=>by simp[dr,bz]at b
end
end a8
namespace a8
open Go Go.RowKit aq I
structure mA {El:Nat->Type} (bl:List (aC El)) (ρ:List Value) (bl':List (aC El)) (ρ':List Value) (sel:List Nat):Prop where
 len:ρ'.length=bl'.length
 at_:∀(j:Nat)(B':aC El)(h':Value),bl'[j]? =some B'->ρ'[j]? =some h'-> ∃i B,sel[j]? =some i/\bl[i]? =some B/\ρ[i]? =some h'/\ ∀u k,k∈bz B' u->k∈bz B u
 inj:∀(j io i:Nat),sel[j]? =some i->sel[io]? =some i->j=io
def rM{El:Nat->Type}:List (aC El)->List Value->List Nat
 |B::r,h::s=>bz B h++rM r s
 |_,_=>[]
theorem tB{El:Nat->Type}{k:Nat}:∀ {bl:List (aC El)}{ρ:List Value},k∈rM bl ρ↔pS bl ρ k
 |[],ρ=>by simp[rM,pS]
 |B::r,[]=>by simp[rM,pS]
 |B::r,h::s=>by
  simp only[rM,b3,tB (bl:=r)];constructor
  ·rintro(e |⟨i,C,u,a,J,b⟩)
   ·exact⟨0,B,h,rfl,rfl,e⟩
   ·exact⟨i+1,C,u,by simpa using a,by simpa using J,b⟩
  ·rintro⟨i,C,u,a,J,b⟩
   cases i with
   |zero=>
    simp only[de,aD]at a J
    subst a;subst J
    exact .inl b
   |succ i=>exact .inr ⟨i,C,u,by simpa using a,by simpa using J,b⟩
section
variable{T:bN}{W w:World}{M0:List Nat}{X:Nat->Prop}{bl bl':List (aC T.El)}{ρ ρ':List Value}{sel:List Nat}
theorem mA.own(h:mA bl ρ bl' ρ' sel){k:Nat}(ap:pS bl' ρ' k):pS bl ρ k:=by
 obtain⟨j,B',h',a,J,b⟩:=ap;obtain⟨i,B,_,e2,e3,e4⟩:=h.at_ j B' h' a J;exact⟨i,B,h',e2,e3,e4 _ _ b⟩
theorem mA.bu(h:mA bl ρ bl' ρ' sel)(f:Mem T W M0 X bl ρ w)(i j:Nat)(B C:aC T.El)(u v:Value)(g:bl'[i]? =some B)(J:ρ'[i]? =some u)(l:bl'[j]? =some C)(m:ρ'[j]? =some v)(n:i≠j):∀k∈bz B u,k∉bz C v:=λ k c d=>by
 obtain⟨a,iU,e1,e2,e3,e4⟩:=h.at_ i B u g J;obtain⟨b,Mb,o,p,q,r⟩:=h.at_ j C v l m;have c:=e4 _ _ c;have d:=r _ _ d;refine f.bu a b iU Mb u v e2 e3 p q (λ e=>?_) k c d;subst e;exact n (h.inj i j a e1 o)
def jF(X:Nat->Prop)(bl:List (aC T.El))(ρ:List Value)(sel:List Nat)(k:Nat):Prop:=X k\/ ∃i B h,i∉sel/\bl[i]? =some B/\ρ[i]? =some h/\k∈bz B h
theorem mA.GZ(h:mA bl ρ bl' ρ' sel){k:Nat}(a:bi X bl ρ w k):bi (jF X bl ρ sel) bl' ρ' w k:=
 ⟨λ b=>by
  rcases b with b |⟨i,B,u,_,c,J,d⟩
  ·exact a.1 b
  ·exact a.2.1 ⟨i,B,u,c,J,d⟩,λ ap=>a.2.1 (h.own ap),a.2.2⟩
theorem mA.KH(h:mA bl ρ bl' ρ' sel){k:Nat}(a:bi X bl ρ w k):bi X bl' ρ' w k:=⟨a.1,λ ap=>a.2.1 (h.own ap),a.2.2⟩
theorem mA.enter(h:mA bl ρ bl' ρ' sel)(a:Mem T W M0 X bl ρ w)(g:∀(j:Nat)(B':aC T.El)(h':Value),bl'[j]? =some B'->ρ'[j]? =some h'->iX T (bi (jF X bl ρ sel) bl' ρ' w) w ρ' bl' B' h'):Mem T w (rM bl' ρ') (jF X bl ρ sel) bl' ρ' w:=by
 refine⟨bj.refl _ _,h.len,λ k b=>?_,λ k b=>?_,h.bu a,g⟩
 ·rcases b with c |⟨i,B,u,hi,d,J,f⟩
  ·refine⟨dQ (a.hP k c).1 a.bS.size,λ e=>?_⟩
   exact a.aiu (h.own (tB.1 e)) c
  ·refine⟨(a.lt k ⟨i,B,u,d,J,f⟩).1,λ e=>?_⟩
   obtain⟨j,B',h',e1,e2,e3⟩:=tB.1 e
   obtain⟨l,iU,m,n,o,p⟩:=h.at_ j B' h' e1 e2
   have e3:=p _ _ e3
   refine a.bu i l B iU u h' d J n o (λ e=>?_) k f e3
   subst e
   exact hi (bB m)
 ·exact⟨(a.lt k (h.own b)).1,.inl (tB.2 b)⟩
theorem mA.leave(h:mA bl ρ bl' ρ' sel)(a:Mem T W M0 X bl ρ w)(b:∀(j:Nat)(B':aC T.El)(h':Value),bl'[j]? =some B'->ρ'[j]? =some h'->iX T (bi X bl' ρ' w) w ρ' bl' B' h'):Mem T W M0 X bl' ρ' w:=
 ⟨a.bS,h.len,a.hP,λ k c=>a.lt k (h.own c),h.bu a,b⟩
end
def b6(post:Bool)(pbs:List bF)(j:Nat):Nat:=eV post (pbs[j]?)
def gH(ρ:List Value)(sel:List Nat):List Value:=sel.map λ i=>ρ.getD i undef
section
variable{T:bN}{W w:World}{M0:List Nat}{X:Nat->Prop}{bl bl':List (aC T.El)}{ρ ρ':List Value}{sel:List Nat}
theorem GQ{σ g:Nat->Nat}{post:Bool}:∀ {ps:List bF}{d:cx T.El ps}{j:Nat},bW (bJ σ g post ps d)[j]? =eV post ps[j]?
 |[],d,j=>by simp[bJ,bW,eV]
 |p::r,d,0=>by
  simp only[bJ,de];cases p<;>rfl
 |p::r,d,j+1=>by simpa[bJ]using GQ (ps:=r)
theorem Wd{aV:List (Nat×Nat)}:∀ {n k:Nat}{sel:List Nat},JK aV k n=some sel->sel.length=n/\ ∀j i,sel[j]? =some i->(k+j,i)∈aV
 |0,k,sel,h=>by simp only[JK,aD]at h;subst h;simp
 |n+1,k,sel,h=>by
  simp only[JK]at h;split at h
  ·rename_i i r a J
   simp only[aD]at h
   subst h
   obtain⟨b,c⟩:=Wd J
   refine⟨by simp[b],λ j d aA=>?_⟩
   cases j with
   |zero=>simp only[de,aD]at aA;subst aA;exact oa a
   |succ j=>rw[show k+(j+1)=k+1+j by omega];exact c j d (by simpa using aA)
  ·cases h
theorem acA{n:Nat}:∀ {aV:List (Nat×Nat)},Ms n aV=true-> ∀p∈aV,p.1<n
 |[],_,p,aE=>by simp at aE
 |q::r,h,p,aE=>by
  simp only[Ms,bC]at h;rcases cm.1 aE with rfl |aE
  ·exact ck h.1
  ·exact acA h.2 p aE
theorem tF(f:Mem T W M0 X bl ρ w){aV:List (Nat×Nat)}(aK:jA aV){post:Bool}{pas:List cD}{pbs:List bF}{ys:List (aF T.El)}{da:dd T.El pas}{db:cx T.El pbs}(h:im bl aV post pas pbs ys=some ((da,db),sel)) :
 mA bl ρ (bJ id (b6 post pbs) post pbs db) (gH ρ sel) sel/\(∀p∈aV,sel[p.1]? =some p.2)/\
 ∀F':Nat->Prop,(∀k,bi X bl ρ w k->F' k)->(∀vs,a1 T (bi X bl ρ w) w ρ bl ys vs->a1 T F' w (gH ρ sel) (bJ id (b6 post pbs) post pbs db) (f_ id (b6 post pbs) pas da) vs)/\
  ∀(j:Nat)(B':aC T.El)(h':Value),(bJ id (b6 post pbs) post pbs db)[j]? =some B'->(gH ρ sel)[j]? =some h'->iX T F' w (gH ρ sel) (bJ id (b6 post pbs) post pbs db) B' h':=by
 unfold im at h
 split at h
 ·rename_i V N q
  split at h
  ·rename_i l s J
   split at h
   ·rename_i a O P
    simp only[aD,b5]at h
    obtain⟨⟨rfl,rfl⟩,rfl⟩:=h
    obtain⟨z,G⟩:=Nz q
    obtain⟨t,H⟩:=FO J
    have I:=H (G aK)
    obtain⟨l1,A⟩:=Wd O
    have K:=acA P
    have v:∀p∈s,a[p.1]? =some p.2:=λ p c=>by
     have C:p.1<a.length:=by rw[l1];exact K p c
     have e:=aH C;have:=A p.1 _ e;rw[ji]at this;have e2:a[p.1]=p.2:=I.fn _ this p c rfl;rw[e,e2]
    have b:(bJ id (b6 post pbs) post pbs l).length=pbs.length:=mX
    have base:∀(j:Nat)(B':aC T.El),(bJ id (b6 post pbs) post pbs l)[j]? =some B'-> ∃i B u,a[j]? =some i/\bl[i]? =some B/\ρ[i]? =some u/\(gH ρ a)[j]? =some u:=λ j B' aA=>by
     have x:∀j,b6 post pbs j=bW (bJ id (b6 post pbs) post pbs l)[id j]? :=λ j=>GQ.symm;have D:∀i,(j,i)∈s-> ∀B,bl[i]? =some B-> ∃i B u,a[j]? =some i/\bl[i]? =some B/\ρ[i]? =some u/\(gH ρ a)[j]? =some u:=λ i hi B n=>by
      obtain⟨u,L⟩:=f.r_ n;have aj:=v _ hi;refine⟨i,B,u,aj,n,L,?_⟩;rw[gH,iT,aj];simp[List.getD_eq_getElem?_getD,L]
     obtain⟨i,B,e1,e2⟩:=afr J j B' aA;exact D i (by simpa using e1) B e2
    have o:rh id s ρ (gH ρ a):=⟨λ p c=>by
     have aj:=v p c;have C:p.1<(bJ id (b6 post pbs) post pbs l).length:=by rw[b];exact K p c
     obtain⟨i,B,u,e1,e2,e3,e4⟩:=base p.1 _ (aH C);rw[aj]at e1;cases e1;show(gH ρ a)[p.1]? =_
     rw[e4,e3]⟩
    have x:∀j,b6 post pbs j=bW (bJ id (b6 post pbs) post pbs l)[id j]? :=λ j=>GQ.symm
    refine⟨⟨by rw[b];simp[gH,l1],λ j B' h' aA E=>?_,λ j io i aA Q=>?_⟩,λ p c=>v p (t p (z p c)),λ F' M=>⟨λ vs R=>afp M x (o.sub t) q R,λ j B' h' aA E=>?_⟩⟩
    ·obtain⟨i,B,e1,e2,_,e3⟩:=UX (F:=λ _=>False) (F':=λ _=>False) (w:=w) (λ _ h=>h) x J o j B' aA
     rw[ji]at e1
     have aj:=v _ e1
     refine⟨i,B,aj,e2,?_,e3⟩
     rw[<-o.at_ _ e1];exact E
    ·have e1:=A j i aA
     have e2:=A io i Q
     have:=I.inj _ e1 _ e2 rfl
     simpa using this
    ·obtain⟨i,B,e1,e2,e3,_⟩:=UX M x J o j B' aA
     rw[ji]at e1
     have S:ρ[i]? =some h':=by rw[<-o.at_ _ e1];exact E
     exact e3 h' (f.ok i B h' e2 S)
   ·cases h
  ·cases h
 ·cases h
where
 afr {post:Bool} {σ g:Nat->Nat}:∀ {ps:List bF}{aV y:List (Nat×Nat)}{k:Nat}{d:cx T.El ps},nV bl post aV k ps=some (d,y)-> ∀(m:Nat)(B':aC T.El),(bJ σ g post ps d)[m]? =some B'-> ∃i B,(k+m,i)∈y/\bl[i]? =some B
  |[],aV,y,k,d,_,m,B',f=>by simp[bJ]at f
  |p::r,aV,y,k,d,h,m,B',f=>by
   simp only[nV]at h;split at h
   ·rename_i i hi
    split at h
    ·rename_i B n
     split at h
     ·rename_i G N q
      split at h
      ·rename_i H s J
       cases h
       have t:=(FO J).1
       have z:=(NA q).1
       rw[cW]at n
       cases m with
       |zero=>exact⟨i,B,t _ (z _ (oa hi)),n⟩
       |succ m=>
        obtain⟨U,ri,e1,e2⟩:=afr J m B' (by simpa[bJ]using f)
        exact⟨U,ri,by rw[show k+(m+1)=k+1+m by omega];exact e1,e2⟩
      ·cases h
     ·cases h
    ·cases h
   ·cases h
end
end a8
namespace a8
open Go Go.RowKit aq I
def fY{α:Type}:List α->List Nat->List α->List α
 |l,[],qs=>l++qs
 |l,i::r,q::qs=>fY (l.set i q) r qs
 |l,_::_,[]=>l
section
variable{α:Type}
theorem Xa:∀ {sel:List Nat}{l qs:List α},sel.length<=qs.length->(fY l sel qs).length=l.length+(qs.length-sel.length)
 |[],l,qs,_=>by simp[fY]
 |i::r,l,q::qs,h=>by
  simp only[fY];rw[Xa (by simpa using h)];simp
 |i::r,l,[],h=>by simp at h
theorem Gy:∀ {sel:List Nat}{l qs:List α}{i:Nat},i∉sel->i<l.length->(fY l sel qs)[i]? =l[i]?
 |[],l,qs,i,_,hi=>by simp[fY,eW hi]
 |j::r,l,q::qs,i,h,hi=>by
  simp only[cm,not_or]at h;simp only[fY];rw[Gy h.2 (by simpa using hi),iQ (Ne.symm h.1)]
 |j::r,l,[],i,_,_=>rfl
theorem O0:∀ {sel:List Nat}{l qs:List α}{j i:Nat},sel.length<=qs.length->sel.Nodup->(∀i∈sel,i<l.length)->sel[j]? =some i->(fY l sel qs)[i]? =qs[j]?
 |[],l,qs,j,i,_,_,_,h=>by simp at h
 |a::r,l,q::qs,0,i,b,d,c,h=>by
  simp only[de,aD]at h;subst h;have e:=iO.1 d;simp only[fY];rw[Gy e.1 (by simpa using c a (by simp)),ff (c a (by simp))];rfl
 |a::r,l,q::qs,j+1,i,b,d,c,h=>by
  have e:=iO.1 d;simp only[fY];rw[O0 (by simpa using b) e.2 (λ i hi=>by simpa using c i (ez _ hi)) (by simpa using h)];rfl
 |a::r,l,[],j,i,b,_,_,_=>by simp at b
theorem O1:∀ {sel:List Nat}{l qs:List α}{m:Nat},sel.length<=qs.length->(fY l sel qs)[l.length+m]? =qs[sel.length+m]?
 |[],l,qs,m,_=>by simp[fY,fs]
 |a::r,l,q::qs,m,b=>by
  simp only[fY];have:=O1 (sel:=r) (l:=l.set a q) (qs:=qs) (m:=m) (by simpa using b);rw[iP]at this;rw[this,show(a::r).length+m=(r.length+m)+1 by simp;omega];rfl
 |a::r,l,[],m,b=>by simp at b
theorem aB7{sel:List Nat}{l qs:List α}(a:sel.length<=qs.length)(b:sel.Nodup)(c:∀i∈sel,i<l.length){i:Nat}{x:α}(h:(fY l sel qs)[i]? =some x) :
 (i∉sel/\i<l.length/\l[i]? =some x)\/ ∃j,qs[j]? =some x/\((j<sel.length/\sel[j]? =some i)\/(sel.length<=j/\i=l.length+(j-sel.length))):=by
 rcases fN i l.length with e |e
 ·by_cases hi:i∈sel
  ·obtain⟨j,aA,rfl⟩:=iv.1 hi
   have e1:=aH aA
   rw[O0 a b c e1]at h
   exact .inr ⟨j,h,.inl ⟨aA,e1⟩⟩
  ·rw[Gy hi e]at h
   exact .inl ⟨hi,e,h⟩
 ·right
  obtain⟨m,rfl⟩:∃m,i=l.length+m:=⟨i-l.length,by omega⟩
  rw[O1 a]at h
  exact⟨sel.length+m,h,.inr ⟨by omega,by omega⟩⟩
end
def iL(sel:List Nat)(len j:Nat):Nat:=match nth sel j with
 |some i=>i
 |none=>len+(j-sel.length)
theorem G7{sel:List Nat}{len j i:Nat}(h:sel[j]? =some i):iL sel len j=i:=by rw[iL,cW,h]
theorem ZC{sel:List Nat}{len j:Nat}(h:sel.length<=j):iL sel len j=len+(j-sel.length):=by
 rw[iL,cW,gz h]
def hg{El:Nat->Type}:Option (aC El)->aC El->aC El
 |some (.r _ g k _),.r t g' k' l=>.r t (g+g') (k+k') l
 |some (.r _ g _ _),.no g'=>.no (g+g')
 |some (.no g),.no g'=>.no (g+g')
 |_,B=>B
def xU{El:Nat->Type}(bl:List (aC El)):List Nat->List (aC El)->List (aC El)
 |i::r,B::qs=>hg (nth bl i) B::xU bl r qs
 |_,qs=>qs
theorem akV{El:Nat->Type}{bl:List (aC El)}:∀ {sel:List Nat}{qs:List (aC El)},(xU bl sel qs).length=qs.length
 |[],qs=>rfl
 |i::r,B::qs=>by simp[xU,akV (sel:=r)]
 |i::r,[]=>rfl
theorem akU{El:Nat->Type}{bl:List (aC El)}:∀ {sel:List Nat}{qs:List (aC El)}{j:Nat},(xU bl sel qs)[j]? =(qs[j]?).map λ B=>(match sel[j]? with
 |some i=>hg (nth bl i) B
 |none=>B)
 |[],qs,j=>by simp[xU]
 |i::r,B::qs,0=>by simp[xU]
 |i::r,B::qs,j+1=>by simpa[xU]using akU (sel:=r) (qs:=qs) (j:=j)
 |i::r,[],j=>by simp[xU]
theorem Lc{El:Nat->Type}{o:Option (aC El)}{B:aC El}{u:Value}:bz (hg o B) u=bz B u:=by
 unfold hg;split<;>rfl
section
variable{T:bN}{F F':Nat->Prop}{w:World}{ρ ρ':List Value}{bl bl':List (aC T.El)}{σ g g':Nat->Nat}
theorem ac9(a:∀j v,ρ[j]? =some v->ρ'[σ j]? =some v):∀ {dR:List Nat}{vs:List Value},a1 T F w ρ bl (dR.map λ j=>.b (id j) 0) vs->a1 T F' w ρ' bl' (dR.map λ j=>.b (σ j) 0) vs
 |[],vs,h=>by simpa only[hK,a1]using h
 |j::r,vs,h=>by
  simp only[eu,a1,ao]at h⊢;obtain⟨u,us,e,⟨b,e1,e2⟩,e3⟩:=h;exact⟨u,us,e,⟨b,a j _ e1,e2⟩,ac9 a e3⟩
theorem aja(b:∀k,F k->F' k)(e:∀j v,ρ[j]? =some v->ρ'[σ j]? =some v)(m:∀j,g j=bW bl[j]?)(n:∀j v,ρ[j]? =some v->g' j=bW bl'[σ j]?):∀ {p:iV}{d:yv T.El p}{v:Value},ao T F w ρ bl (gG id g p d) v->ao T F' w ρ' bl' (gG σ g' p d) v
 | .i k,d,v,h=>by simpa only[gG,ao]using h
 | .b,d,v,h=>by simpa only[gG,ao]using h
 | .s,d,v,h=>by simpa only[gG,ao]using h
 | .l t,d,v,h=>by simp only[gG,ao]at h⊢;exact(bY (T.ty t)).law (λ k f=>⟨b k f,rfl⟩) h
 | .x t,d,v,h=>by
   simp only[gG,ao]at h⊢;obtain⟨a,q,cs,e1,e2,e3,e4⟩:=h;exact⟨a,q,cs,e1,b a e2,(T.ty t).law (λ k f=>⟨b k f,rfl⟩) e3,e4⟩
 | .n kt vt,d,v,h=>by
   simp only[gG,ao]at h⊢;obtain⟨r,e1,e2,e3⟩:=h;exact⟨r,e1,b r e2,e3.law (λ k f=>⟨b k f,rfl⟩) rfl⟩
 | .gE,d,v,h=>by simpa only[gG,ao]using h
 | .B j,d,v,h=>by
   simp only[gG,ao,id]at h⊢;obtain⟨i,e1,e2⟩:=h;exact⟨i,e j _ e1,e2⟩
 | .R j,d,v,h=>by
   simp only[gG,ao,id]at h⊢;obtain⟨s,l,e1,e2,e3⟩:=h;exact⟨s,l,e j _ e1,by rw[n j _ e1];exact cu _,λ _=>e3 (m j)⟩
 | .M j,d,v,h=>by
   simp only[gG,ao,id]at h⊢;obtain⟨i,e1,e2⟩:=h;exact⟨i,e j _ e1,e2⟩
 | .P j sz,d,v,h=>by
   simp only[gG,ao,id]at h⊢;obtain⟨A,c,e1,e2,e3,e4⟩:=h;refine⟨A,c,e1,e2,e3,λ u=>?_⟩;obtain⟨x,y,xs,z,B⟩:=e4 u;exact⟨x,b _ y,xs,z.imp λ q v ⟨C,l,o,E,D⟩=>⟨C,l,e j _ o,by rw[n j _ o];exact cu _,λ _=>D (m j)⟩,B⟩
 | .F g dR,d,v,h=>by
   simp only[gG,ao]at h⊢;obtain⟨vs,e1,e2⟩:=h;exact⟨vs,e1,ac9 e e2⟩
theorem PG(a:∀k,F k->F' k)(b:∀j v,ρ[j]? =some v->ρ'[σ j]? =some v)(c:∀j,g j=bW bl[j]?)(f:∀j v,ρ[j]? =some v->g' j=bW bl'[σ j]?):∀ {ps:List iV}{d:vD T.El ps}{vs:List Value},a1 T F w ρ bl (sv id g ps d) vs->a1 T F' w ρ' bl' (sv σ g' ps d) vs
 |[],d,vs,h=>by simpa only[sv,a1]using h
 |p::r,d,vs,h=>by
  simp only[sv,a1]at h⊢;obtain⟨u,us,e,i,J⟩:=h;exact⟨u,us,e,aja a b c f i,PG a b c f J⟩
theorem aDz(a:∀k,F k->F' k)(b:∀j v,ρ[j]? =some v->ρ'[σ j]? =some v)(c:∀j,g j=bW bl[j]?)(f:∀j v,ρ[j]? =some v->g' j=bW bl'[σ j]?):∀ {p:cD}{d:EU T.El p}{v:Value},ao T F w ρ bl (As id g p d) v->ao T F' w ρ' bl' (As σ g' p d) v
 | .p p,d,v,h=>aja a b c f h
 | .a ps,d,v,h=>by
   simp only[As,ao]at h⊢;obtain⟨vs,e,i⟩:=h;exact⟨vs,e,PG a b c f i⟩
 | .f fn ps,d,v,h=>by
   simp only[As,ao]at h⊢;obtain⟨vs,e,i⟩:=h;exact⟨vs,e,PG a b c f i⟩
theorem ai'(a:∀k,F k->F' k)(b:∀j v,ρ[j]? =some v->ρ'[σ j]? =some v)(c:∀j,g j=bW bl[j]?)(f:∀j v,ρ[j]? =some v->g' j=bW bl'[σ j]?):∀ {ps:List cD}{d:dd T.El ps}{vs:List Value},a1 T F w ρ bl (f_ id g ps d) vs->a1 T F' w ρ' bl' (f_ σ g' ps d) vs
 |[],d,vs,h=>by simpa only[f_,a1]using h
 |p::r,d,vs,h=>by
  simp only[f_,a1]at h⊢;obtain⟨u,us,e,i,J⟩:=h;exact⟨u,us,e,aDz a b c f i,ai' a b c f J⟩
theorem aDA(i:∀k,F k->F' k)(m:∀j v,ρ[j]? =some v->ρ'[σ j]? =some v)(n:∀j,g j=bW bl[j]?)(q:∀j v,ρ[j]? =some v->g' j=bW bl'[σ j]?){post:Bool}{o:Option (aC T.El)}:∀ {p:bF}{d:s5 T.El p}{h:Value},iX T F w ρ bl (dr id g post p d) h->iX T F' w ρ' bl' (hg o (dr σ g' post p d)) h
 | .c ty ps,d,h,a=>by
   have:hg o (dr σ g' post (.c ty ps) d)=dr σ g' post (.c ty ps) d:=by unfold hg;split<;>first |rfl |(rename_i e;cases e)
   rw[this];obtain⟨s,vs,e1,e2,e3⟩:=a;exact⟨s,vs,e1,e2,PG i m n q e3⟩
 | .r t same,d,h,a=>by
   obtain⟨A,c,xs,e1,e2,e3⟩:=a;have:∃b f,hg o (dr σ g' post (.r t same) d)= .r t b f d:=by
    unfold hg;split
    ·rename_i e;cases e;exact⟨_,_,rfl⟩
    ·rename_i e;cases e
    ·rename_i e;cases e
    ·exact⟨_,_,rfl⟩
   obtain⟨b,f,e⟩:=this;rw[e];exact⟨A,c,xs,e1,e2,ou _ (λ k l=>⟨i k l,rfl⟩) e3⟩
 | .m kt vt,d,h,a=>by
   have:hg o (dr σ g' post (.m kt vt) d)=dr σ g' post (.m kt vt) d:=by unfold hg;split<;>first |rfl |(rename_i e;cases e)
   rw[this];obtain⟨r,e1,e2⟩:=a;exact⟨r,e1,e2.law (λ k l=>⟨i k l,rfl⟩) rfl⟩
 | .d,d,h,a=>by
   have:∃b,hg o (dr σ g' post .d d)= .no b:=by
    unfold hg;split
    ·rename_i e;cases e
    ·exact⟨_,rfl⟩
    ·exact⟨_,rfl⟩
    ·exact⟨_,rfl⟩
   obtain⟨b,e⟩:=this;rw[e];trivial
end
end a8
namespace a8
open Go Go.RowKit aq I
def qm{El:Nat->Type}:bF->aC El->Prop
 | .c _ _,.c _ _=>True
 | .r t _,.r t' _ _ _=>t'=t
 | .m _ _,.m _ _ _=>True
 | .d,.c _ _=>True
 | .d,.r _ _ _ _=>True
 | .d,.m _ _ _=>True
 | .d,.no _=>True
 |_,_=>False
def zG:bF->bF->Bool
 | .c _ _,.c _ _=>true
 | .r t _,.r t' _=>bP t t'
 | .m _ _,.m _ _=>true
 | .c _ _,.d=>true
 | .r _ _,.d=>true
 | .m _ _,.d=>true
 |_,_=>false
def jV:List bF->List bF->Bool
 |[],_=>true
 |p::r,q::s=>zG p q&&jV r s
 |_::_,[]=>false
theorem KR:∀ {ps qs:List bF},jV ps qs=true->ps.length<=qs.length
 |[],_,_=>by simp
 |p::r,q::s,h=>by
  simp only[jV,bC]at h;have:=KR h.2;simp;omega
 |p::r,[],h=>by cases h
theorem KQ:∀ {ps qs:List bF}{j:Nat}{p q:bF},jV ps qs=true->ps[j]? =some p->qs[j]? =some q->zG p q=true
 |[],_,j,p,q,_,h,_=>by simp at h
 |a::r,b::s,0,p,q,c,h,h'=>by
  simp only[de,aD]at h h';subst h;subst h';simp only[jV,bC]at c;exact c.1
 |a::r,b::s,j+1,p,q,c,h,h'=>by
  simp only[jV,bC]at c;exact KQ c.2 (by simpa using h) (by simpa using h')
 |a::r,[],j,p,q,c,_,_=>by cases c
def fm{El:Nat->Type}(bl:List (aC El))(sel:List Nat)(a:List bF)(j:Nat):Nat:=(match nth sel j with
 |some i=>tG bl i
 |none=>0)+b6 true a j
def vT{El:Nat->Type}(bl:List (aC El))(sel:List Nat)(a:List bF)(b:cx El a):List (aC El):=xU bl sel (bJ (iL sel bl.length) (fm bl sel a) true a b)
def gf{El:Nat->Type}(bl:List (aC El))(sel:List Nat)(a:List bF)(b:cx El a):List (aC El):=fY bl sel (vT bl sel a b)
section
variable{T:bN}{W w w':World}{M0:List Nat}{X:Nat->Prop}{bl:List (aC T.El)}{ρ ny dC:List Value}{sel:List Nat}{pre cg:List bF}{dp:cx T.El pre}{ew:cx T.El cg}{mH gq:Nat->Nat}
theorem PE{σ g:Nat->Nat}{post:Bool}:∀ {ps:List bF}{d:cx T.El ps}{j:Nat}{B:aC T.El},(bJ σ g post ps d)[j]? =some B-> ∃p a,ps[j]? =some p/\B=dr σ g post p a/\ ∀σ' g',(bJ σ' g' post ps d)[j]? =some (dr σ' g' post p a)
 |[],d,j,B,h=>by simp[bJ]at h
 |p::r,d,0,B,h=>by
  simp only[bJ,de,aD]at h;subst h;exact⟨p,d.1,rfl,rfl,λ _ _=>rfl⟩
 |p::r,d,j+1,B,h=>by
  obtain⟨q,a,b,J,c⟩:=PE (ps:=r) (d:=d.2) (j:=j) (by simpa[bJ]using h);exact⟨q,a,by simpa using b,J,λ σ' g'=>by simpa[bJ]using c σ' g'⟩
theorem back(n:Mem T W M0 X bl ρ w)(aj:mA bl ρ (bJ id mH false pre dp) ny sel)(mJ:sel.length=pre.length)(c:∀(j i:Nat)(B:aC T.El)(p:bF),sel[j]? =some i->bl[i]? =some B->pre[j]? =some p->qm p B)(b1:jV pre cg=true)
 (bw:∀i∈sel,i<bl.length)(axI:∀j,gq j=b6 true cg j)
 (o:Mem T w (rM (bJ id mH false pre dp) ny) (jF X bl ρ sel) (bJ id gq true cg ew) dC w')(aG:To (jF X bl ρ sel) (bJ id mH false pre dp) (bJ id gq true cg ew) ny dC w w') :
 Mem T W M0 X (gf bl sel cg ew) (fY ρ sel dC) w'/\To X bl (gf bl sel cg ew) ρ (fY ρ sel dC) w w'/\gW bl ρ w w' sel/\
  ∀pas (da:dd T.El pas) vs,a1 T (bi (jF X bl ρ sel) (bJ id gq true cg ew) dC w') w' dC (bJ id gq true cg ew) (f_ id gq pas da) vs->a1 T (bi X (gf bl sel cg ew) (fY ρ sel dC) w') w' (fY ρ sel dC) (gf bl sel cg ew) (f_ (iL sel bl.length) (fm bl sel cg) pas da) vs:=by
 have agk:(bJ id mH false pre dp).length=pre.length:=mX
 have ax4:(bJ id gq true cg ew).length=cg.length:=mX
 have azb:dC.length=cg.length:=by rw[o.len,ax4]
 have aMa:ny.length=pre.length:=by rw[aj.len,agk]
 have afO:=KR b1
 have kc:sel.Nodup:=by
  refine jt.2 λ i j hi aA Jc e=>?_;have:=aj.inj i j _ (aH hi) (by rw[e];exact aH aA);omega
 have aBq:(vT bl sel cg ew).length=cg.length:=by rw[vT,akV,mX]
 have Z:sel.length<=(vT bl sel cg ew).length:=by omega
 have s2:sel.length<=dC.length:=by omega
 have ax6:∀i∈sel,i<ρ.length:=λ i hi=>by rw[n.len];exact bw i hi
 have l1:(gf bl sel cg ew).length=bl.length+(cg.length-sel.length):=by rw[gf,Xa Z,aBq]
 have cA:(fY ρ sel dC).length=bl.length+(cg.length-sel.length):=by rw[Xa s2,n.len,azb]
 have RO:∀(j:Nat)(v:Value),dC[j]? =some v->(fY ρ sel dC)[iL sel bl.length j]? =some v:=λ j v aA=>by
  rcases fN j sel.length with e |e
  ·have e1:=aH e
   rw[G7 e1,O0 s2 kc ax6 e1];exact aA
  ·rw[ZC e,<-n.len,O1 s2,show sel.length+(j-sel.length)=j by omega];exact aA
 have E:∀(j:Nat),j<cg.length->(gf bl sel cg ew)[iL sel bl.length j]? =(vT bl sel cg ew)[j]? :=λ j aA=>by
  rcases fN j sel.length with e |e
  ·have e1:=aH e
   rw[G7 e1,gf,O0 Z kc bw e1]
  ·rw[ZC e,gf,O1 Z,show sel.length+(j-sel.length)=j by omega]
 have F:∀(j:Nat),j<sel.length-> ∃i B h,sel[j]? =some i/\bl[i]? =some B/\ρ[i]? =some h/\ny[j]? =some h/\ ∃p,pre[j]? =some p/\qm p B:=λ j aA=>by
  have NZ:j<(bJ id mH false pre dp).length:=by omega
  have C0:j<ny.length:=by omega
  obtain⟨i,B,e1,e2,e3,_⟩:=aj.at_ j _ _ (aH NZ) (aH C0);have G:j<pre.length:=by omega
  exact⟨i,B,_,e1,e2,e3,aH C0,_,aH G,c j i B _ e1 e2 (aH G)⟩
 have H:∀B:aC T.El,hg none B=B:=λ B=>by cases B<;>rfl
 have Sk:∀(j:Nat)(B:aC T.El),(vT bl sel cg ew)[j]? =some B-> ∃q d,cg[j]? =some q/\(bJ id gq true cg ew)[j]? =some (dr id gq true q d)/\B=hg ((sel[j]?).bind λ i=>nth bl i) (dr (iL sel bl.length) (fm bl sel cg) true q d):=λ j B t=>by
  rw[vT,akU,cd]at t;obtain⟨iU,r,J⟩:=t;obtain⟨q,d,e1,e2,e3⟩:=PE r;refine⟨q,d,e1,e3 _ _,?_⟩;subst e2;rw[<-J];cases aL8:sel[j]? with
  |none=>exact(H _).symm
  |some i=>rfl
 have I:∀(q:bF)(d:s5 T.El q)(σ g σ' g':Nat->Nat)(u:Value),bz (dr σ g true q d) u=bz (dr σ' g' true q d) u:=λ q d σ g σ' g' u=>by cases q<;>rfl
 have cs:∀(i:Nat)(B:aC T.El)(h:Value),(gf bl sel cg ew)[i]? =some B->(fY ρ sel dC)[i]? =some h->(i∉sel/\bl[i]? =some B/\ρ[i]? =some h)\/
  ∃j q d,cg[j]? =some q/\dC[j]? =some h/\iL sel bl.length j=i/\(bJ id gq true cg ew)[j]? =some (dr id gq true q d)/\B=hg ((sel[j]?).bind λ i=>nth bl i) (dr (iL sel bl.length) (fm bl sel cg) true q d):=λ i B h t K=>by
  rcases aB7 Z kc bw t with⟨e1,e2,e3⟩|⟨j,e1,e2⟩
  ·left
   rw[Gy e1 (by rw[n.len];exact e2)]at K
   exact⟨e1,e3,K⟩
  ·right
   obtain⟨q,d,l,m,f⟩:=Sk j B e1
   have aA:j<cg.length:=(aM.1 l).1
   have L:iL sel bl.length j=i:=by
    rcases e2 with⟨_,e2⟩|⟨e2,e3⟩
    ·exact G7 e2
    ·rw[ZC e2,e3]
   have M:=RO j _ (aH (by omega:j<dC.length))
   rw[L,K]at M
   simp only[aD]at M
   exact⟨j,q,d,l,by rw[M];exact aH _,L,m,f⟩
 have XP:∀k,pS (gf bl sel cg ew) (fY ρ sel dC) k->(∃i B h,i∉sel/\bl[i]? =some B/\ρ[i]? =some h/\k∈bz B h)\/pS (bJ id gq true cg ew) dC k:=λ k c=>by
  obtain⟨i,B,h,r,J,s⟩:=c;rcases cs i B h r J with⟨e1,e2,e3⟩|⟨j,q,d,e1,e2,e3,e4,rfl⟩
  ·exact .inl ⟨i,B,h,e1,e2,e3,s⟩
  ·rw[Lc,I q d _ _ id gq]at s
   exact .inr ⟨j,_,h,e4,e2,s⟩
 have N:∀k,bi (jF X bl ρ sel) (bJ id gq true cg ew) dC w' k->bi X (gf bl sel cg ew) (fY ρ sel dC) w' k:=λ k c=>⟨λ aa=>c.1 (.inl aa),λ ap=>by
  rcases XP k ap with h |h
  ·exact c.1 (.inr h)
  ·exact c.2.1 h,c.2.2⟩
 have O:∀k,bi X bl ρ w k->bi X (gf bl sel cg ew) (fY ρ sel dC) w' k/\w'.heap[k]? =w.heap[k]? :=λ k c=>⟨⟨c.1,λ ap=>by
  rcases XP k ap with⟨i,B,h,_,r,J,s⟩|h
  ·exact c.2.1 ⟨i,B,h,r,J,s⟩
  ·rcases(o.lt k h).2 with e |e
   ·exact c.2.1 (aj.own (tB.1 e))
   ·have:=c.2.2;omega,dQ c.2.2 o.bS.size⟩,o.bS.block k c.2.2 λ e=>c.2.1 (aj.own (tB.1 e))⟩
 have P:∀j,gq j=bW (bJ id gq true cg ew)[j]? :=λ j=>by rw[GQ];exact axI j
 have km:∀(j:Nat)(q:bF),cg[j]? =some q->j<sel.length-> ∃i B,sel[j]? =some i/\bl[i]? =some B/\qm q B:=λ j q aA ai=>by
  obtain⟨i,B,h,e1,e2,_,_,p,e5,e6⟩:=F j ai;have:=KQ b1 e5 aA;refine⟨i,B,e1,e2,?_⟩;cases p<;>cases q<;>simp only[zG,hv]at this<;>cases B<;>simp only[qm]at e6⊢;rw[e6,a_ this]
 have fy:∀j v,dC[j]? =some v->fm bl sel cg j=bW (gf bl sel cg ew)[iL sel bl.length j]? :=λ j v aA=>by
  have wM:j<cg.length:=by have:=(aM.1 aA).1;omega
  rw[E j wM];have Q:j<(vT bl sel cg ew).length:=by omega
  obtain⟨q,d,e1,e2,e3⟩:=Sk j _ (aH Q);rw[aH Q,e3];rw[fm,cW,b6,e1];rcases fN j sel.length with ai |ai
  ·obtain⟨i,B,l,m,f⟩:=km j q e1 ai
   rw[l]
   simp only[ae,cW,m,CK]
   cases q<;>cases B<;>simp only[qm]at f<;>simp[hg,dr,bW,eV]
  ·rw[gz ai]
   simp only[Option.bind_none,H,ji]
   cases q<;>rfl
 have R:mx T ρ (fY ρ sel dC) bl (gf bl sel cg ew):=⟨λ i h hi=>by
  have cT:i<ρ.length:=(aM.1 hi).1;by_cases fg:i∈sel
  ·obtain⟨j,aA,rfl⟩:=iv.1 fg
   obtain⟨i,B,aI,e1,e2,e3,e4,p,e5,e6⟩:=F j aA
   have Ta:sel[j]=i:=by rw[aH aA]at e1;exact dT e1
   rw[Ta]at hi⊢
   rw[hi]at e3
   cases e3
   obtain⟨h',bh,bd,b9,c8⟩:=aG.L.at_ j h e4
   have wM:j<cg.length:=by omega
   have Q:j<(vT bl sel cg ew).length:=by omega
   obtain⟨q,d,l,m,f⟩:=Sk j _ (aH Q)
   have t:=E j wM
   rw[G7 e1,aH Q,f,e1]at t
   simp only[ae,cW,e2]at t
   have aw:=RO j h' bh
   rw[G7 e1]at aw
   refine⟨h',aw,bd,?_⟩
   rw[t,e2]
   obtain⟨i2,ri,m1,m2,m3⟩:=km j q l aA
   rw[e1]at m1
   cases m1
   rw[e2]at m2
   cases m2
   have y:bW (bJ id mH false pre dp)[j]? =0:=by
    rw[GQ,e5];cases p<;>rfl
   have z:bW (bJ id gq true cg ew)[j]? =eV true (some q):=by rw[GQ,l]
   rw[y,z]at c8
   cases q<;>cases B<;>simp only[qm]at m3
   ·exact⟨cu _,λ _=>⟨(c8 rfl).1,rfl,cu _,λ _=>rfl⟩⟩
   ·subst m3
    refine⟨by simp[hg,dr,bW],λ e=>⟨(c8 (by simpa[hg,dr,bW]using e)).1,rfl,by simp[hg,dr,gQ],λ e=>?_⟩⟩
    simp[hg,dr,gQ,AU]at e
   ·exact⟨cu _,λ _=>⟨(c8 rfl).1,rfl,cu _,λ _=>rfl⟩⟩
   ·exact⟨gD _,λ e=>by simp[hg,dr,bW,eV]at e⟩
   ·exact⟨by simp[hg,dr,bW],λ e=>by simp[hg,dr,bW,eV]at e⟩
   ·exact⟨gD _,λ e=>by simp[hg,dr,bW,eV]at e⟩
   ·exact⟨by simp[hg,dr,bW],λ e=>by simp[hg,dr,bW,eV]at e⟩
  ·have af:(gf bl sel cg ew)[i]? =bl[i]? :=Gy fg (by rw[<-n.len];exact cT)
   refine⟨h,by rw[Gy fg cT];exact hi,λ _=>rfl,?_⟩
   rw[af]
   exact⟨cu _,λ _=>⟨rfl,rfl,cu _,λ _=>rfl⟩⟩⟩
 have S:∀(i:Nat)(B:aC T.El)(h:Value),i∉sel->bl[i]? =some B->ρ[i]? =some h-> ∀k∈bz B h,k<w.heap.size/\k∉rM (bJ id mH false pre dp) ny:=λ i B h hi r J k c=>by
  refine⟨(n.lt k ⟨i,B,h,r,J,c⟩).1,λ e=>?_⟩;obtain⟨j,C,u,l,m,f⟩:=tB.1 e;obtain⟨dn,iU,y,z,U,V⟩:=aj.at_ j C u l m;have f:=V _ _ f;refine n.bu i dn B iU h u r J z U (λ e=>?_) k c f;subst e;exact hi (bB y)
 have asi:To X bl (gf bl sel cg ew) ρ (fY ρ sel dC) w w':=⟨O,R,o.bS.size,λ i B' h' hi K k c VI=>by
  rcases cs i B' h' hi K with⟨_,e2,e3⟩|⟨j,q,d,e1,e2,e3,e4,rfl⟩
  ·exact⟨B',h',e2,e3,c⟩
  ·rw[Lc,I q d _ _ id gq]at c
   obtain⟨iU,aI,l,m,f⟩:=aG.nT j _ h' e4 e2 k c VI
   obtain⟨dn,B,y,z,U,V⟩:=aj.at_ j iU aI l m
   rw[G7 y]at e3
   subst e3
   exact⟨B,aI,z,U,V _ _ f⟩⟩
 refine⟨⟨n.bS.trans o.bS λ k c=>(n.lt k (aj.own (tB.1 c))).2,by rw[l1,cA],n.hP,λ k c=>?_,?_,?_⟩,asi,λ k c az=>?_,λ pas da vs M=>ai' N RO P fy M⟩
 ·rcases XP k c with⟨i,B,h,_,r,J,s⟩|h
  ·have:=n.lt k ⟨i,B,h,r,J,s⟩
   exact⟨dQ this.1 o.bS.size,this.2⟩
  ·refine⟨(o.lt k h).1,?_⟩
   rcases(o.lt k h).2 with e |e
   ·exact(n.lt k (aj.own (tB.1 e))).2
   ·exact .inr (gm n.bS.size e)
 ·intro a b B C u v r J s a' bX k c A
  have Y:∀(i:Nat)(D:aC T.El)(x:Value),i∉sel->bl[i]? =some D->ρ[i]? =some x->k∈bz D x->pS (bJ id gq true cg ew) dC k->False:=λ i D x hi d1 d2 d3 ap=>by
   obtain⟨bn,bx⟩:=S i D x hi d1 d2 k d3;rcases(o.lt k ap).2 with e |e
   ·exact bx e
   ·omega
  rcases cs a B u r J with⟨e1,e2,e3⟩|⟨j,q,d,e1,e2,e3,e4,rfl⟩
  ·rcases cs b C v s a' with⟨l,m,f⟩|⟨io,D1,Is,l,m,f,f4,rfl⟩
   ·exact n.bu a b B C u v e2 e3 m f bX k c A
   ·rw[Lc,I D1 Is _ _ id gq]at A
    exact Y a B u e1 e2 e3 c ⟨io,_,v,f4,m,A⟩
  ·rw[Lc,I q d _ _ id gq]at c
   rcases cs b C v s a' with⟨l,m,f⟩|⟨io,D1,Is,l,m,f,f4,rfl⟩
   ·exact Y b C v l m f A ⟨j,_,u,e4,e2,c⟩
   ·rw[Lc,I D1 Is _ _ id gq]at A
    refine o.bu j io _ _ u v e4 e2 f4 m (λ e=>?_) k c A
    subst e
    exact bX (e3.symm.trans f)
 ·intro i B h r J
  rcases cs i B h r J with⟨e1,e2,e3⟩|⟨j,q,d,e1,e2,e3,e4,rfl⟩
  ·exact(n.ok i B h e2 e3).later O R λ k c=>by
    obtain⟨bn,bx⟩:=S i B h e1 e2 e3 k c;exact o.bS.block k bn bx
  ·exact aDA N RO P fy (o.ok j _ h e4 e2)
 ·refine o.bS.block k c λ e=>?_
  obtain⟨j,C,u,l,m,f⟩:=tB.1 e
  obtain⟨dn,iU,y,z,U,V⟩:=aj.at_ j C u l m
  have f:=V _ _ f
  exact az dn (bB y) iU u z U f
end
end a8
namespace a8
open Go Go.RowKit aq I
def n5:Nat->List (Nat×Nat)
 |0=>[]
 |n+1=>(n,n)::n5 n
theorem Df{n:Nat}{p:Nat×Nat}:p∈n5 n↔p.1<n/\p.2=p.1:=by
 induction n with
 |zero=>simp[n5]
 |succ n d=>
  simp only[n5,cm,d]
  constructor
  ·rintro(rfl |⟨c,J⟩)
   ·exact⟨kU _,rfl⟩
   ·exact⟨by omega,J⟩
  ·rintro⟨c,J⟩
   rcases fN p.1 n with e |e
   ·exact .inr ⟨e,J⟩
   ·left
    obtain⟨a,b⟩:=p
    simp only at c J e
    simp only[b5]
    omega
theorem Dd{n:Nat}:jA (n5 n):=⟨λ p a q b e=>by rw[(Df.1 a).2,(Df.1 b).2,e],λ p a q b e=>by rw[<-(Df.1 a).2,<-(Df.1 b).2,e]⟩
theorem tq:jA []:=⟨λ p a=>by simp at a,λ p a=>by simp at a⟩
def xT{El:Nat->Type}(n:Nat)(y:aF El):List (aF El):=match bP n 1 with
 |true=>[y]
 |false=>match y with
  | .u ys=>ys
  | .p (.tuple ⟨vs⟩)=>vs.map .p
  |y=>[y]
section
variable{T:bN}{W w w':World}{M0:List Nat}{X:Nat->Prop}{bl:List (aC T.El)}{ρ:List Value}
theorem Ot{El:Nat->Type}{pre c:List bF}(a:jV pre c=true){j:Nat}{p:bF}{B:aC El}(b:pre[j]? =some p)(h:p≠ .d->qm p B):qm p B:=h λ e=>by
 subst e;have aA:=(aM.1 b).1;have d:=KR a;have:=KQ a b (aH (by omega));simp[zG]at this
theorem awg{aV b:List (Nat×Nat)}{post:Bool}:∀ {p:bF}{B:aC T.El}{d:s5 T.El p},iE bl aV post p B=some (d,b)->(p≠ .d->qm p B)/\(post=true->eV true (some p)=0 ->bW (some B)=0)
 | .c ty ps,B,d,h=>by
   simp only[iE]at h;split at h
   ·exact⟨λ _=>trivial,λ _ _=>rfl⟩
   ·cases h
 | .r t same,B,d,h=>by
   simp only[iE]at h;split at h
   ·split at h
    ·rename_i af
     obtain⟨x,c,h⟩:=cd.1 h
     obtain⟨e,_⟩:=ajE c
     refine⟨λ _=>e,λ f a=>?_⟩
     subst f
     cases same with
     |false=>simp[eV]at a
     |true=>simpa[bW]using a_ (by simpa using af)
    ·cases h
   ·cases h
 | .m kt vt,B,d,h=>by
   simp only[iE]at h;split at h
   ·exact⟨λ _=>trivial,λ _ _=>rfl⟩
   ·cases h
 | .d,B,d,h=>by
   simp only[iE]at h;split at h<;>first |exact⟨λ h=>absurd rfl h,λ _ a=>by simp[eV]at a⟩|cases h
theorem afs{post:Bool}:∀ {ps:List bF}{aV b:List (Nat×Nat)}{k:Nat}{d:cx T.El ps},nV bl post aV k ps=some (d,b)-> ∀(m:Nat)(p:bF),ps[m]? =some p-> ∃i B,(k+m,i)∈b/\bl[i]? =some B/\(p≠ .d->qm p B)/\(post=true->eV true (some p)=0 ->bW (some B)=0)
 |[],aV,b,k,d,_,m,p,a=>by simp at a
 |q::r,aV,b,k,d,h,m,p,a=>by
  simp only[nV]at h;split at h
  ·rename_i i hi
   split at h
   ·rename_i B c
    split at h
    ·rename_i l n e
     split at h
     ·rename_i o s J
      cases h
      have f:=(FO J).1
      have g:=(NA e).1
      rw[cW]at c
      cases m with
      |zero=>
       simp only[de,aD]at a
       subst a
       exact⟨i,B,f _ (g _ (oa hi)),c,awg e⟩
      |succ m=>
       obtain⟨j,ri,e1,e2,e3⟩:=afs J m p (by simpa using a)
       exact⟨j,ri,by rw[show k+(m+1)=k+1+m by omega];exact e1,e2,e3⟩
     ·cases h
    ·cases h
   ·cases h
  ·cases h
theorem CJ{aV:List (Nat×Nat)}(aK:jA aV){post:Bool}{pas:List cD}{pbs:List bF}{ys:List (aF T.El)}{a:dd T.El pas×cx T.El pbs}{sel:List Nat}(h:im bl aV post pas pbs ys=some (a,sel)) :
 sel.length=pbs.length/\ ∀(j i:Nat)(p:bF),sel[j]? =some i->pbs[j]? =some p-> ∃B,bl[i]? =some B/\(p≠ .d->qm p B)/\(post=true->eV true (some p)=0 ->bW (some B)=0):=by
 unfold im at h
 split at h
 ·rename_i g k b
  split at h
  ·rename_i l m J
   split at h
   ·rename_i n c o
    simp only[aD,b5]at h
    obtain⟨rfl,rfl⟩:=h
    have d:=(FO J).2 ((Nz b).2 aK)
    obtain⟨l1,e⟩:=Wd c
    refine⟨l1,λ j i p aA f=>?_⟩
    obtain⟨q,B,e1,e2,e3⟩:=afs J j p f
    have:=d.fn _ e1 _ (e j i aA) rfl
    simp only at this
    subst this
    exact⟨B,e2,e3⟩
   ·cases h
  ·cases h
 ·cases h
theorem WX{pre a:List bF}{dp:cx T.El pre}{g:cx T.El a}{mH gq:Nat->Nat}{s C D:List Value}{t:List (aC T.El)}{sel:List Nat}(J:s.length=pre.length)(c:To X (bJ id mH false pre dp) t s D w w')(aj:mA t D (bJ id gq true a g) C sel)
 (u:∀j,j<pre.length->sel[j]? =some j)(Z:sel.length=a.length)(E:jV pre a=true)(l:∀(j i:Nat)(p:bF),sel[j]? =some i->a[j]? =some p-> ∃B,t[i]? =some B/\(p≠ .d->qm p B)/\(true=true->eV true (some p)=0 ->bW (some B)=0)) :
 To X (bJ id mH false pre dp) (bJ id gq true a g) s C w w':=by
 have K:=KR E
 refine⟨λ k l=>⟨aj.KH (c.F k l).1,(c.F k l).2⟩,⟨λ i h hi=>?_⟩,c.sz,λ i B' h' hi L k v M=>?_⟩
 ·have d:i<pre.length:=by have:=(aM.1 hi).1;omega
  obtain⟨h',N,O,b9,m⟩:=c.L.at_ i h hi
  have n:i<(bJ id gq true a g).length:=by rw[mX];omega
  obtain⟨b,B,e1,e2,e3,e4⟩:=aj.at_ i _ _ (aH n) (aH (by rw[aj.len];exact n))
  rw[u i d]at e1
  cases e1
  rw[N]at e3
  have e3:=dT e3
  refine⟨h',by rw[aH (by rw[aj.len];exact n),e3],O,?_⟩
  have F:i<pre.length:=d
  have G:=aH F
  have x:i<a.length:=by omega
  have y:=aH x
  have kk:=KQ E G y
  obtain⟨ri,P,m2,o⟩:=l i i _ (u i d) y
  obtain⟨Q,z⟩:∃B,(bJ id mH false pre dp)[i]? =some B:=⟨_,aH (by rw[mX];exact F)⟩
  obtain⟨R,H⟩:∃B,(bJ id gq true a g)[i]? =some B:=⟨_,aH n⟩
  obtain⟨pp,dD,q,r,_⟩:=PE z
  obtain⟨S,Is,I,U,_⟩:=PE H
  rw[G]at q
  rw[y]at I
  subst r;subst U
  have A:=dT q
  have f:=dT I
  rw[A,f]at kk
  rw[f]at o
  rw[z,H]
  rw[z,P]at m
  cases pp<;>cases S<;>simp only[zG,hv]at kk
  ·exact⟨cu _,λ _=>⟨(m (o rfl rfl)).1,rfl,cu _,λ _=>rfl⟩⟩
  ·exact⟨gD _,λ e=>by simp[dr,bW,eV]at e⟩
  ·have:=a_ kk
   subst this
   refine⟨by simp[dr,bW,eV],λ e=>⟨(m ?_).1,rfl,by simp[dr,gQ,AU],λ e=>by simp[dr,gQ,AU]at e⟩⟩
   have:=o rfl (by simpa[dr,bW,eV]using e)
   simpa[dr,bW,eV]using this
  ·exact⟨by simp[dr,bW,eV],λ e=>by simp[dr,bW,eV]at e⟩
  ·exact⟨cu _,λ _=>⟨(m (o rfl rfl)).1,rfl,cu _,λ _=>rfl⟩⟩
  ·exact⟨gD _,λ e=>by simp[dr,bW,eV]at e⟩
 ·obtain⟨b,B,e1,e2,e3,e4⟩:=aj.at_ i B' h' hi L
  have v:=e4 _ _ v
  obtain⟨iU,V,q,r,Y⟩:=c.nT b B h' e2 e3 k v M
  have d:b<pre.length:=by have:=(aM.1 r).1;omega
  have:=aj.inj i b b e1 (u b d)
  subst this
  exact⟨iU,V,q,r,Y⟩
end
end a8
namespace a8
open Go Go.RowKit aq I
section
variable{El:Nat->Type}
def IC(pbs:List bF)(p:iV)(bl:List (aC El))(y:aF El):List (aC El)×aF El:=match p with
 | .l _=>gg bl y
 | .R j=>match y,nth pbs j with
   | .p (.slice none 0 0),some (.r t _)=>(bl++[.r t 0 0 []],.r bl.length 0)
   | .v i g (.ofNat 0) hi,_=>match nth bl i with
     |some (.r t a _ l)=>match bP g a with
      |true=>(bl.set i (.r t (a+1) 0 (l.take hi.toNat)),.r i (a+1))
      |false=>(bl,y)
     |_=>(bl,y)
   |_,_=>(bl,y)
 |_=>(bl,y)
def p9(pbs:List bF):List iV->List (aC El)->List (aF El)->List (aC El)×List (aF El)
 |p::r,bl,y::ys=>match IC pbs p bl y with
  |(bO,cE)=>match p9 pbs r bO ys with
   |(a,b)=>(a,cE::b)
 |_,bl,ys=>(bl,ys)
def IA(pbs:List bF)(p:cD)(bl:List (aC El))(y:aF El):List (aC El)×aF El:=match p with
 | .p p=>IC pbs p bl y
 | .a ps=>match ll y with
   |true=>match p9 pbs ps bl (cellsOf y)with
    |(bO,ys)=>(bO,.a ys)
   |false=>(bl,y)
 | .f _ ps=>match y with
   | .f g cs=>match p9 pbs ps bl cs with
     |(bO,ys)=>(bO,.f g ys)
   |_=>(bl,y)
def nO(pbs:List bF):List cD->List (aC El)->List (aF El)->List (aC El)×List (aF El)
 |p::r,bl,y::ys=>match IA pbs p bl y with
  |(bO,cE)=>match nO pbs r bO ys with
   |(a,b)=>(a,cE::b)
 |_,bl,ys=>(bl,ys)
def wc(pbs:List bF):List (Nat×Nat)->Nat->List bF->List (aC El)->List (aC El)
 |aV,k,.c ty ps::r,bl=>match cv aV k with
  |some i=>match nth bl i with
   |some (.c _ cs)=>match p9 pbs ps bl cs with
    |(bO,a)=>match nth bO i with
     |some (.c b _)=>match nW (bO.set i (.c b a)) aV ps a with
      |some (_,c)=>wc pbs c (k+1) r (bO.set i (.c b a))
      |none=>bO.set i (.c b a)
     |_=>bl
   |_=>bl
  |none=>bl
 |aV,k,_::r,bl=>wc pbs aV (k+1) r bl
 |_,_,[],bl=>bl
def gx(aV:List (Nat×Nat))(pas:List cD)(pbs:List bF)(bl:List (aC El))(ys:List (aF El)):List (aC El)×List (aF El):=match nO pbs pas bl ys with
 |(bO,cE)=>match lO bO aV pas cE with
  |some (_,a)=>(wc pbs a 0 pbs bO,cE)
  |none=>(bO,cE)
end
section
variable{T:bN}{W w:World}{M0:List Nat}{X:Nat->Prop}{bl bl':List (aC T.El)}{ρ:List Value}{pbs:List bF}
theorem Mem.aty(a:Mem T W M0 X bl ρ w){i t g k:Nat}{l:List (T.El t)}{A:Option Addr}{c q:Nat}(hi:bl[i]? =some (.r t g k l))(b:ρ[i]? =some (.slice A l.length c))(d:q<=l.length) :
 Mem T W M0 X (bl.set i (.r t (g+1) 0 (l.take q))) (ρ.set i (.slice A q c)) w/\To X bl (bl.set i (.r t (g+1) 0 (l.take q))) ρ (ρ.set i (.slice A q c)) w w:=by
 obtain⟨cb,m,xs,e1,e2,e3⟩:=a.ok i _ _ hi b
 simp only[Value.slice.injEq,true_and]at e1
 obtain⟨rfl,rfl⟩:=e1
 have ad:∀k'∈bz (aC.r (El:=T.El) t (g+1) 0 (l.take q)) (.slice A q c),k'∈bz (aC.r t g k l) (.slice A l.length c)\/(w.heap.size<=k'/\k'<w.heap.size):=λ k' j=>by
  left;revert j;cases A<;>cases c<;>simp[bz,af]
 have f:=a.D9 (B':=aC.r t (g+1) 0 (l.take q)) (h':=.slice A q c) (w':=w) hi b (bj.refl _ _) ad ⟨λ h=>absurd trivial h,Nat.le_succ _,λ e=>by simp[bW]at e⟩
 refine⟨a.gl hi b (bj.refl _ _) ad f ⟨A,c,xs.take (q*(T.ty t).size),by rw[fP,lD d],?_,?_⟩,f⟩
 ·rw[fP,lD d]
  exact e2.short d
 ·have:=uG 0 q (ou _ f.F e3)
  simpa using this
theorem aeY(a:Mem T W M0 X bl ρ w){p:iV}{y e:aF T.El}{v:Value}(h:IC pbs p bl y=(bl',e))(b:ao T (bi X bl ρ w) w ρ bl y v):∃ρ',Mem T W M0 X bl' ρ' w/\To X bl bl' ρ ρ' w w/\ao T (bi X bl' ρ' w) w ρ' bl' e v:=by
 have same:(bl,y)=(bl',e)-> ∃ρ',Mem T W M0 X bl' ρ' w/\To X bl bl' ρ ρ' w w/\ao T (bi X bl' ρ' w) w ρ' bl' e v:=λ h=>by
  simp only[b5]at h;obtain⟨rfl,rfl⟩:=h;exact⟨ρ,a,.refl,b⟩
 unfold IC at h;split at h
 ·obtain⟨x,J,z⟩:=afh a h b
  exact⟨ρ,x,J,z⟩
 ·split at h
  ·rename_i t _ _
   simp only[b5]at h
   obtain⟨rfl,rfl⟩:=h
   simp only[ao]at b
   subst b
   have ad:∀k∈bz (aC.r (El:=T.El) t 0 0 []) (.slice none 0 0),w.heap.size<=k/\k<w.heap.size:=λ k C=>by simp[bz,af]at C
   have D:=a.push (B:=aC.r t 0 0 []) (h:=.slice none 0 0) (bj.refl _ _) ad ⟨none,0,[],rfl,.inr ⟨rfl,rfl,none,rfl⟩,rfl⟩
   refine⟨_,D,a.AQ (bj.refl _ _) ad,?_⟩
   simp only[ao]
   refine⟨trivial,.slice none 0 0,by rw[<-a.len];simp,gD _,λ _=>rfl⟩
  ·rename_i i g hi
   split at h
   ·rename_i t I k l d
    rw[cW]at d
    split at h
    ·rename_i af
     simp only[b5]at h
     obtain⟨rfl,rfl⟩:=h
     simp only[ao]at b
     obtain⟨_,u,f,K,r⟩:=b
     rw[d]at r
     obtain⟨A,n,c,B,s,L,M,E,j,f6,N⟩:=r (a_ af)
     obtain⟨cb,O,xs,m,F,P⟩:=a.ok i _ _ d f
     rw[s]at m
     simp only[Value.slice.injEq]at m
     obtain⟨rfl,rfl,rfl⟩:=m
     rw[s]at f
     have o:=f6 rfl
     subst o
     have j:v= .slice B hi.toNat c:=by simpa using j
     subst j
     obtain⟨G,H⟩:=a.aty d f (q:=hi.toNat) (by have:hi<=(l.length:Int):=E;omega)
     refine⟨_,G,H,?_⟩
     simp only[ao]
     refine⟨trivial,_,ff (aM.1 f).1,?_,λ _=>rfl⟩
     rw[ff (aM.1 d).1]
     exact cu _
    ·exact same h
   ·exact same h
  ·exact same h
 ·exact same h
theorem Nf:∀ {ps:List iV}{ys b:List (aF T.El)}{bl bl':List (aC T.El)}{ρ:List Value}{vs:List Value},Mem T W M0 X bl ρ w->p9 pbs ps bl ys=(bl',b)->a1 T (bi X bl ρ w) w ρ bl ys vs-> ∃ρ',Mem T W M0 X bl' ρ' w/\To X bl bl' ρ ρ' w w/\a1 T (bi X bl' ρ' w) w ρ' bl' b vs
 |[],ys,b,bl,bl',ρ,vs,c,h,a=>by
  simp only[p9,b5]at h;obtain⟨rfl,rfl⟩:=h;exact⟨ρ,c,.refl,a⟩
 |_::_,[],b,bl,bl',ρ,vs,c,h,a=>by
  simp only[p9,b5]at h;obtain⟨rfl,rfl⟩:=h;exact⟨ρ,c,.refl,a⟩
 |p::r,y::ys,b,bl,bl',ρ,vs,c,h,a=>by
  simp only[a1]at a;obtain⟨u,us,rfl,g,i⟩:=a;simp only[p9]at h;cases d:IC pbs p bl y with
  |mk bO cE=>
   rw[d]at h
   cases J:p9 pbs r bO ys with
   |mk n o=>
    rw[J]at h
    simp only[b5]at h
    obtain⟨rfl,rfl⟩:=h
    obtain⟨q,j,e,v1⟩:=aeY c d g
    obtain⟨k,l,f,m⟩:=Nf j J (e.vs i)
    refine⟨k,l,e.trans f,?_⟩
    simp only[a1]
    exact⟨u,us,rfl,f.v v1,m⟩
theorem avM(c:Mem T W M0 X bl ρ w){p:cD}{y d:aF T.El}{v:Value}(h:IA pbs p bl y=(bl',d))(a:ao T (bi X bl ρ w) w ρ bl y v):∃ρ',Mem T W M0 X bl' ρ' w/\To X bl bl' ρ ρ' w w/\ao T (bi X bl' ρ' w) w ρ' bl' d v:=by
 have same:(bl,y)=(bl',d)-> ∃ρ',Mem T W M0 X bl' ρ' w/\To X bl bl' ρ ρ' w w/\ao T (bi X bl' ρ' w) w ρ' bl' d v:=λ h=>by
  simp only[b5]at h;obtain⟨rfl,rfl⟩:=h;exact⟨ρ,c,.refl,a⟩
 unfold IA at h;split at h
 ·exact aeY c h a
 ·rename_i ps
  split at h
  ·rename_i j
   cases b:p9 pbs ps bl (cellsOf y)with
   |mk bO ys=>
    rw[b]at h
    simp only[b5]at h
    obtain⟨rfl,rfl⟩:=h
    obtain⟨e,f,i,v1⟩:=Nf c b (oV a)
    refine⟨e,f,i,?_⟩
    rw[JO (E:=⟨default,T,[],true,[],0,λ _=>[]⟩) j a]
    simp only[ao]
    exact⟨_,rfl,v1⟩
  ·exact same h
 ·rename_i k ps
  split at h
  ·rename_i g cs
   cases b:p9 pbs ps bl cs with
   |mk bO ys=>
    rw[b]at h
    simp only[b5]at h
    obtain⟨rfl,rfl⟩:=h
    simp only[ao]at a
    obtain⟨vs,rfl,a⟩:=a
    obtain⟨e,f,i,v1⟩:=Nf c b a
    refine⟨e,f,i,?_⟩
    simp only[ao]
    exact⟨_,rfl,v1⟩
  ·exact same h
theorem aeX:∀ {ps:List cD}{ys b:List (aF T.El)}{bl bl':List (aC T.El)}{ρ:List Value}{vs:List Value},Mem T W M0 X bl ρ w->nO pbs ps bl ys=(bl',b)->a1 T (bi X bl ρ w) w ρ bl ys vs-> ∃ρ',Mem T W M0 X bl' ρ' w/\To X bl bl' ρ ρ' w w/\a1 T (bi X bl' ρ' w) w ρ' bl' b vs
 |[],ys,b,bl,bl',ρ,vs,c,h,a=>by
  simp only[nO,b5]at h;obtain⟨rfl,rfl⟩:=h;exact⟨ρ,c,.refl,a⟩
 |_::_,[],b,bl,bl',ρ,vs,c,h,a=>by
  simp only[nO,b5]at h;obtain⟨rfl,rfl⟩:=h;exact⟨ρ,c,.refl,a⟩
 |p::r,y::ys,b,bl,bl',ρ,vs,c,h,a=>by
  simp only[a1]at a;obtain⟨u,us,rfl,g,i⟩:=a;simp only[nO]at h;cases d:IA pbs p bl y with
  |mk bO cE=>
   rw[d]at h
   cases J:nO pbs r bO ys with
   |mk n o=>
    rw[J]at h
    simp only[b5]at h
    obtain⟨rfl,rfl⟩:=h
    obtain⟨q,j,e,v1⟩:=avM c d g
    obtain⟨k,l,f,m⟩:=aeX j J (e.vs i)
    refine⟨k,l,e.trans f,?_⟩
    simp only[a1]
    exact⟨u,us,rfl,f.v v1,m⟩
theorem Mem.aF9(e:Mem T W M0 X bl ρ w){i g ty:Nat}{cs a:List (aF T.El)}{vs:List Value}(hi:bl[i]? =some (.c ty cs))(c:ρ[i]? =some (.pointer (some ⟨g,0,none⟩)))(hc:w.heap[g]? =some (.cells ⟨vs⟩ ty (0,0)))(h:a1 T (bi X bl ρ w) w ρ bl a vs):Mem T W M0 X (bl.set i (.c ty a)) ρ w/\To X bl (bl.set i (.c ty a)) ρ ρ w w:=by
 have b:=e.D9 (B':=aC.c ty a) (h':=.pointer (some ⟨g,0,none⟩)) (w':=w) hi c (bj.refl _ _) (λ q d=>.inl d) ⟨λ _=>rfl,cu _,λ _=>⟨rfl,rfl,cu _,λ _=>rfl⟩⟩;have f:=e.gl (B':=aC.c ty a) (h':=.pointer (some ⟨g,0,none⟩)) (w':=w) hi c (bj.refl _ _) (λ q d=>.inl d) b ⟨g,vs,rfl,hc,b.vs h⟩;rw[G6 c]at f b;exact⟨f,b⟩
theorem IB:∀ {ps:List bF}{aV:List (Nat×Nat)}{k:Nat}{bl:List (aC T.El)}{ρ:List Value},Mem T W M0 X bl ρ w-> ∃ρ',Mem T W M0 X (wc pbs aV k ps bl) ρ' w/\To X bl (wc pbs aV k ps bl) ρ ρ' w w
 |[],aV,k,bl,ρ,a=>⟨ρ,a,.refl⟩
 | .r _ _::r,aV,k,bl,ρ,a=>by simp only[wc];exact IB a
 | .m _ _::r,aV,k,bl,ρ,a=>by simp only[wc];exact IB a
 | .d::r,aV,k,bl,ρ,a=>by simp only[wc];exact IB a
 | .c ty ps::r,aV,k,bl,ρ,a=>by
   simp only[wc];split
   ·rename_i i hi
    split
    ·rename_i t0 cs b
     rw[cW]at b
     cases n:p9 pbs ps bl cs with
     |mk bO t=>
      simp only
      split
      ·rename_i v x c
       rw[cW]at c
       obtain⟨u,h⟩:=a.r_ b
       obtain⟨g,vs,rfl,hc,o⟩:=a.ok i _ u b h
       obtain⟨p,j,d,v1⟩:=Nf a n o
       obtain⟨y,e,q,_⟩:=d.L.at_ i _ h
       rw[q (by simp[kJ])]at e
       obtain⟨g',z,e1,e2,_⟩:=j.ok i _ _ c e
       simp only[Value.pointer.injEq,aD,Addr.mk.injEq,and_true]at e1
       subst e1
       rw[hc]at e2
       simp only[aD,Obj.cells.injEq,Array.mk.injEq,and_true]at e2
       obtain⟨rfl,rfl⟩:=e2
       obtain⟨l,m⟩:=j.aF9 c e hc v1
       split
       ·obtain⟨f,s,t3⟩:=IB l (ps:=r)
        exact⟨f,s,(d.trans m).trans t3⟩
       ·exact⟨p,l,d.trans m⟩
      ·exact⟨ρ,a,.refl⟩
    ·exact⟨ρ,a,.refl⟩
   ·exact⟨ρ,a,.refl⟩
theorem wg(f:Mem T W M0 X bl ρ w){aV:List (Nat×Nat)}{pas:List cD}{ys a:List (aF T.El)}{vs:List Value}(h:gx aV pas pbs bl ys=(bl',a))(g:a1 T (bi X bl ρ w) w ρ bl ys vs):∃ρ',Mem T W M0 X bl' ρ' w/\To X bl bl' ρ ρ' w w/\a1 T (bi X bl' ρ' w) w ρ' bl' a vs:=by
 unfold gx at h;cases b:nO pbs pas bl ys with
 |mk bO cE=>
  rw[b]at h
  obtain⟨i,c,d,v1⟩:=aeX f b g
  simp only at h
  split at h
  ·simp only[b5]at h
   obtain⟨rfl,rfl⟩:=h
   obtain⟨j,k,e⟩:=IB c (pbs:=pbs) (ps:=pbs)
   exact⟨j,k,d.trans e,e.vs v1⟩
  ·simp only[b5]at h
   obtain⟨rfl,rfl⟩:=h
   exact⟨i,c,d,v1⟩
end
end a8
namespace a8
open Go Go.RowKit aq I
structure ed (T:bN) where
 pas:List cD
 pbs:List bF
 eo:List cD
 c9:List bF
 fn:dd T.El pas×cx T.El pbs->Option (dd T.El eo×cx T.El c9)
def ed.run(E:Env)(c:ed E.T)(ys:List (aF E.T.El))(bl:List (aC E.T.El)):D (fj E.T.El):=match gx [] c.pas c.pbs bl ys with
 |(bO,cE)=>match jV c.pbs c.c9,im bO [] false c.pas c.pbs cE with
  |true,some (d,sel)=>.op (c.fn d) λ r=>.ok ⟨.ret (qD (f_ (iL sel bO.length) (fm bO sel c.c9) c.eo r.1)),gf bO sel c.c9 r.2,sel⟩
  |_,_=>.no
def ed.fin{T:bN}(c:ed T)(r:fj T.El):Option (dd T.El c.eo×cx T.El c.c9):=match r.e with
 | .ret y=>match gx (n5 c.pbs.length) c.eo c.c9 r.bl (xT c.eo.length y)with
   |(bO,cE)=>match im bO (n5 c.pbs.length) true c.eo c.c9 cE with
    |some (d,_)=>some d
    |none=>none
 | .Ap _=>none
def ed.Eq(E:Env)(br:fc E)(LE:k0 E)(f:Nat)(c:ed E.T):Prop:=∀(da:dd E.T.El c.pas)(db:cx E.T.El c.pbs),(nQ E br LE f (f_ id (b6 false c.pbs) c.pas da) (bJ id (b6 false c.pbs) false c.pbs db)).run c.fin=c.fn (da,db)
section
variable{T:bN}{F:Nat->Prop}{w:World}{ρ:List Value}{bl:List (aC T.El)}
theorem UW:∀ {ps:List cD}{ys:List (aF T.El)}{aV a:List (Nat×Nat)}{d:dd T.El ps},lO bl aV ps ys=some (d,a)->ys.length=ps.length
 |[],[],aV,a,d,h=>rfl
 |p::r,y::ys,aV,a,d,h=>by
  simp only[lO]at h;split at h
  ·split at h
   ·rename_i J
    simp[UW J]
   ·cases h
  ·cases h
 |[],y::ys,aV,a,d,h=>by simp[lO]at h
 |p::r,[],aV,a,d,h=>by simp[lO]at h
theorem aiP:∀ {vs:List Value},vs.length≠1 ->pack vs= .tuple ⟨vs⟩
 |[],_=>rfl
 |[v],h=>by simp at h
 |v::u::r,_=>rfl
theorem akS{n:Nat}{y:aF T.El}{v:Value}(a:(xT n y).length=n)(h:ao T F w ρ bl y v):∃vs,a1 T F w ρ bl (xT n y) vs/\pack vs=v:=by
 unfold xT at a⊢;split at a
 ·refine⟨[v],?_,rfl⟩
  simp only[a1]
  exact⟨v,[],rfl,h,rfl⟩
 ·rename_i af
  have b:n≠1:=λ e=>by subst e;simp at af
  split at a
  ·simp only[ao]at h
   obtain⟨vs,rfl,J⟩:=h
   exact⟨vs,J,aiP (by rw[J.len,a];exact b)⟩
  ·simp only[ao]at h
   subst h
   rename_i vs
   exact⟨vs,PZ (E:=⟨default,T,[],true,[],0,λ _=>[]⟩) vs,aiP (by simpa using(by simpa using a:vs.length=n)▸b)⟩
  ·simp at a
   exact absurd a.symm b
end
section
variable{E:Env}{br:fc E}{LE:k0 E}{f:Nat}
theorem aeW{pbs:List bF}:∀ {ps:List cD}{ys a:List (aF E.T.El)}{bl bl':List (aC E.T.El)},nO pbs ps bl ys=(bl',a)->a.length=ys.length
 |[],ys,a,bl,bl',h=>by simp only[nO,b5]at h;rw[h.2]
 |_::_,[],a,bl,bl',h=>by simp only[nO,b5]at h;rw[<-h.2]
 |p::r,y::ys,a,bl,bl',h=>by
  simp only[nO]at h;cases b:IA pbs p bl y with
  |mk bO cE=>
   rw[b]at h
   cases J:nO pbs r bO ys with
   |mk c d=>
    rw[J]at h
    simp only[b5]at h
    rw[<-h.2,cV,aeW J,cV]
theorem aeZ{aV:List (Nat×Nat)}{pas:List cD}{pbs:List bF}{ys a:List (aF E.T.El)}{bl bl':List (aC E.T.El)}(h:gx aV pas pbs bl ys=(bl',a)):a.length=ys.length:=by
 unfold gx at h;cases b:nO pbs pas bl ys with
 |mk bO cE=>
  rw[b]at h
  simp only at h
  split at h<;>(simp only[b5]at h;rw[<-h.2];exact aeW b)
def ed.Sa(E:Env)(br:fc E)(LE:k0 E)(f:Nat)(c:ed E.T):Prop:=∀(da:dd E.T.El c.pas)(db:cx E.T.El c.pbs)(F:Nat->Prop)(w:World)(ρ:List Value)(bl:List (aC E.T.El))(vs:List Value),a1 E.T F w ρ bl (f_ id (b6 false c.pbs) c.pas da) vs ->
 ∃ys,a1 E.T F w ρ bl ys vs/\ ∀r,c.fn (da,db)=some r->(nQ E br LE f ys (bJ id (b6 false c.pbs) false c.pbs db)).run c.fin=some r
theorem ed.Eq.v{c:ed E.T}(h:c.Eq E br LE f):c.Sa E br LE f:=λ da db _ _ _ _ _ a=>⟨_,a,λ _ b=>(h da db).trans b⟩
def ed.nC(E:Env)(br:fc E)(LE:k0 E)(f:Nat)(c:ed E.T):Prop:=∀(da:dd E.T.El c.pas)(db:cx E.T.El c.pbs) r,c.fn (da,db)=some r->(nQ E br LE f (f_ id (b6 false c.pbs) c.pas da) (bJ id (b6 false c.pbs) false c.pbs db)).run c.fin=some r
theorem ed.nC.v{c:ed E.T}(h:c.nC E br LE f):c.Sa E br LE f:=λ da db _ _ _ _ _ a=>⟨_,a,λ r b=>h da db r b⟩
def ed.Bx(E:Env)(f:Nat)(c:ed E.T):Prop:=∀(da:dd E.T.El c.pas)(db:cx E.T.El c.pbs) eM,c.fn (da,db)=some eM-> ∀(W:World)(M0:List Nat)(X:Nat->Prop)(ρ:List Value)(w:World)(vs:List Value),Mem E.T W M0 X (bJ id (b6 false c.pbs) false c.pbs db) ρ w->a1 E.T (bi X (bJ id (b6 false c.pbs) false c.pbs db) ρ w) w ρ (bJ id (b6 false c.pbs) false c.pbs db) (f_ id (b6 false c.pbs) c.pas da) vs ->
 ∃a,c.fin a=some eM/\Calls E.P f ⟨vs⟩ w λ e w'=>∃ρ',Mem E.T W M0 X a.bl ρ' w'/\To X (bJ id (b6 false c.pbs) false c.pbs db) a.bl ρ ρ' w w'/\gW (bJ id (b6 false c.pbs) false c.pbs db) ρ w w' a.ws/\Cl E X a.bl ρ' w' a.e e
theorem MR{c:ed E.T}(H:c.Bx E f):j6 E f (c.run E):=by
 intro ys I r b W M0 X ρ0 w vs K _ L;unfold ed.run at b;cases z:gx [] c.pas c.pbs I ys with
 |mk bl cE=>
 rw[z]at b;obtain⟨ρ,o,iw,M⟩:=wg K z L;simp only at b;split at b
 ·rename_i d sel q A
  obtain⟨da,db⟩:=d
  obtain⟨eM,N,J⟩:=b
  obtain⟨C,D⟩:=eM
  have J:(⟨.ret (qD (f_ (iL sel bl.length) (fm bl sel c.c9) c.eo C)),gf bl sel c.c9 D,sel⟩:fj E.T.El)=r:=J
  subst J
  obtain⟨aj,_,O⟩:=tF o tq A
  obtain⟨P,g⟩:=CJ tq A
  obtain⟨Q,R⟩:=O (bi (jF X bl ρ sel) (bJ id (b6 false c.pbs) false c.pbs db) (gH ρ sel) w) λ k g=>aj.GZ g
  have S:=aj.enter o R
  obtain⟨s,a,hc⟩:=H da db _ N _ _ _ _ _ vs S (Q vs M)
  refine hc.mono λ e w' T=>?_
  obtain⟨t,U,V,kR,l⟩:=T
  unfold ed.fin at a
  cases F:s.e with
  |Ap y=>rw[F]at a;cases a
  |ret y=>
   rw[F]at a l
   simp only at a
   cases e with
   |returned v=>
    have l:ao E.T _ w' t s.bl y v:=l
    cases u:gx (n5 c.pbs.length) c.eo c.c9 s.bl (xT c.eo.length y)with
    |mk Ik lG=>
    rw[u]at a
    simp only at a
    split at a
    ·rename_i y8 Y m
     have a:=dT a
     subst a
     have n:(xT c.eo.length y).length=c.eo.length:=by
      rw[<-aeZ u];unfold im at m;split at m
      ·rename_i Z
       exact UW Z
      ·cases m
     obtain⟨us,u1,u2⟩:=akS n l
     obtain⟨Bu,gN,ZR,u1⟩:=wg U u u1
     have K_:=V.trans ZR
     obtain⟨x,rZ,Jw⟩:=tF gN Dd m
     obtain⟨zm,Jh⟩:=CJ Dd m
     obtain⟨C',rQ⟩:=Jw (bi (jF X bl ρ sel) (bJ id (b6 true c.c9) true c.c9 D) (gH Bu Y) w') λ k g=>x.KH g
     have VL:=x.leave gN rQ
     have V1:=WX (by rw[aj.len,mX]) K_ x (λ j aA=>rZ (j,j) (Df.2 ⟨aA,rfl⟩)) zm q λ j i p h h'=>by
      obtain⟨B,e1,e2,e3⟩:=Jh j i p h h';exact⟨B,e1,e2,e3⟩
     obtain⟨bO,dU,gd,gw⟩:=back (gq:=b6 true c.c9) o aj P (λ j i B p h h' G=>by
      obtain⟨B',e1,e2,_⟩:=g j i p h G;rw[h']at e1;cases e1;exact Ot q G e2) q (λ i hi=>by
       obtain⟨j,aA,rfl⟩:=iv.1 hi;obtain⟨B,e1,_⟩:=g j _ _ (aH aA) (aH (by omega:j<c.pbs.length));exact(aM.1 e1).1) (λ j=>rfl) VL V1
     refine⟨_,bO,iw.trans dU,?_,?_⟩
     ·have:=gW.nil.bD iw gd
      rwa [gL]at this
     ·show ao E.T _ w' _ _ (qD _) v
      rw[<-u2]
      exact XQ (gw c.eo C us (C' us u1))
    ·cases a
   |panicked y5=>exact l.elim
   |outgrown=>exact l.elim
 ·exact b.elim
theorem Fw(aZ:cX E)(b:kZ E br)(d:vF E LE)(e:E.cM=[]){c:ed E.T}(h:c.Sa E br LE f):j6 E f (c.run E):=MR λ da db eM i W M0 X ρ w vs j k=>by
 obtain⟨l,m,heq⟩:=h da db _ _ _ _ _ k;obtain⟨n,o,p⟩:=D.sC (heq _ i);have q:∀ {r bl' ρ' w'},HS E r bl' ρ' w':=λ{_ _ _ _} g y a=>by rw[e]at a;simp[cv]at a
 exact⟨n,p,((Nh aZ b d).ok _ _ _ _ o).2 _ _ _ _ _ vs j q m⟩
theorem SZ(aZ:cX E)(a:kZ E br)(b:vF E LE)(d:E.cM=[]){c:ed E.T}(e:c.Eq E br LE f):j6 E f (c.run E):=Fw aZ a b d e.v
end
end a8
namespace a8
open Go Go.RowKit aq I
structure mz where
 eo:List cD
 c9:List bF
@[reducible] def EW(El:Nat->Type)(w:mz):Type:=dd El w.eo×cx El w.c9
@[reducible] def yw(El:Nat->Type):List mz->Type
  |[]=>Empty
  |[w]=>EW El w
  |w::v::r=>EW El w⊕yw El (v::r)
structure kv (T:bN) where
 pas:List cD
 pbs:List bF
 ws:List mz
 fn:dd T.El pas×cx T.El pbs->Option (yw T.El ws)
def KL(E:Env)(bl:List (aC E.T.El))(sel:List Nat)(w:mz)(r:EW E.T.El w):D (fj E.T.El):=.ok ⟨.ret (qD (f_ (iL sel bl.length) (fm bl sel w.c9) w.eo r.1)),gf bl sel w.c9 r.2,sel⟩
def G1(E:Env)(bl:List (aC E.T.El))(sel:List Nat):(ws:List mz)->Option (yw E.T.El ws)->D (fj E.T.El)
 |[],_=>.no
 |[w],o=>.op o λ d=>KL E bl sel w d
 |w::v::r,o=>.uM o (λ d=>KL E bl sel w d) (λ q=>G1 E bl sel (v::r) (some q))
def Kl(pbs:List bF):List mz->Bool
 |[]=>true
 |w::r=>jV pbs w.c9&&Kl pbs r
def kv.run(E:Env)(c:kv E.T)(ys:List (aF E.T.El))(bl:List (aC E.T.El)):D (fj E.T.El):=match gx [] c.pas c.pbs bl ys with
 |(bO,cE)=>match Kl c.pbs c.ws,im bO [] false c.pas c.pbs cE with
  |true,some (d,sel)=>G1 E bO sel c.ws (c.fn d)
  |_,_=>.no
def PT{El:Nat->Type}(gE:Nat)(y:aF El)(bl:List (aC El))(w:mz):Option (EW El w):=match gx (n5 gE) w.eo w.c9 bl (xT w.eo.length y)with
 |(bO,cE)=>match im bO (n5 gE) true w.eo w.c9 cE with
  |some (d,_)=>some d
  |none=>none
def P9{El:Nat->Type}(gE:Nat)(y:aF El)(bl:List (aC El)):(ws:List mz)->Option (yw El ws)
 |[]=>none
 |[w]=>PT gE y bl w
 |w::v::r=>match PT gE y bl w with
  |some d=>some (.inl d)
  |none=>match P9 gE y bl (v::r)with
   |some q=>some (.inr q)
   |none=>none
def kv.fin{T:bN}(c:kv T)(r:fj T.El):Option (yw T.El c.ws):=match r.e with
 | .ret y=>P9 c.pbs.length y r.bl c.ws
 | .Ap _=>none
def kv.Eq(E:Env)(br:fc E)(LE:k0 E)(f:Nat)(c:kv E.T):Prop:=∀(da:dd E.T.El c.pas)(db:cx E.T.El c.pbs),(nQ E br LE f (f_ id (b6 false c.pbs) c.pas da) (bJ id (b6 false c.pbs) false c.pbs db)).run c.fin=c.fn (da,db)
section
variable{E:Env}{br:fc E}{LE:k0 E}{f:Nat}
theorem aiC{pbs:List bF}:∀ {ws:List mz}{w:mz},Kl pbs ws=true->w∈ws->jV pbs w.c9=true
 |[],w,_,h=>by simp at h
 |v::r,w,h,hm=>by
  simp only[Kl,bC]at h;rcases cm.1 hm with rfl |hm
  ·exact h.1
  ·exact aiC h.2 hm
theorem aj8{gE:Nat}{y:aF E.T.El}{bl:List (aC E.T.El)}:∀ {ws:List mz}{r:yw E.T.El ws},P9 gE y bl ws=some r-> ∃(w:mz)(d:EW E.T.El w),w∈ws/\PT gE y bl w=some d/\ ∀bl' sel t,(G1 E bl' sel ws (some r)).out t->(KL E bl' sel w d).out t
 |[],r,h=>by cases h
 |[w],r,h=>⟨w,r,by simp,h,λ bl' sel t a=>by
  obtain⟨d,e1,e2⟩:=a;simp only[aD]at e1;subst e1;exact e2⟩
 |w::v::ws,r,h=>by
  simp only[P9]at h;split at h
  ·rename_i d aK
   simp only[aD]at h
   subst h
   refine⟨w,d,by simp,aK,λ bl' sel t a=>?_⟩
   rcases a with⟨d',e1,e2⟩|⟨d',e1,e2⟩
   ·simp only[aD,Sum.inl.injEq]at e1
    subst e1
    exact e2
   ·simp at e1
  ·split at h
   ·rename_i q b
    simp only[aD]at h
    subst h
    obtain⟨w',d,c,J,e⟩:=aj8 b
    refine⟨w',d,ez _ c,J,λ bl' sel t a=>?_⟩
    rcases a with⟨d',e1,e2⟩|⟨d',e1,e2⟩
    ·simp at e1
    ·simp only[aD,Sum.inr.injEq]at e1
     subst e1
     exact e bl' sel t e2
   ·cases h
theorem aF8{bl:List (aC E.T.El)}{sel:List Nat}:∀ {ws:List mz}{o:Option (yw E.T.El ws)}{t:fj E.T.El},(G1 E bl sel ws o).out t-> ∃r,o=some r/\(G1 E bl sel ws (some r)).out t
 |[],o,t,h=>h.elim
 |[w],o,t,h=>by
  obtain⟨d,e1,e2⟩:=h;exact⟨d,e1,d,rfl,e2⟩
 |w::v::r,o,t,h=>by
  rcases h with⟨d,e1,e2⟩|⟨d,e1,e2⟩
  ·exact⟨_,e1,.inl ⟨d,rfl,e2⟩⟩
  ·exact⟨_,e1,.inr ⟨d,rfl,e2⟩⟩
def kv.nC(E:Env)(br:fc E)(LE:k0 E)(f:Nat)(c:kv E.T):Prop:=∀(da:dd E.T.El c.pas)(db:cx E.T.El c.pbs) r,c.fn (da,db)=some r->(nQ E br LE f (f_ id (b6 false c.pbs) c.pas da) (bJ id (b6 false c.pbs) false c.pbs db)).run c.fin=some r
theorem kv.Eq.one{c:kv E.T}(h:c.Eq E br LE f):c.nC E br LE f:=λ da db _ a=>(h da db).trans a
theorem ads(aZ:cX E)(P:kZ E br)(Q:vF E LE)(R:E.cM=[]){c:kv E.T}(S:c.nC E br LE f):j6 E f (c.run E):=by
 intro ys T r b W M0 X ρ0 w vs U _ V;unfold kv.run at b;cases H:gx [] c.pas c.pbs T ys with
 |mk bl cE=>
 rw[H]at b;obtain⟨ρ,s,iw,Y⟩:=wg U H V;simp only at b;split at b
 ·rename_i d sel t I
  obtain⟨da,db⟩:=d
  obtain⟨eM,Z,J⟩:=aF8 b
  obtain⟨aj,_,lg⟩:=tF s tq I
  obtain⟨mJ,l⟩:=CJ tq I
  obtain⟨fT,bK⟩:=lg (bi (jF X bl ρ sel) (bJ id (b6 false c.pbs) false c.pbs db) (gH ρ sel) w) λ k l=>aj.GZ l
  have iF:=aj.enter s bK
  have wU:=fT vs Y
  obtain⟨u,gO,a⟩:=D.sC (S da db _ Z)
  have qg:∀ {k2 bl' ρ' w'},HS E k2 bl' ρ' w':=λ{_ _ _ _} g y K=>by rw[R]at K;simp[cv]at K
  have hc:=((Nh aZ P Q).ok _ _ _ _ gO).2 _ _ _ _ _ vs iF qg wU
  unfold kv.fin at a
  cases x:u.e with
  |Ap y=>rw[x]at a;cases a
  |ret y=>
   rw[x]at a
   simp only at a
   obtain⟨iY,L,hw,m,z⟩:=aj8 a
   have A:=aiC t hw
   have J:=z _ _ _ J
   obtain⟨M,N⟩:=L
   have J:(⟨.ret (qD (f_ (iL sel bl.length) (fm bl sel iY.c9) iY.eo M)),gf bl sel iY.c9 N,sel⟩:fj E.T.El)=r:=J
   subst J
   refine hc.mono λ e w' aw=>?_
   obtain⟨C,W6,ZQ,kR,n⟩:=aw
   rw[x]at n
   cases e with
   |returned v=>
    have n:ao E.T _ w' C u.bl y v:=n
    unfold PT at m
    cases F:gx (n5 c.pbs.length) iY.eo iY.c9 u.bl (xT iY.eo.length y)with
    |mk Ik lG=>
    rw[F]at m
    simp only at m
    split at m
    ·rename_i L ZB o
     have a:=dT m
     subst a
     have q:(xT iY.eo.length y).length=iY.eo.length:=by
      rw[<-aeZ F];unfold im at o;split at o
      ·rename_i Vo
       exact UW Vo
      ·cases o
     obtain⟨us,u1,u2⟩:=akS q n
     obtain⟨Bu,gN,ZR,u1⟩:=wg W6 F u1
     have K_:=ZQ.trans ZR
     obtain⟨G,rZ,Jw⟩:=tF gN Dd o
     obtain⟨zm,Jh⟩:=CJ Dd o
     obtain⟨C',rQ⟩:=Jw (bi (jF X bl ρ sel) (bJ id (b6 true iY.c9) true iY.c9 N) (gH Bu ZB) w') λ k l=>G.KH l
     have VL:=G.leave gN rQ
     have V1:=WX (by rw[aj.len,mX]) K_ G (λ j aA=>rZ (j,j) (Df.2 ⟨aA,rfl⟩)) zm A λ j i p h h'=>by
      obtain⟨B,e1,e2,e3⟩:=Jh j i p h h';exact⟨B,e1,e2,e3⟩
     obtain⟨bO,dU,gd,gw⟩:=back (gq:=b6 true iY.c9) s aj mJ (λ j i B p h h' O=>by
      obtain⟨B',e1,e2,_⟩:=l j i p h O;rw[h']at e1;cases e1;exact Ot A O e2) A (λ i hi=>by
       obtain⟨j,aA,rfl⟩:=iv.1 hi;obtain⟨B,e1,_⟩:=l j _ _ (aH aA) (aH (by omega:j<c.pbs.length));exact(aM.1 e1).1) (λ j=>rfl) VL V1
     refine⟨_,bO,iw.trans dU,?_,?_⟩
     ·have:=gW.nil.bD iw gd
      rwa [gL]at this
     ·show ao E.T _ w' _ _ (qD _) v
      rw[<-u2]
      exact XQ (gw iY.eo M us (C' us u1))
    ·cases m
   |panicked y5=>exact n.elim
   |outgrown=>exact n.elim
 ·exact b.elim
end
end a8
namespace a8
open Go Go.RowKit aq I
def vz{α:Type}:List Nat->List α->List (Nat×α)
 |s::r,y::ys=>(s,y)::vz r ys
 |_,_=>[]
def st:List bF->List bF->Bool
 | .r _ s::r,.r _ s'::a=>(s|| !s')&&st r a
 |_::r,_::a=>st r a
 |_,_=>true
def GY(E:Env)(gE:Nat)(bl:List (aC E.T.El))(f:cq E.T.El)(ss:List Nat)(pas:List cD)(pbs:List bF):Option (dd E.T.El pas×cx E.T.El pbs):=match pj E bl f [] (ss.map .tmp)with
 |some ys=>match gx (n5 gE) pas pbs bl ys with
  |(bO,cE)=>match im bO (n5 gE) true pas pbs cE with
   |some (d,_)=>some d
   |none=>none
 |none=>none
section
variable{T:bN}{F:Nat->Prop}{w w':World}{ρ:List Value}{bl:List (aC T.El)}
theorem awf{aV:List (Nat×Nat)}{p:bF}{B:aC T.El}{r:s5 T.El p×List (Nat×Nat)}(h:iE bl aV true p B=some r):iE bl aV false p B=some r:=by
 cases p with
 |c ty ps=>exact h
 |m kt vt=>exact h
 |d=>exact h
 |r t same=>
  simp only[iE]at h⊢
  split at h
  ·split at h
   ·simpa using h
   ·cases h
  ·cases h
theorem afq:∀ {ps:List bF}{aV:List (Nat×Nat)}{k:Nat}{r:cx T.El ps×List (Nat×Nat)},nV bl true aV k ps=some r->nV bl false aV k ps=some r
 |[],aV,k,r,h=>h
 |p::ps,aV,k,r,h=>by
  simp only[nV]at h⊢;split at h
  ·split at h
   ·split at h
    ·rename_i d b a
     rw[awf a]
     simp only
     split at h
     ·rename_i c e J
      rw[afq J]
      exact h
     ·cases h
    ·cases h
   ·cases h
  ·cases h
theorem awi{aV:List (Nat×Nat)}{pas:List cD}{pbs:List bF}{ys:List (aF T.El)}{r:(dd T.El pas×cx T.El pbs)×List Nat}(h:im bl aV true pas pbs ys=some r):im bl aV false pas pbs ys=some r:=by
 unfold im at h⊢;split at h
 ·split at h
  ·rename_i J
   rw[afq J]
   exact h
  ·cases h
 ·cases h
theorem RM{t:Nat}{y:aF T.El}{a:Act}:∀ {ss:List Nat}{ys:List (aF T.El)},a1 T F w ρ bl ys ((ss.map Operand.tmp).map a.eval)->cv (vz ss ys) t=some y->ao T F w ρ bl y (a.tmps.getD t undef)
 |[],ys,_,h=>by simp[vz,cv]at h
 |s::r,[],_,h=>by simp[vz,cv]at h
 |s::r,z::ys,b,h=>by
  simp only[eu,a1]at b;obtain⟨u,us,e,c,J⟩:=b;simp only[hh]at e;obtain⟨rfl,rfl⟩:=e;simp only[vz,cv]at h;split at h
  ·rename_i af
   simp only[aD]at h
   subst h
   rw[<-a_ af]
   exact c
  ·exact RM J h
theorem PF{σ g σ' g':Nat->Nat}{post post':Bool}:∀ {ps:List bF}{d:cx T.El ps}{j:Nat}{B:aC T.El},(bJ σ g post ps d)[j]? =some B-> ∃B',(bJ σ' g' post' ps d)[j]? =some B'/\ ∀u,bz B' u=bz B u
 |[],d,j,B,h=>by simp[bJ]at h
 |p::r,d,0,B,h=>by
  simp only[bJ,de,aD]at h;subst h;refine⟨dr σ' g' post' p d.1,rfl,λ u=>?_⟩;cases p<;>rfl
 |p::r,d,j+1,B,h=>by
  obtain⟨B',a,J⟩:=PF (σ':=σ') (g':=g') (post':=post') (ps:=r) (d:=d.2) (j:=j) (by simpa[bJ]using h);exact⟨B',by simpa[bJ]using a,J⟩
theorem ajM{X:Nat->Prop}{σ g σ' g':Nat->Nat}{post post':Bool}{ps:List bF}{d:cx T.El ps}{k:Nat}(h:bi X (bJ σ g post ps d) ρ w k):bi X (bJ σ' g' post' ps d) ρ w k:=⟨h.1,λ⟨j,B,u,a,J,b⟩=>by
 obtain⟨B',e1,e2⟩:=PF (σ':=σ) (g':=g) (post':=post) a;exact h.2.1 ⟨j,B',u,e1,J,by rw[e2];exact b⟩,h.2.2⟩
theorem aiD:∀ {ps qs:List bF}{j:Nat}{p q:bF},st ps qs=true->ps[j]? =some p->qs[j]? =some q->zG p q=true->eV true (some q)=0 ->eV true (some p)=0
 |[],_,j,p,q,_,h,_,_,_=>by simp at h
 |a::r,[],j,p,q,_,_,h,_,_=>by simp at h
 |a::r,b::s,0,p,q,c,h,h',e,d=>by
  simp only[de,aD]at h h';subst h;subst h';cases a<;>cases b<;>simp only[zG,hv]at e<;>try first |rfl |(simp[eV]at d;done)
  simp only[st,bC,hM,ga]at c;rename_i i f k g;cases f<;>cases g<;>simp[eV]at c d⊢
 |a::r,b::s,j+1,p,q,c,h,h',e,d=>by
  refine aiD (ps:=r) (qs:=s) (j:=j) ?_ (by simpa using h) (by simpa using h') e d;cases a<;>cases b<;>simp only[st,bC]at c<;>first |exact c.2 |exact c
variable{X:Nat->Prop}{pre cg:List bF}{d0 d1:cx T.El pre}{d2:cx T.El cg}{ρ0 ep lI:List Value}{w0 dA cO:World}
theorem Kv{σ g:Nat->Nat}{post:Bool}:∀ {ps:List bF}{d:cx T.El ps}{j:Nat},j<ps.length-> ∃p a,ps[j]? =some p/\ ∀σ' g' post',(bJ σ' g' post' ps d)[j]? =some (dr σ' g' post' p a)
 |[],d,j,h=>by simp at h
 |p::r,d,0,h=>⟨p,d.1,rfl,λ _ _ _=>rfl⟩
 |p::r,d,j+1,h=>by
  obtain⟨q,a,b,J⟩:=Kv (σ:=σ) (g:=g) (post:=post) (ps:=r) (d:=d.2) (j:=j) (by simpa using h);exact⟨q,a,by simpa using b,λ σ' g' post'=>by simpa[bJ]using J σ' g' post'⟩
theorem aG3:To X (bJ id (b6 false pre) false pre d0) (bJ id (b6 true pre) true pre d0) ρ0 ρ0 w w:=by
 refine⟨λ k a=>⟨ajM a,rfl⟩,⟨λ i h hi=>⟨h,hi,λ _=>rfl,?_⟩⟩,cu _,λ i B' h' hi b k a _=>?_⟩
 ·rcases fN i pre.length with ai |ai
  ·obtain⟨p,f,e1,e2⟩:=Kv (σ:=id) (g:=id) (post:=true) (d:=d0) ai
   rw[e2,e2]
   cases p with
   |c ty ps=>exact⟨cu _,λ _=>⟨rfl,rfl,cu _,λ _=>rfl⟩⟩
   |r t s=>exact⟨by simp[dr,bW,eV],λ _=>⟨rfl,rfl,by simp[dr,gQ,AU],λ e=>by simp[dr,gQ,AU]at e⟩⟩
   |m kt vt=>exact⟨cu _,λ _=>⟨rfl,rfl,cu _,λ _=>rfl⟩⟩
   |d=>exact⟨by simp[dr,bW,eV],λ e=>by simp[dr,bW,eV]at e⟩
  ·rw[gz (by rw[mX];exact ai),gz (by rw[mX];exact ai)]
   exact⟨cu _,λ _=>⟨rfl,rfl,cu _,λ _=>rfl⟩⟩
 ·obtain⟨B,e1,e2⟩:=PF (σ':=id) (g':=b6 false pre) (post':=false) hi
  exact⟨B,h',e1,b,by rw[e2];exact a⟩
theorem akH(l:jV pre cg=true)(v:st pre cg=true)(G:ρ0.length=pre.length)(h:To X (bJ id (b6 false pre) false pre d0) (bJ id (b6 true pre) true pre d1) ρ0 ep w0 dA)(k:To X (bJ id (b6 false pre) false pre d1) (bJ id (b6 true cg) true cg d2) ep lI dA cO) :
 To X (bJ id (b6 false pre) false pre d0) (bJ id (b6 true cg) true cg d2) ρ0 lI w0 cO:=by
 have x:=KR l
 refine⟨λ q f=>?_,⟨λ i u hi=>?_⟩,gm h.sz k.sz,λ i B' h' hi y q f m=>?_⟩
 ·obtain⟨e1,e2⟩:=h.F q f
  obtain⟨e3,e4⟩:=k.F q (ajM e1)
  exact⟨e3,e4.trans e2⟩
 ·have n:i<pre.length:=by have:=(aM.1 hi).1;omega
  obtain⟨p,H,e1,e2⟩:=Kv (σ:=id) (g:=id) (post:=true) (d:=d0) n
  obtain⟨I,J,a,b⟩:=Kv (σ:=id) (g:=id) (post:=true) (d:=d1) n
  obtain⟨q,z,o,r⟩:=Kv (σ:=id) (g:=id) (post:=true) (d:=d2) (show i<cg.length by omega)
  rw[e1]at a
  cases a
  have j:=KQ l e1 o
  have A:=aiD v e1 o j
  obtain⟨u1,C,D,a3,a4⟩:=h.L.at_ i u hi
  obtain⟨u2,bO,E,gd,c⟩:=k.L.at_ i u1 C
  rw[e2,b]at a4
  rw[b,r]at c
  refine⟨u2,bO,λ aj=>?_,?_⟩
  ·have e:=D aj
   rw[E (by rw[e];exact aj),e]
  ·rw[e2,r]
   cases p<;>cases q<;>simp only[zG,hv]at j
   ·exact⟨cu _,λ _=>⟨(c rfl).1.trans (a4 rfl).1,rfl,cu _,λ _=>rfl⟩⟩
   ·exact⟨gD _,λ e=>by simp[dr,bW,eV]at e⟩
   ·have:=a_ j
    subst this
    rename_i s t
    refine⟨by cases s<;>cases t<;>simp[dr,bW,eV],λ e=>⟨(c ?_).1.trans (a4 ?_).1,rfl,by simp[dr,gQ,AU],λ e=>by simp[dr,gQ,AU]at e⟩⟩<;>cases s<;>cases t<;>simp[dr,bW,eV]at e A⊢
   ·exact⟨by simp[dr,bW,eV],λ e=>by simp[dr,bW,eV]at e⟩
   ·exact⟨cu _,λ _=>⟨(c rfl).1.trans (a4 rfl).1,rfl,cu _,λ _=>rfl⟩⟩
   ·exact⟨gD _,λ e=>by simp[dr,bW,eV]at e⟩
 ·obtain⟨B,u,e1,e2,e3⟩:=k.nT i B' h' hi y q f (dQ m h.sz)
  obtain⟨Bv,a,b⟩:=PF (σ':=id) (g':=b6 true pre) (post':=true) e1
  exact h.nT i Bv u a e2 q (by rw[b];exact e3) m
end
section
variable{E:Env}{W w w':World}{M0:List Nat}{X:Nat->Prop}{n:ct}{f:cq E.T.El}{bl:List (aC E.T.El)}{ρ ny:List Value}{a:Act}{pre pbs:List bF}{pas:List cD}{dp:cx E.T.El pre}{da:dd E.T.El pas}{db:cx E.T.El pbs}{ss:List Nat}
def Told(E:Env)(W:World)(M0:List Nat)(X:Nat->Prop)(ss:List Nat)(pas:List cD)(pbs:List bF)(da:dd E.T.El pas)(db:cx E.T.El pbs)(ρ:List Value)(a:Act)(w:World)(post:Bool):Prop:=
 Mem E.T W M0 X (bJ id (b6 post pbs) post pbs db) ρ w/\a1 E.T (bi X (bJ id (b6 post pbs) post pbs db) ρ w) w ρ (bJ id (b6 post pbs) post pbs db) (f_ id (b6 post pbs) pas da) ((ss.map Operand.tmp).map a.eval)
theorem Zf(h:R E W M0 X n f bl ρ a w')(u:ny.length=pre.length)(v:jV pre pbs=true)(x:To X (bJ id (b6 false pre) false pre dp) bl ny ρ w w')(b:GY E pre.length bl f ss pas pbs=some (da,db)) :
 ∃s,(∀post,Told E W M0 X ss pas pbs da db s a w' post)/\To X (bJ id (b6 false pre) false pre dp) (bJ id (b6 true pbs) true pbs db) ny s w w':=by
 unfold GY at b
 split at b
 ·rename_i ys y
  have z:=Al h (cur:=[]) trivial y
  cases t:gx (n5 pre.length) pas pbs bl ys with
  |mk bO cE=>
  rw[t]at b
  simp only at b
  split at b
  ·rename_i d sel e
   simp only[aD]at b
   subst b
   obtain⟨g,c,A,v1⟩:=wg h.mem t z
   obtain⟨l,C,D⟩:=tF c Dd e
   obtain⟨C8,_,m⟩:=tF c Dd (awi e)
   obtain⟨F,G⟩:=CJ Dd e
   refine⟨gH g sel,λ post=>?_,WX u (x.trans A) l (λ j aA=>C (j,j) (Df.2 ⟨aA,rfl⟩)) F v λ j i p h h'=>?_⟩
   ·cases post with
    |true=>
     obtain⟨o,q⟩:=D (bi X (bJ id (b6 true pbs) true pbs db) (gH g sel) w') λ k r=>l.KH r
     exact⟨l.leave c q,o _ v1⟩
    |false=>
     obtain⟨o,q⟩:=m (bi X (bJ id (b6 false pbs) false pbs db) (gH g sel) w') λ k r=>C8.KH r
     exact⟨C8.leave c q,o _ v1⟩
   ·obtain⟨B,e1,e2,e3⟩:=G j i p h h'
    exact⟨B,e1,e2,e3⟩
  ·cases b
 ·cases b
end
end a8
namespace a8
open Go Go.RowKit aq I
inductive yU
 |nm
 |ex (id:Nat)
 |rt
structure j' where
 x:yU
 ss:List Nat
 eo:List cD
 c9:List bF
def Rs:yU->yU->Bool
 | .nm,.nm=>true
 | .ex i,.ex j=>bP i j
 | .rt,.rt=>true
 |_,_=>false
theorem anB{x y:yU}(h:Rs x y=true):x=y:=by
 cases x<;>cases y<;>simp only[Rs,hv]at h<;>try rfl
 rw[a_ h]
def HH{El:Nat->Type}:yU->Mp El
 | .nm=>.nm
 | .ex i=>.ex i
 | .rt=>.rt
@[reducible] def yx(El:Nat->Type)(w:j'):Type:=dd El w.eo×cx El w.c9
@[reducible] def yy(El:Nat->Type):List j'->Type
  |[]=>Empty
  |[w]=>yx El w
  |w::v::r=>yx El w⊕yy El (v::r)
structure fu (T:bN) where
 ss:List Nat
 pas:List cD
 pbs:List bF
 ws:List j'
 fn:Nat->dd T.El pas×cx T.El pbs->Option (yy T.El ws)
def Ef(E:Env)(gE:Nat)(x:yU)(bl:List (aC E.T.El))(f:cq E.T.El):(ws:List j')->Option (yy E.T.El ws)
 |[]=>none
 |[w]=>match Rs w.x x with
  |true=>GY E gE bl f w.ss w.eo w.c9
  |false=>none
 |w::v::r=>match(match Rs w.x x with
   |true=>GY E gE bl f w.ss w.eo w.c9
   |false=>none)with
  |some d=>some (.inl d)
  |none=>match Ef E gE x bl f (v::r)with
   |some q=>some (.inr q)
   |none=>none
def PH(E:Env)(bl:List (aC E.T.El))(sel ws:List Nat)(w:j')(d:yx E.T.El w):D (b2 E.T.El):=.ok ⟨HH w.x,⟨⟨vz w.ss (f_ (iL sel bl.length) (fm bl sel w.c9) w.eo d.1),[],[]⟩,gf bl sel w.c9 d.2,sel++ws⟩⟩
def GR(E:Env)(bl:List (aC E.T.El))(sel us:List Nat):(ws:List j')->Option (yy E.T.El ws)->D (b2 E.T.El)
 |[],_=>.no
 |[w],o=>.op o λ d=>PH E bl sel us w d
 |w::v::r,o=>.uM o (λ d=>PH E bl sel us w d) (λ q=>GR E bl sel us (v::r) (some q))
def GD(pbs:List bF):List j'->Bool
 |[]=>true
 |w::r=>jV pbs w.c9&&st pbs w.c9&&GD pbs r
def fu.run(E:Env)(F:Nat)(c:fu E.T)(s:eB E.T.El):D (b2 E.T.El):=match pj E s.bl s.f [] (c.ss.map .tmp)with
 |some ys=>match gx [] c.pas c.pbs s.bl ys with
  |(bO,cE)=>match GD c.pbs c.ws&&(jV c.pbs c.pbs&&st c.pbs c.pbs),im bO [] false c.pas c.pbs cE with
   |true,some (d,sel)=>GR E bO sel s.ws c.ws (c.fn F d)
   |_,_=>.no
 |none=>.no
def aeQ(id i:Nat):yU:=match bP i id with
 |true=>.nm
 |false=>.ex i
def fu.fin(E:Env)(c:fu E.T)(id k:Nat)(t:b2 E.T.El):Option (yy E.T.El c.ws):=match t.x with
 | .nm=>match GY E c.pbs.length t.s.bl t.s.f c.ss c.pas c.pbs with
   |some d=>c.fn k d
   |none=>none
 | .ex i=>Ef E c.pbs.length (aeQ id i) t.s.bl t.s.f c.ws
 | .rt=>Ef E c.pbs.length .rt t.s.bl t.s.f c.ws
 | .hS _=>none
def zp(E:Env)(c:fu E.T)(da:dd E.T.El c.pas)(db:cx E.T.El c.pbs):eB E.T.El:=⟨⟨vz c.ss (f_ id (b6 false c.pbs) c.pas da),[],[]⟩,bJ id (b6 false c.pbs) false c.pbs db,[]⟩
structure fu.Eq (E:Env) (br:fc E) (LE:nB E) (n id:Nat) (body:Code) (c:fu E.T):Prop where
 zero:∀d,c.fn 0 d=none
 succ:∀k (da:dd E.T.El c.pas)(db:cx E.T.El c.pbs),(den E br LE n body (zp E c da db)).run (c.fin E id k)=c.fn (k+1) (da,db)
structure fu.nC (E:Env) (br:fc E) (LE:nB E) (n id:Nat) (body:Code) (c:fu E.T):Prop where
 zero:∀d,c.fn 0 d=none
 succ:∀k (da:dd E.T.El c.pas)(db:cx E.T.El c.pbs) r,c.fn (k+1) (da,db)=some r->(den E br LE n body (zp E c da db)).run (c.fin E id k)=some r
theorem fu.Eq.one{E:Env}{br:fc E}{LE:nB E}{n id:Nat}{body:Code}{c:fu E.T}(h:c.Eq E br LE n id body):c.nC E br LE n id body:=⟨h.zero,λ k da db _ a=>(h.succ k da db).trans a⟩
section
variable{E:Env}{br:fc E}{LE:nB E}
theorem alc{gE:Nat}{x:yU}{bl:List (aC E.T.El)}{f:cq E.T.El}:∀ {ws:List j'}{r:yy E.T.El ws},Ef E gE x bl f ws=some r ->
 ∃(w:j')(da:dd E.T.El w.eo)(db:cx E.T.El w.c9),w∈ws/\w.x=x/\GY E gE bl f w.ss w.eo w.c9=some (da,db)/\ ∀bl' sel us t,(GR E bl' sel us ws (some r)).out t->⟨HH w.x,⟨⟨vz w.ss (f_ (iL sel bl'.length) (fm bl' sel w.c9) w.eo da),[],[]⟩,gf bl' sel w.c9 db,sel++us⟩⟩=t
 |[],r,h=>by cases h
 |[w],r,h=>by
  simp only[Ef]at h;split at h
  ·rename_i b
   refine⟨w,r.1,r.2,by simp,anB b,h,λ bl' sel us t a=>?_⟩
   obtain⟨d,e1,e2⟩:=a
   simp only[aD]at e1
   subst e1
   exact e2
  ·cases h
 |w::v::ws,r,h=>by
  simp only[Ef]at h;split at h
  ·rename_i d aK
   simp only[aD]at h
   subst h
   split at aK
   ·rename_i b
    refine⟨w,d.1,d.2,by simp,anB b,aK,λ bl' sel us t a=>?_⟩
    rcases a with⟨d',e1,e2⟩|⟨d',e1,e2⟩
    ·simp only[aD,Sum.inl.injEq]at e1
     subst e1
     exact e2
    ·simp at e1
   ·cases aK
  ·split at h
   ·rename_i q c
    simp only[aD]at h
    subst h
    obtain⟨w',da,db,e,J,g,i⟩:=alc c
    refine⟨w',da,db,ez _ e,J,g,λ bl' sel us t a=>?_⟩
    rcases a with⟨d',e1,e2⟩|⟨d',e1,e2⟩
    ·simp at e1
    ·simp only[aD,Sum.inr.injEq]at e1
     subst e1
     exact i bl' sel us t e2
   ·cases h
theorem ajd{bl:List (aC E.T.El)}{sel us:List Nat}:∀ {ws:List j'}{o:Option (yy E.T.El ws)}{t:b2 E.T.El},(GR E bl sel us ws o).out t-> ∃r,o=some r/\(GR E bl sel us ws (some r)).out t
 |[],o,t,h=>h.elim
 |[w],o,t,h=>by
  obtain⟨d,e1,e2⟩:=h;exact⟨d,e1,d,rfl,e2⟩
 |w::v::r,o,t,h=>by
  rcases h with⟨d,e1,e2⟩|⟨d,e1,e2⟩
  ·exact⟨_,e1,.inl ⟨d,rfl,e2⟩⟩
  ·exact⟨_,e1,.inr ⟨d,rfl,e2⟩⟩
theorem Pr{pbs:List bF}:∀ {ws:List j'}{w:j'},GD pbs ws=true->w∈ws->jV pbs w.c9=true/\st pbs w.c9=true
 |[],w,_,h=>by simp at h
 |v::r,w,h,hm=>by
  simp only[GD,bC]at h;rcases cm.1 hm with rfl |hm
  ·exact h.1
  ·exact Pr h.2 hm
theorem aBL(aZ:cX E)(ay:kZ E br)(dM:E.cM=[]){n:ct}{hx:Nat}{body:Code}(ai:j8 E LE n body){c:fu E.T}(he:c.nC E br LE n.n hx body)(F:Nat):Bz E n (c.run E F) (.block hx (.loop body)):=by
 intro s t r W M0 X b0 ρ0 w0 ρ a w Q h k;have qg:∀ {k2:Nat->Prop}{bl':List (aC E.T.El)}{ρ':List Value}{w':World},∀g y,cv E.cM g=some y->ao E.T (bi k2 bl' ρ' w') w' ρ' bl' y (.pointer (some ⟨g,0,none⟩)):=λ{_ _ _ _} g y au=>by rw[dM]at au;simp[cv]at au
 unfold fu.run at r;split at r
 ·rename_i ys Dc
  cases gy:gx [] c.pas c.pbs s.bl ys with
  |mk bl cE=>
  rw[gy]at r
  simp only at r
  obtain⟨f,P,iw,ag⟩:=wg h.r.mem gy (Al h.r (cur:=[]) trivial Dc)
  split at r
  ·rename_i d sel Jx eD
   simp only[bC]at Jx
   obtain⟨zA,U2,S⟩:=Jx
   obtain⟨da,db⟩:=d
   obtain⟨eM,h6,J⟩:=ajd r
   obtain⟨aj,_,lg⟩:=tF P tq eD
   obtain⟨mJ,N⟩:=CJ tq eD
   obtain⟨fT,bK⟩:=lg (bi (jF X bl f sel) (bJ id (b6 false c.pbs) false c.pbs db) (gH f sel) w) λ k N=>aj.GZ N
   have iF:=aj.enter P bK
   have wU:=fT _ ag
   have u:(gH f sel).length=c.pbs.length:=by rw[aj.len,mX]
   have leave:∀(b:j'),b∈c.ws-> ∀(G:dd E.T.El b.eo)(H:cx E.T.El b.c9)(l:List Value)(o:Act)(w':World),o.tmps.size=n.n->o.defers=n.ds ->
    Told E w (rM (bJ id (b6 false c.pbs) false c.pbs db) (gH f sel)) (jF X bl f sel) b.ss b.eo b.c9 G H l o w' true ->
    To (jF X bl f sel) (bJ id (b6 false c.pbs) false c.pbs db) (bJ id (b6 true b.c9) true b.c9 H) (gH f sel) l w w' ->
    t=⟨HH b.x,⟨⟨vz b.ss (f_ (iL sel bl.length) (fm bl sel b.c9) b.eo G),[],[]⟩,gf bl sel b.c9 H,sel++s.ws⟩⟩ ->
    Cq E X t.s.bl (fY f sel l) Q o w' (HH b.x):=λ b T G H l o w' U V I O aG=>by
    obtain⟨M,d_⟩:=Pr zA T
    obtain⟨bO,dU,gd,gw⟩:=back (gq:=b6 true b.c9) P aj mJ (λ j i B p h h' p'=>by
     obtain⟨B',e1,e2,_⟩:=N j i p h p';rw[h']at e1;cases e1;exact Ot M p' e2) M (λ i hi=>by
      obtain⟨j,aA,rfl⟩:=iv.1 hi;obtain⟨B,e1,_⟩:=N j _ _ (aH aA) (aH (by omega:j<c.pbs.length));exact(aM.1 e1).1) (λ j=>rfl) I.1 O
    have Gf:=gw b.eo G _ I.2
    have zz:gW s.bl ρ w w' sel:=by
     have:=gW.nil.bD iw gd;rwa [gL]at this
    have:=k (fY f sel l) o w' (by
     subst aG;exact⟨⟨bO,⟨⟨U,V,λ t y hy=>RM Gf hy⟩,λ p z=>by simp at z,λ p z=>by simp at z⟩,qg⟩,h.to.trans (iw.trans dU),h.wr.bD h.to zz⟩)
    rw[aG]at this⊢
    exact this
   refine wp_block (wp_loop_ghost (λ m o w'=>∃(K:dd E.T.El c.pas)(A:cx E.T.El c.pbs)(ρ':List Value),o.tmps.size=n.n/\o.defers=n.ds/\Told E w (rM (bJ id (b6 false c.pbs) false c.pbs db) (gH f sel)) (jF X bl f sel) c.ss c.pas c.pbs K A ρ' o w' false/\
    To (jF X bl f sel) (bJ id (b6 false c.pbs) false c.pbs db) (bJ id (b6 true c.pbs) true c.pbs A) (gH f sel) ρ' w w'/\c.fn m (K,A)=some eM) F ⟨da,db,gH f sel,h.r.dL.dZ.size,h.r.dL.dZ.defers,⟨iF,wU⟩,aG3,h6⟩ λ m o w' jJ=>?_)
   obtain⟨K,A,ρ',U,V,I,O,Y⟩:=jJ
   cases m with
   |zero=>rw[he.zero]at Y;cases Y
   |succ m=>
    obtain⟨Z,gO,q⟩:=D.sC (he.succ _ _ _ _ Y)
    have o4:ρ'.length=c.pbs.length:=by rw[I.1.len,mX]
    have ef:R E w (rM (bJ id (b6 false c.pbs) false c.pbs db) (gH f sel)) (jF X bl f sel) n (zp E c K A).f (zp E c K A).bl ρ' o w':=⟨I.1,⟨⟨U,V,λ t y hy=>RM I.2 hy⟩,λ p z=>by simp[zp]at z,λ p z=>by simp[zp]at z⟩,qg⟩
    refine nJ (b0:=(zp E c K A).bl) (ρ0:=ρ') (w0:=w') aZ ay body ai gO ⟨ef,.refl,.nil⟩ λ Bu Sx kR v=>?_
    have out:∀x,Ef E c.pbs.length x Z.s.bl Z.s.f c.ws=some eM-> ∃(b:j')(l:List Value),Cq E X t.s.bl (fY f sel l) Q Sx kR (HH b.x)/\b.x=x:=λ x L=>by
     obtain⟨b,G,H,bn,bx,bM,fh⟩:=alc L;obtain⟨M,d_⟩:=Pr zA bn;obtain⟨l,cG,dX⟩:=Zf v.r o4 M v.to bM;have J:=fh _ _ _ _ J;exact⟨b,l,leave b bn G H l Sx kR v.r.dL.dZ.size v.r.dL.dZ.defers (cG true) (akH M d_ u O dX) J.symm,bx⟩
    unfold fu.fin at q
    cases L:Z.x with
    |nm=>
     rw[L]at q
     simp only at q
     split at q
     ·rename_i y8 axq
      obtain⟨l,cG,dX⟩:=Zf v.r o4 U2 v.to axq
      exact⟨m,kU m,y8.1,y8.2,l,v.r.dL.dZ.size,v.r.dL.dZ.defers,cG false,akH U2 S u O dX,q⟩
     ·cases q
    |ex i=>
     rw[L]at q
     obtain⟨b,l,C,J⟩:=out _ q
     show Exit.inBlock hx Q (.exit i) Sx kR
     unfold aeQ at J
     split at J
     ·rename_i af
      rw[a_ af]
      simp only[Exit.inBlock,if_true]
      rw[J]at C
      exact C
     ·rename_i af
      have bX:i≠hx:=λ e=>by subst e;simp at af
      simp only[Exit.inBlock,if_neg bX]
      rw[J]at C
      exact C
    |rt=>
     rw[L]at q
     obtain⟨b,l,C,J⟩:=out _ q
     rw[J]at C
     exact C
    |hS y=>rw[L]at q;cases q
  ·exact r.elim
 ·exact r.elim
end
end a8
namespace a8
open Go Go.RowKit aq I
def fl(i:Nat):Code->Option Code
 | .seq x y=>match fl i x with
   |some b=>some b
   |none=>fl i y
 | .cond _ x y=>match fl i x with
   |some b=>some b
   |none=>fl i y
 | .block id c=>match bP id i with
   |true=>match c with
    | .loop b=>some b
    |_=>none
   |false=>fl i c
 | .loop c=>fl i c
 | .scope c=>fl i c
 |_=>none
def ij(i:Nat):Code->Nat
 | .seq x y=>ij i x+ij i y
 | .cond _ x y=>ij i x+ij i y
 | .block id c=>match bP id i with
   |true=>ij i c+1
   |false=>ij i c
 | .loop c=>ij i c
 | .scope c=>ij i c
 |_=>0
def s8(E:Env)(i:Nat)(g:eB E.T.El->D (b2 E.T.El))(n:ct):Code->Prop
 | .seq x y=>s8 E i g n x/\s8 E i g n y
 | .cond _ x y=>s8 E i g n x/\s8 E i g n y
 | .block id c=>(id=i->Bz E n g (.block id c))/\s8 E i g n c
 | .loop c=>s8 E i g n c
 | .scope c=>s8 E i g n c
 |_=>True
section
variable{E:Env}{LE:nB E}{n:ct}{i:Nat}{g:eB E.T.El->D (b2 E.T.El)}
theorem qu:∀ {c:Code},ij i c=0 ->s8 E i g n c
 | .seq x y,h=>by
   simp only[ij]at h;exact⟨qu (by omega),qu (by omega)⟩
 | .cond _ x y,h=>by
   simp only[ij]at h;exact⟨qu (by omega),qu (by omega)⟩
 | .block id c,h=>by
   simp only[ij]at h;split at h
   ·omega
   ·rename_i af
    exact⟨λ e=>by subst e;simp at af,qu h⟩
 | .loop c,h=>qu (c:=c) h
 | .scope c,h=>qu (c:=c) h
 | .skip,_ | .region _ _ _,_ | .rangeFunc _ _ _ _,_ | .exit _,_ | .label _,_ | .goto _,_ | .ret,_ | .refuse _,_=>trivial
theorem rL:∀ {c b:Code},fl i c=some b->0<ij i c
 | .seq x y,b,h=>by
   simp only[fl]at h;simp only[ij];split at h
   ·rename_i a;have:=rL a;omega
   ·have:=rL h;omega
 | .cond _ x y,b,h=>by
   simp only[fl]at h;simp only[ij];split at h
   ·rename_i a;have:=rL a;omega
   ·have:=rL h;omega
 | .block id c,b,h=>by
   simp only[fl]at h;simp only[ij];split at h
   ·omega
   ·exact rL h
 | .loop c,b,h=>by simp only[ij];exact rL (c:=c) h
 | .scope c,b,h=>by simp only[ij];exact rL (c:=c) h
 | .skip,_,h | .region _ _ _,_,h | .rangeFunc _ _ _ _,_,h | .exit _,_,h | .label _,_,h | .goto _,_,h | .ret,_,h | .refuse _,_,h=>by simp[fl]at h
theorem zK{b:Code}(a:Bz E n g (.block i (.loop b))):∀ {c:Code},ij i c<=1 ->fl i c=some b->s8 E i g n c
 | .seq x y,h,ad=>by
   simp only[ij]at h;simp only[fl]at ad;split at ad
   ·rename_i d
    have:=rL d
    simp only[aD]at ad
    subst ad
    exact⟨zK a (by omega) d,qu (by omega)⟩
   ·have:=rL ad
    exact⟨qu (by omega),zK a (by omega) ad⟩
 | .cond _ x y,h,ad=>by
   simp only[ij]at h;simp only[fl]at ad;split at ad
   ·rename_i d
    have:=rL d
    simp only[aD]at ad
    subst ad
    exact⟨zK a (by omega) d,qu (by omega)⟩
   ·have:=rL ad
    exact⟨qu (by omega),zK a (by omega) ad⟩
 | .block id c,h,ad=>by
   simp only[ij]at h;simp only[fl]at ad;split at ad
   ·rename_i af
    rw[af]at h
    have e:=a_ af
    subst e
    split at ad
    ·simp only[aD]at ad
     subst ad
     exact⟨λ _=>a,qu (by simp only at h;omega)⟩
    ·cases ad
   ·rename_i af
    rw[af]at h
    exact⟨λ e=>by subst e;simp at af,zK a h ad⟩
 | .loop c,h,ad=>zK (c:=c) a h ad
 | .scope c,h,ad=>zK (c:=c) a h ad
 | .skip,_,h | .region _ _ _,_,h | .rangeFunc _ _ _ _,_,h | .exit _,_,h | .label _,_,h | .goto _,_,h | .ret,_,h | .refuse _,_,h=>by simp[fl]at h
theorem zH{d:nB E}(hi:i<1000000)(a:∀j h,d j=some h->(j=i/\h=g)\/LE j=some h):∀ {c:Code},j8 E LE n c->s8 E i g n c->j8 E d n c
 | .seq x y,h,h'=>⟨(λ q r rest b e=>by
   unfold Kp at b;split at b
   ·rename_i id _
    rcases a _ q b with⟨e1,_⟩|e2
    ·omega
    ·exact h.1 q r rest e2 e
   ·cases b),zH hi a h.2.1 h'.1,zH hi a h.2.2 h'.2⟩
 | .cond _ x y,h,h'=>⟨zH hi a h.1 h'.1,zH hi a h.2 h'.2⟩
 | .block id c,h,h'=>⟨λ q b=>by
   rcases a id q b with⟨e1,e2⟩|e
   ·rw[e2];exact h'.1 e1
   ·exact h.1 q e,zH hi a h.2 h'.2⟩
 | .loop c,h,h'=>zH (c:=c) hi a h h'
 | .scope c,h,h'=>zH (c:=c) hi a h h'
 | .skip,_,_ | .region _ _ _,_,_ | .rangeFunc _ _ _ _,_,_ | .exit _,_,_ | .label _,_,_ | .goto _,_,_ | .ret,_,_ | .refuse _,_,_=>trivial
def kO:Code->List (Nat×Code×Code)
 | .seq x y=>(match x,y with
   | .seq (.region a b c) (.block id d),.seq r _=>[(id,.seq (.region a b c) (.block id d),r)]
   |_,_=>[])++kO x++kO y
 | .cond _ x y=>kO x++kO y
 | .block _ c=>kO c
 | .loop c=>kO c
 | .scope c=>kO c
 |_=>[]
def ql:Code->Bool
 | .seq x y=>ql x&&ql y
 | .cond _ x y=>ql x&&ql y
 | .block id c=>ee id 1000000&&ql c
 | .loop c=>ql c
 | .scope c=>ql c
 |_=>true
theorem zI{s:nB E}(o:∀j h,s j=some h->(j=1000000+i/\h=g)\/LE j=some h):∀ {c:Code},(∀x r,(i,x,r)∈kO c->yB E n g x r)->ql c=true->j8 E LE n c->j8 E s n c
 | .seq x y,m,af,h=>by
   simp only[ql,bC]at af;refine⟨λ q r rest p e=>?_,zI o (λ f k l=>m f k (by simp only[kO];simp[l])) af.1 h.2.1,zI o (λ f k l=>m f k (by simp only[kO];simp[l])) af.2 h.2.2⟩;unfold Kp at p;split at p
   ·rename_i a b c id d
    rcases o _ q p with⟨e1,e2⟩|e2
    ·have:id=i:=by omega
     subst this
     subst e
     rw[e2]
     exact m _ _ (by simp only[kO];simp)
    ·exact h.1 q r rest e2 e
   ·cases p
 | .cond _ x y,m,af,h=>by
   simp only[ql,bC]at af;exact⟨zI o (λ f k l=>m f k (by simp only[kO];simp[l])) af.1 h.1,zI o (λ f k l=>m f k (by simp only[kO];simp[l])) af.2 h.2⟩
 | .block id c,m,af,h=>by
   simp only[ql,bC]at af;refine⟨λ q p=>?_,zI o (λ f k l=>m f k (by simpa only[kO]using l)) af.2 h.2⟩;rcases o id q p with⟨e1,_⟩|e
   ·have:=ck af.1
    omega
   ·exact h.1 q e
 | .loop c,m,af,h=>zI (c:=c) o (λ f k l=>m f k (by simpa only[kO]using l)) af h
 | .scope c,m,af,h=>zI (c:=c) o (λ f k l=>m f k (by simpa only[kO]using l)) af h
 | .skip,_,_,_ | .region _ _ _,_,_,_ | .rangeFunc _ _ _ _,_,_,_ | .exit _,_,_,_ | .label _,_,_,_ | .goto _,_,_,_ | .ret,_,_,_ | .refuse _,_,_,_=>trivial
theorem zJ:∀ {c b:Code},j8 E LE n c->fl i c=some b->j8 E LE n b
 | .seq x y,b,h,ad=>by
   simp only[fl]at ad;split at ad
   ·rename_i a
    simp only[aD]at ad
    subst ad
    exact zJ h.2.1 a
   ·exact zJ h.2.2 ad
 | .cond _ x y,b,h,ad=>by
   simp only[fl]at ad;split at ad
   ·rename_i a
    simp only[aD]at ad
    subst ad
    exact zJ h.1 a
   ·exact zJ h.2 ad
 | .block id c,b,h,ad=>by
   simp only[fl]at ad;split at ad
   ·split at ad
    ·simp only[aD]at ad
     subst ad
     exact h.2
    ·cases ad
   ·exact zJ h.2 ad
 | .loop c,b,h,ad=>zJ (c:=c) h ad
 | .scope c,b,h,ad=>zJ (c:=c) h ad
 | .skip,_,_,h | .region _ _ _,_,_,h | .rangeFunc _ _ _ _,_,_,h | .exit _,_,_,h | .label _,_,_,h | .goto _,_,_,h | .ret,_,_,h | .refuse _,_,_,h=>by simp[fl]at h
end
structure cK (E:Env) where
 ce:List (Nat×(List (aF E.T.El)->List (aC E.T.El)->D (fj E.T.El)))
 le:List (Nat×Nat×(eB E.T.El->D (b2 E.T.El)))
def Gs{E:Env}:List (Nat×Nat×(eB E.T.El->D (b2 E.T.El)))->k0 E
 |[],_,_=>none
 |p::r,g,i=>match bP p.1 g&&bP p.2.1 i with
  |true=>some p.2.2
  |false=>Gs r g i
def W1{E:Env}:List (Nat×(List (aF E.T.El)->List (aC E.T.El)->D (fj E.T.El)))->HQ E
 |[],_=>none
 |p::r,g=>match bP p.1 g with
  |true=>some p.2
  |false=>W1 r g
def cK.ks{E:Env}(t:cK E):HQ E:=W1 t.ce
def cK.LE{E:Env}(t:cK E):k0 E:=Gs t.le
noncomputable def cK.br{E:Env}(t:cK E):fc E:=FK E t.ks t.LE 100
def cK.f{E:Env}(t:cK E)(g:Nat)(h:List (aF E.T.El)->List (aC E.T.El)->D (fj E.T.El)):cK E:=⟨(g,h)::t.ce,t.le⟩
def cK.l{E:Env}(t:cK E)(g i:Nat)(h:eB E.T.El->D (b2 E.T.El)):cK E:=⟨t.ce,(g,i,h)::t.le⟩
structure cK.Ok {E:Env} (t:cK E):Prop where
 ce:Mf E t.ks
 le:vF E t.LE
def ed.fit(E:Env)(c:ed E.T)(ys:List (aF E.T.El))(bl:List (aC E.T.El)):Bool:=match gx [] c.pas c.pbs bl ys with
 |(bO,cE)=>match im bO [] false c.pas c.pbs cE with
  |some _=>true
  |none=>false
def fu.fit(E:Env)(c:fu E.T)(s:eB E.T.El):Bool:=match pj E s.bl s.f [] (c.ss.map .tmp)with
 |some ys=>match gx [] c.pas c.pbs s.bl ys with
  |(bO,cE)=>match im bO [] false c.pas c.pbs cE with
   |some _=>true
   |none=>false
 |none=>false
noncomputable def cK.FJ{E:Env}(t:cK E)(g:Nat)(c:ed E.T):cK E:=t.f g λ ys bl=>match c.fit E ys bl with
 |true=>c.run E ys bl
 |false=>t.br g ys bl
noncomputable def cK.OH{E:Env}(t:cK E)(g i:Nat)(c:fu E.T)(F:Nat):cK E:=t.l g i λ s=>match c.fit E s with
 |true=>c.run E F s
 |false=>match t.LE g i with
  |some h=>h s
  |none=>.no
def p5(P:Program)(g:Nat):Code:=match P.funcs[g]? with
 |some fn=>match fn.body with
  |some c=>c
  |none=>.skip
 |none=>.skip
def hn(P:Program)(g i:Nat):Code:=match fl i (p5 P g)with
 |some b=>b
 |none=>.skip
def fp(P:Program)(g:Nat):Nat:=match P.funcs[g]? with
 |some fn=>fn.ntmps
 |none=>0
def oh(P:Program)(g i:Nat):Bool:=match fl i (p5 P g)with
 |some _=>iI (ij i (p5 P g)) 1&&ee i 1000000
 |none=>false
section
variable{E:Env}{t:cK E}
theorem cK.Ok.oT(h:t.Ok){f:Nat}{r:List (aF E.T.El)->List (aC E.T.El)->D (fj E.T.El)}(ad:eX E.b7 f=true)(hc:j6 E f r):(t.f f r).Ok:=by
 have key:∀g q,(t.f f r).ks g=some q->(g=f/\q=r)\/t.ks g=some q:=λ g q a=>by
  simp only[cK.ks,cK.f,W1]at a;split at a
  ·rename_i af
   simp only[aD]at a
   exact .inl ⟨(a_ af).symm,a.symm⟩
  ·exact .inr a
 refine⟨⟨λ g q a=>?_,λ g q a=>?_⟩,h.le⟩
 ·rcases key g q a with⟨rfl,_⟩|e
  ·exact r7 ad
  ·exact h.ce.b7 g q e
 ·rcases key g q a with⟨rfl,rfl⟩|e
  ·exact hc
  ·exact h.ce.ok g q e
theorem cK.Ok.fn(aZ:cX E)(a:E.cM=[])(h:t.Ok){f:Nat}(ad:eX E.b7 f=true){c:ed E.T}(b:c.Eq E t.br t.LE f):(t.f f (c.run E)).Ok:=h.oT ad (SZ aZ (k6 aZ h.ce h.le 100) h.le a b)
theorem cK.Ok.Mq(aZ:cX E)(h:t.Ok){g i:Nat}(d:oh E.P g i=true){r:eB E.T.El->D (b2 E.T.El)}(a:g∈E.b7->Bz E ⟨fp E.P g,[]⟩ r (.block i (.loop (hn E.P g i)))):(t.l g i r).Ok:=by
 refine⟨h.ce,λ g' fn l m k n=>?_⟩;have c:=h.le g' fn l m k n;by_cases e:g'=g
 ·subst e
  have p:p5 E.P g'=l:=by unfold p5;rw[k];simp only;rw[n]
  have s:fp E.P g'=fn.ntmps:=by unfold fp;rw[k]
  have a:=a m
  unfold oh at d
  unfold hn at a
  rw[p]at d a
  rw[s]at a
  split at d
  ·rename_i b af
   rw[af]at a
   simp only at a
   simp only[bC]at d
   refine zH (i:=i) (ck d.2) (λ j q f=>?_) c (zK a (ck d.1) af)
   simp only[cK.LE,cK.l,Gs]at f
   split at f
   ·rename_i o
    simp only[bC]at o
    simp only[aD]at f
    exact .inl ⟨(a_ o.2).symm,f.symm⟩
   ·exact .inr f
  ·cases d
 ·have same:∀j,(t.l g i r).LE g' j=t.LE g' j:=λ j=>by
   simp only[cK.LE,cK.l,Gs];have:bP g g'=false:=by
    rw[gX];intro af;exact e (a_ af).symm
   rw[this];rfl
  have:(t.l g i r).LE g'=t.LE g':=funext same;rw[this];exact c
def DZ(P:Program)(g i:Nat):Option (Code×Code):=match(kO (p5 P g)).filter (λ p=>bP p.1 i),ql (p5 P g)with
 |[p],true=>some p.2
 |_,_=>none
theorem cK.Ok.asj(h:t.Ok){g i:Nat}{x y:Code}(b:DZ E.P g i=some (x,y)){r:eB E.T.El->D (b2 E.T.El)}(d:g∈E.b7->yB E ⟨fp E.P g,[]⟩ r x y):(t.l g (1000000+i) r).Ok:=by
 refine⟨h.ce,λ g' fn f l k m=>?_⟩;have a:=h.le g' fn f l k m;by_cases e:g'=g
 ·subst e
  have s:p5 E.P g'=f:=by unfold p5;rw[k];simp only;rw[m]
  have u:fp E.P g'=fn.ntmps:=by unfold fp;rw[k]
  have d:=d l
  unfold DZ at b
  rw[s]at b
  rw[u]at d
  split at b
  ·rename_i p v w
   simp only[aD]at b
   refine zI (i:=i) (g:=r) (λ j q c=>?_) (λ z A B=>?_) w a
   ·simp only[cK.LE,cK.l,Gs]at c
    split at c
    ·rename_i n
     simp only[bC]at n
     simp only[aD]at c
     exact .inl ⟨(a_ n.2).symm,c.symm⟩
    ·exact .inr c
   ·have o:(i,z,A)∈(kO f).filter (λ p=>bP p.1 i):=iA.2 ⟨B,by simp⟩
    rw[v]at o
    have:=dK.1 o
    rw[<-this]at b
    cases b
    exact d
  ·cases b
 ·have same:∀j,(t.l g (1000000+i) r).LE g' j=t.LE g' j:=λ j=>by
   simp only[cK.LE,cK.l,Gs];have:bP g g'=false:=by
    rw[gX];intro af;exact e (a_ af).symm
   rw[this];rfl
  have:(t.l g (1000000+i) r).LE g'=t.LE g':=funext same;rw[this];exact a
theorem cK.Ok.NC(aZ:cX E)(j:E.cM=[])(h:t.Ok){g i:Nat}(d:oh E.P g i=true){c:fu E.T}(e:c.nC E t.br (t.LE g) (fp E.P g) i (hn E.P g i))(F:Nat):g∈E.b7->Bz E ⟨fp E.P g,[]⟩ (c.run E F) (.block i (.loop (hn E.P g i))):=λ k=>by
 unfold oh at d;split at d
 ·rename_i b af
  have l:hn E.P g i=b:=by unfold hn;rw[af]
  rw[l]at e⊢
  unfold p5 at af
  split at af
  ·rename_i fn f
   split at af
   ·rename_i m o
    have a:=h.le g fn m k f o
    have p:fp E.P g=fn.ntmps:=by unfold fp;rw[f]
    rw[p]at e⊢
    exact aBL (n:=⟨fn.ntmps,[]⟩) aZ (k6 aZ h.ce h.le 100) j (zJ a af) e F
   ·simp[fl]at af
  ·simp[fl]at af
 ·cases d
theorem cK.Ok.fB(aZ:cX E)(b:E.cM=[])(h:t.Ok){g i:Nat}(a:oh E.P g i=true){c:fu E.T}(d:c.Eq E t.br (t.LE g) (fp E.P g) i (hn E.P g i))(F:Nat):(t.l g i (c.run E F)).Ok:=h.Mq aZ a (h.NC aZ b a d.one F)
theorem xl{LE:nB E}{n:ct}{i:Nat}{q:eB E.T.El->D (b2 E.T.El)}(a:LE i=some q):∀ {c b:Code},j8 E LE n c->fl i c=some b->Bz E n q (.block i (.loop b))
 | .seq x y,b,h,ad=>by
   simp only[fl]at ad;split at ad
   ·rename_i d
    simp only[aD]at ad
    subst ad
    exact xl a h.2.1 d
   ·exact xl a h.2.2 ad
 | .cond _ x y,b,h,ad=>by
   simp only[fl]at ad;split at ad
   ·rename_i d
    simp only[aD]at ad
    subst ad
    exact xl a h.1 d
   ·exact xl a h.2 ad
 | .block id c,b,h,ad=>by
   simp only[fl]at ad;split at ad
   ·rename_i af
    have e:=a_ af
    subst e
    split at ad
    ·simp only[aD]at ad
     subst ad
     exact h.1 q a
    ·cases ad
   ·exact xl a h.2 ad
 | .loop c,b,h,ad=>xl (c:=c) a h ad
 | .scope c,b,h,ad=>xl (c:=c) a h ad
 | .skip,_,_,h | .region _ _ _,_,_,h | .rangeFunc _ _ _ _,_,_,h | .exit _,_,_,h | .label _,_,_,h | .goto _,_,_,h | .ret,_,_,h | .refuse _,_,_,h=>by simp[fl]at h
theorem cK.Ok.aBM(aZ:cX E)(k:E.cM=[])(h:t.Ok){g i:Nat}(a:oh E.P g i=true){c:fu E.T}(l:c.Eq E t.br (t.LE g) (fp E.P g) i (hn E.P g i))(F:Nat):(t.OH g i c F).Ok:=by
 refine h.Mq aZ a λ f s r d=>?_;split at d
 ·exact h.NC aZ k a l.one F f s r d
 ·split at d
  ·rename_i q m
   have v:=a
   unfold oh at a
   split at a
   ·rename_i b af
    have n:hn E.P g i=b:=by unfold hn;rw[af]
    rw[n]
    unfold p5 at af
    split at af
    ·rename_i fn j
     split at af
     ·rename_i o p
      have e:=h.le g fn o f j p
      have u:fp E.P g=fn.ntmps:=by unfold fp;rw[j]
      rw[u]
      exact xl m e af s r d
     ·simp[fl]at af
    ·simp[fl]at af
   ·cases a
  ·exact d.elim
theorem cK.Ok.iY(aZ:cX E)(a:E.cM=[])(h:t.Ok){f:Nat}(ad:eX E.b7 f=true){c:kv E.T}(b:c.Eq E t.br t.LE f):(t.f f (c.run E)).Ok:=h.oT ad (ads aZ (k6 aZ h.ce h.le 100) h.le a b.one)
theorem cK.Ok.avS(aZ:cX E)(b:E.cM=[])(h:t.Ok){f:Nat}(ad:eX E.b7 f=true){c:ed E.T}(d:c.Eq E t.br t.LE f):(t.FJ f c).Ok:=by
 refine h.oT ad λ ys bl r a=>?_;split at a
 ·exact SZ aZ (k6 aZ h.ce h.le 100) h.le b d ys bl r a
 ·exact((k6 aZ h.ce h.le 100).ok f ys bl r a).2
end
end a8
