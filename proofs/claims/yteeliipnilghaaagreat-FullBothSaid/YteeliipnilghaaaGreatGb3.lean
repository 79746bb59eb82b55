/- Part 3 of the proof that is ended in the last text: small logic, what the functions compute, walks, plain laws. -/
import Derived.Test.YteeliipnilghaaaGreatGb2
open Array renaming getD_eq_getD_getElem?->e0,getElem?_eq_getElem->jJ,getElem?_eq_none->ib,getElem?_eq_some_iff->gw,getElem?_setIfInBounds->f_,getElem?_toList->hT,setIfInBounds_comm->jK
open Bool renaming and_eq_true->cb,eq_false_iff->gQ,false_eq_true->hX,not_eq_true'->ha,or_eq_false_iff->iF,or_eq_true->ia
open List renaming all_eq_true->k_,any_eq_true->iY,append_nil->hR,cons.injEq->h3,getElem?_append_left->eA,getElem?_append_right->fq,getElem?_cons_zero->dU,getElem?_drop->i_,getElem?_eq_getElem->aK,getElem?_eq_none->gE,getElem?_eq_some_iff->aP,getElem?_map->jw,getElem?_set_ne->jG,getElem?_set_self->gv,getElem?_take->hG,length_cons->dL,length_set->kc,length_take->fZ,map_cons->eB,map_nil->iD,mem_append->cj,mem_cons->cI,mem_cons_of_mem->dZ,mem_filter->js,mem_iff_getElem->jf,mem_of_getElem?->bG,mem_singleton->dT,nodup_cons->ie,not_mem_nil->iH,pairwise_iff_getElem->jl
open Nat renaming beq->cy,ble->jF,blt->fs,decEq->l2,eq_of_beq_eq_true->bd,le_of_ble_eq_true->cS,le_refl->cT,le_trans->hv,lt_of_lt_of_le->fe,lt_or_ge->gL,lt_succ_self->l4,min_eq_left->mj,zero_add->jM,zero_le->gT
open Option renaming bind_some->ae,getD_some->jd,map_eq_some_iff->cz,some.inj->eJ,some.injEq->aH
open Prod renaming mk.injEq->cF
namespace bc
open Go Go.RowKit ay I
inductive adv (El:Nat->Type):Type
 |ret (y:aI El)
 |Ap (y:aI El)
structure fu (El:Nat->Type) where
 e:adv El
 bl:List (aF El)
 ws:List Nat
abbrev fp(E:Env):=Nat->List (aI E.T.El)->List (aF E.T.El)->D (fu E.T.El)
structure eP (El:Nat->Type) where
 f:cC El
 bl:List (aF El)
 ws:List Nat
inductive MT (El:Nat->Type):Type
 |nm
 |ex (id:Nat)
 |rt
 |hZ (y:aI El)
structure b9 (El:Nat->Type) where
 x:MT El
 s:eP El
def hf{El:Nat->Type}(bl:List (aF El))(ρ:List Value)(w w':World)(ws:List Nat):Prop:=∀k,k<w.heap.size->(∀i∈ws,∀B h,bl[i]? =some B->ρ[i]? =some h->k∉bE B h)->w'.heap[k]? =w.heap[k]?
section
variable{T:bT}{X:Nat->Prop}{bl bl' vV:List (aF T.El)}{ρ ρ' H5:List Value}{w w' w'':World}{s s':List Nat}
theorem hf.nil:hf bl ρ w w []:=λ _ _ _=>rfl
theorem hf.bI(h:hf bl ρ w w' s)(b:To X bl bl' ρ ρ' w w')(k:hf bl' ρ' w' w'' s'):hf bl ρ w w'' (s'++s):=λ q a c=>
 (k q (fe a b.sz) λ i hi B h ag d e=>by
  obtain⟨jg,f,g,ao,aT⟩:=b.om i B h ag d q e a;exact c i (cj.2 (.inl hi)) jg f g ao aT).trans (h q a λ i hi=>c i (cj.2 (.inr hi)))
theorem hf.same(h:hf bl ρ w w' s)(e:∀q:Nat,w''.heap[q]? =w'.heap[q]?):hf bl ρ w w'' s:=λ q a b=>(e q).trans (h q a b)
end
def Co(E:Env)(X:Nat->Prop)(bl:List (aF E.T.El))(ρ:List Value)(w:World):adv E.T.El->Ending->Prop
 | .ret y,.returned v=>aw E.T (bk X bl ρ w) w ρ bl y v
 | .Ap y,.panicked c=>∃v,c=[{ v,recovered:=false }]/\aw E.T (bk X bl ρ w) w ρ bl y v
 |_,_=>False
def H'(E:Env)(X:Nat->Prop)(bl:List (aF E.T.El))(ρ:List Value)(w:World):Prop:=∀g y,cG E.cY g=some y->aw E.T (bk X bl ρ w) w ρ bl y (.pointer (some ⟨g,0,none⟩))
structure lh (E:Env) (bu:fp E):Prop where
 ok:∀f ys bl r,(bu f ys bl).out r->(∀args w,(callFunc f args).run E.P w= .ok (.enter f args) w)/\
  ∀(W:World)(M0:List Nat)(X:Nat->Prop)(ρ:List Value)(w:World)(vs:List Value),Mem E.T W M0 X bl ρ w->H' E X bl ρ w->a8 E.T (bk X bl ρ w) w ρ bl ys vs ->
   Calls E.P f ⟨vs⟩ w λ e w'=>∃ρ',Mem E.T W M0 X r.bl ρ' w'/\To X bl r.bl ρ ρ' w w'/\hf bl ρ w w' r.ws/\Co E X r.bl ρ' w' r.e e
structure qp (El:Nat->Type) where
 f:cC El
 aL:Option (Option Nat)
def Zb(E:Env)(bl:List (aF E.T.El))(f:cC E.T.El)(d:Nat)(op:Op):D (qp E.T.El):=(FK E bl f [] op).bind λ y=>.ok ⟨f.put d y,qZ E bl f [] op⟩
def Qb(E:Env)(bl:List (aF E.T.El))(f:cC E.T.El)(d:Nat)(want c:Bool)(op:Op):D (qp E.T.El):=match Fp c want with
 |true=>Zb E bl f d op
 |false=>.ok ⟨f.put d (.p undef),none⟩
def cC.know{El:Nat->Type}(f:cC El)(j:Nat)(b:Bool):cC El:=⟨f.fr,f.gs,(j,b)::f.eu⟩
def amh(E:Env)(ops:Array Oper)(d:Nat):List Oper->Bool
 |[]=>false
 |o::r=>(match o.guard with
  |some (j,_)=>match Ja ops j,(match o.op with
   | .indexAddr _ _ _=>MK.e
   | .index _ _ _=>MK.e
   | .slice _ _ _ _ _=>MK.e
   |op=>O5 E.P op)with
    |_,.q=>false
    |some d',_=>cy d' d
    |none,_=>false
  |none=>false)||amh E ops d r
def Qc(E:Env)(ops:Array Oper)(n:Nat)(bl:List (aF E.T.El))(f:cC E.T.El)(o:Oper):D (qp E.T.El):=match o.dst with
 |none=>.no
 |some d=>match fs d n with
  |false=>.no
  |true=>match NZ E ops f n o.guard with
   | .run=>Zb E bl f d o.op
   | .skip=>.ok ⟨f.put d (.p undef),none⟩
   | .maybe bC want b=>match FK E bl f [(bC,want)] o.op,cy bC d||amh E ops d ops.toList with
     | .ok y,false=>.ok ⟨f.q_ d bC want y,qZ E bl f [(bC,want)] o.op⟩
     |_,_=>.qx b (Qb E bl (f.know bC true) d want true o.op) (Qb E bl (f.know bC false) d want false o.op)
   | .cond bC want=>match FK E bl f [(bC,want)] o.op,cy bC d with
     | .ok y,false=>.ok ⟨f.q_ d bC want y,qZ E bl f [(bC,want)] o.op⟩
     |_,_=>.no
   | .no=>.no
section
variable{E:Env}{W w w':World}{M0:List Nat}{X:Nat->Prop}{n:cE}{f:cC E.T.El}{bl:List (aF E.T.El)}{ρ:List Value}{a:Act}{ops:Array Oper}{o:Oper}
theorem R.q_{d j:Nat}{b:Bool}{y:aI E.T.El}{v:Value}(h:R E W M0 X n f bl ρ a w)(aL:fs d n.n=true)(c:cy j d=false)(e:a.tmps.getD j undef= .bool b->aw E.T (bk X bl ρ w) w ρ bl y v):R E W M0 X n (f.q_ d j b y) bl ρ (a.put (some d) v) w:=⟨h.mem,h.d_.q_ aL c e,h.cY⟩
theorem R.know{j:Nat}{b:Bool}(h:R E W M0 X n f bl ρ a w)(aA:a.tmps.getD j undef= .bool b):R E W M0 X n (f.know j b) bl ρ a w:=⟨h.mem,⟨h.d_.er,h.d_.gs,λ p aC=>by
 rcases cI.1 aC with rfl |aC
 ·exact aA
 ·exact h.d_.eu p aC⟩,h.cY⟩
def Ih(E:Env)(W:World)(M0:List Nat)(X:Nat->Prop)(n:cE)(bl:List (aF E.T.El))(ρ:List Value)(a:Act)(w:World)(ops:Array Oper)(o:Oper)(d:Nat)(r:qp E.T.El):Prop:=
 ∃u,R E W M0 X n r.f bl ρ (a.put (some d) u) w/\((Region.wanted o (yielded ops a.tmps)=true/\yV E.P o a X bl ρ w u r.aL)\/(Region.wanted o (yielded ops a.tmps)=false/\u=undef))
theorem akZ(a7:di E)(h:R E W M0 X n f bl ρ a w){d:Nat}(aL:fs d n.n=true)(b:Region.wanted o (yielded ops a.tmps)=true){r:qp E.T.El}(c:(Zb E bl f d o.op).out r):Ih E W M0 X n bl ρ a w ops o d r:=by
 obtain⟨y,e,J⟩:=D.j9 c;have J:(⟨f.put d y,qZ E bl f [] o.op⟩:qp E.T.El)=r:=J;subst J;obtain⟨u,g,i⟩:=agn a7 h (cur:=[]) trivial rfl e;exact⟨u,h.put aL g,.inl ⟨b,i⟩⟩
theorem ak1(h:R E W M0 X n f bl ρ a w){d:Nat}(aL:fs d n.n=true)(b:Region.wanted o (yielded ops a.tmps)=false):Ih E W M0 X n bl ρ a w ops o d ⟨f.put d (.p undef),none⟩:=
 ⟨undef,h.put aL (by simp only[aw]),.inr ⟨b,rfl⟩⟩
theorem ak0(a7:di E)(h:R E W M0 X n f bl ρ a w){d bC:Nat}{want c:Bool}(aL:fs d n.n=true)(aA:a.tmps.getD bC undef= .bool c)(e:Region.wanted o (yielded ops a.tmps)=true↔a.tmps.getD bC undef= .bool want){r:qp E.T.El}(b:(Qb E bl f d want c o.op).out r):Ih E W M0 X n bl ρ a w ops o d r:=by
 unfold Qb at b;split at b
 ·rename_i ag
  rw[yX]at ag
  subst ag
  exact akZ a7 h aL (e.2 aA) b
 ·rename_i ag
  have b:(⟨f.put d (.p undef),none⟩:qp E.T.El)=r:=b
  subst b
  refine ak1 h aL ((gQ).2 λ g=>?_)
  have:=e.1 g
  rw[aA]at this
  injection this with this
  rw[yX.2 this]at ag
  cases ag
theorem akY(a7:di E)(h:R E W M0 X n f bl ρ a w){d bC:Nat}{want:Bool}(aL:fs d n.n=true)(c:cy bC d=false)(e:Region.wanted o (yielded ops a.tmps)=true↔a.tmps.getD bC undef= .bool want){y:aI E.T.El}(g:FK E bl f [(bC,want)] o.op= .ok y):Ih E W M0 X n bl ρ a w ops o d ⟨f.q_ d bC want y,qZ E bl f [(bC,want)] o.op⟩:=by
 by_cases ag:a.tmps.getD bC undef= .bool want
 ·obtain⟨u,i,j⟩:=agn a7 h (cur:=[(bC,want)]) (o:=o) (z:=y) ⟨ag,trivial⟩ rfl (by rw[g];rfl)
  exact⟨u,h.q_ aL c λ _=>i,.inl ⟨e.2 ag,j⟩⟩
 ·exact⟨undef,h.q_ aL c λ b=>absurd b ag,.inr ⟨(gQ).2 λ b=>ag (e.1 b),rfl⟩⟩
theorem Zc(a7:di E)(h:R E W M0 X n f bl ρ a w){r:qp E.T.El}(c:(Qc E ops n.n bl f o).out r):∃d,o.dst=some d/\Ih E W M0 X n bl ρ a w ops o d r:=by
 have e:=agS (ops:=ops) (o:=o) h;unfold Qc at c;split at c
 ·exact c.elim
 ·rename_i d k
  refine⟨d,k,?_⟩
  split at c
  ·exact c.elim
  ·rename_i aL
   split at c
   ·rename_i g
    rw[g]at e
    exact akZ a7 h aL e c
   ·rename_i g
    rw[g]at e
    have c:(⟨f.put d (.p undef),none⟩:qp E.T.El)=r:=c
    subst c
    exact ak1 h aL e
   ·rename_i bC want b g
    rw[g]at e
    obtain⟨m,j,i⟩:=e
    split at c
    ·rename_i y l J
     have c:(⟨f.q_ d bC want y,qZ E bl f [(bC,want)] o.op⟩:qp E.T.El)=r:=c
     subst c
     exact akY a7 h aL (iF.1 J).1 i l
    ·rcases c with⟨rfl,c⟩|⟨rfl,c⟩
     ·exact ak0 a7 (h.know j) aL j i c
     ·exact ak0 a7 (h.know j) aL j i c
   ·rename_i bC want g
    rw[g]at e
    obtain⟨m,i⟩:=e
    split at c
    ·rename_i y l J
     have c:(⟨f.q_ d bC want y,qZ E bl f [(bC,want)] o.op⟩:qp E.T.El)=r:=c
     subst c
     exact akY a7 h aL J i l
    ·exact c.elim
   ·exact c.elim
end
def Li{T:bT}(n:Nat)(f:cC T.El)(y:aI T.El):Option Nat->Option (cC T.El)
 |none=>some f
 |some d=>match fs d n with
  |true=>some (f.put d y)
  |false=>none
def afD(E:Env)(n:Nat)(bl:List (aF E.T.El))(f:cC E.T.El)(o:Oper):D (b9 E.T.El):=(NA E bl f [] o.op).bind λ e=>match Li n f (e.y.getD (.p undef)) o.dst with
 |some a=>.ok ⟨.nm,a,e.bl,e.ws⟩
 |none=>.no
def UR{El:Nat->Type}:aI El->Option (Nat×List (aI El)×List (aI El))
 | .p (.func (.func g) ⟨us⟩ ⟨cs⟩)=>some (g,us.map .p,cs.map .p)
 | .f (.func g) cs=>some (g,[],cs)
 | .h (.func g) us=>some (g,us,[])
 |_=>none
def TI(E:Env)(bu:fp E)(n:Nat)(bl:List (aF E.T.El))(f:cC E.T.El)(a:Option Nat):Op->D (b9 E.T.El)
 | .call ⟨.value b,⟨xs⟩,_⟩=>match od E bl f [] b,pR E bl f [] xs with
   |some c,some ys=>match UR c with
    |some (g,us,cs)=>(bu g (us++ys++cs) bl).bind λ r=>match r.e with
     | .ret y=>match Li n f y a with
       |some d=>.ok ⟨.nm,d,r.bl,r.ws⟩
       |none=>.no
     | .Ap y=>.ok ⟨.hZ y,f,r.bl,r.ws⟩
    |none=>.no
   |_,_=>.no
 |_=>.no
def Sa(E:Env)(bu:fp E)(n:Nat)(bl:List (aF E.T.El))(f:cC E.T.El)(o:Oper):D (b9 E.T.El):=match O5 E.P o.op with
 | .e=>afD E n bl f o
 | .c=>TI E bu n bl f o.dst o.op
 |_=>.no
def Sc{T:bT}(n:Nat)(bl:List (aF T.El))(f:cC T.El)(o:Oper):D (b9 T.El):=match Li n f (.p undef) o.dst with
 |some a=>.ok ⟨.nm,a,bl,[]⟩
 |none=>.no
def Sb(E:Env)(bu:fp E)(n:Nat)(bl:List (aF E.T.El))(f:cC E.T.El)(want c:Bool)(o:Oper):D (b9 E.T.El):=match Fp c want with
 |true=>Sa E bu n bl f o
 |false=>Sc n bl f o
def Sd(E:Env)(bu:fp E)(ops:Array Oper)(n:Nat)(bl:List (aF E.T.El))(f:cC E.T.El)(o:Oper):D (b9 E.T.El):=match NZ E ops f n o.guard with
 | .run=>Sa E bu n bl f o
 | .skip=>Sc n bl f o
 | .maybe bC want b=>.qx b (Sb E bu n bl (f.know bC true) want true o) (Sb E bu n bl (f.know bC false) want false o)
 |_=>.no
structure ji (E:Env) (W:World) (M0:List Nat) (X:Nat->Prop) (n:cE) (b0:List (aF E.T.El)) (ρ0:List Value) (w0:World) (s:eP E.T.El) (ρ:List Value) (a:Act) (w:World):Prop where
 r:R E W M0 X n s.f s.bl ρ a w
 to:To X b0 s.bl ρ0 ρ w0 w
 wr:hf b0 ρ0 w0 w s.ws
def Cr(E:Env)(X:Nat->Prop)(bl:List (aF E.T.El))(ρ:List Value)(Q:Exit->Act->World->Prop)(a:Act)(w:World):MT E.T.El->Prop
 | .nm=>Q .normal a w
 | .ex id=>Q (.exit id) a w
 | .rt=>Q .ret a w
 | .hZ y=>∀v,aw E.T (bk X bl ρ w) w ρ bl y v-> ∀b,b.defers=a.defers->Q (.panic [{ v,recovered:=false }]) b w
section
variable{E:Env}{bu:fp E}{W w w':World}{M0:List Nat}{X:Nat->Prop}{n:cE}{f:cC E.T.El}{bl:List (aF E.T.El)}{ρ:List Value}{a:Act}{ops:Array Oper}{o:Oper}
theorem R.set{c:cC E.T.El}{y:aI E.T.El}{v:Value}{b:Option Nat}(h:R E W M0 X n f bl ρ a w)(aj:Li n.n f y b=some c)(d:aw E.T (bk X bl ρ w) w ρ bl y v):R E W M0 X n c bl ρ (a.put b v) w:=by
 unfold Li at aj;split at aj
 ·simp only[aH]at aj
  subst aj
  exact h
 ·split at aj
  ·rename_i aL
   simp only[aH]at aj
   subst aj
   exact h.put aL d
  ·cases aj
def Fm(E:Env)(W:World)(M0:List Nat)(X:Nat->Prop)(n:cE)(bl:List (aF E.T.El))(ρ:List Value)(a:Act)(w:World)(ops:Array Oper)(o:Oper)(r:b9 E.T.El):Prop:=
 ∀(K:Act->World->Prop)(Q:Exit->Act->World->Prop),
  (∀ρ' b w',R E W M0 X n r.s.f r.s.bl ρ' b w'->To X bl r.s.bl ρ ρ' w w'->hf bl ρ w w' r.s.ws->Cr E X r.s.bl ρ' (Exit.then K Q) b w' r.x) ->
  if Region.wanted o (yielded ops a.tmps)then o.wp E.P a w K Q else K (a.put o.dst undef) w
theorem awA(a7:di E)(h:R E W M0 X n f bl ρ a w)(i:Region.wanted o (yielded ops a.tmps)=true){r:b9 E.T.El}(j:(afD E n.n bl f o).out r):Fm E W M0 X n bl ρ a w ops o r:=by
 obtain⟨e,l,J⟩:=D.j9 j;obtain⟨w',ρ',m,b,d,hy⟩:=axh a7 h (cur:=[]) (o:=o) trivial rfl l;intro K Q k;rw[if_pos i];split at J
 ·rename_i p aj
  have J:(⟨.nm,p,e.bl,e.ws⟩:b9 E.T.El)=r:=J
  subst J
  have g:=h.to b m
  unfold Oper.wp
  split at hy
  ·rename_i y c
   obtain⟨v,q,s⟩:=hy
   rw[show(execOp a.eval o).run E.P w=_ from q]
   rw[c]at aj
   exact k ρ' _ w' (g.set aj s) b d
  ·rename_i c
   rw[show(execOp a.eval o).run E.P w=_ from hy]
   rw[c]at aj
   exact k ρ' _ w' (g.set (y:=.p undef) aj (by simp only[aw])) b d
 ·exact J.elim
theorem Qs{F:Nat->Prop}:∀(l:List Value),a8 E.T F w ρ bl (l.map .p) l
 |[]=>by simp[a8]
 |v::r=>by simp only[eB,a8];exact⟨v,r,rfl,rfl,Qs r⟩
theorem axJ{F:Nat->Prop}{y:aI E.T.El}{v:Value}{g:Nat}{us cs:List (aI E.T.El)}(h:UR y=some (g,us,cs))(b:aw E.T F w ρ bl y v):∃u c,v= .func (.func g) ⟨u⟩ ⟨c⟩/\a8 E.T F w ρ bl us u/\a8 E.T F w ρ bl cs c:=by
 unfold UR at h;split at h
 ·simp only[aH,cF]at h
  obtain⟨rfl,rfl,rfl⟩:=h
  simp only[aw]at b
  exact⟨_,_,b,Qs _,Qs _⟩
 ·simp only[aH,cF]at h
  obtain⟨rfl,rfl,rfl⟩:=h
  simp only[aw]at b
  obtain⟨vs,d,J⟩:=b
  exact⟨[],vs,d,by simp[a8],J⟩
 ·simp only[aH,cF]at h
  obtain⟨rfl,rfl,rfl⟩:=h
  simp only[aw]at b
  obtain⟨vs,d,J⟩:=b
  exact⟨vs,[],d,J,by simp[a8]⟩
 ·cases h
theorem auO(s:lh E bu)(h:R E W M0 X n f bl ρ a w)(t:Region.wanted o (yielded ops a.tmps)=true){op:Op}(x:o.op=op){r:b9 E.T.El}(d:(TI E bu n.n bl f o.dst op).out r):Fm E W M0 X n bl ρ a w ops o r:=by
 unfold TI at d;split at d
 ·rename_i N xs kP
  split at d
  ·rename_i O ys z J
   split at d
   ·rename_i g us cs A
    obtain⟨j,B,b⟩:=D.j9 d
    obtain⟨u,c,C,ao,aT⟩:=axJ A (dA h (cur:=[]) trivial z)
    have bQ:=Al h (cur:=[]) trivial J
    obtain⟨F,l⟩:=s.ok _ _ _ _ B
    have hc:=l W M0 X ρ w (u++xs.map a.eval++c) h.mem h.cY ((ao.bI bQ).bI aT)
    intro K Q k
    rw[if_pos t]
    unfold Oper.wp
    have G:(execOp a.eval o).run E.P w= .ok (.enter g ⟨u++xs.map a.eval++c⟩) w:=by
     simp only[execOp,x,resolve,C];simp[Deferred.ofValue,invoke,F]
    rw[G]
    refine hc.mono λ e w' H=>?_
    obtain⟨ρ',I,m,p,i⟩:=H
    have q:=h.to m I
    split at b
    ·rename_i y hy
     rw[hy]at i
     split at b
     ·rename_i L aj
      have b:(⟨.nm,L,j.bl,j.ws⟩:b9 E.T.El)=r:=b
      subst b
      cases e with
      |returned v=>exact k ρ' _ w' (q.set aj i) m p
      |panicked c=>exact i.elim
      |outgrown=>exact i.elim
     ·exact b.elim
    ·rename_i y hy
     rw[hy]at i
     have b:(⟨.hZ y,f,j.bl,j.ws⟩:b9 E.T.El)=r:=b
     subst b
     cases e with
     |returned v=>exact i.elim
     |panicked c=>
      obtain⟨v,rfl,M⟩:=i
      exact k ρ' a w' q m p v M a rfl
     |outgrown=>exact i.elim
   ·exact d.elim
  ·exact d.elim
 ·exact d.elim
theorem apm(a7:di E)(d:lh E bu)(h:R E W M0 X n f bl ρ a w)(c:Region.wanted o (yielded ops a.tmps)=true){r:b9 E.T.El}(b:(Sa E bu n.n bl f o).out r):Fm E W M0 X n bl ρ a w ops o r:=by
 unfold Sa at b;split at b
 ·exact awA a7 h c b
 ·exact auO d h c rfl b
 ·exact b.elim
theorem apo(h:R E W M0 X n f bl ρ a w)(c:Region.wanted o (yielded ops a.tmps)=false){r:b9 E.T.El}(b:(Sc n.n bl f o).out r):Fm E W M0 X n bl ρ a w ops o r:=by
 unfold Sc at b;split at b
 ·rename_i d aj
  have b:(⟨.nm,d,bl,[]⟩:b9 E.T.El)=r:=b
  subst b
  intro K Q k
  rw[if_neg (by simp[c])]
  exact k ρ _ w (h.set aj (by simp only[aw])) .refl .nil
 ·exact b.elim
theorem apn(a7:di E)(e:lh E bu)(h:R E W M0 X n f bl ρ a w){bC:Nat}{want c:Bool}(aA:a.tmps.getD bC undef= .bool c)(d:Region.wanted o (yielded ops a.tmps)=true↔a.tmps.getD bC undef= .bool want){r:b9 E.T.El}(b:(Sb E bu n.n bl f want c o).out r):Fm E W M0 X n bl ρ a w ops o r:=by
 unfold Sb at b;split at b
 ·rename_i ag
  rw[yX]at ag
  subst ag
  exact apm a7 e h (d.2 aA) b
 ·rename_i ag
  refine apo h ((gQ).2 λ g=>?_) b
  have:=d.1 g
  rw[aA]at this
  injection this with this
  rw[yX.2 this]at ag
  cases ag
theorem ac4(a7:di E)(i:lh E bu)(h:R E W M0 X n f bl ρ a w){r:b9 E.T.El}(c:(Sd E bu ops n.n bl f o).out r):Fm E W M0 X n bl ρ a w ops o r:=by
 have d:=agS (ops:=ops) (o:=o) h;unfold Sd at c;split at c
 ·rename_i e
  rw[e]at d
  exact apm a7 i h d c
 ·rename_i e
  rw[e]at d
  exact apo h d c
 ·rename_i bC want b e
  rw[e]at d
  obtain⟨k,g,j⟩:=d
  rcases c with⟨rfl,c⟩|⟨rfl,c⟩
  ·exact apn a7 i (h.know g) g j c
  ·exact apn a7 i (h.know g) g j c
 ·exact c.elim
end
noncomputable def opsL(E:Env)(bu:fp E)(ops:Array Oper)(n:Nat):List Oper->eP E.T.El->D (b9 E.T.El)
 |[],s=>.ok ⟨.nm,s⟩
 |o::r,s=>match O5 E.P o.op with
  | .q=>(Qc E ops n s.bl s.f o).bind λ q=>DV E q.f λ f=>opsL E bu ops n r ⟨f,s.bl,s.ws⟩
  | .no=>.no
  |_=>(Sd E bu ops n s.bl s.f o).bind λ t=>match t.x with
   | .nm=>DV E t.s.f λ f=>KH E t.s.ws s.bl.length t.s.bl λ bl=>opsL E bu ops n r ⟨f,bl,t.s.ws++s.ws⟩
   |x=>.ok ⟨x,t.s.f,t.s.bl,t.s.ws++s.ws⟩
def Fin(E:Env)(W:World)(M0:List Nat)(X:Nat->Prop)(n:cE)(b0:List (aF E.T.El))(ρ0:List Value)(w0:World)(t:b9 E.T.El)(Q:Exit->Act->World->Prop):Prop:=
 ∀ρ a w,ji E W M0 X n b0 ρ0 w0 t.s ρ a w->Cr E X t.s.bl ρ Q a w t.x
section
variable{E:Env}{bu:fp E}{W:World}{M0:List Nat}{X:Nat->Prop}{n:cE}{b0:List (aF E.T.El)}{ρ0:List Value}{w0:World}{ops:Array Oper}{Q:Exit->Act->World->Prop}
theorem ji.next{s s':eP E.T.El}{ρ ρ':List Value}{a b:Act}{w w':World}(h:ji E W M0 X n b0 ρ0 w0 s ρ a w)(c:R E W M0 X n s'.f s'.bl ρ' b w')(d:To X s.bl s'.bl ρ ρ' w w')(e:hf s.bl ρ w w' s'.ws):ji E W M0 X n b0 ρ0 w0 ⟨s'.f,s'.bl,s'.ws++s.ws⟩ ρ' b w':=
 ⟨c,h.to.trans d,h.wr.bI h.to e⟩
theorem YV(a7:di E)(i:lh E bu):∀(os:List Oper){s:eP E.T.El}{t:b9 E.T.El}{ρ:List Value}{a:Act}{w:World},(opsL E bu ops n.n os s).out t->ji E W M0 X n b0 ρ0 w0 s ρ a w->Fin E W M0 X n b0 ρ0 w0 t Q->wpList E.P ops Q os a w
 |[],s,t,ρ,a,w,c,h,k=>by
  have c:(⟨.nm,s⟩:b9 E.T.El)=t:=c;subst c;exact k ρ a w h
 |o::r,s,t,ρ,a,w,c,h,k=>by
  simp only[opsL]at c;split at c
  ·obtain⟨q,j,J⟩:=D.j9 c
   rw[DW]at J
   obtain⟨d,aL,u,l,hy⟩:=Zc (ops:=ops) a7 h.r j
   have next:=YV a7 i r J (ρ:=ρ) (a:=a.put (some d) u) (w:=w) ⟨l,h.to,h.wr⟩ k
   refine wpList_step λ K b8=>?_
   rcases hy with⟨e,hy⟩|⟨e,hy⟩
   ·rw[if_pos e]
    unfold Oper.wp
    rw[show(execOp a.eval o).run E.P w=_ from hy.now]
    show K (a.put o.dst u) w
    rw[aL]
    exact b8 _ _ next
   ·rw[if_neg (by simp[e]),aL,<-hy]
    exact b8 _ _ next
  ·exact c.elim
  ·obtain⟨b,j,J⟩:=D.j9 c
   have f:=ac4 a7 i h.r j
   have f:=f (wpList E.P ops Q r) Q λ ρ' m w' l p e=>by
    have aj:=h.next l p e;cases g:b.x with
    |nm=>
     rw[g]at J
     simp only[DW,PR]at J
     exact YV a7 i r J aj k
    |ex id=>
     rw[g]at J
     have J:(⟨.ex id,b.s.f,b.s.bl,b.s.ws++s.ws⟩:b9 E.T.El)=t:=J
     subst J
     exact k ρ' m w' aj
    |rt=>
     rw[g]at J
     have J:(⟨.rt,b.s.f,b.s.bl,b.s.ws++s.ws⟩:b9 E.T.El)=t:=J
     subst J
     exact k ρ' m w' aj
    |hZ y=>
     rw[g]at J
     have J:(⟨.hZ y,b.s.f,b.s.bl,b.s.ws++s.ws⟩:b9 E.T.El)=t:=J
     subst J
     exact k ρ' m w' aj
   unfold wpList
   split
   ·rename_i e
    rw[if_pos e]at f
    exact .inl f
   ·rename_i e
    rw[if_neg e]at f
    exact f
end
end bc
namespace bc
open Go Go.RowKit ay I
section
variable{P:Program}{ops:Array Oper}{Q:Exit->Act->World->Prop}
def kM(H:List (List Nat×(World->Prop)))(a:Array Bool)(w:World):Prop:=∀h∈H,(∀v∈h.1,a.getD v false=false)->h.2 w
def nB(P:Program)(ops:Array Oper)(Q:Exit->Act->World->Prop)(H:List (List Nat×(World->Prop))):Nat->Array Bool->Act->World->Prop
 |0,b,a,w=>Region.ready .any ops b=[]/\Q .normal a w
 |cM+1,b,a,w=>(Region.ready .any ops b=[]->Q .normal a w)/\ ∀i∈Region.ready .any ops b,wpOp P ops Q i (λ c w'=>kM H (b.setIfInBounds i true) w'/\nB P ops Q H cM (b.setIfInBounds i true) c w') a w
theorem ana{H:List (List Nat×(World->Prop))}:∀(cM:Nat)(b:Array Bool)(a:Act)(w:World),nB P ops Q H cM b a w->Go.wpAny P .any ops Q cM b a w
 |0,_,_,_,h=>h
 |cM+1,_,_,_,h=>⟨h.1,λ i hi=>wpOp_mono (λ c w' h'=>ana cM _ c w' h'.2) (h.2 i hi)⟩
theorem abv{H c:List (List Nat×(World->Prop))}(d:∀b w,kM H b w->kM c b w):∀(cM:Nat)(b:Array Bool)(a:Act)(w:World),nB P ops Q H cM b a w->nB P ops Q c cM b a w
 |0,_,_,_,h=>h
 |cM+1,_,_,_,h=>⟨h.1,λ i hi=>wpOp_mono (λ e w' h'=>⟨d _ _ h'.1,abv d cM _ e w' h'.2⟩) (h.2 i hi)⟩
theorem I9{a:Array Bool}{i v:Nat}(h:i≠v):(a.setIfInBounds i true).getD v false=a.getD v false:=getD_set_ne false h
theorem aIZ{a:Array Bool}{i v:Nat}(h:(a.setIfInBounds i true).getD v false=false):a.getD v false=false:=by
 by_cases e:i=v
 ·subst e
  rcases gL i a.size with h' |h'
  ·simp[h']at h
  ·simp[ib h']
 ·rwa [I9 e]at h
theorem anc{H:List (List Nat×(World->Prop))}{i:Nat}{oi:Oper}{v:Value}{S:World->Prop}{U V:List Nat}(hi:ops[i]? =some oi)(G:∀(j:Nat)(o:Oper) cs b,ops[j]? =some o->o.op≠ .select cs b)
 (T:∀c a w,Q (.panic c) (a.put oi.dst v) w->Q (.panic c) a w)(X:E2 ops i U)(Y:∀v∈V,v∈U)(Z:i∉V)(Ws:∀h∈H,i∉h.1) :
 ∀(t:Nat)(d:Array Bool)(a:Act)(w:World),
  (∀j g,ops[j]? =some g->j≠i->d.getD j true=false->(∀e∈g.after,Region.binds .any e=true->e.on≠i)->oi.apart ops g=true) ->
  (∀u∈U,d.getD u false=false)->i∈Region.ready .any ops d->kM H d w->S w->YieldsIf P ops S oi v a ->
  nB P ops Q ((V,S)::H) t (d.setIfInBounds i true) (a.put oi.dst v) w->nB P ops Q H (t+1) d a w:=by
 have mono:∀(d:Array Bool)(w:World),kM ((V,S)::H) d w->kM H d w:=λ d w h p q=>h p (dZ _ q)
 have put:∀ {d:Array Bool}{w:World},kM H d w->kM H (d.setIfInBounds i true) w:=λ{d w} h p q r=>h p q λ v l=>aIZ (r v l)
 intro t
 induction t with
 |zero=>
  intro d a w _ _ m D E hy W
  refine⟨λ h=>(by rw[h]at m;cases m),λ j aA=>?_⟩
  by_cases f:j=i
  ·subst f;exact hy.wpOp hi E ⟨put D,W⟩
  ·have:=ready_mono aA f
   rw[W.1]at this
   cases this
 |succ t a'=>
  intro d a w I s m D E hy W
  refine⟨λ h=>(by rw[h]at m;cases m),λ j aA=>?_⟩
  by_cases f:j=i
  ·subst f;exact hy.wpOp hi E ⟨put D,abv mono _ _ _ _ W⟩
  ·have n:=W.2 j (ready_mono aA f)
   obtain⟨K,g,A,L⟩:=mem_ready.1 aA
   have M:∀e∈g.after,Region.binds .any e=true->e.on≠i:=λ e B ag heq=>by
    have n:=L e B ag;have N:=(mem_ready.1 m).1;rw[heq]at n;rcases gL i d.size with h' |h'
    ·simp[h']at N n;rw[N]at n;cases n
    ·simp[ib h']at n
   have O:j∉U:=λ JH=>by
    obtain⟨c',F,e,B,ag,J⟩:=X j JH;rw[A]at F;simp only[aH]at F;subst F;rcases J with J |J
    ·exact M e B ag J
    ·have C:=L e B ag
     rw[s _ J]at C
     cases C
   have W':∀u∈U,(d.setIfInBounds j true).getD u false=false:=λ u r=>by
    have x:j≠u:=λ e=>O (e▸r);rw[I9 x];exact s u r
   have J:=wpOp_putIf A (I j g A f K M) (λ cs b=>G i oi cs b hi) (λ cs b=>G j g cs b A) T hy n
   have Jx:∀k ok,ops[k]? =some ok->k≠i->(d.setIfInBounds j true).getD k true=false ->
    (∀e∈ok.after,Region.binds .any e=true->e.on≠i)->oi.apart ops ok=true:=λ k ok hk JL s j0=>by
    refine I k ok hk JL ?_ j0
    by_cases R:j=k
    ·subst R;exact K
    ·rw[getD_set_ne true R]at s;exact s
   refine wpOp_mono (λ aU w' C=>?_) J
   obtain⟨qh,c3,jE⟩:=C
   have N9:S w':=c3 (V,S) (by simp) λ v l=>by
    have y:=Y v l;have x:j≠v:=λ e=>O (e▸y);have WO:i≠v:=λ e=>Z (e▸l);rw[I9 x,I9 WO];exact s v y
   have z:kM H (d.setIfInBounds j true) w':=λ p q r=>c3 p (dZ _ q) λ v l=>by
    have x:i≠v:=λ e=>Ws p q (e▸l);rw[jK _ _ (Ne.symm f),I9 x];exact r v l
   refine⟨z,a' (d.setIfInBounds j true) aU w' Jx W' (ready_mono m (Ne.symm f)) z N9 qh ?_⟩
   rw[jK _ _ f]
   exact jE
theorem aKg{H:List (List Nat×(World->Prop))}{i:Nat}{oi:Oper}{v:Value}(hi:ops[i]? =some oi)(l:∀(j:Nat)(o:Oper) cs b,ops[j]? =some o->o.op≠ .select cs b)
 (m:∀c a w,Q (.panic c) (a.put oi.dst v) w->Q (.panic c) a w)(n:∀h∈H,i∉h.1){g:Nat}{d:Array Bool}{a:Act}{w:World}
 (q:∀j k,ops[j]? =some k->j≠i->d.getD j true=false->(∀e∈k.after,Region.binds .any e=true->e.on≠i)->oi.apart ops k=true)
 (r:i∈Region.ready .any ops d)(s:kM H d w)(hy:YieldsIf P ops (λ _=>True) oi v a)(h:nB P ops Q H g (d.setIfInBounds i true) (a.put oi.dst v) w):nB P ops Q H (g+1) d a w:=
 anc (S:=λ _=>True) (U:=[]) (V:=[]) hi l m (λ u f=>by simp at f) (λ v t=>by simp at t) (by simp) n g d a w q (λ u f=>by simp at f) r s trivial hy
  (abv (λ d w h p aC f=>by
   rcases cI.1 aC with rfl |aC
   ·trivial
   ·exact h p aC f) _ _ _ _ h)
end
def Xz:Op->Bool
 | .select _ _=>true
 |_=>false
def y7(o:Oper)(i:Nat):Bool:=o.after.toList.any λ e=>Region.binds .any e&&cy e.on i
def aeZ(o:Oper)(d:Nat):Bool:=match o.dst with
 |some d'=>cy d' d
 |none=>false
def LK(ops:Array Oper)(x:Oper)(i:Nat)(d:Nat):Nat->List Oper->Bool
 |_,[]=>true
 |j,y::r=>(cy i j||(y7 x j||(!aeZ y d&&(!ff (y.looksAt ops) d||y7 y i))))&&LK ops x i d (j+1) r
def Ef(ops:Array Oper)(all:List Oper):Nat->List Oper->Bool
 |_,[]=>true
 |i,x::r=>(!Xz x.op&&(match x.dst with
  |none=>true
  |some d=>LK ops x i d 0 all))&&Ef ops all (i+1) r
section
variable{ops:Array Oper}
theorem OM{l:List Nat}{j:Nat}:ff l j=true↔j∈l:=by
 refine⟨sw,λ h=>?_⟩;induction l with
 |nil=>simp at h
 |cons i r a=>
  simp only[ff,ia]
  rcases cI.1 h with rfl |h
  ·exact .inl (by simp)
  ·exact .inr (a h)
theorem abu{x:Oper}{i d:Nat}:∀ {l:List Oper}{k:Nat},LK ops x i d k l=true-> ∀(m:Nat)(y:Oper),l[m]? =some y->i≠k+m->y7 x (k+m)=true\/(y.dst≠some d/\(d∈y.looksAt ops->y7 y i=true))
 |[],_,_,m,y,a,_=>by simp at a
 |z::r,k,h,m,y,a,b=>by
  simp only[LK,cb,ia,ha]at h;cases m with
  |zero=>
   simp only[dU,aH]at a
   subst a
   rcases h.1 with e |e |⟨c,ao⟩
   ·exact absurd (bd e) (by simpa using b)
   ·exact .inl (by simpa using e)
   ·refine .inr ⟨λ e=>?_,λ f=>?_⟩
    ·simp[aeZ,e]at c
    ·rcases ao with ao |ao
     ·rw[OM.2 f]at ao;cases ao
     ·exact ao
  |succ m=>
   have:=abu h.2 m y (by simpa using a) (by omega)
   rwa [show k+1+m=k+(m+1) by omega]at this
theorem Rf{all:List Oper}:∀ {l:List Oper}{k:Nat},Ef ops all k l=true-> ∀(m:Nat)(x:Oper),l[m]? =some x->Xz x.op=false/\ ∀d,x.dst=some d->LK ops x (k+m) d 0 all=true
 |[],_,_,m,x,a=>by simp at a
 |z::r,k,h,m,x,a=>by
  simp only[Ef,cb,ha]at h;cases m with
  |zero=>
   simp only[dU,aH]at a
   subst a
   refine⟨h.1.1,λ d aL=>?_⟩
   have:=h.1.2
   rw[aL]at this
   exact this
  |succ m=>
   have:=Rf h.2 m x (by simpa using a)
   rwa [show k+1+m=k+(m+1) by omega]at this
theorem T8{o:Oper}{i:Nat}(h:y7 o i=true):∃e∈o.after,Region.binds .any e=true/\e.on=i:=by
 simp only[y7,iY,cb]at h;obtain⟨e,a,J,b⟩:=h;exact⟨e,by simpa using a,J,bd b⟩
theorem am8(h:Ef ops ops.toList 0 ops.toList=true)(j:Nat)(o:Oper)(cs:_)(b:Bool)(a:ops[j]? =some o):o.op≠ .select cs b:=λ e=>by
 have:=(Rf h j o (by rw[hT];exact a)).1;rw[e]at this;simp[Xz]at this
theorem aKc(h:Ef ops ops.toList 0 ops.toList=true){c:Array Bool}(aj:c.size=ops.size){i:Nat}{oi:Oper}(hi:ops[i]? =some oi)(q:i∈Region.ready .any ops c) :
 ∀j a,ops[j]? =some a->j≠i->c.getD j true=false->(∀e∈a.after,Region.binds .any e=true->e.on≠i)->oi.apart ops a=true:=λ j a aA v f k=>by
 have l:ops.toList[i]? =some oi:=by rw[hT];exact hi
 have m:ops.toList[j]? =some a:=by rw[hT];exact aA
 have n:=(Rf h i oi l).2
 have o:=(Rf h j a m).2
 simp only[jM]at n o
 have done:y7 oi j=true->False:=λ hc=>by
  obtain⟨e,b,ao,aT⟩:=T8 hc;obtain⟨_,w,p,r⟩:=mem_ready.1 q;rw[hi]at p;cases p;have:=r e b ao;rw[aT]at this;have s:j<c.size:=by rw[aj];exact(gw.1 aA).1
  simp[s]at this f;rw[this]at f;cases f
 unfold Oper.apart
 rw[cb]
 constructor
 ·cases aL:oi.dst with
  |none=>rfl
  |some d=>
   rcases abu (n d aL) j a m (by omega)with hc |⟨t,g⟩
   ·exact(done (by simpa using hc)).elim
   simp only[cb,ha,bne_iff_ne,ne_eq]
   refine⟨?_,t⟩
   rw[gQ]
   intro hc
   obtain⟨e,b,ao,aT⟩:=T8 (g (by simpa using hc))
   exact k e b ao aT
 ·cases aL:a.dst with
  |none=>rfl
  |some d=>
   simp only[ha]
   rw[gQ]
   intro hc
   rcases abu (o d aL) i oi l (by omega)with u |⟨_,g⟩
   ·obtain⟨e,b,ao,aT⟩:=T8 (by simpa using u:y7 a i=true)
    exact k e b ao aT
   ·exact done (g (by simpa using hc))
end
end bc
namespace bc
open Go Go.RowKit ay I
inductive kl (El:Nat->Type):Type
 |ro
 |Cw (i:Nat)
 |cl (i o:Nat) (y:aI El)
def Nk{El:Nat->Type}(bl:List (aF El)):aI El->Bool
 | .b _ _=>true
 | .m _=>true
 | .r i g=>cy g (uc bl i)
 |_=>false
def aaK{El:Nat->Type}:aI El->aI El->Bool
 | .b i o,.b j p=>cy i j&&cy o p
 | .m i,.m j=>cy i j
 | .r i g,.r j h=>cy i j&&cy g h
 |_,_=>false
def TQ(E:Env)(bl:List (aF E.T.El))(f:cC E.T.El):Op->Option (Nat×Nat×aI E.T.El)
 | .load t x=>match od E bl f [] x with
   |some (.b i o)=>match nth bl i,lay E.P t with
    |some (.c _ cs),some (false,_)=>match nth cs o with
     |some y=>match Nk bl y with
      |true=>some (i,o,y)
      |false=>none
     |none=>none
    |_,_=>none
   |_=>none
 |_=>none
def Dm(P:Program)(o:Oper):Bool:=match O5 P o.op with
 | .q=>true
 |_=>false
def Cz(P:Program)(ops:Array Oper):List Nat->List Nat
 |[]=>[]
 |v::r=>match nth ops.toList v with
  |some o=>match Dm P o with
   |true=>Cz P ops r
   |false=>v::Cz P ops r
  |none=>Cz P ops r
def ends(P:Program)(ops:Array Oper)(i:Nat):List Nat:=Cz P ops (n9 ops.toList 0 i [])
def ahx(E:Env)(bl:List (aF E.T.El))(f:cC E.T.El)(op:Op)(b:Nat):kl E.T.El:=match TQ E bl f op with
 |some (i,o,y)=>.cl i o y
 |none=>.Cw b
def adS(E:Env)(ops:Array Oper)(bl:List (aF E.T.El))(f:cC E.T.El)(i:Nat)(op:Op)(aj:List (List Nat×kl E.T.El)):Option (Option Nat)->List (List Nat×kl E.T.El)
 |none=>aj
 |some none=>(ends E.P ops i,.ro)::aj
 |some (some b)=>(ends E.P ops i,ahx E bl f op b)::aj
def Oh{El:Nat->Type}(ws:List Nat)(bl':List (aF El)):kl El->Bool
 | .ro=>true
 | .Cw i=>!ff ws i
 | .cl i o y=>!ff ws i||match nth bl' i with
   |some (.c _ cs)=>match nth cs o with
    |some a=>aaK y a&&Nk bl' y
    |none=>false
   |_=>false
def Dq{El:Nat->Type}(e:Nat)(ws:List Nat)(bl':List (aF El)):List (List Nat×kl El)->Option (List (List Nat×kl El))
 |[]=>some []
 |(V,h)::r=>match Dq e ws bl' r with
  |none=>none
  |some a=>match ff V e with
   |true=>some a
   |false=>match Oh ws bl' h with
    |true=>some ((V,h)::a)
    |false=>none
section
variable{T:bT}{W w w':World}{M0:List Nat}{X:Nat->Prop}{bl bl':List (aF T.El)}{ρ ρ':List Value}
def vG(bl:List (aF T.El))(ρ:List Value)(q i:Nat):Prop:=∀j B h,bl[j]? =some B->ρ[j]? =some h->q∈bE B h->j=i
def MI(X:Nat->Prop)(bl:List (aF T.El))(ρ:List Value)(w:World)(S:World->Prop):kl T.El->Prop
 | .ro=>∃q,bk X bl ρ w q/\ ∀w':World,w'.heap[q]? =w.heap[q]? ->S w'
 | .Cw i=>∃q,q<w.heap.size/\vG bl ρ q i/\ ∀w':World,w'.heap[q]? =w.heap[q]? ->S w'
 | .cl i o y=>∃g u,ρ[i]? =some (.pointer (some ⟨g,0,none⟩))/\g<w.heap.size/\vG bl ρ g i/\aw T (bk X bl ρ w) w ρ bl y u/\w.cell? ⟨g,o,none⟩=some u/\ ∀w':World,w'.cell? ⟨g,o,none⟩=some u->S w'
def vE(X:Nat->Prop)(bl:List (aF T.El))(ρ:List Value)(w:World)(S:World->Prop)(h:kl T.El):Prop:=(∀w',S w')\/MI X bl ρ w S h
theorem vE.now{S:World->Prop}{h:kl T.El}(k:vE X bl ρ w S h):S w:=by
 rcases k with k |k
 ·exact k w
 ·cases h with
  |ro=>obtain⟨q,_,k⟩:=k;exact k w rfl
  |Cw i=>obtain⟨q,_,_,k⟩:=k;exact k w rfl
  |cl i o y=>obtain⟨g,u,_,_,_,_,hc,k⟩:=k;exact k w hc
theorem vG.to(a:To X bl bl' ρ ρ' w w'){q i:Nat}(b:q<w.heap.size)(h:vG bl ρ q i):vG bl' ρ' q i:=λ j B g aA c d=>by
 obtain⟨jg,e,f,ao,aT⟩:=a.om j B g aA c q d b;exact h j jg e f ao aT
theorem vG.ang{s:List Nat}(a:hf bl ρ w w' s){q i:Nat}(b:q<w.heap.size)(h:vG bl ρ q i)(hi:i∉s):w'.heap[q]? =w.heap[q]? :=
 a q b λ j aA B g ag c d=>hi (h j B g ag c d▸aA)
theorem avD(j:Mem T W M0 X bl ρ w){y:aI T.El}{u v:Value}(aL:Nk bl y=true)(a:aw T (bk X bl ρ w) w ρ bl y u)(b:aw T (bk X bl ρ w) w ρ bl y v):u=v:=by
 cases y<;>simp only[Nk,hX]at aL
 ·simp only[aw]at a b
  obtain⟨g,c,rfl⟩:=a
  obtain⟨g',J,rfl⟩:=b
  rw[c]at J
  simp only[aH,Value.pointer.injEq,Addr.mk.injEq]at J
  rw[J.1]
 ·rename_i i g
  simp only[aw]at a b
  have e:=bd aL
  rw[CJ]at e
  obtain⟨_,h,c,_,J⟩:=a
  obtain⟨_,h',d,_,f⟩:=b
  rw[c]at d
  cases d
  rw[J e,f e]
 ·simp only[aw]at a b
  obtain⟨g,c,rfl⟩:=a
  obtain⟨g',J,rfl⟩:=b
  rw[c]at J
  simp only[aH,Value.map.injEq]at J
  rw[J]
theorem aIN{y z:aI T.El}(h:aaK y z=true):y=z:=by
 unfold aaK at h;split at h
 ·simp only[cb]at h
  rw[bd h.1,bd h.2]
 ·rw[bd h]
 ·simp only[cb]at h
  rw[bd h.1,bd h.2]
 ·cases h
theorem vE.e8(l:Mem T W M0 X bl' ρ' w')(b:To X bl bl' ρ ρ' w w'){ws:List Nat}(m:hf bl ρ w w' ws){S:World->Prop}{h:kl T.El}(k:vE X bl ρ w S h)(hk:Oh ws bl' h=true):vE X bl' ρ' w' S h:=by
 rcases k with k |k
 ·exact .inl k
 refine .inr ?_;cases h with
 |ro=>
  obtain⟨q,c,J⟩:=k
  have:=b.F q c
  exact⟨q,this.1,λ w'' e=>J w'' (e.trans this.2)⟩
 |Cw i=>
  obtain⟨q,c,J,f⟩:=k
  simp only[Oh,ha]at hk
  have hi:i∉ws:=λ e=>by rw[OM.2 e]at hk;cases hk
  exact⟨q,fe c b.sz,J.to b c,λ w'' e=>f w'' (e.trans (J.ang m c hi))⟩
 |cl i o y=>
  obtain⟨g,u,c,J,f,p,r,s⟩:=k
  obtain⟨fl,n,ao,_⟩:=b.L.at_ i _ c
  have aT:=ao (by simp[kZ])
  subst aT
  have d:=b.v p
  refine⟨g,u,n,fe J b.sz,f.to b J,d,?_,s⟩
  simp only[Oh,ia,ha]at hk
  rcases hk with hk |hk
  ·have hi:i∉ws:=λ e=>by rw[OM.2 e]at hk;cases hk
   rw[<-r]
   exact World.cell?_of_block (a:=⟨g,o,none⟩) (f.ang m J hi)
  ·split at hk
   ·rename_i t cs ag
    split at hk
    ·rename_i C hy
     simp only[cb]at hk
     have:=aIN hk.1
     subst this
     rw[dh]at ag hy
     obtain⟨g',vs,j,x,z⟩:=l.ok i _ _ ag n
     simp only[Value.pointer.injEq,aH,Addr.mk.injEq]at j
     have j:=j.1
     subst j
     obtain⟨v,A,B⟩:=z.at_ hy
     rw[avD l hk.2 d B]
     have:=yZ (g:=g) (t:=t) (cs:=vs) (w:=w') (by simpa[bb.ck]using x) A
     simpa using this
    ·cases hk
   ·cases hk
def hb(P:Program)(ops:Array Oper)(X:Nat->Prop)(bl:List (aF T.El))(ρ:List Value)(w:World):List (List Nat×kl T.El)->List (List Nat×(World->Prop))->Prop
 |[],H=>H=[]
 |p::r,H=>∃S a,H=(p.1,S)::a/\(∀v∈p.1,∃o,ops[v]? =some o/\Dm P o=false)/\vE X bl ρ w S p.2/\hb P ops X bl ρ w r a
theorem hb.qB{P:Program}{ops:Array Oper}:∀ {aj:List (List Nat×kl T.El)}{H:List (List Nat×(World->Prop))},hb P ops X bl ρ w aj H-> ∀a,kM H a w
 |[],H,h,a=>by simp only[hb]at h;subst h;intro p b;simp at b
 |p::r,H,h,a=>by
  simp only[hb]at h;obtain⟨S,e,rfl,_,J,c⟩:=h;intro q aN d;rcases cI.1 aN with rfl |aN
  ·exact J.now
  ·exact hb.qB c a q aN d
theorem hb.aj9{P:Program}{ops:Array Oper}:∀ {aj:List (List Nat×kl T.El)}{H:List (List Nat×(World->Prop))},hb P ops X bl ρ w aj H-> ∀h∈H,∀v∈h.1,∃o,ops[v]? =some o/\Dm P o=false
 |[],H,h,p,a=>by simp only[hb]at h;subst h;simp at a
 |p::r,H,h,q,aN=>by
  simp only[hb]at h;obtain⟨S,d,rfl,b,_,c⟩:=h;rcases cI.1 aN with rfl |aN
  ·exact b
  ·exact hb.aj9 c q aN
theorem hb.e8{P:Program}{ops:Array Oper}(j:Mem T W M0 X bl' ρ' w')(k:To X bl bl' ρ ρ' w w'){ws:List Nat}(l:hf bl ρ w w' ws){e:Nat}:∀ {aj d:List (List Nat×kl T.El)}{H:List (List Nat×(World->Prop))},hb P ops X bl ρ w aj H->Dq e ws bl' aj=some d ->
 ∃m,hb P ops X bl' ρ' w' d m/\ ∀b w,b.getD e false=true->kM m b w->kM H b w
 |[],d,H,h,a=>by
  simp only[Dq,aH]at a;subst a;exact⟨H,h,λ _ _ _ h=>h⟩
 |(V,aL)::r,d,H,h,a=>by
  simp only[hb]at h;obtain⟨S,s,rfl,t,J,u⟩:=h;simp only[Dq]at a;split at a
  ·cases a
  ·rename_i z v
   obtain⟨g,n,o⟩:=hb.e8 j k l u v
   split at a
   ·rename_i x
    simp only[aH]at a
    subst a
    refine⟨g,n,λ b w f hc p aC c=>?_⟩
    rcases cI.1 aC with rfl |aC
    ·have:=c e (sw x)
     rw[f]at this
     cases this
    ·exact o b w f hc p aC c
   ·split at a
    ·rename_i i
     simp only[aH]at a
     subst a
     refine⟨(V,S)::g,?_,λ b w f hc p aC c=>?_⟩
     ·simp only[hb]
      exact⟨S,g,rfl,t,J.e8 j k l i,n⟩
     ·rcases cI.1 aC with rfl |aC
      ·exact hc _ (by simp) c
      ·exact o b w f (λ q y=>hc q (dZ _ y)) p aC c
    ·cases a
end
section
variable{E:Env}{W w w':World}{M0:List Nat}{X:Nat->Prop}{n:cE}{f:cC E.T.El}{bl:List (aF E.T.El)}{ρ:List Value}{a:Act}{ops:Array Oper}{o:Oper}
theorem akn(b:Mem E.T W M0 X bl ρ w){i:Nat}{B:aF E.T.El}{h:Value}(hi:bl[i]? =some B)(c:ρ[i]? =some h){q:Nat}(d:q∈bE B h):q<w.heap.size/\vG bl ρ q i:=by
 refine⟨(b.lt q ⟨i,B,h,hi,c,d⟩).1,λ j C g aA k l=>?_⟩;by_cases e:j=i
 ·exact e
 ·exact absurd l (b.bC i j B C h g hi c aA k (Ne.symm e) q d)
theorem au8(h:R E W M0 X n f bl ρ a w){i p:Nat}{y:aI E.T.El}(b:TQ E bl f o.op=some (i,p,y)):∃S,MI X bl ρ w S (.cl i p y)/\ ∃u,∀w',S w'->bh E.P o a w' u w':=by
 unfold TQ at b;split at b
 ·rename_i t x k
  split at b
  ·rename_i i' l m
   split at b
   ·rename_i t' cs gp d r
    split at b
    ·rename_i G hy
     split at b
     ·simp only[aH,cF]at b
      obtain⟨rfl,rfl,rfl⟩:=b
      have j:=dA h (cur:=[]) trivial m
      simp only[aw]at j
      obtain⟨g,e,ao⟩:=j
      rw[dh]at d hy
      obtain⟨g',vs,c,s,z⟩:=h.mem.ok i' _ _ d e
      simp only[Value.pointer.injEq,aH,Addr.mk.injEq]at c
      have c:=c.1
      subst c
      obtain⟨v,A,B⟩:=z.at_ hy
      obtain⟨C,D⟩:=akn h.mem d e (q:=g) (by simp[bE,ag])
      have hc:=yZ (g:=g) (t:=t') (cs:=vs) (w:=w) (by simpa[bb.ck]using s) A
      exact⟨λ w'=>w'.cell? ⟨g,l,none⟩=some v,⟨g,v,e,C,D,B,by simpa using hc,λ _ h=>h⟩,v,λ w' F=>yh (Kn r).1 k ao F⟩
     ·cases b
    ·cases b
   ·cases b
  ·cases b
 ·cases b
end
end bc
namespace bc
open Go Go.RowKit ay I
section
variable{T:bT}{W w w':World}{M0:List Nat}{X:Nat->Prop}{bl:List (aF T.El)}{ρ:List Value}{B C:aF T.El}{h g:Value}
theorem Hr(b:ρ.length=bl.length){j:Nat}{D:aF T.El}{u:Value}(aA:(bl++[B,C])[j]? =some D)(a:(ρ++[h,g])[j]? =some u) :
 (j<bl.length/\bl[j]? =some D/\ρ[j]? =some u)\/(j=bl.length/\D=B/\u=h)\/(j=bl.length+1/\D=C/\u=g):=by
 rcases gL j bl.length with e |e
 ·rw[eA e]at aA
  rw[eA (by rw[b];exact e)]at a
  exact .inl ⟨e,aA,a⟩
 ·rw[fq e]at aA
  rw[fq (by rw[b];exact e),b]at a
  right
  cases aL:j-bl.length with
  |zero=>
   rw[aL]at aA a
   simp only[dU,aH]at aA a
   exact .inl ⟨by omega,aA.symm,a.symm⟩
  |succ q=>
   cases q with
   |zero=>
    rw[aL]at aA a
    simp only[List.getElem?_cons_succ,dU,aH]at aA a
    exact .inr ⟨by omega,aA.symm,a.symm⟩
   |succ q=>rw[aL]at aA;simp at aA
theorem Mem.aa'(b:Mem T W M0 X bl ρ w)(c:br [] w w')(ad:∀k∈bE B h,w.heap.size<=k/\k<w'.heap.size)(ec:∀k∈bE C g,w.heap.size<=k/\k<w'.heap.size):To X bl (bl++[B,C]) ρ (ρ++[h,g]) w w':=by
 refine⟨λ k a=>⟨⟨a.1,?_,fe a.2.2 c.size⟩,c.block k a.2.2 (by simp)⟩,⟨λ j u aA=>?_⟩,c.size,λ j D u aA d k a l=>?_⟩
 ·rintro⟨j,D,u,aA,d,f⟩
  have:=a.2.2
  rcases Hr b.len aA d with⟨_,i,ao⟩|⟨_,rfl,rfl⟩|⟨_,rfl,rfl⟩
  ·exact a.2.1 ⟨j,D,u,i,ao,f⟩
  ·have:=(ad k f).1;omega
  ·have:=(ec k f).1;omega
 ·have e:=(aP.1 aA).1
  have e':j<bl.length:=by rw[<-b.len];exact e
  refine⟨u,by rw[eA e];exact aA,λ _=>rfl,?_⟩
  rw[eA e']
  exact⟨cT _,λ _=>⟨rfl,rfl,cT _,λ _=>rfl⟩⟩
 ·rcases Hr b.len aA d with⟨_,i,ao⟩|⟨_,rfl,rfl⟩|⟨_,rfl,rfl⟩
  ·exact⟨D,u,i,ao,a⟩
  ·have:=(ad k a).1;omega
  ·have:=(ec k a).1;omega
theorem Mem.akQ(d:Mem T W M0 X bl ρ w)(l:br [] w w')(ad:∀k∈bE B h,w.heap.size<=k/\k<w'.heap.size)(ec:∀k∈bE C g,w.heap.size<=k/\k<w'.heap.size)(aL:∀k∈bE B h,k∉bE C g)
 (q:jj T (bk X (bl++[B,C]) (ρ++[h,g]) w') w' (ρ++[h,g]) (bl++[B,C]) B h)(r:jj T (bk X (bl++[B,C]) (ρ++[h,g]) w') w' (ρ++[h,g]) (bl++[B,C]) C g):Mem T W M0 X (bl++[B,C]) (ρ++[h,g]) w':=by
 have p:=d.aa' l ad ec
 have j8:∀ {j:Nat}{D:aF T.El}{u:Value}{k:Nat},bl[j]? =some D->ρ[j]? =some u->k∈bE D u->k<w.heap.size:=λ{j D u k} s J t=>(d.lt k ⟨j,D,u,s,J,t⟩).1
 refine⟨d.bY.trans l (by simp),by simp[d.len],d.hW,?_,?_,?_⟩
 ·rintro k ⟨j,D,u,aA,i,c⟩
  rcases Hr d.len aA i with⟨_,e,ao⟩|⟨_,rfl,rfl⟩|⟨_,rfl,rfl⟩
  ·have:=d.lt k ⟨j,D,u,e,ao,c⟩
   exact⟨fe this.1 l.size,this.2⟩
  ·exact⟨(ad k c).2,.inr (hv d.bY.size (ad k c).1)⟩
  ·exact⟨(ec k c).2,.inr (hv d.bY.size (ec k c).1)⟩
 ·intro a b D G u v x i y z m k c f
  rcases Hr d.len x i with⟨_,e,ao⟩|⟨A,rfl,rfl⟩|⟨A,rfl,rfl⟩<;>rcases Hr d.len y z with⟨_,n,o⟩|⟨E,rfl,rfl⟩|⟨E,rfl,rfl⟩
  ·exact d.bC _ _ _ _ _ _ e ao n o m k c f
  ·have:=j8 e ao c;have:=(ad k f).1;omega
  ·have:=j8 e ao c;have:=(ec k f).1;omega
  ·have:=j8 n o f;have:=(ad k c).1;omega
  ·exact m (by omega)
  ·exact aL k c f
  ·have:=j8 n o f;have:=(ec k c).1;omega
  ·exact aL k f c
  ·exact m (by omega)
 ·intro j D u aA i
  rcases Hr d.len aA i with⟨_,e,ao⟩|⟨_,rfl,rfl⟩|⟨_,rfl,rfl⟩
  ·exact(d.ok j D u e ao).later p.F p.L λ k c=>l.block k (j8 e ao c) (by simp)
  ·exact q
  ·exact r
theorem MI.bY(b:br [] w w'){S:World->Prop}{d:kl T.El}(k:vE X bl ρ w S d):S w':=by
 rcases k with k |k
 ·exact k w'
 ·cases d with
  |ro=>obtain⟨q,c,k⟩:=k;exact k w' (b.block q c.2.2 (by simp))
  |Cw i=>obtain⟨q,c,_,k⟩:=k;exact k w' (b.block q c (by simp))
  |cl i o y=>
   obtain⟨g,u,_,J,_,_,hc,k⟩:=k
   refine k w' ?_
   rw[<-hc]
   exact World.cell?_of_block (a:=⟨g,o,none⟩) (b.block g J (by simp))
theorem hb.bY{P:Program}{ops:Array Oper}(b:br [] w w'):∀ {aj:List (List Nat×kl T.El)}{H:List (List Nat×(World->Prop))},hb P ops X bl ρ w aj H-> ∀a,kM H a w'
 |[],H,h,a=>by simp only[hb]at h;subst h;intro p c;simp at c
 |p::r,H,h,a=>by
  simp only[hb]at h;obtain⟨S,f,rfl,_,J,d⟩:=h;intro q aN e;rcases cI.1 aN with rfl |aN
  ·exact MI.bY b J
  ·exact hb.bY b d a q aN e
end
def two(E:Env)(n:Nat)(bl:List (aF E.T.El))(f:cC E.T.El)(oi a:Oper):Option (cC E.T.El×List (aF E.T.El)):=match oi.op,a.op,oi.guard,a.guard,oi.dst,a.dst with
 | .alloc ti,.alloc c,none,none,some b,some bC=>match EZ E.P ti,EZ E.P c,fs b n&&(fs bC n&& !cy b bC)with
   |some d,some e,true=>some ((f.put b (.b bl.length 0)).put bC (.b (bl.length+1) 0),bl++[.c ti (d.map .p),.c c (e.map .p)])
   |_,_,_=>none
 |_,_,_,_,_,_=>none
section
variable{E:Env}{W w:World}{M0:List Nat}{X:Nat->Prop}{n:cE}{f f2:cC E.T.El}{bl yY:List (aF E.T.El)}{ρ:List Value}{a:Act}{oi dW:Oper}
abbrev uY(g:Nat):Value:=.pointer (some ⟨g,0,none⟩)
theorem aJC(h:R E W M0 X n f bl ρ a w)(i:two E n.n bl f oi dW=some (f2,yY)):∃m bC ti o j l,oi.dst=some m/\dW.dst=some bC/\m≠bC/\oi.guard=none/\dW.guard=none/\
 (∀a w,bh E.P oi a w (uY w.heap.size) (w.alloc (.cells ⟨j⟩ ti)))/\(∀a w,bh E.P dW a w (uY w.heap.size) (w.alloc (.cells ⟨l⟩ o)))/\
 ∀d g b,br [] w b->w.heap.size<=d->d<b.heap.size->w.heap.size<=g->g<b.heap.size->d≠g->b.heap[d]? =some (.cells ⟨j⟩ ti (0,0))->b.heap[g]? =some (.cells ⟨l⟩ o (0,0)) ->
  ∃r,R E W M0 X n f2 yY r ((a.put (some m) (uY d)).put (some bC) (uY g)) b/\To X bl yY ρ r w b/\hf bl ρ w b []:=by
 unfold two at i
 split at i
 ·rename_i ti o m bC u J v x y z
  split at i
  ·rename_i j l A ao aT
   simp only[cb,ha]at aT
   obtain⟨p,B,C⟩:=aT
   simp only[aH,cF]at i
   obtain⟨rfl,rfl⟩:=i
   obtain⟨S,D,F⟩:=Mt A
   obtain⟨G,l1,H⟩:=Mt ao
   refine⟨m,bC,ti,o,j,l,y,z,λ e=>by subst e;simp at C,v,x,λ a w=>Bu D F u,λ a w=>Bu l1 H J,λ d g b q I K L M N O P=>?_⟩
   have ad:∀k∈bE (aF.c (El:=E.T.El) ti (j.map .p)) (uY d),w.heap.size<=k/\k<b.heap.size:=λ k c=>by
    simp only[bE,ag,dT]at c;subst c;exact⟨I,K⟩
   have ec:∀k∈bE (aF.c (El:=E.T.El) o (l.map .p)) (uY g),w.heap.size<=k/\k<b.heap.size:=λ k c=>by
    simp only[bE,ag,dT]at c;subst c;exact⟨L,M⟩
   have s:=h.mem.aa' q ad ec
   have Q:=h.mem.akQ q ad ec (λ k c t=>by
    simp only[bE,ag,dT]at c t;exact N (c.symm.trans t)) ⟨d,j,rfl,O,s0 j⟩ ⟨g,l,rfl,P,s0 l⟩
   refine⟨_,((h.to s Q).put p ?_).put B ?_,s,λ k c _=>q.block k c (by simp)⟩
   ·simp only[aw]
    exact⟨d,by rw[<-h.mem.len];simp,rfl⟩
   ·simp only[aw]
    exact⟨g,by rw[<-h.mem.len];simp,rfl⟩
  ·cases i
 ·cases i
end
end bc
namespace bc
open Go Go.RowKit ay I
def sY(ds:List Nat)(o:Oper):Bool:=o.after.toList.all λ e=>!Region.binds .any e||ff ds e.on
def KQ(P:Program)(ds:List Nat):List (Nat×Oper)->Option (Nat×Oper)
 |[]=>none
 |(i,o)::r=>match Dm P o&&sY ds o with
  |true=>some (i,o)
  |false=>KQ P ds r
def nv(ds:List Nat):List (Nat×Oper)->List (Nat×Oper)
 |[]=>[]
 |(i,o)::r=>match sY ds o with
  |true=>(i,o)::nv ds r
  |false=>nv ds r
def mx(i:Nat):List (Nat×Oper)->List (Nat×Oper)
 |[]=>[]
 |(j,o)::r=>match cy j i with
  |true=>mx i r
  |false=>(j,o)::mx i r
def GJ:Nat->List Oper->List (Nat×Oper)
 |_,[]=>[]
 |i,o::r=>(i,o)::GJ (i+1) r
noncomputable def vQ(E:Env)(bu:fp E)(ops:Array Oper)(n:Nat):Nat->List (Nat×Oper)->List Nat->List (List Nat×kl E.T.El)->eP E.T.El->D (b9 E.T.El)
 |0,rem,ds,_,s=>match nv ds rem with
  |[]=>.ok ⟨.nm,s⟩
  |_=>.no
 |cM+1,rem,ds,aj,s=>match KQ E.P ds rem with
  |some (i,o)=>(Qc E ops n s.bl s.f o).bind λ q=>DV E q.f λ f=>vQ E bu ops n cM (mx i rem) (i::ds) (adS E ops s.bl s.f i o.op aj q.aL) ⟨f,s.bl,s.ws⟩
  |none=>match nv ds rem with
   |[]=>.ok ⟨.nm,s⟩
   |[(i,o)]=>(Sd E bu ops n s.bl s.f o).bind λ t=>match t.x with
    | .nm=>match Dq i t.s.ws t.s.bl aj with
      |some b=>DV E t.s.f λ f=>KH E t.s.ws s.bl.length t.s.bl λ bl=>vQ E bu ops n cM (mx i rem) (i::ds) b ⟨f,bl,t.s.ws++s.ws⟩
      |none=>.no
    |x=>.ok ⟨x,t.s.f,t.s.bl,t.s.ws++s.ws⟩
   |[(i,oi),(j,c)]=>match two E n s.bl s.f oi c with
    |some (d,a)=>match nv (i::ds) (mx i rem),nv (j::ds) (mx j rem)with
     |[(gB,_)],[(i',_)]=>match cy gB j&&cy i' i,Dq i [] a aj with
      |true,some e=>match Dq j [] a e,cM with
       |some J,cM+1=>DV E d λ f=>KH E [] s.bl.length a λ bl=>vQ E bu ops n cM (mx j (mx i rem)) (j::i::ds) J ⟨f,bl,s.ws⟩
       |_,_=>.no
      |_,_=>.no
     |_,_=>.no
    |none=>.no
   |_=>.no
structure yR (ops:Array Oper) (rem:List (Nat×Oper)) (ds:List Nat):Prop where
 mem:∀i o,(i,o)∈rem↔ops[i]? =some o/\i∉ds
 lt:∀i∈ds,i<ops.size
 cl:∀i∈ds,∀o,ops[i]? =some o->sY ds o=true
section
variable{ops:Array Oper}{rem:List (Nat×Oper)}{ds:List Nat}
theorem Pr{n:Nat}:∀ {ds:List Nat},(dV n ds).size=n
 |[]=>by simp[dV]
 |i::r=>by simp[dV,Pr (ds:=r)]
theorem GB{n j:Nat}{b:Bool}:∀ {ds:List Nat},j∈ds->j<n->(dV n ds).getD j b=true
 |i::r,h,a=>by
  simp only[dV,e0,f_];by_cases e:i=j
  ·subst e;simp[Pr,a]
  ·rw[if_neg e]
   rcases cI.1 h with rfl |h
   ·exact absurd rfl e
   ·have:=GB (b:=b) h a
    simpa[e0]using this
theorem Pq{n j:Nat}:∀ {ds:List Nat},j∉ds->(dV n ds).getD j false=false
 |[],_=>by
  simp only[dV,e0,Array.getElem?_replicate];split<;>rfl
 |i::r,h=>by
  simp only[cI,not_or]at h;have:=Pq (n:=n) h.2;simp only[dV,e0,f_,if_neg (Ne.symm h.1)]at this⊢;exact this
theorem aEd{n j:Nat}(b:j<n)(h:j∉ds):(dV n ds).getD j true=false:=by
 have a:=Pq (n:=n) h;have c:j<(dV n ds).size:=by rw[Pr];exact b
 simp only[e0,jJ c,jd]at a⊢;exact a
theorem K8{o:Oper}:sY ds o=true↔ ∀e∈o.after,Region.binds .any e=true->e.on∈ds:=by
 simp only[sY,k_,ia,ha];constructor
 ·intro h e a ag
  rcases h e (by simpa using a)with h |h
  ·rw[ag]at h;cases h
  ·exact sw h
 ·intro h e a
  cases ag:Region.binds .any e with
  |false=>exact .inl rfl
  |true=>exact .inr (OM.2 (h e (by simpa using a) ag))
theorem u3(c:yR ops rem ds){i:Nat}:i∈Region.ready .any ops (dV ops.size ds)↔ ∃o,(i,o)∈rem/\sY ds o=true:=by
 rw[mem_ready];constructor
 ·rintro⟨a,o,J,b⟩
  have f:=(gw.1 J).1
  refine⟨o,(c.mem i o).2 ⟨J,λ e=>?_⟩,K8.2 λ e d ag=>?_⟩
  ·rw[GB e f]at a;cases a
  ·by_cases aL:e.on∈ds
   ·exact aL
   ·have:=b e d ag
    rw[Pq aL]at this
    cases this
 ·rintro⟨o,a,J⟩
  obtain⟨b,g⟩:=(c.mem i o).1 a
  refine⟨aEd (gw.1 b).1 g,o,b,λ e d ag=>?_⟩
  have:=K8.1 J e d ag
  exact GB this (c.lt _ this)
theorem aaE{i j:Nat}{o:Oper}:∀ {rem:List (Nat×Oper)},(j,o)∈mx i rem↔(j,o)∈rem/\j≠i
 |[]=>by simp[mx]
 |(k,p)::r=>by
  simp only[mx];cases ag:cy k i with
  |true=>
   have:=bd ag
   subst this
   rw[aaE (rem:=r)]
   simp only[cI,cF]
   constructor
   ·rintro⟨h1,J⟩;exact⟨.inr h1,J⟩
   ·rintro⟨h1,J⟩
    rcases h1 with⟨h1,_⟩|h1
    ·exact absurd h1 J
    ·exact⟨h1,J⟩
  |false=>
   have a:k≠i:=λ e=>by subst e;simp at ag
   simp only[cI,cF,aaE (rem:=r)]
   constructor
   ·rintro(⟨rfl,rfl⟩|⟨h1,J⟩)
    ·exact⟨.inl ⟨rfl,rfl⟩,a⟩
    ·exact⟨.inr h1,J⟩
   ·rintro⟨h1 |h1,J⟩
    ·exact .inl h1
    ·exact .inr ⟨h1,J⟩
theorem yR.next(f:yR ops rem ds){i:Nat}{o:Oper}(hi:(i,o)∈rem)(h:sY ds o=true):yR ops (mx i rem) (i::ds):=by
 obtain⟨g,J⟩:=(f.mem i o).1 hi;have up:∀ {p:Oper},sY ds p=true->sY (i::ds) p=true:=λ{p} d=>K8.2 λ e k ag=>dZ _ (K8.1 d e k ag);refine⟨λ j p=>?_,λ j aA=>?_,λ j aA p d=>?_⟩
 ·rw[aaE,f.mem]
  simp only[cI,not_or]
  exact⟨λ⟨⟨a,b⟩,c⟩=>⟨a,c,b⟩,λ⟨a,c,b⟩=>⟨⟨a,b⟩,c⟩⟩
 ·rcases cI.1 aA with rfl |aA
  ·exact(gw.1 g).1
  ·exact f.lt j aA
 ·rcases cI.1 aA with rfl |aA
  ·rw[g]at d;cases d;exact up h
  ·exact up (f.cl j aA p d)
theorem akB{P:Program}{i:Nat}{o:Oper}:∀ {rem:List (Nat×Oper)},KQ P ds rem=some (i,o)->(i,o)∈rem/\Dm P o=true/\sY ds o=true
 |[],h=>by simp[KQ]at h
 |(k,p)::r,h=>by
  simp only[KQ]at h;split at h
  ·rename_i ag
   simp only[aH,cF]at h
   obtain⟨rfl,rfl⟩:=h
   rw[cb]at ag
   exact⟨by simp,ag⟩
  ·obtain⟨a,J⟩:=akB h
   exact⟨dZ _ a,J⟩
theorem ri{i:Nat}{o:Oper}:∀ {rem:List (Nat×Oper)},(i,o)∈nv ds rem↔(i,o)∈rem/\sY ds o=true
 |[]=>by simp[nv]
 |(k,p)::r=>by
  simp only[nv];split
  ·rename_i ag
   simp only[cI,cF,ri (rem:=r)]
   constructor
   ·rintro(⟨rfl,rfl⟩|⟨h1,J⟩)
    ·exact⟨.inl ⟨rfl,rfl⟩,ag⟩
    ·exact⟨.inr h1,J⟩
   ·rintro⟨h1 |h1,J⟩
    ·exact .inl h1
    ·exact .inr ⟨h1,J⟩
  ·rename_i ag
   simp only[cI,cF,ri (rem:=r)]
   constructor
   ·rintro⟨h1,J⟩;exact⟨.inr h1,J⟩
   ·rintro⟨⟨rfl,rfl⟩|h1,J⟩
    ·rw[J]at ag;cases ag
    ·exact⟨h1,J⟩
theorem aly(a:yR ops rem ds)(h:nv ds rem=[]):Region.ready .any ops (dV ops.size ds)=[]:=by
 refine List.eq_nil_iff_forall_not_mem.2 λ i hi=>?_;obtain⟨o,b,J⟩:=(u3 a).1 hi;have:=(ri (ds:=ds)).2 ⟨b,J⟩;rw[h]at this;simp at this
theorem aj_{i:Nat}{o:Oper}:∀ {l:List Oper}{k:Nat},(i,o)∈GJ k l↔k<=i/\l[i-k]? =some o
 |[],k=>by simp[GJ]
 |p::r,k=>by
  simp only[GJ,cI,cF,aj_ (l:=r)];constructor
  ·rintro(⟨rfl,rfl⟩|⟨h1,J⟩)
   ·exact⟨cT _,by simp⟩
   ·refine⟨by omega,?_⟩
    rw[show i-k=(i- (k+1))+1 by omega]
    simpa using J
  ·rintro⟨h1,J⟩
   rcases Nat.eq_or_lt_of_le h1 with rfl |h1
   ·left;simpa using J.symm
   ·right
    refine⟨h1,?_⟩
    rw[show i-k=(i- (k+1))+1 by omega]at J
    simpa using J
theorem aIe:yR ops (GJ 0 ops.toList) []:=⟨λ i o=>by rw[aj_];simp,λ i hi=>by simp at hi,λ i hi=>by simp at hi⟩
theorem aeU(a:yR ops rem ds){i:Nat}(hi:i∉ds):∀ {l:List Oper}{k:Nat}{acc:List Nat},(∀m o,l[m]? =some o->ops[k+m]? =some o)->(∀u∈acc,u∉ds)-> ∀u∈n9 l k i acc,u∉ds
 |[],_,_,_,h=>h
 |o::r,k,acc,b,h=>by
  rw[n9];refine aeU a hi (λ m c d=>by have:=b (m+1) c (by simpa using d);rwa [show k+(m+1)=k+1+m by omega]at this) ?_;split
  ·rename_i ag
   intro u hu
   rcases cI.1 hu with rfl |hu
   ·intro f
    simp only[iY,cb,ia]at ag
    obtain⟨e,g,j,J⟩:=ag
    have:=K8.1 (a.cl u f o (by simpa using b 0 o rfl)) e (by simpa using g) j
    rcases J with J |J
    ·rw[bd J]at this;exact hi this
    ·exact h _ (sw J) this
   ·exact h u hu
  ·exact h
theorem IU{P:Program}{v:Nat}:∀ {l:List Nat},v∈Cz P ops l->v∈l/\ ∃o,ops[v]? =some o/\Dm P o=false
 |[],h=>by simp[Cz]at h
 |k::r,h=>by
  simp only[Cz]at h;split at h
  ·rename_i o b
   rw[dh,hT]at b
   split at h
   ·obtain⟨a,J⟩:=IU h;exact⟨dZ _ a,J⟩
   ·rename_i c
    rcases cI.1 h with rfl |h
    ·exact⟨by simp,o,b,c⟩
    ·obtain⟨a,J⟩:=IU h;exact⟨dZ _ a,J⟩
  ·obtain⟨a,J⟩:=IU h;exact⟨dZ _ a,J⟩
end
def mN(Q:Exit->Act->World->Prop):Exit->Act->World->Prop
 | .panic c,a,w=>∀b,b.defers=a.defers->Q (.panic c) b w
 |e,a,w=>Q e a w
theorem mN.imp{Q:Exit->Act->World->Prop}:∀(e:Exit)(a:Act)(w:World),mN Q e a w->Q e a w:=λ e a w h=>by
 cases e<;>first |exact h |exact h a rfl
theorem mN.put{Q:Exit->Act->World->Prop}{d:Option Nat}{v:Value}(c:List PanicEntry)(a:Act)(w:World)(h:mN Q (.panic c) (a.put d v) w):mN Q (.panic c) a w:=λ b e=>h b (by rw[e];cases d<;>rfl)
section
variable{E:Env}{bu:fp E}{W:World}{M0:List Nat}{X:Nat->Prop}{n:cE}{b0:List (aF E.T.El)}{ρ0:List Value}{w0:World}{ops:Array Oper}{Q:Exit->Act->World->Prop}
theorem Rg{P:Program}{H c:List (List Nat×(World->Prop))}{i:Nat}(d:∀(b:Array Bool) w,b.getD i false=true->kM H b w->kM c b w):∀(cM:Nat)(b:Array Bool)(a:Act)(w:World),b.getD i false=true->nB P ops Q H cM b a w->nB P ops Q c cM b a w
 |0,_,_,_,_,h=>h
 |cM+1,_,_,_,e,h=>⟨h.1,λ j aA=>wpOp_mono (λ f w' h'=>⟨d _ _ (getD_set_true e) h'.1,Rg d cM _ f w' (getD_set_true e) h'.2⟩) (h.2 j aA)⟩
theorem Yi{m i:Nat}{ds:List Nat}:(dV m ds).setIfInBounds i true=dV m (i::ds):=rfl
theorem Iv(a7:di E)(aD:lh E bu)(I:Ef ops ops.toList 0 ops.toList=true):∀(cM:Nat){rem:List (Nat×Oper)}{ds:List Nat}{aj:List (List Nat×kl E.T.El)}{H:List (List Nat×(World->Prop))}{s:eP E.T.El}{t:b9 E.T.El}{ρ:List Value}{a:Act}{w:World},
 (vQ E bu ops n.n cM rem ds aj s).out t->ji E W M0 X n b0 ρ0 w0 s ρ a w->yR ops rem ds->hb E.P ops X s.bl ρ w aj H->Fin E W M0 X n b0 ρ0 w0 t Q->nB E.P ops (mN Q) H cM (dV ops.size ds) a w
 |0,rem,ds,aj,H,s,t,ρ,a,w,f,h,l,C,k=>by
  simp only[vQ]at f;split at f
  ·rename_i aB
   have f:(⟨.nm,s⟩:b9 E.T.El)=t:=f
   subst f
   exact⟨aly l aB,k ρ a w h⟩
  ·exact f.elim
 |cM+1,rem,ds,aj,H,s,t,ρ,a,w,f,h,l,C,k=>by
  simp only[vQ]at f;split at f
  ·rename_i i o aC
   obtain⟨L,eO,fJ⟩:=akB aC
   obtain⟨F,sU⟩:=(l.mem i o).1 L
   obtain⟨q,h1,J⟩:=D.j9 f
   rw[DW]at J
   obtain⟨d,aL,u,aAE,hy⟩:=Zc (ops:=ops) a7 h.r h1
   have nc:ji E W M0 X n b0 ρ0 w0 ⟨q.f,s.bl,s.ws⟩ ρ (a.put (some d) u) w:=⟨aAE,h.to,h.wr⟩
   have mb:=l.next L fJ
   have Gg:=(u3 l).2 ⟨o,L,fJ⟩
   have pz:=aKc I (Pr (ds:=ds)) F Gg
   have wC:=C.qB (dV ops.size ds)
   have ahV:∀h∈H,i∉h.1:=λ p aC hi=>by
    obtain⟨M,g,ao⟩:=C.aj9 p aC i hi;rw[F]at g;cases g;rw[eO]at ao;cases ao
   have qJ:∀v∈ends E.P ops i,v∈n9 ops.toList 0 i []:=λ v N=>(IU N).1
   have ahq:∀v∈ends E.P ops i,∃o,ops[v]? =some o/\Dm E.P o=false:=λ v N=>(IU N).2
   have Wt:i∉ends E.P ops i:=λ hi=>by
    obtain⟨M,g,ao⟩:=ahq i hi;rw[F]at g;cases g;rw[eO]at ao;cases ao
   have Jn:E2 ops i (n9 ops.toList 0 i []):=TZ (λ m o hm=>by simpa using hm) (λ u O=>by simp at O)
   have ayI:∀u∈n9 ops.toList 0 i [],(dV ops.size ds).getD u false=false:=λ u O=>Pq (aeU l sU (λ m o hm=>by simpa using hm) (λ u O=>by simp at O) u O)
   have one:∀(sk:kl E.T.El)(S:World->Prop),vE X s.bl ρ w S sk->YieldsIf E.P ops S o u a->(vQ E bu ops n.n cM (mx i rem) (i::ds) ((ends E.P ops i,sk)::aj) ⟨q.f,s.bl,s.ws⟩).out t->nB E.P ops (mN Q) H (cM+1) (dV ops.size ds) a w:=λ sk S g ao aT=>by
    have next:=Iv a7 aD I cM aT nc mb (H:=(ends E.P ops i,S)::H) (by simp only[hb];exact⟨S,H,rfl,ahq,g,C⟩) k
    refine anc F (am8 I) (λ c a w h=>mN.put c a w h) Jn qJ Wt ahV cM _ a w pz ayI Gg wC g.now ao ?_;rw[aL];exact next
   have free:(vQ E bu ops n.n cM (mx i rem) (i::ds) aj ⟨q.f,s.bl,s.ws⟩).out t->YieldsIf E.P ops (λ _=>True) o u a->nB E.P ops (mN Q) H (cM+1) (dV ops.size ds) a w:=λ aT ao=>by
    have next:=Iv a7 aD I cM aT nc mb C k
    refine aKg F (am8 I) (λ c a w h=>mN.put c a w h) ahV pz Gg wC ao ?_;rw[aL];exact next
   rcases hy with⟨r,hy⟩|⟨r,hy⟩
   ·cases JB:q.aL with
    |none=>
     rw[JB]at J hy
     exact free J (.inl ⟨r,λ w' _=>hy w'⟩)
    |some b=>
     rw[JB]at J hy
     obtain⟨KV,S,cJ,iI,qh,H2⟩:=hy
     cases b with
     |none=>exact one .ro S (.inr ⟨KV,cJ,qh⟩) (.inl ⟨r,H2⟩) J
     |some b=>
      obtain⟨B,bR,vy,z2,z3⟩:=cJ
      obtain⟨dz,cP⟩:=akn h.r.mem vy z2 z3
      simp only[adS,ahx]at J
      split at J
      ·rename_i i' M fm f'
       obtain⟨Fk,U,p2,G⟩:=au8 (o:=o) h.r f'
       have g:vE X s.bl ρ w Fk (.cl i' M fm):=.inr U
       have ao:=G w g.now
       have aT:=H2 w iI
       have O:p2=u:=by
        have:=(show(execOp a.eval o).run E.P w=_ from ao).symm.trans (show(execOp a.eval o).run E.P w=_ from aT);injection this with this;injection this
       subst O
       exact one _ Fk g (.inl ⟨r,G⟩) J
      ·exact one (.Cw b) S (.inr ⟨KV,dz,(cP:vG s.bl ρ KV b),qh⟩) (.inl ⟨r,H2⟩) J
   ·have wU:YieldsIf E.P ops (λ _=>True) o u a:=.inr ⟨r,hy⟩
    cases JB:q.aL with
    |none=>rw[JB]at J;exact free J wU
    |some b=>
     rw[JB]at J
     cases b with
     |none=>exact one _ _ (.inl λ _=>trivial) wU J
     |some b=>exact one _ _ (.inl λ _=>trivial) wU J
  ·split at f
   ·rename_i aB
    have f:(⟨.nm,s⟩:b9 E.T.El)=t:=f
    subst f
    exact⟨λ _=>k ρ a w h,by rw[aly l aB];simp⟩
   ·rename_i i o C3
    have JE:(i,o)∈nv ds rem:=by rw[C3];simp
    obtain⟨L,fJ⟩:=ri.1 JE
    obtain⟨F,sU⟩:=(l.mem i o).1 L
    have mb:=l.next L fJ
    have bD:=(gw.1 F).1
    have Gg:=(u3 l).2 ⟨o,L,fJ⟩
    obtain⟨x,h1,J⟩:=D.j9 f
    have V:=ac4 a7 aD h.r h1
    refine⟨λ e=>by rw[e]at Gg;simp at Gg,λ j aA=>?_⟩
    have fH:j=i:=by
     obtain⟨M,g,ao⟩:=(u3 l).1 aA;have:=ri.2 ⟨g,ao⟩;rw[C3]at this;simp only[dT,cF]at this;exact this.1
    subst fH
    have V:=V (λ Y w'=>kM H ((dV ops.size ds).setIfInBounds j true) w'/\nB E.P ops (mN Q) H cM ((dV ops.size ds).setIfInBounds j true) Y w') (mN Q) λ ρ' Y w' ky aJ r=>by
     have Z:=h.next ky aJ r;cases kW:x.x with
     |nm=>
      rw[kW]at J
      simp only at J
      split at J
      ·rename_i cg hk
       obtain⟨mK,U,G⟩:=C.e8 ky.mem aJ r hk
       simp only[DW,PR]at J
       have next:=Iv a7 aD I cM J Z mb U k
       have al:((dV ops.size ds).setIfInBounds j true).getD j false=true:=GB (ds:=j::ds) (by simp) bD
       exact⟨G _ _ al (U.qB _),Rg G cM _ Y w' al next⟩
      ·exact J.elim
     |ex id=>
      rw[kW]at J
      have J:(⟨.ex id,x.s.f,x.s.bl,x.s.ws++s.ws⟩:b9 E.T.El)=t:=J
      subst J
      exact k ρ' Y w' Z
     |rt=>
      rw[kW]at J
      have J:(⟨.rt,x.s.f,x.s.bl,x.s.ws++s.ws⟩:b9 E.T.El)=t:=J
      subst J
      exact k ρ' Y w' Z
     |hZ y=>
      rw[kW]at J
      have J:(⟨.hZ y,x.s.f,x.s.bl,x.s.ws++s.ws⟩:b9 E.T.El)=t:=J
      subst J
      have:=k ρ' Y w' Z
      exact λ v N b ag kp gz=>this v N kp (gz.trans ag)
    unfold wpOp
    simp only[F]
    split
    ·rename_i r
     rw[if_pos r]at V
     exact .inl V
    ·rename_i r
     rw[if_neg r]at V
     exact V
   ·rename_i i oi j dW CY
    split at f
    ·rename_i f2 dF aAW
     split at f
     ·rename_i gB PT i' akb b_ dc
      split at f
      ·rename_i h1 g ao
       split at f
       ·rename_i J cM aT
        simp only[DW,PR]at f
        simp only[cb]at g
        have awM:=bd g.1
        have T_:=bd g.2
        subst awM;subst T_
        obtain⟨r4,bC,ti,rm,ql,qm,d1,d2,b2,ag4,ag5,apM,apN,fin⟩:=aJC h.r aAW
        obtain⟨Y4,akA⟩:=ri.1 (show(i',oi)∈nv ds rem by rw[CY];simp)
        obtain⟨akD,aFy⟩:=ri.1 (show(gB,dW)∈nv ds rem by rw[CY];simp)
        obtain⟨P2,aOV⟩:=(l.mem i' oi).1 Y4
        obtain⟨G2,aOW⟩:=(l.mem gB dW).1 akD
        have azJ:i'≠gB:=λ e=>by
         subst e;rw[P2]at G2;cases G2;rw[d1]at d2;exact b2 (eJ d2)
        have OC:=l.next Y4 akA
        have ah4:=l.next akD aFy
        obtain⟨Z5,ak3⟩:=ri.1 (show(gB,PT)∈nv (i'::ds) (mx i' rem) by rw[b_];simp)
        have awN:PT=dW:=by
         have:=((OC.mem gB PT).1 Z5).1;rw[G2]at this;exact(eJ this).symm
        subst awN
        have ky:=OC.next Z5 ak3
        have li:=(gw.1 P2).1
        have aDP:=(gw.1 G2).1
        have step:∀ {q:Nat}{o:Oper}{d t:Nat}{z:List Value}{b:Act}{v:World}{K:Act->World->Prop},ops[q]? =some o->o.guard=none->o.dst=some d->bh E.P o b v (uY v.heap.size) (v.alloc (.cells ⟨z⟩ t))->K (b.put (some d) (uY v.heap.size)) (v.alloc (.cells ⟨z⟩ t))->wpOp E.P ops (mN Q) q K b v:=by
         intro q o d t z b v K aN az aL hy b8;have r:Region.wanted o (yielded ops b.tmps)=true:=Q' az;unfold wpOp;simp only[aN,r,if_true];left;unfold Oper.wp;rw[show(execOp b.eval o).run E.P v=_ from hy];show K (b.put o.dst _) _
         rw[aL];exact b8
        have agy:∀P R a2 A,a2=(a.put (some r4) (uY P)).put (some bC) (uY R)->br [] w A->w.heap.size<=P->P<A.heap.size->w.heap.size<=R->R<A.heap.size->P≠R->A.heap[P]? =some (.cells ⟨ql⟩ ti (0,0))->A.heap[R]? =some (.cells ⟨qm⟩ rm (0,0)) ->
         kM H (dV ops.size (gB::i'::ds)) A/\nB E.P ops (mN Q) H cM (dV ops.size (gB::i'::ds)) a2 A:=λ P R a2 A ar N i1 i2 k0 pI az bq bA=>by
         obtain⟨lV,s1,s2,AA⟩:=fin P R A N i1 i2 k0 pI az bq bA
         subst ar
         have Z:=h.next (s':=⟨f2,dF,[]⟩) s1 s2 AA
         obtain⟨H1,U,G⟩:=C.e8 s1.mem s2 AA ao
         obtain⟨aN1,ch,dr⟩:=U.e8 s1.mem .refl .nil aT
         have next:=Iv a7 aD I cM f Z ky ch k
         have x:(dV ops.size (gB::i'::ds)).getD gB false=true:=GB (by simp) aDP
         have t2:(dV ops.size (gB::i'::ds)).getD i' false=true:=GB (by simp) li
         exact⟨G _ _ t2 (dr _ _ x (ch.qB _)),Rg G cM _ _ A t2 (Rg dr cM _ _ A x next)⟩
        have alw:=(u3 l).2 ⟨oi,Y4,akA⟩
        have sz:∀(v:World)(o:Obj),(v.alloc o).heap.size=v.heap.size+1:=λ v o=>by simp
        refine⟨λ e=>by rw[e]at alw;simp at alw,λ q aN=>?_⟩
        have sq:q=i'\/q=gB:=by
         obtain⟨M,g,ao⟩:=(u3 l).1 aN;have:=ri.2 ⟨g,ao⟩;rw[CY]at this;simp only[cI,cF,iH,or_false]at this;rcases this with⟨e,_⟩|⟨e,_⟩
         ·exact .inl e
         ·exact .inr e
        rcases sq with rfl |rfl
        ·refine step P2 ag4 d1 (apM _ _) ⟨hb.bY (br.alloc _ _ _) C _,?_⟩
         have K7:=(u3 OC).2 ⟨PT,Z5,ak3⟩
         refine⟨λ e=>by rw[Yi]at e;rw[e]at K7;simp at K7,λ q aN=>?_⟩
         have:q=gB:=by
          obtain⟨M,g,ao⟩:=(u3 OC).1 aN;have:=ri.2 ⟨g,ao⟩;rw[b_]at this;simp only[dT,cF]at this;exact this.1
         subst this
         refine step G2 ag5 d2 (apN _ _) ?_
         exact agy w.heap.size (w.heap.size+1) _ _ (by simp) ((br.alloc [] w _).trans (br.alloc [] _ _) (by simp)) (cT _) (by rw[sz,sz];omega) (Nat.le_succ _) (by rw[sz,sz];omega) (by omega)
          (by rw[Below.heap_alloc _ _ _ (by rw[sz];omega)];exact heap_alloc_new w _) (by have:=heap_alloc_new (w.alloc (.cells ⟨ql⟩ ti)) (.cells ⟨qm⟩ rm);rwa [sz]at this)
        ·refine step G2 ag5 d2 (apN _ _) ⟨hb.bY (br.alloc _ _ _) C _,?_⟩
         obtain⟨aF6,aF7⟩:=ri.1 (show(i',akb)∈nv (q::ds) (mx q rem) by rw[dc];simp)
         have K7:=(u3 ah4).2 ⟨akb,aF6,aF7⟩
         refine⟨λ e=>by rw[Yi]at e;rw[e]at K7;simp at K7,λ p aC=>?_⟩
         have:p=i':=by
          obtain⟨M,g,ao⟩:=(u3 ah4).1 aC;have:=ri.2 ⟨g,ao⟩;rw[dc]at this;simp only[dT,cF]at this;exact this.1
         subst this
         refine step P2 ag4 d1 (apM _ _) ?_
         have azW:(dV ops.size (q::ds)).setIfInBounds p true=dV ops.size (q::p::ds):=by
          show((dV ops.size ds).setIfInBounds q true).setIfInBounds p true=((dV ops.size ds).setIfInBounds p true).setIfInBounds q true
          exact jK _ _ (Ne.symm azJ)
         rw[Yi,azW]
         exact agy (w.heap.size+1) w.heap.size _ _ (by
          simp only[Act.put,sz];rw[jK _ _ (Ne.symm b2)]) ((br.alloc [] w _).trans (br.alloc [] _ _) (by simp)) (Nat.le_succ _) (by rw[sz,sz];omega) (cT _) (by rw[sz,sz];omega) (by omega)
          (by have:=heap_alloc_new (w.alloc (.cells ⟨qm⟩ rm)) (.cells ⟨ql⟩ ti);rwa [sz]at this) (by rw[Below.heap_alloc _ _ _ (by rw[sz];omega)];exact heap_alloc_new w _)
       ·exact f.elim
      ·exact f.elim
     ·exact f.elim
    ·exact f.elim
   ·exact f.elim
end
end bc
namespace bc
open Go Go.RowKit ay I
abbrev nY(E:Env):=Nat->Option (eP E.T.El->D (b9 E.T.El))
def Ph{El:Nat->Type}(g:eP El->D (b9 El)):Nat->eP El->D (b9 El)
 |0,_=>.no
 |k+1,s=>(g s).bind λ t=>match t.x with
  | .nm=>Ph g k t.s
  |_=>.ok t
def akl{El:Nat->Type}(id:Nat)(t:b9 El):D (b9 El):=match t.x with
 | .ex i=>match cy i id with
   |true=>.ok ⟨.nm,t.s⟩
   |false=>.ok t
 |_=>.ok t
def aiV{El:Nat->Type}(f:cC El):Operand->Option Bool
 | .tmp t=>cG f.eu t
 |_=>none
def eP.XO{El:Nat->Type}(s:eP El)(b:Bool):Operand->eP El
 | .tmp t=>⟨s.f.know t b,s.bl,s.ws⟩
 |_=>s
def KN{E:Env}(LE:nY E):Code->Option (eP E.T.El->D (b9 E.T.El))
 | .seq (.region _ _ _) (.block id _)=>LE (1000000+id)
 |_=>none
noncomputable def den(E:Env)(bu:fp E)(LE:nY E)(n:Nat):Code->eP E.T.El->D (b9 E.T.El)
 | .skip,s=>.ok ⟨.nm,s⟩
 | .label _,s=>.ok ⟨.nm,s⟩
 | .exit id,s=>.ok ⟨.ex id,s⟩
 | .ret,s=>.ok ⟨.rt,s⟩
 | .region _ ops false,s=>opsL E bu ops n ops.toList s
 | .region _ ops true,s=>match Ef ops ops.toList 0 ops.toList with
   |true=>vQ E bu ops n ops.size (GJ 0 ops.toList) [] [] s
   |false=>.no
 | .seq x y,s=>match KN LE x with
   |none=>(den E bu LE n x s).bind λ t=>match t.x with
    | .nm=>den E bu LE n y t.s
    |_=>.ok t
   |some g=>match y with
    | .seq _ rest=>(g s).bind λ t=>match t.x with
      | .nm=>den E bu LE n rest t.s
      |_=>.ok t
    |_=>.no
 | .cond c x y,s=>match od E s.bl s.f [] c with
   |some (.p (.bool b))=>match E.cl with
    |true=>match b with
     |true=>den E bu LE n x s
     |false=>den E bu LE n y s
    |false=>match aiV s.f c with
     |some true=>den E bu LE n x s
     |some false=>den E bu LE n y s
     |none=>.qx b (den E bu LE n x (s.XO true c)) (den E bu LE n y (s.XO false c))
   |_=>.no
 | .block id c,s=>match LE id with
   |some g=>g s
   |none=>(den E bu LE n c s).bind (akl id)
 | .loop c,s=>Ph (den E bu LE n c) 1000000 s
 | .scope c,s=>den E bu LE n c s
 |_,_=>.no
def BE(E:Env)(n:cE)(g:eP E.T.El->D (b9 E.T.El))(c:Code):Prop:=
 ∀s t,(g s).out t-> ∀(W:World)(M0:List Nat)(X:Nat->Prop)(b0:List (aF E.T.El))(ρ0:List Value)(w0:World)(ρ:List Value)(a:Act)(w:World)(Q:Exit->Act->World->Prop),ji E W M0 X n b0 ρ0 w0 s ρ a w->Fin E W M0 X n b0 ρ0 w0 t Q->c.wp E.P Q a w
def yB(E:Env)(n:cE)(g:eP E.T.El->D (b9 E.T.El))(x r:Code):Prop:=
 ∀rest s t,(g s).out t-> ∀(W:World)(M0:List Nat)(X:Nat->Prop)(b0:List (aF E.T.El))(ρ0:List Value)(w0:World)(ρ:List Value)(a:Act)(w:World)(Q:Exit->Act->World->Prop),ji E W M0 X n b0 ρ0 w0 s ρ a w->Fin E W M0 X n b0 ρ0 w0 t (Exit.then (rest.wp E.P Q) Q)->(Code.seq x (.seq r rest)).wp E.P Q a w
def km(E:Env)(LE:nY E)(n:cE):Code->Prop
 | .seq x y=>(∀g r rest,KN LE x=some g->y= .seq r rest->yB E n g x r)/\km E LE n x/\km E LE n y
 | .cond _ x y=>km E LE n x/\km E LE n y
 | .block id c=>(∀g,LE id=some g->BE E n g (.block id c))/\km E LE n c
 | .loop c=>km E LE n c
 | .scope c=>km E LE n c
 |_=>True
section
variable{E:Env}{bu:fp E}{LE:nY E}{W:World}{M0:List Nat}{X:Nat->Prop}{n:cE}{b0:List (aF E.T.El)}{ρ0:List Value}{w0:World}
theorem uG(h:∀id,LE id=none):∀c,km E LE n c
 | .seq x y=>⟨(λ g r rest a=>by
  unfold KN at a;split at a
  ·rw[h]at a;cases a
  ·cases a),uG h x,uG h y⟩
 | .cond _ x y=>⟨uG h x,uG h y⟩
 | .block id c=>⟨(λ g a=>by rw[h id]at a;cases a),uG h c⟩
 | .loop c=>uG h c
 | .scope c=>uG h c
 | .skip | .region _ _ _ | .rangeFunc _ _ _ _ | .exit _ | .label _ | .goto _ | .ret | .refuse _=>trivial
theorem R.drew{f:cC E.T.El}{bl:List (aF E.T.El)}{ρ:List Value}{a:Act}{w w':World}(h:R E W M0 X n f bl ρ a w)(b:br [] w w'):R E W M0 X n f bl ρ a w':=h.to (Mem.ta b) (h.mem.e8 b)
theorem ji.drew{s:eP E.T.El}{ρ:List Value}{a:Act}{w w':World}(h:ji E W M0 X n b0 ρ0 w0 s ρ a w)(b:br [] w w'):ji E W M0 X n b0 ρ0 w0 s ρ a w':=
 ⟨h.r.drew b,h.to.trans (Mem.ta b),by
  have:=h.wr.bI h.to (s':=[]) (w'':=w') (bl':=s.bl) (ρ':=ρ) λ q c _=>b.block q c (by simp);simpa using this⟩
theorem apr{K:Act->World->Prop}{Q:Exit->Act->World->Prop}{bl:List (aF E.T.El)}{ρ:List Value}{a:Act}{w:World}{x:MT E.T.El}(b:x= .nm->K a w)(h:x≠ .nm->Cr E X bl ρ Q a w x):Cr E X bl ρ (Exit.then K Q) a w x:=by
 cases x with
 |nm=>exact b rfl
 |ex id=>exact h (by simp)
 |rt=>exact h (by simp)
 |hZ y=>exact h (by simp)
theorem n5(a7:di E)(q:lh E bu):∀(c:Code){s:eP E.T.El}{t:b9 E.T.El}{ρ:List Value}{a:Act}{w:World}{Q:Exit->Act->World->Prop},km E LE n c->(den E bu LE n.n c s).out t->ji E W M0 X n b0 ρ0 w0 s ρ a w->Fin E W M0 X n b0 ρ0 w0 t Q->c.wp E.P Q a w
 | .skip,s,t,ρ,a,w,Q,_,d,h,k=>by
   have d:(⟨.nm,s⟩:b9 E.T.El)=t:=d;subst d;exact wp_skip (k ρ a w h)
 | .label l,s,t,ρ,a,w,Q,_,d,h,k=>by
   have d:(⟨.nm,s⟩:b9 E.T.El)=t:=d;subst d;exact wp_label (k ρ a w h)
 | .exit id,s,t,ρ,a,w,Q,_,d,h,k=>by
   have d:(⟨.ex id,s⟩:b9 E.T.El)=t:=d;subst d;exact wp_exit (k ρ a w h)
 | .ret,s,t,ρ,a,w,Q,_,d,h,k=>by
   have d:(⟨.rt,s⟩:b9 E.T.El)=t:=d;subst d;exact wp_ret (k ρ a w h)
 | .region id ops false,s,t,ρ,a,w,Q,_,d,h,k=>by
   simp only[den]at d;exact wp_region_list (YV a7 q ops.toList d h k)
 | .region id ops true,s,t,ρ,a,w,Q,_,d,h,k=>by
   simp only[den]at d;split at d
   ·rename_i I
    have aL:ji E W M0 X n b0 ρ0 w0 s ρ a w.drew:=h.drew (br.drew [] w)
    have:=Iv a7 q I ops.size d aL aIe (H:=[]) (by simp[hb]) k
    exact Code.wp_mono mN.imp (wp_region_any a7.aEc (ana _ _ _ _ this))
   ·exact d.elim
 | .seq x y,s,t,ρ,a,w,Q,j,d,h,k=>by
   have v:∀ {z:Code}{f:b9 E.T.El}(_:km E LE n z),(match f.x with| .nm=>den E bu LE n.n z f.s |_=>.ok f:D (b9 E.T.El)).out t->(∀ {s':eP E.T.El}{ρ':List Value}{o:Act}{w':World},(den E bu LE n.n z s').out t->ji E W M0 X n b0 ρ0 w0 s' ρ' o w'->z.wp E.P Q o w')-> ∀ρ' o w',ji E W M0 X n b0 ρ0 w0 f.s ρ' o w'->Cr E X f.s.bl ρ' (Exit.then (z.wp E.P Q) Q) o w' f.x:=λ{z f} M J aL ρ' o w' aj=>apr (λ p=>by
    rw[p]at J;exact aL J aj) λ p=>by
    have J:f=t:=by
     revert J;cases C:f.x with
     |nm=>exact absurd C p
     |_=>exact λ h=>h
    subst J;exact k ρ' o w' aj
   simp only[den]at d;split at d
   ·obtain⟨f,A,J⟩:=D.j9 d
    exact wp_seq (n5 a7 q x j.2.1 A h (v j.2.2 J λ aL F=>n5 a7 q y j.2.2 aL F k))
   ·rename_i g G
    split at d
    ·rename_i r rest
     obtain⟨f,A,J⟩:=D.j9 d
     exact j.1 g r rest G rfl rest s f A _ _ _ _ _ _ _ _ _ _ h (v j.2.2.2.2 J λ aL F=>n5 a7 q rest j.2.2.2.2 aL F k)
    ·exact d.elim
 | .cond c x y,s,t,ρ,a,w,Q,j,d,h,k=>by
   simp only[den]at d;split at d
   ·rename_i b hc
    have u:=dA h.r (cur:=[]) trivial hc
    simp only[aw]at u
    split at d
    ·split at d
     ·exact wp_cond_split u (λ _=>n5 a7 q x j.1 d h k) (λ e=>by cases e)
     ·exact wp_cond_split u (λ e=>by cases e) (λ _=>n5 a7 q y j.2 d h k)
    ·have eu:∀B,aiV s.f c=some B->a.eval c= .bool B:=λ B ag=>by
      cases c with
      |tmp t=>exact h.r.d_.eu _ (oG ag)
      |_=>cases ag
     have kw:∀B,a.eval c= .bool B->ji E W M0 X n b0 ρ0 w0 (s.XO B c) ρ a w:=λ B ag=>by
      cases c with
      |tmp t=>exact⟨h.r.know ag,h.to,h.wr⟩
      |_=>exact h
     split at d
     ·rename_i ag
      have:=eu _ ag
      rw[u]at this
      cases this
      exact wp_cond_split u (λ _=>n5 a7 q x j.1 d h k) (λ e=>by cases e)
     ·rename_i ag
      have:=eu _ ag
      rw[u]at this
      cases this
      exact wp_cond_split u (λ e=>by cases e) (λ _=>n5 a7 q y j.2 d h k)
     ·rcases d with⟨rfl,d⟩|⟨rfl,d⟩
      ·exact wp_cond_split u (λ _=>n5 a7 q x j.1 d (kw _ u) k) (λ e=>by cases e)
      ·exact wp_cond_split u (λ e=>by cases e) (λ _=>n5 a7 q y j.2 d (kw _ u) k)
   ·exact d.elim
 | .block id c,s,t,ρ,a,w,Q,j,d,h,k=>by
   simp only[den]at d;split at d
   ·rename_i g G
    exact j.1 g G s t d _ _ _ _ _ _ _ _ _ _ h k
   ·obtain⟨f,A,J⟩:=D.j9 d
    refine wp_block (n5 a7 q c j.2 A h λ ρ' o w' aj=>?_)
    unfold akl at J
    cases p:f.x with
    |nm=>
     rw[p]at J
     have J:f=t:=J
     subst J
     have:=k ρ' o w' aj
     rw[p]at this
     exact this
    |ex i=>
     rw[p]at J
     simp only at J
     show Exit.inBlock id Q (.exit i) o w'
     split at J
     ·rename_i ag
      have J:(⟨.nm,f.s⟩:b9 E.T.El)=t:=J
      subst J
      rw[bd ag]
      simp only[Exit.inBlock,if_true]
      exact k ρ' o w' aj
     ·rename_i ag
      have J:f=t:=J
      subst J
      have K:i≠id:=λ e=>by subst e;simp at ag
      simp only[Exit.inBlock,if_neg K]
      have:=k ρ' o w' aj
      rw[p]at this
      exact this
    |rt=>
     rw[p]at J
     have J:f=t:=J
     subst J
     have:=k ρ' o w' aj
     rw[p]at this
     exact this
    |hZ y=>
     rw[p]at J
     have J:f=t:=J
     subst J
     have:=k ρ' o w' aj
     rw[p]at this
     exact this
 | .loop c,s,t,ρ,a,w,Q,j,d,h,k=>by
   simp only[den]at d;refine wp_loop_ghost (λ m a w=>∃s ρ,ji E W M0 X n b0 ρ0 w0 s ρ a w/\(Ph (den E bu LE n.n c) m s).out t) 1000000 ⟨s,ρ,h,d⟩ λ m a w L=>?_;obtain⟨s,ρ,h,d⟩:=L;cases m with
   |zero=>exact d.elim
   |succ m=>
    simp only[Ph]at d
    obtain⟨f,A,J⟩:=D.j9 d
    refine n5 a7 q c j A h λ ρ' o w' aj=>apr (λ p=>?_) λ p=>?_
    ·rw[p]at J
     exact⟨m,l4 m,_,_,aj,J⟩
    ·have J:f=t:=by
      revert J;cases C:f.x with
      |nm=>exact absurd C p
      |_=>exact λ h=>h
     subst J;exact k ρ' o w' aj
 | .scope c,s,t,ρ,a,w,Q,j,d,h,k=>by
   simp only[den]at d;refine wp_scope_straight (n5 a7 q c j d h λ ρ' o w' aj=>?_);have:=k ρ' o w' aj;revert this;cases t.x with
   |nm=>exact λ h=>h
   |ex i=>exact λ h=>h
   |rt=>exact λ h=>h
   |hZ y=>exact λ h=>h
 | .rangeFunc _ _ _ _,s,t,ρ,a,w,Q,_,d,_,_=>by simp only[den]at d;exact d.elim
 | .goto _,s,t,ρ,a,w,Q,_,d,_,_=>by simp only[den]at d;exact d.elim
 | .refuse _,s,t,ρ,a,w,Q,_,d,_,_=>by simp only[den]at d;exact d.elim
end
end bc
namespace bc
open Go Go.RowKit ay I
def FH{El:Nat->Type}:Nat->List (aI El)->List (Nat×aI El)
 |_,[]=>[]
 |k,y::r=>(k,y)::FH (k+1) r
def aaw(E:Env)(s:eP E.T.El):ResultVar->Option (aI E.T.El)
 | .tmp t=>od E s.bl s.f [] (.tmp t)
 | .cell en ty=>match od E s.bl s.f [] (.tmp en),lay E.P ty with
   |some (.b i o),some a=>match nth s.bl i with
    |some (.c _ cs)=>mS cs o a
    |_=>none
   |_,_=>none
def G'(E:Env)(s:eP E.T.El):List ResultVar->Option (List (aI E.T.El))
 |[]=>some []
 |r::rs=>match aaw E s r,G' E s rs with
  |some y,some ys=>some (y::ys)
  |_,_=>none
def q8{El:Nat->Type}:List (aI El)->aI El
 |[y]=>y
 |ys=>.u ys
def afG(E:Env)(rs:List ResultVar)(t:b9 E.T.El):D (fu E.T.El):=match t.x with
 | .ex _=>.no
 | .hZ y=>.ok ⟨.Ap y,t.s.bl,t.s.ws⟩
 |_=>match G' E t.s rs with
  |some ys=>.ok ⟨.ret (q8 ys),t.s.bl,t.s.ws⟩
  |none=>.no
abbrev lj(E:Env):=Nat->nY E
noncomputable def og(E:Env)(bu:fp E)(LE:lj E):fp E:=λ g ys bl=>match ff E.cf g,E.P.funcs[g]? with
 |true,some fn=>match fn.body,jF ys.length fn.ntmps with
  |some c,true=>(den E bu (LE g) fn.ntmps c ⟨⟨FH 0 ys,[],[]⟩,bl,[]⟩).bind (afG E fn.results.toList)
  |_,_=>.no
 |_,_=>.no
abbrev H9(E:Env):=Nat->Option (List (aI E.T.El)->List (aF E.T.El)->D (fu E.T.El))
noncomputable def FN(E:Env)(kL:H9 E)(LE:lj E):Nat->fp E
 |0=>λ _ _ _=>.no
 |k+1=>λ g ys bl=>match kL g with
  |some h=>h ys bl
  |none=>og E (FN E kL LE k) LE g ys bl
def kj(E:Env)(g:Nat)(h:List (aI E.T.El)->List (aF E.T.El)->D (fu E.T.El)):Prop:=∀ys bl r,(h ys bl).out r ->
 ∀(W:World)(M0:List Nat)(X:Nat->Prop)(ρ:List Value)(w:World)(vs:List Value),Mem E.T W M0 X bl ρ w->H' E X bl ρ w->a8 E.T (bk X bl ρ w) w ρ bl ys vs ->
  Calls E.P g ⟨vs⟩ w λ e w'=>∃ρ',Mem E.T W M0 X r.bl ρ' w'/\To X bl r.bl ρ ρ' w w'/\hf bl ρ w w' r.ws/\Co E X r.bl ρ' w' r.e e
structure MG (E:Env) (kL:H9 E):Prop where
 cf:∀g h,kL g=some h->g∈E.cf
 ok:∀g h,kL g=some h->kj E g h
def vF(E:Env)(LE:lj E):Prop:=∀g fn c,g∈E.cf->E.P.funcs[g]? =some fn->fn.body=some c->km E (LE g) ⟨fn.ntmps,[]⟩ c
section
variable{E:Env}{bu:fp E}{LE:lj E}{kL:H9 E}{W:World}{M0:List Nat}{X:Nat->Prop}{bl:List (aF E.T.El)}{ρ:List Value}{a:Act}{w:World}
theorem ajp{F:Nat->Prop}{t:Nat}{y:aI E.T.El}:∀ {ys:List (aI E.T.El)}{vs:List Value}{k:Nat},a8 E.T F w ρ bl ys vs->cG (FH k ys) t=some y-> ∃v,ev (tV k vs) t=some v/\aw E.T F w ρ bl y v
 |[],vs,k,_,h=>by simp[FH,cG]at h
 |z::r,vs,k,b,h=>by
  simp only[a8]at b;obtain⟨u,us,rfl,c,J⟩:=b;simp only[FH,cG]at h;simp only[tV,ev];cases ag:cy k t with
  |true=>
   rw[ag]at h
   simp only[aH]at h
   subst h
   exact⟨u,rfl,c⟩
  |false=>
   rw[ag]at h
   exact ajp J h
theorem aIf{n:cE}{s:eP E.T.El}(h:R E W M0 X n s.f s.bl ρ a w){r:ResultVar}{y:aI E.T.El}(c:aaw E s r=some y):∃v,aax E.P a w r v/\aw E.T (bk X s.bl ρ w) w ρ s.bl y v:=by
 unfold aaw at c;split at c
 ·exact⟨_,rfl,dA h (cur:=[]) trivial c⟩
 ·rename_i en ty
  split at c
  ·rename_i i o q x J
   split at c
   ·rename_i t cs k
    have l:=dA h (cur:=[]) trivial x
    simp only[aw]at l
    obtain⟨g,z,ao⟩:=l
    rw[dh]at k
    obtain⟨g',vs,d,A,e⟩:=h.mem.ok i _ _ k z
    simp only[Value.pointer.injEq,aH,Addr.mk.injEq]at d
    have d:=d.1
    subst d
    have f:=Kn J
    have hc:fo w ⟨g,0,none⟩ vs:=λ j u aA=>by simpa using yZ (g:=g) (t:=t) (cs:=vs) (w:=w) (by simpa[bb.ck]using A) aA
    obtain⟨b,m⟩:=q
    cases b with
    |false=>
     simp only[mS]at c
     rw[dh]at c
     obtain⟨v,B,C⟩:=e.at_ c
     exact⟨v,⟨g,o,ao,.inr ⟨f.1,by simpa using hc o v B⟩⟩,C⟩
    |true=>
     simp only[mS]at c
     split at c
     ·rename_i ag
      simp only[aH]at c
      subst c
      have D:=cS ag
      have p:=e.len
      refine⟨.agg ⟨(vs.drop o).take m⟩,⟨g,o,ao,.inl ⟨(vs.drop o).take m,f.1,?_,λ j u aA=>?_,rfl⟩⟩,?_⟩
      ·have:((vs.drop o).take m).length=m:=by simp;omega
       rw[this];exact f.2
      ·rw[hG]at aA
       split at aA
       ·rw[i_]at aA
        simpa using hc (o+j) u aA
       ·cases aA
      ·simp only[aw]
       exact⟨_,rfl,a8.take m (a8.drop o e)⟩
     ·cases c
   ·cases c
  ·cases c
theorem alB{n:cE}{s:eP E.T.El}(h:R E W M0 X n s.f s.bl ρ a w):∀ {rs:List ResultVar}{ys:List (aI E.T.El)},G' E s rs=some ys-> ∃vs,Qw E.P a w rs vs/\a8 E.T (bk X s.bl ρ w) w ρ s.bl ys vs
 |[],ys,b=>by simp only[G',aH]at b;subst b;exact⟨[],trivial,by simp[a8]⟩
 |r::rs,ys,b=>by
  simp only[G']at b;split at b
  ·rename_i y i c J
   simp only[aH]at b
   subst b
   obtain⟨v,d,e⟩:=aIf h c
   obtain⟨vs,f,g⟩:=alB h J
   refine⟨v::vs,⟨d,f⟩,?_⟩
   simp only[a8]
   exact⟨v,vs,rfl,e,g⟩
  ·cases b
theorem Y0{F:Nat->Prop}:∀ {ys:List (aI E.T.El)}{vs:List Value},a8 E.T F w ρ bl ys vs->aw E.T F w ρ bl (q8 ys) (pack vs)
 |[],vs,h=>by
  simp only[a8]at h;subst h;simp only[q8,pack,aw];exact⟨[],rfl,by simp[a8]⟩
 |[y],vs,h=>by
  simp only[a8]at h;obtain⟨u,us,rfl,b,rfl⟩:=h;exact b
 |y::z::r,vs,h=>by
  have h':=h;simp only[a8]at h;obtain⟨u,us,rfl,b,d,c,rfl,J,e⟩:=h;simp only[q8,pack,aw];exact⟨_,rfl,h'⟩
theorem NI(a7:di E)(x:lh E bu)(z:vF E LE):lh E (og E bu LE):=by
 refine⟨λ g ys bl r b=>?_⟩;unfold og at b;split at b
 ·rename_i fn A q
  have d:=sw A
  refine⟨a7.call g d,λ W M0 X ρ w vs B C s=>?_⟩
  split at b
  ·rename_i c hc F
   obtain⟨t,G,J⟩:=D.j9 b
   have f:=s.len
   refine enter q hc rfl (by rw[f];exact F) λ a ad=>?_
   have H:R E W M0 X ⟨fn.ntmps,[]⟩ ⟨FH 0 ys,[],[]⟩ bl ρ a w:=⟨B,⟨⟨ad.size,ad.defers,λ t y I=>by
    obtain⟨v,K,ao⟩:=ajp s I;rw[ad.get t v K];exact ao⟩,λ p m=>by simp at m,λ p m=>by simp at m⟩,C⟩
   refine n5 (n:=⟨fn.ntmps,[]⟩) (b0:=bl) (ρ0:=ρ) (w0:=w) a7 x c (z g fn c d q hc) G ⟨H,.refl,.nil⟩ λ ρ' u w' aj=>?_
   have fr:Fr ⟨fn.ntmps,[]⟩ [] u:=⟨aj.r.d_.er.size,aj.r.d_.er.defers,λ t v h=>by simp[ev]at h⟩
   have fin:∀ {j},G' E t.s fn.results.toList=some j->(⟨.ret (q8 j),t.s.bl,t.s.ws⟩:fu E.T.El)=r->bodyPost E.P fn (λ e w'=>∃ρ',Mem E.T W M0 X r.bl ρ' w'/\To X bl r.bl ρ ρ' w w'/\hf bl ρ w w' r.ws/\Co E X r.bl ρ' w' r.e e) .ret u w':=λ{j} k L=>by
    subst L;obtain⟨us,M,N⟩:=alB aj.r k;exact aHp (rs:=fn.results.toList) (by simp) fr M ⟨ρ',aj.r.mem,aj.to,aj.wr,Y0 N⟩
   unfold afG at J
   cases l:t.x with
   |nm=>
    rw[l]at J
    simp only at J
    split at J
    ·rename_i j k
     exact fin k J
    ·exact J.elim
   |rt=>
    rw[l]at J
    simp only at J
    split at J
    ·rename_i j k
     exact fin k J
    ·exact J.elim
   |ex i=>rw[l]at J;exact J.elim
   |hZ y=>
    rw[l]at J
    have J:(⟨.Ap y,t.s.bl,t.s.ws⟩:fu E.T.El)=r:=J
    subst J
    intro v O P o
    exact⟨o.trans aj.r.d_.er.defers,ρ',aj.r.mem,aj.to,aj.wr,v,rfl,O⟩
  ·exact b.elim
 ·exact b.elim
theorem lr(a7:di E)(c:MG E kL)(d:vF E LE):∀k,lh E (FN E kL LE k)
 |0=>⟨λ f ys bl r b=>b.elim⟩
 |k+1=>⟨λ f ys bl r b=>by
  simp only[FN]at b;split at b
  ·rename_i h e
   exact⟨a7.call f (c.cf f h e),c.ok f h e ys bl r b⟩
  ·exact(NI a7 (lr a7 c d k) d).ok f ys bl r b⟩
end
end bc
namespace bc
open Go Go.RowKit ay I
inductive iJ
 |i (k:IntKind)
 |b
 |s
 |y
 |l (t:Nat)
section
variable(El:Nat->Type)
@[reducible] def LT:iJ->Type
  | .i _=>Int
  | .b=>Bool
  | .s=>List UInt8
  | .y=>UInt8
  | .l t=>List (El t)
@[reducible] def mL:List iJ->Type
  |[]=>Unit
  |f::r=>LT El f×mL r
end
section
variable{El:Nat->Type}
def Fy:(f:iJ)->LT El f->aI El
 | .i k,d=>.p (.int k d)
 | .b,d=>.p (.bool d)
 | .s,d=>.p (cw d)
 | .y,d=>.p (.int .u8 ((d:UInt8).toNat:Int))
 | .l t,d=>.s t d
def qE:(ls:List iJ)->mL El ls->List (aI El)
 |[],_=>[]
 |f::r,d=>Fy f d.1::qE r d.2
def Cx{t' t:Nat}(l:List (El t')):Option (List (El t)):=match l2 t' t with
 |isTrue h=>some (h▸l)
 |isFalse _=>none
def OQ(k:IntKind):aI El->Option Int
 | .p (.int j m)=>match nh j k with
   |true=>some m
   |false=>none
 |_=>none
def OP:aI El->Option Bool
 | .p (.bool d)=>some d
 |_=>none
def OS:aI El->Option (List UInt8)
 | .p (.string ⟨⟨d⟩⟩)=>some d
 |_=>none
def Xv:aI El->Option UInt8
 | .p (.int .u8 (.ofNat m))=>match fs m 256 with
   |true=>some (UInt8.ofNat m)
   |false=>none
 |_=>none
def OT(t:Nat):aI El->Option (List (El t))
 | .s _ l=>Cx l
 | .q _ l=>Cx l
 | .p (.slice none 0 0)=>some []
 |_=>none
def aiq:(f:iJ)->aI El->Option (LT El f)
 | .i k,y=>OQ k y
 | .b,y=>OP y
 | .s,y=>OS y
 | .y,y=>Xv y
 | .l t,y=>OT t y
def Dl:(ls:List iJ)->List (aI El)->Option (mL El ls)
 |[],[]=>some ()
 |f::r,y::ys=>match aiq f y,Dl r ys with
  |some d,some ds=>some (d,ds)
  |_,_=>none
 |_,_=>none
def K5(ty:(t:Nat)->dj (El t))(F:Nat->Prop)(w:World):(f:iJ)->Value->LT El f->Prop
 | .i k,v,d=>v= .int k d
 | .b,v,d=>v= .bool d
 | .s,v,d=>v=cw d
 | .y,v,d=>v= .int .u8 ((d:UInt8).toNat:Int)
 | .l t,v,d=>(b5 (ty t)).rd F w [v] d
def fh(ty:(t:Nat)->dj (El t))(F:Nat->Prop)(w:World):(ls:List iJ)->List Value->mL El ls->Prop
 |[],xs,_=>xs=[]
 |f::r,xs,d=>∃v vs,xs=v::vs/\K5 ty F w f v d.1/\fh ty F w r vs d.2
theorem alo{ty:(t:Nat)->dj (El t)}{F:Nat->Prop}{w:World}:∀ {ls:List iJ}{xs:List Value}{d:mL El ls},fh ty F w ls xs d->xs.length=ls.length
 |[],xs,d,h=>by simp only[fh]at h;subst h;rfl
 |f::r,xs,d,h=>by
  obtain⟨v,vs,rfl,_,J⟩:=h;simp[alo J]
theorem aHF{ty:(t:Nat)->dj (El t)}{F:Nat->Prop}{w:World}{f:iJ}{v:Value}{d:LT El f}(h:K5 ty F w f v d):v.oneCell'=true:=by
 cases f with
 |l t=>exact(b5 (ty t)).one h v (by simp)
 |_=>simp only[K5]at h;subst h;rfl
theorem alp{ty:(t:Nat)->dj (El t)}{F:Nat->Prop}{w:World}:∀ {ls:List iJ}{xs:List Value}{d:mL El ls},fh ty F w ls xs d-> ∀v∈xs,v.oneCell'=true
 |[],xs,d,h=>by simp only[fh]at h;subst h;simp
 |f::r,xs,d,h=>by
  obtain⟨v,vs,rfl,a,J⟩:=h;intro u hu;rcases cI.1 hu with rfl |hu
  ·exact aHF a
  ·exact alp J u hu
theorem aln{ty:(t:Nat)->dj (El t)}{F F':Nat->Prop}{w w':World}(a:∀k,F k->F' k/\w'.heap[k]? =w.heap[k]?):∀ {ls:List iJ}{xs:List Value}{d:mL El ls},fh ty F w ls xs d->fh ty F' w' ls xs d
 |[],xs,d,h=>h
 |f::r,xs,d,h=>by
  obtain⟨v,vs,e,b,J⟩:=h;refine⟨v,vs,e,?_,aln a J⟩;cases f with
  |l t=>exact(b5 (ty t)).law a b
  |_=>exact b
def aJE{α:Type}(ty:(t:Nat)->dj (El t))(ls:List iJ)(fr:α->mL El ls):dj α where
 size:=ls.length
 rd F w xs d:=fh ty F w ls xs (fr d)
 len h:=alo h
 one h:=alp h
 law a h:=aln a h
def fb(es:List (Σ t,b7 El t)){t:Nat}(agg:Bool)(ls:List iJ)(fr:El t->mL El ls)(to:mL El ls->El t)(eq:Option (El t->El t->Bool))(key:Option (h8 (El t))):b7 El t:=
 ⟨aJE (λ t=>(fM es t).ty) ls fr,agg,λ d=>qE ls (fr d),λ l=>(Dl ls l).map to,eq,key⟩
end
structure eH (T:bT) (t:Nat) (e:b7 T.El t):Prop where
 cs:∀d F w xs,e.ty.rd F w xs d->a8 T F w [] [] (e.cs d) xs
 hz:∀l d,e.hz l=some d-> ∀F w ρ bl xs,a8 T F w ρ bl l xs->e.ty.rd F w xs d
 key:∀K,e.key=some K-> ∀F w xs k,e.ty.rd F w xs k->Am e.agg xs= @lY.enc _ K.dec K.sy k
 one:e.agg=false-> ∀d,(e.cs d).length=1
def Uj(T:bT):List (Σ t,b7 T.El t)->Prop
 |[]=>True
 |p::r=>eH T p.1 p.2/\Uj T r
theorem aJi{T:bT}{t:Nat}:eH T t b7.no:=⟨λ d F w xs h=>h.elim,(λ l d h=>by cases h),(λ K h=>by cases h),(λ h=>by cases h)⟩
theorem LD{T:bT}{t:Nat}:∀ {es:List (Σ t,b7 T.El t)},Uj T es->eH T t (fM es t)
 |[],_=>aJi
 |p::r,h=>by
  simp only[fM];split
  ·rename_i e _
   subst e
   exact h.1
  ·exact LD h.2
theorem aJh{T:bT}(h:Uj T T.es):yT T:=⟨λ t=>(LD h (t:=t)).cs,λ t=>(LD h (t:=t)).hz,λ t=>(LD h (t:=t)).key,λ t=>(LD h (t:=t)).one⟩
def xr(T:bT)(ty:(t:Nat)->dj (T.El t)):List iJ->Prop
 |[]=>True
 | .l t::r=>ty t=T.ty t/\xr T ty r
 |_::r=>xr T ty r
section
variable{T:bT}{F:Nat->Prop}{w:World}{ρ:List Value}{bl:List (aF T.El)}
theorem Fz{ty:(t:Nat)->dj (T.El t)}:∀ {ls:List iJ}{xs:List Value}{d:mL T.El ls},xr T ty ls->fh ty F w ls xs d->a8 T F w ρ bl (qE ls d) xs
 |[],xs,d,_,h=>by simp only[fh]at h;subst h;simp[qE,a8]
 |f::r,xs,d,c,h=>by
  obtain⟨v,vs,rfl,e,J⟩:=h;cases f with
  |l t=>
   have a:=Fz c.2 J
   simp only[qE,a8]
   refine⟨v,vs,rfl,?_,a⟩
   simp only[Fy,aw]
   simp only[K5,c.1]at e
   exact e
  |i k=>have a:=Fz (ty:=ty) (ls:=r) c J;simp only[qE,a8];exact⟨v,vs,rfl,by simp only[Fy,aw];exact e,a⟩
  |b=>have a:=Fz (ty:=ty) (ls:=r) c J;simp only[qE,a8];exact⟨v,vs,rfl,by simp only[Fy,aw];exact e,a⟩
  |s=>have a:=Fz (ty:=ty) (ls:=r) c J;simp only[qE,a8];exact⟨v,vs,rfl,by simp only[Fy,aw];exact e,a⟩
  |y=>have a:=Fz (ty:=ty) (ls:=r) c J;simp only[qE,a8];exact⟨v,vs,rfl,by simp only[Fy,aw];exact e,a⟩
theorem aez{t' t:Nat}{l:List (T.El t')}{l':List (T.El t)}(h:Cx l=some l'){xs:List Value}(a:(b5 (T.ty t')).rd F w xs l):(b5 (T.ty t)).rd F w xs l':=by
 unfold Cx at h;split at h
 ·rename_i e _
  subst e
  simp only[aH]at h
  subst h
  exact a
 ·cases h
theorem air{k:IntKind}{y:aI T.El}{d:Int}{v:Value}(h:OQ k y=some d)(a:aw T F w ρ bl y v):v= .int k d:=by
 unfold OQ at h;split at h
 ·split at h
  ·rename_i b
   have:=pK b
   subst this
   simp only[aH]at h
   subst h
   simpa only[aw]using a
  ·cases h
 ·cases h
theorem aip{y:aI T.El}{d:Bool}{v:Value}(h:OP y=some d)(a:aw T F w ρ bl y v):v= .bool d:=by
 unfold OP at h;split at h
 ·simp only[aH]at h;subst h;simpa only[aw]using a
 ·cases h
theorem ait{y:aI T.El}{d:List UInt8}{v:Value}(h:OS y=some d)(a:aw T F w ρ bl y v):v=cw d:=by
 unfold OS at h;split at h
 ·simp only[aH]at h;subst h;simpa only[aw]using a
 ·cases h
theorem aBA{y:aI T.El}{d:UInt8}{v:Value}(h:Xv y=some d)(a:aw T F w ρ bl y v):v= .int .u8 (d.toNat:Int):=by
 unfold Xv at h;split at h
 ·rename_i m
  split at h
  ·rename_i ag
   simp only[aH]at h
   subst h
   have b:m<256:=cS ag
   simp only[aw]at a
   have:(UInt8.ofNat m).toNat=m:=by simp;omega
   rw[a,this];rfl
  ·cases h
 ·cases h
theorem aiu{t:Nat}{y:aI T.El}{d:List (T.El t)}{v:Value}(h:OT t y=some d)(a:aw T F w ρ bl y v):(b5 (T.ty t)).rd F w [v] d:=by
 unfold OT at h;split at h
 ·simp only[aw]at a
  exact aez h a
 ·simp only[aw]at a
  exact aez h a.1
 ·simp only[aH]at h
  subst h
  simp only[aw]at a
  subst a
  exact⟨none,0,rfl,cT _,gT _,λ _=>rfl,λ h=>absurd rfl h⟩
 ·cases h
theorem aBy{ty:(t:Nat)->dj (T.El t)}{f:iJ}{y:aI T.El}{d:LT T.El f}{v:Value}(c:xr T ty [f])(h:aiq f y=some d)(a:aw T F w ρ bl y v):K5 ty F w f v d:=by
 cases f with
 |i k=>exact air h a
 |b=>exact aip h a
 |s=>exact ait h a
 |y=>exact aBA h a
 |l t=>
  have:=aiu h a
  show(b5 (ty t)).rd F w [v] d
  rw[c.1]
  exact this
theorem aDX{ty:(t:Nat)->dj (T.El t)}{f:iJ}{r:List iJ}(h:xr T ty (f::r)):xr T ty [f]/\xr T ty r:=by
 cases f with
 |l t=>exact⟨⟨h.1,trivial⟩,h.2⟩
 |_=>exact⟨trivial,h⟩
theorem ais{ty:(t:Nat)->dj (T.El t)}:∀ {ls:List iJ}{ys:List (aI T.El)}{d:mL T.El ls}{xs:List Value},xr T ty ls->Dl ls ys=some d->a8 T F w ρ bl ys xs->fh ty F w ls xs d
 |[],[],d,xs,_,_,a=>by simp only[a8]at a;simp only[fh];exact a
 |f::r,y::ys,d,xs,b,h,a=>by
  simp only[Dl]at h;split at h
  ·rename_i e es c J
   have h:=eJ h
   subst h
   simp only[a8]at a
   obtain⟨u,us,rfl,g,i⟩:=a
   obtain⟨l1,j⟩:=aDX b
   exact⟨u,us,rfl,aBy l1 c g,ais j J i⟩
  ·cases h
 |[],y::ys,d,xs,_,h,_=>by simp[Dl]at h
 |f::r,[],d,xs,_,h,_=>by simp[Dl]at h
theorem aeM:∀ {ls:List iJ}{d:mL T.El ls},(qE ls d).length=ls.length
 |[],d=>rfl
 |f::r,d=>by simp[qE,aeM (ls:=r)]
theorem fi{es:List (Σ t,b7 T.El t)}{t:Nat}{agg:Bool}{ls:List iJ}{fr:T.El t->mL T.El ls}{to:mL T.El ls->T.El t}{eq:Option (T.El t->T.El t->Bool)}{key:Option (h8 (T.El t))}
 (a:xr T (λ t=>(fM es t).ty) ls)(ad:∀p,fr (to p)=p)(b:agg=false->ls.length=1)(c:∀K,key=some K-> ∀F w xs k,fh (λ t=>(fM es t).ty) F w ls xs (fr k)->Am agg xs= @lY.enc _ K.dec K.sy k):eH T t (fb es agg ls fr to eq key):=by
 refine⟨λ d F w xs h=>Fz a h,λ l d h F w ρ bl xs e=>?_,c,λ h d=>by
  show(qE ls (fr d)).length=1
  rw[aeM];exact b h⟩
 obtain⟨p,f,J⟩:=cz.1 (show(Dl ls l).map to=some d from h)
 subst J
 show fh _ F w ls xs (fr (to p))
 rw[ad]
 exact ais a f e
end
end bc
namespace bc
open Go Go.RowKit ay I
def afE:List (Nat×Type)->Nat->Type
 |[],_=>Empty
 |p::r,t=>match l2 p.1 t with
  |isTrue _=>p.2
  |isFalse _=>afE r t
def uC:h8 Int:=⟨inferInstance,aCg⟩
def Kj:h8 (List UInt8):=⟨inferInstance,nj⟩
end bc
namespace bc
open Go Go.RowKit ay I
inductive jh
 |i (k:IntKind)
 |b
 |s
 |l (t:Nat)
 |x (t:Nat)
 |n (kt vt:Nat)
 |gM
 |B (j:Nat)
 |R (j:Nat)
 |M (j:Nat)
 |P (j sz:Nat)
 |F (g:Nat) (ef:List Nat)
inductive cN
 |p (p:jh)
 |a (ps:List jh)
 |f (g:Nat) (ps:List jh)
inductive bK
 |c (ty:Nat) (ps:List jh)
 |r (t:Nat) (same:Bool)
 |m (kt vt:Nat)
 |d
section
variable(El:Nat->Type)
@[reducible] def yo:jh->Type
  | .i _=>Int
  | .b=>Bool
  | .s=>List UInt8
  | .l t=>List (El t)
  | .x t=>El t
  | .n kt vt=>List (El kt×El vt)
  | .P _ _=>List Int
  |_=>Unit
@[reducible] def vD:List jh->Type
  |[]=>Unit
  |p::r=>yo El p×vD r
@[reducible] def E1:cN->Type
  | .p p=>yo El p
  | .a ps=>vD El ps
  | .f _ ps=>vD El ps
@[reducible] def dv:List cN->Type
  |[]=>Unit
  |p::r=>E1 El p×dv r
@[reducible] def tB:bK->Type
  | .c _ ps=>vD El ps
  | .r t _=>List (El t)
  | .m kt vt=>List (El kt×El vt)
  | .d=>Unit
@[reducible] def cK:List bK->Type
  |[]=>Unit
  |p::r=>tB El p×cK r
end
def fc(post:Bool):Option bK->Nat
 |some (.r _ same)=>match post,same with
  |true,false=>1
  |_,_=>0
 |some .d=>match post with
  |true=>1
  |false=>0
 |_=>0
def AP(post:Bool):Nat:=match post with
 |true=>1
 |false=>0
section
variable{El:Nat->Type}
def gN(σ g:Nat->Nat):(p:jh)->yo El p->aI El
 | .i k,d=>.p (.int k d)
 | .b,d=>.p (.bool d)
 | .s,d=>.p (cw d)
 | .l t,d=>.s t d
 | .x t,d=>.x t d 0
 | .n kt vt,d=>.n kt vt d
 | .gM,_=>.p (.pointer none)
 | .B j,_=>.b (σ j) 0
 | .R j,_=>.r (σ j) (g j)
 | .M j,_=>.m (σ j)
 | .P j sz,d=>.pp (σ j) (g j) sz d
 | .F fn ef,_=>.f (.func fn) (ef.map λ j=>.b (σ j) 0)
def sV(σ g:Nat->Nat):(ps:List jh)->vD El ps->List (aI El)
 |[],_=>[]
 |p::r,d=>gN σ g p d.1::sV σ g r d.2
def Ar(σ g:Nat->Nat):(p:cN)->E1 El p->aI El
 | .p p,d=>gN σ g p d
 | .a ps,d=>.a (sV σ g ps d)
 | .f fn ps,d=>.f (.func fn) (sV σ g ps d)
def gu(σ g:Nat->Nat):(ps:List cN)->dv El ps->List (aI El)
 |[],_=>[]
 |p::r,d=>Ar σ g p d.1::gu σ g r d.2
def dG(σ g:Nat->Nat)(post:Bool):(p:bK)->tB El p->aF El
 | .c ty ps,d=>.c ty (sV σ g ps d)
 | .r t same,d=>.r t (fc post (some (.r t same))) (AP post) d
 | .m kt vt,d=>.m kt vt d
 | .d,_=>.no (fc post (some .d))
def bP(σ g:Nat->Nat)(post:Bool):(ps:List bK)->cK El ps->List (aF El)
 |[],_=>[]
 |p::r,d=>dG σ g post p d.1::bP σ g post r d.2
def MY:List (Nat×Nat)->Nat->Bool
 |[],_=>true
 |p::r,i=>!cy p.2 i&&MY r i
def vR(a1:List (Nat×Nat))(j i:Nat):Option (List (Nat×Nat)):=match cG a1 j with
 |some i'=>match cy i' i with
  |true=>some a1
  |false=>none
 |none=>match MY a1 i with
  |true=>some ((j,i)::a1)
  |false=>none
def TK{t' t:Nat}(d:El t'):Option (El t):=match l2 t' t with
 |isTrue h=>some (h▸d)
 |isFalse _=>none
def M'{k' fl k v:Nat}(d:List (El k'×El fl)):Option (List (El k×El v)):=match l2 k' k,l2 fl v with
 |isTrue h,isTrue h'=>some (h▸h'▸d)
 |_,_=>none
def ag3(t:Nat):aI El->Option (El t)
 | .x _ d 0=>TK d
 |_=>none
def ag2(kt vt:Nat):aI El->Option (List (El kt×El vt))
 | .n _ _ d=>M' d
 |_=>none
def l6:List (Nat×Nat)->List Nat->List (aI El)->Option (List (Nat×Nat))
 |a1,[],[]=>some a1
 |a1,j::r,.b i 0::ys=>match vR a1 j i with
  |some a=>l6 a r ys
  |none=>none
 |_,_,_=>none
def iv(bl:List (aF El))(a1:List (Nat×Nat)):(p:jh)->aI El->Option (yo El p×List (Nat×Nat))
 | .i k,y=>(OQ k y).map λ d=>(d,a1)
 | .b,y=>(OP y).map λ d=>(d,a1)
 | .s,y=>(OS y).map λ d=>(d,a1)
 | .l t,y=>(OT t y).map λ d=>(d,a1)
 | .x t,y=>(ag3 t y).map λ d=>(d,a1)
 | .n kt vt,y=>(ag2 kt vt y).map λ d=>(d,a1)
 | .gM,y=>match y with
   | .p (.pointer none)=>some ((),a1)
   |_=>none
 | .B j,y=>match y with
   | .b i 0=>(vR a1 j i).map λ a1=>((),a1)
   |_=>none
 | .R j,y=>match y with
   | .r i g=>match cy g (uc bl i)with
     |true=>(vR a1 j i).map λ a1=>((),a1)
     |false=>none
   |_=>none
 | .M j,y=>match y with
   | .m i=>(vR a1 j i).map λ a1=>((),a1)
   |_=>none
 | .P j sz,y=>match y with
   | .pp i a b ef=>match cy a (uc bl i)&&cy b sz with
     |true=>(vR a1 j i).map λ a1=>(ef,a1)
     |false=>none
   |_=>none
 | .F g ef,y=>match y with
   | .f (.func g') cs=>match cy g' g with
     |true=>(l6 a1 ef cs).map λ a1=>((),a1)
     |false=>none
   |_=>none
def oq(bl:List (aF El)):(a1:List (Nat×Nat))->(ps:List jh)->List (aI El)->Option (vD El ps×List (Nat×Nat))
 |a1,[],[]=>some ((),a1)
 |a1,p::r,y::ys=>match iv bl a1 p y with
  |some (d,a)=>match oq bl a r ys with
   |some (ds,b)=>some ((d,ds),b)
   |none=>none
  |none=>none
 |_,_,_=>none
def I8(bl:List (aF El))(a1:List (Nat×Nat)):(p:cN)->aI El->Option (E1 El p×List (Nat×Nat))
 | .p p,y=>iv bl a1 p y
 | .a ps,y=>oq bl a1 ps (cellsOf y)
 | .f g ps,y=>match y with
   | .f (.func g') ys=>match cy g' g with
     |true=>oq bl a1 ps ys
     |false=>none
   |_=>none
def Tx:cN->aI El->Bool
 | .a _,y=>lG y
 |_,_=>true
def l5(bl:List (aF El)):(a1:List (Nat×Nat))->(ps:List cN)->List (aI El)->Option (dv El ps×List (Nat×Nat))
 |a1,[],[]=>some ((),a1)
 |a1,p::r,y::ys=>match Tx p y,I8 bl a1 p y with
  |true,some (d,a)=>match l5 bl a r ys with
   |some (ds,b)=>some ((d,ds),b)
   |none=>none
  |_,_=>none
 |_,_,_=>none
end
section
variable{T:bT}{F F':Nat->Prop}{w:World}{ρ ρ':List Value}{bl bl':List (aF T.El)}{g:Nat->Nat}
theorem tQ{a1 a:List (Nat×Nat)}{j i:Nat}(h:vR a1 j i=some a):cG a j=some i/\ ∀p∈a1,p∈a:=by
 unfold vR at h;split at h
 ·rename_i i' hi
  split at h
  ·rename_i ag
   simp only[aH]at h
   subst h
   rw[<-bd ag]
   exact⟨hi,λ p b=>b⟩
  ·cases h
 ·split at h
  ·simp only[aH]at h
   subst h
   exact⟨by simp[cG],λ p b=>dZ _ b⟩
  ·cases h
structure rL (σ:Nat->Nat) (a1:List (Nat×Nat)) (ρ ρ':List Value):Prop where
 at_:∀p∈a1,ρ'[σ p.1]? =ρ[p.2]?
theorem auZ{t' t:Nat}{d:T.El t'}{d':T.El t}(h:TK d=some d'){cs:List Value}(a:(T.ty t').rd F w cs d):(T.ty t).rd F w cs d':=by
 unfold TK at h;split at h
 ·rename_i e _
  subst e
  simp only[aH]at h
  subst h
  exact a
 ·cases h
theorem aey{k' fl k v r:Nat}{d:List (T.El k'×T.El fl)}{d':List (T.El k×T.El v)}(h:M' d=some d')(a:yA T F w k' fl r d):yA T F w k v r d':=by
 unfold M' at h;split at h
 ·rename_i e e' _ _
  subst e;subst e'
  simp only[aH]at h
  subst h
  exact a
 ·cases h
theorem VV:∀ {ef:List Nat}{cs:List (aI T.El)}{a1 a:List (Nat×Nat)},l6 a1 ef cs=some a-> ∀q∈a1,q∈a
 |[],[],a1,a,h=>by simp only[l6,aH]at h;subst h;exact λ q b=>b
 |j::r,y::ys,a1,a,h=>by
  unfold l6 at h;split at h
  ·rename_i e;cases e
  ·rename_i c ao
   simp only[h3]at c ao
   obtain⟨rfl,rfl⟩:=c
   obtain⟨_,rfl⟩:=ao
   split at h
   ·rename_i d
    exact λ q b=>VV h q ((tQ d).2 q b)
   ·cases h
  ·cases h
 |[],y::ys,a1,a,h=>by simp[l6]at h
 |j::r,[],a1,a,h=>by simp[l6]at h
theorem agY{σ:Nat->Nat}:∀ {ef:List Nat}{cs:List (aI T.El)}{a1 b:List (Nat×Nat)}{vs:List Value},rL σ b ρ ρ'->l6 a1 ef cs=some b->a8 T F w ρ bl cs vs->a8 T F' w ρ' bl' (ef.map λ j=>.b (σ j) 0) vs
 |[],[],a1,b,vs,c,h,a=>by simp only[a8]at a;subst a;simp[a8]
 |j::r,y::ys,a1,b,vs,c,h,a=>by
  unfold l6 at h;split at h
  ·rename_i e;cases e
  ·rename_i d ao
   simp only[h3]at d ao
   obtain⟨rfl,rfl⟩:=d
   obtain⟨rfl,rfl⟩:=ao
   split at h
   ·rename_i f
    have e:=c.at_ _ (VV h _ (oG (tQ f).1))
    simp only[a8,aw]at a
    obtain⟨u,us,rfl,⟨i,d,ao⟩,aT⟩:=a
    simp only[eB,a8,aw]
    exact⟨u,us,rfl,⟨i,e.trans d,ao⟩,agY c h aT⟩
   ·cases h
  ·cases h
 |[],y::ys,a1,b,vs,c,h,a=>by simp[l6]at h
 |j::r,[],a1,b,vs,c,h,a=>by simp[l6]at h
theorem ag1{a1 c:List (Nat×Nat)}:∀ {p:jh}{y:aI T.El}{d:yo T.El p},iv bl a1 p y=some (d,c)-> ∀q∈a1,q∈c
 | .i k,y,d,h=>by obtain⟨x,_,h⟩:=cz.1 h;cases h;exact λ q a=>a
 | .b,y,d,h=>by obtain⟨x,_,h⟩:=cz.1 h;cases h;exact λ q a=>a
 | .s,y,d,h=>by obtain⟨x,_,h⟩:=cz.1 h;cases h;exact λ q a=>a
 | .l t,y,d,h=>by obtain⟨x,_,h⟩:=cz.1 h;cases h;exact λ q a=>a
 | .x t,y,d,h=>by obtain⟨x,_,h⟩:=cz.1 h;cases h;exact λ q a=>a
 | .n kt vt,y,d,h=>by obtain⟨x,_,h⟩:=cz.1 h;cases h;exact λ q a=>a
 | .gM,y,d,h=>by
   simp only[iv]at h;split at h
   ·cases h;exact λ q a=>a
   ·cases h
 | .B j,y,d,h=>by
   simp only[iv]at h;split at h
   ·obtain⟨x,b,h⟩:=cz.1 h;cases h;exact(tQ b).2
   ·cases h
 | .R j,y,d,h=>by
   simp only[iv]at h;split at h
   ·split at h
    ·obtain⟨x,b,h⟩:=cz.1 h;cases h;exact(tQ b).2
    ·cases h
   ·cases h
 | .M j,y,d,h=>by
   simp only[iv]at h;split at h
   ·obtain⟨x,b,h⟩:=cz.1 h;cases h;exact(tQ b).2
   ·cases h
 | .P j sz,y,d,h=>by
   simp only[iv]at h;split at h
   ·split at h
    ·obtain⟨x,b,h⟩:=cz.1 h;cases h;exact(tQ b).2
    ·cases h
   ·cases h
 | .F g ef,y,d,h=>by
   simp only[iv]at h;split at h
   ·split at h
    ·obtain⟨x,b,h⟩:=cz.1 h;cases h;exact VV b
    ·cases h
   ·cases h
theorem ag0{σ:Nat->Nat}(m:∀k,F k->F' k)(z:∀j,g j=b4 bl'[σ j]?){a1 B:List (Nat×Nat)}(n:rL σ B ρ ρ'):∀ {p:jh}{y:aI T.El}{d:yo T.El p}{v:Value},iv bl a1 p y=some (d,B)->aw T F w ρ bl y v->aw T F' w ρ' bl' (gN σ g p d) v
 | .i k,y,d,v,h,b=>by
   obtain⟨x,f,h⟩:=cz.1 h;cases h;simp only[gN,aw];exact air f b
 | .b,y,d,v,h,b=>by
   obtain⟨x,f,h⟩:=cz.1 h;cases h;simp only[gN,aw];exact aip f b
 | .s,y,d,v,h,b=>by
   obtain⟨x,f,h⟩:=cz.1 h;cases h;simp only[gN,aw];exact ait f b
 | .l t,y,d,v,h,b=>by
   obtain⟨x,f,h⟩:=cz.1 h;cases h;simp only[gN,aw];exact(b5 (T.ty t)).law (λ k o=>⟨m k o,rfl⟩) (aiu f b)
 | .x t,y,d,v,h,b=>by
   obtain⟨x,f,h⟩:=cz.1 h;cases h;unfold ag3 at f;split at f
   ·simp only[aw]at b
    obtain⟨a,q,cs,l,ao,aT,bQ⟩:=b
    simp only[gN,aw]
    exact⟨a,q,cs,l,m a ao,(T.ty t).law (λ k o=>⟨m k o,rfl⟩) (auZ f aT),bQ⟩
   ·cases f
 | .n kt vt,y,d,v,h,b=>by
   obtain⟨x,f,h⟩:=cz.1 h;cases h;unfold ag2 at f;split at f
   ·simp only[aw]at b
    obtain⟨r,l,ao,aT⟩:=b
    simp only[gN,aw]
    exact⟨r,l,m r ao,(aey f aT).law (λ k o=>⟨m k o,rfl⟩) rfl⟩
   ·cases f
 | .gM,y,d,v,h,b=>by
   simp only[iv]at h;split at h
   ·simp only[aw]at b
    simp only[gN,aw];exact b
   ·cases h
 | .B j,y,d,v,h,b=>by
   simp only[iv]at h;split at h
   ·rename_i i
    obtain⟨x,f,h⟩:=cz.1 h;cases h
    have e:=n.at_ _ (oG (tQ f).1)
    simp only[aw]at b
    obtain⟨s,l,ao⟩:=b
    simp only[gN,aw]
    exact⟨s,e.trans l,ao⟩
   ·cases h
 | .R j,y,d,v,h,b=>by
   simp only[iv]at h;split at h
   ·rename_i i D
    split at h
    ·rename_i ag
     have ag:=bd ag
     rw[CJ]at ag
     obtain⟨x,f,h⟩:=cz.1 h;cases h
     have e:=n.at_ _ (oG (tQ f).1)
     simp only[aw]at b
     obtain⟨E,u,l,ao,aT⟩:=b
     simp only[gN,aw]
     exact⟨E,u,e.trans l,by rw[z];exact cT _,λ _=>aT ag⟩
    ·cases h
   ·cases h
 | .M j,y,d,v,h,b=>by
   simp only[iv]at h;split at h
   ·rename_i i
    obtain⟨x,f,h⟩:=cz.1 h;cases h
    have e:=n.at_ _ (oG (tQ f).1)
    simp only[aw]at b
    obtain⟨s,l,ao⟩:=b
    simp only[gN,aw]
    exact⟨s,e.trans l,ao⟩
   ·cases h
 | .P j sz,y,d,v,h,b=>by
   simp only[iv]at h;split at h
   ·rename_i i D P ef
    split at h
    ·rename_i ag
     simp only[cb]at ag
     have C:=bd ag.1
     have G:=bd ag.2
     subst G
     rw[CJ]at C
     obtain⟨x,f,h⟩:=cz.1 h;cases h
     have e:=n.at_ _ (oG (tQ f).1)
     simp only[aw]at b
     obtain⟨A,c,l,ao,aT,bQ⟩:=b
     simp only[gN,aw]
     refine⟨A,c,l,ao,aT,λ H=>?_⟩
     obtain⟨I,J,xs,K,L⟩:=bQ H
     exact⟨I,m _ J,xs,K.imp λ q v ⟨M,u,N,Q,O⟩=>⟨M,u,e.trans N,by rw[z];exact cT _,λ _=>O C⟩,L⟩
    ·cases h
   ·cases h
 | .F g ef,y,d,v,h,b=>by
   simp only[iv]at h;split at h
   ·rename_i g' cs
    split at h
    ·rename_i ag
     have ag:=bd ag
     subst ag
     obtain⟨x,f,h⟩:=cz.1 h;cases h
     simp only[aw]at b
     obtain⟨vs,l,ao⟩:=b
     simp only[gN,aw]
     exact⟨vs,l,agY n f ao⟩
    ·cases h
   ·cases h
end
end bc
namespace bc
open Go Go.RowKit ay I
section
variable{El:Nat->Type}
def iO(bl:List (aF El))(a1:List (Nat×Nat))(post:Bool):(p:bK)->aF El->Option (tB El p×List (Nat×Nat))
 | .c ty ps,B=>match B with
   | .c a cs=>match cy a ty with
     |true=>oq bl a1 ps cs
     |false=>none
   |_=>none
 | .r t same,B=>match B with
   | .r _ g _ l=>match !post|| !same||cy g 0 with
     |true=>(Cx l).map λ d=>(d,a1)
     |false=>none
   |_=>none
 | .m kt vt,B=>match B with
   | .m _ _ d=>(M' d).map λ d=>(d,a1)
   |_=>none
 | .d,B=>match B with
   | .c _ _=>some ((),a1)
   | .r _ _ _ _=>some ((),a1)
   | .m _ _ _=>some ((),a1)
   | .no _=>some ((),a1)
   | .z _ _ _ _=>some ((),a1)
   |_=>none
def oo(bl:List (aF El))(post:Bool):List (Nat×Nat)->Nat->(ps:List bK)->Option (cK El ps×List (Nat×Nat))
 |a1,_,[]=>some ((),a1)
 |a1,k,p::r=>match cG a1 k with
  |some i=>match nth bl i with
   |some B=>match iO bl a1 post p B with
    |some (d,a)=>match oo bl post a (k+1) r with
     |some (ds,b)=>some ((d,ds),b)
     |none=>none
    |none=>none
   |none=>none
  |none=>none
def J'(a1:List (Nat×Nat)):Nat->Nat->Option (List Nat)
 |_,0=>some []
 |k,n+1=>match cG a1 k,J' a1 (k+1) n with
  |some i,some r=>some (i::r)
  |_,_=>none
def MW(n:Nat):List (Nat×Nat)->Bool
 |[]=>true
 |p::r=>fs p.1 n&&MW n r
def iw(bl:List (aF El))(a1:List (Nat×Nat))(post:Bool)(pas:List cN)(pbs:List bK)(ys:List (aI El)):Option ((dv El pas×cK El pbs)×List Nat):=
 match l5 bl a1 pas ys with
 |some (da,b)=>match oo bl post b 0 pbs with
  |some (db,a)=>match J' a 0 pbs.length,MW pbs.length a with
   |some sel,true=>some ((da,db),sel)
   |_,_=>none
  |none=>none
 |none=>none
end
structure jN (a1:List (Nat×Nat)):Prop where
 fn:∀p∈a1,∀q∈a1,p.1=q.1 ->p.2=q.2
 inj:∀p∈a1,∀q∈a1,p.2=q.2 ->p.1=q.1
theorem ajq{α:Type}{j:Nat}:∀ {l:List (Nat×α)},cG l j=none-> ∀p∈l,p.1≠j
 |[],_,p,aC=>by simp at aC
 |q::r,h,p,aC=>by
  simp only[cG]at h;split at h
  ·cases h
  ·rename_i ag
   rcases cI.1 aC with rfl |aC
   ·intro e;subst e;simp at ag
   ·exact ajq h p aC
theorem ad1{i:Nat}:∀ {l:List (Nat×Nat)},MY l i=true-> ∀p∈l,p.2≠i
 |[],_,p,aC=>by simp at aC
 |q::r,h,p,aC=>by
  simp only[MY,cb,ha]at h;rcases cI.1 aC with rfl |aC
  ·intro e;rw[e]at h;simp at h
  ·exact ad1 h.2 p aC
theorem Iz{a1 a:List (Nat×Nat)}{j i:Nat}(h:vR a1 j i=some a)(aL:jN a1):jN a:=by
 unfold vR at h;split at h
 ·split at h
  ·simp only[aH]at h;subst h;exact aL
  ·cases h
 ·rename_i c
  split at h
  ·rename_i ad
   simp only[aH]at h
   subst h
   have b:=ajq c
   have J:=ad1 ad
   refine⟨λ p aC q aN e=>?_,λ p aC q aN e=>?_⟩
   ·rcases cI.1 aC with rfl |aC<;>rcases cI.1 aN with rfl |aN
    ·rfl
    ·exact absurd e.symm (b q aN)
    ·exact absurd e (b p aC)
    ·exact aL.fn p aC q aN e
   ·rcases cI.1 aC with rfl |aC<;>rcases cI.1 aN with rfl |aN
    ·rfl
    ·exact absurd e.symm (J q aN)
    ·exact absurd e (J p aC)
    ·exact aL.inj p aC q aN e
  ·cases h
section
variable{T:bT}{F F':Nat->Prop}{w:World}{ρ ρ':List Value}{bl bl':List (aF T.El)}{σ g:Nat->Nat}
theorem agX:∀ {ef:List Nat}{cs:List (aI T.El)}{a1 a:List (Nat×Nat)},jN a1->l6 a1 ef cs=some a->jN a
 |[],[],a1,a,aL,h=>by simp only[l6,aH]at h;subst h;exact aL
 |j::r,y::ys,a1,a,aL,h=>by
  unfold l6 at h;split at h
  ·rename_i e;cases e
  ·rename_i b ao
   simp only[h3]at b ao
   obtain⟨rfl,rfl⟩:=b
   obtain⟨_,rfl⟩:=ao
   split at h
   ·rename_i c
    exact agX (Iz c aL) h
   ·cases h
  ·cases h
 |[],y::ys,a1,a,aL,h=>by simp[l6]at h
 |j::r,[],a1,a,aL,h=>by simp[l6]at h
theorem agZ{a1 b:List (Nat×Nat)}(aL:jN a1):∀ {p:jh}{y:aI T.El}{d:yo T.El p},iv bl a1 p y=some (d,b)->jN b
 | .i k,y,d,h=>by obtain⟨x,_,h⟩:=cz.1 h;cases h;exact aL
 | .b,y,d,h=>by obtain⟨x,_,h⟩:=cz.1 h;cases h;exact aL
 | .s,y,d,h=>by obtain⟨x,_,h⟩:=cz.1 h;cases h;exact aL
 | .l t,y,d,h=>by obtain⟨x,_,h⟩:=cz.1 h;cases h;exact aL
 | .x t,y,d,h=>by obtain⟨x,_,h⟩:=cz.1 h;cases h;exact aL
 | .n kt vt,y,d,h=>by obtain⟨x,_,h⟩:=cz.1 h;cases h;exact aL
 | .gM,y,d,h=>by
   simp only[iv]at h;split at h
   ·cases h;exact aL
   ·cases h
 | .B j,y,d,h=>by
   simp only[iv]at h;split at h
   ·obtain⟨x,a,h⟩:=cz.1 h;cases h;exact Iz a aL
   ·cases h
 | .R j,y,d,h=>by
   simp only[iv]at h;split at h
   ·split at h
    ·obtain⟨x,a,h⟩:=cz.1 h;cases h;exact Iz a aL
    ·cases h
   ·cases h
 | .M j,y,d,h=>by
   simp only[iv]at h;split at h
   ·obtain⟨x,a,h⟩:=cz.1 h;cases h;exact Iz a aL
   ·cases h
 | .P j sz,y,d,h=>by
   simp only[iv]at h;split at h
   ·split at h
    ·obtain⟨x,a,h⟩:=cz.1 h;cases h;exact Iz a aL
    ·cases h
   ·cases h
 | .F g ef,y,d,h=>by
   simp only[iv]at h;split at h
   ·split at h
    ·obtain⟨x,a,h⟩:=cz.1 h;cases h;exact agX aL a
    ·cases h
   ·cases h
theorem rL.sub{a1 a:List (Nat×Nat)}(h:rL σ a ρ ρ')(aj:∀q∈a1,q∈a):rL σ a1 ρ ρ':=⟨λ p b=>h.at_ p (aj p b)⟩
theorem I_:∀ {ps:List jh}{ys:List (aI T.El)}{a1 a:List (Nat×Nat)}{d:vD T.El ps},oq bl a1 ps ys=some (d,a)->(∀q∈a1,q∈a)/\(jN a1->jN a)
 |[],[],a1,a,d,h=>by simp only[oq]at h;cases h;exact⟨λ q b=>b,λ h=>h⟩
 |p::r,y::ys,a1,a,d,h=>by
  simp only[oq]at h;split at h
  ·rename_i i j c
   split at h
   ·rename_i k l J
    cases h
    obtain⟨e,f⟩:=I_ J
    exact⟨λ q b=>e q (ag1 c q b),λ aL=>f (agZ aL c)⟩
   ·cases h
  ·cases h
 |[],y::ys,a1,a,d,h=>by simp[oq]at h
 |p::r,[],a1,a,d,h=>by simp[oq]at h
theorem N2(e:∀k,F k->F' k)(f:∀j,g j=b4 bl'[σ j]?):∀ {ps:List jh}{ys:List (aI T.El)}{a1 a:List (Nat×Nat)}{d:vD T.El ps}{vs:List Value},rL σ a ρ ρ'->oq bl a1 ps ys=some (d,a)->a8 T F w ρ bl ys vs->a8 T F' w ρ' bl' (sV σ g ps d) vs
 |[],[],a1,a,d,vs,c,h,b=>by simp only[a8]at b;subst b;simp[sV,a8]
 |p::r,y::ys,a1,a,d,vs,c,h,b=>by
  simp only[oq]at h;split at h
  ·rename_i m n i
   split at h
   ·rename_i o q J
    cases h
    simp only[a8]at b
    obtain⟨u,us,rfl,l,ao⟩:=b
    simp only[sV,a8]
    exact⟨u,us,rfl,ag0 e f (c.sub (I_ J).1) i l,N2 e f c J ao⟩
   ·cases h
  ·cases h
 |[],y::ys,a1,a,d,vs,_,h,_=>by simp[oq]at h
 |p::r,[],a1,a,d,vs,_,h,_=>by simp[oq]at h
theorem ax8:∀ {p:cN}{y:aI T.El}{a1 a:List (Nat×Nat)}{d:E1 T.El p},I8 bl a1 p y=some (d,a)->(∀q∈a1,q∈a)/\(jN a1->jN a)
 | .p p,y,a1,a,d,h=>⟨ag1 h,λ aL=>agZ aL h⟩
 | .a ps,y,a1,a,d,h=>I_ h
 | .f fn ps,y,a1,a,d,h=>by
   simp only[I8]at h;split at h
   ·split at h
    ·exact I_ h
    ·cases h
   ·cases h
theorem ax7(e:∀k,F k->F' k)(f:∀j,g j=b4 bl'[σ j]?):∀ {p:cN}{y:aI T.El}{a1 b:List (Nat×Nat)}{d:E1 T.El p}{v:Value},rL σ b ρ ρ'->Tx p y=true->I8 bl a1 p y=some (d,b)->aw T F w ρ bl y v->aw T F' w ρ' bl' (Ar σ g p d) v
 | .p p,y,a1,b,d,v,c,_,h,a=>ag0 e f c h a
 | .a ps,y,a1,b,d,v,c,hy,h,a=>by
   simp only[Tx]at hy;have:=N2 e f c h (pk a);simp only[Ar,aw];cases y<;>simp only[lG,reduceCtorEq]at hy
   ·rename_i u
    cases u<;>simp only[lG,reduceCtorEq]at hy
    simp only[aw]at a
    subst a
    exact⟨_,rfl,this⟩
   ·simp only[aw]at a
    obtain⟨vs,rfl,_⟩:=a
    exact⟨vs,rfl,this⟩
 | .f fn ps,y,a1,b,d,v,c,_,h,a=>by
   simp only[I8]at h;split at h
   ·split at h
    ·rename_i ag
     have ag:=bd ag
     subst ag
     simp only[aw]at a
     obtain⟨vs,rfl,J⟩:=a
     simp only[Ar,aw]
     exact⟨vs,rfl,N2 e f c h J⟩
    ·cases h
   ·cases h
end
end bc
namespace bc
open Go Go.RowKit ay I
section
variable{T:bT}{F F':Nat->Prop}{w:World}{ρ ρ':List Value}{bl bl':List (aF T.El)}{σ g:Nat->Nat}
theorem N0:∀ {ps:List cN}{ys:List (aI T.El)}{a1 a:List (Nat×Nat)}{d:dv T.El ps},l5 bl a1 ps ys=some (d,a)->(∀q∈a1,q∈a)/\(jN a1->jN a)
 |[],[],a1,a,d,h=>by simp only[l5]at h;cases h;exact⟨λ q b=>b,λ h=>h⟩
 |p::r,y::ys,a1,a,d,h=>by
  simp only[l5]at h;split at h
  ·rename_i k l m c
   split at h
   ·rename_i n o J
    cases h
    obtain⟨e,f⟩:=N0 J
    obtain⟨i,j⟩:=ax8 c
    exact⟨λ q b=>e q (i q b),λ aL=>f (j aL)⟩
   ·cases h
  ·cases h
 |[],y::ys,a1,a,d,h=>by simp[l5]at h
 |p::r,[],a1,a,d,h=>by simp[l5]at h
theorem agT(e:∀k,F k->F' k)(f:∀j,g j=b4 bl'[σ j]?):∀ {ps:List cN}{ys:List (aI T.El)}{a1 a:List (Nat×Nat)}{d:dv T.El ps}{vs:List Value},rL σ a ρ ρ'->l5 bl a1 ps ys=some (d,a)->a8 T F w ρ bl ys vs->a8 T F' w ρ' bl' (gu σ g ps d) vs
 |[],[],a1,a,d,vs,c,h,b=>by simp only[a8]at b;subst b;simp[gu,a8]
 |p::r,y::ys,a1,a,d,vs,c,h,b=>by
  simp only[l5]at h;split at h
  ·rename_i n o i l
   split at h
   ·rename_i q s J
    cases h
    simp only[a8]at b
    obtain⟨u,us,rfl,m,ao⟩:=b
    simp only[gu,a8]
    exact⟨u,us,rfl,ax7 e f (c.sub (N0 J).1) i l m,agT e f c J ao⟩
   ·cases h
  ·cases h
 |[],y::ys,a1,a,d,vs,_,h,_=>by simp[l5]at h
 |p::r,[],a1,a,d,vs,_,h,_=>by simp[l5]at h
theorem N1{post:Bool}:∀ {p:bK}{B:aF T.El}{a1 a:List (Nat×Nat)}{d:tB T.El p},iO bl a1 post p B=some (d,a)->(∀q∈a1,q∈a)/\(jN a1->jN a)
 | .c ty ps,B,a1,a,d,h=>by
   simp only[iO]at h;split at h
   ·split at h
    ·exact I_ h
    ·cases h
   ·cases h
 | .r t same,B,a1,a,d,h=>by
   simp only[iO]at h;split at h
   ·split at h
    ·obtain⟨x,_,h⟩:=cz.1 h;cases h;exact⟨λ q b=>b,λ h=>h⟩
    ·cases h
   ·cases h
 | .m kt vt,B,a1,a,d,h=>by
   simp only[iO]at h;split at h
   ·obtain⟨x,_,h⟩:=cz.1 h;cases h;exact⟨λ q b=>b,λ h=>h⟩
   ·cases h
 | .d,B,a1,a,d,h=>by
   simp only[iO]at h;split at h<;>first |(cases h;exact⟨λ q b=>b,λ h=>h⟩)|cases h
theorem alk{t' t:Nat}{l:List (T.El t')}{l':List (T.El t)}(h:Cx l=some l'):∃e:t'=t,l'=e▸l:=by
 unfold Cx at h;split at h
 ·rename_i e _
  simp only[aH]at h
  exact⟨e,h.symm⟩
 ·cases h
theorem ax'(o:∀k,F k->F' k)(s:∀j,g j=b4 bl'[σ j]?){post:Bool}:∀ {p:bK}{B:aF T.El}{a1 f:List (Nat×Nat)}{d:tB T.El p}{h:Value},rL σ f ρ ρ'->iO bl a1 post p B=some (d,f)->jj T F w ρ bl B h->jj T F' w ρ' bl' (dG σ g post p d) h/\ ∀u k,k∈bE (dG σ g post p d) u->k∈bE B u
 | .c ty ps,B,a1,f,d,h,n,a,i=>by
   simp only[iO]at a;split at a
   ·rename_i y cs
    split at a
    ·rename_i ag
     have ag:=bd ag
     subst ag
     obtain⟨v,vs,m,ao,aT⟩:=i
     exact⟨⟨v,vs,m,ao,N2 o s n a aT⟩,λ u k b=>b⟩
    ·cases a
   ·cases a
 | .r t same,B,a1,f,d,h,n,a,i=>by
   simp only[iO]at a;split at a
   ·rename_i t' g' k' l
    split at a
    ·obtain⟨x,q,a⟩:=cz.1 a
     cases a
     obtain⟨e,rfl⟩:=alk q
     subst e
     obtain⟨A,c,xs,m,ao,aT⟩:=i
     exact⟨⟨A,c,xs,m,ao,oO _ (λ k b=>⟨o k b,rfl⟩) aT⟩,λ u k b=>b⟩
    ·cases a
   ·cases a
 | .m kt vt,B,a1,f,d,h,n,a,i=>by
   simp only[iO]at a;split at a
   ·obtain⟨x,q,a⟩:=cz.1 a
    cases a
    obtain⟨r,m,ao⟩:=i
    exact⟨⟨r,m,(aey q ao).law (λ k b=>⟨o k b,rfl⟩) rfl⟩,λ u k b=>b⟩
   ·cases a
 | .d,B,a1,f,d,h,n,a,i=>⟨trivial,λ u k b=>by simp[dG,bE]at b⟩
theorem FT{post:Bool}:∀ {ps:List bK}{a1 a:List (Nat×Nat)}{k:Nat}{d:cK T.El ps},oo bl post a1 k ps=some (d,a)->(∀q∈a1,q∈a)/\(jN a1->jN a)
 |[],a1,a,k,d,h=>by simp only[oo]at h;cases h;exact⟨λ q b=>b,λ h=>h⟩
 |p::r,a1,a,k,d,h=>by
  simp only[oo]at h;split at h
  ·split at h
   ·split at h
    ·rename_i l m c
     split at h
     ·rename_i n o J
      cases h
      obtain⟨e,f⟩:=FT J
      obtain⟨i,j⟩:=N1 c
      exact⟨λ q b=>e q (i q b),λ aL=>f (j aL)⟩
     ·cases h
    ·cases h
   ·cases h
  ·cases h
theorem nu{post:Bool}:∀ {ps:List bK}{d:cK T.El ps},(bP σ g post ps d).length=ps.length
 |[],d=>rfl
 |p::r,d=>by simp[bP,nu (ps:=r)]
theorem VU(f:∀k,F k->F' k)(l:∀j,g j=b4 bl'[σ j]?){post:Bool}:∀ {ps:List bK}{a1 a:List (Nat×Nat)}{k:Nat}{d:cK T.El ps},oo bl post a1 k ps=some (d,a)->rL σ a ρ ρ'-> ∀(m:Nat)(B':aF T.El),(bP σ g post ps d)[m]? =some B' ->
 ∃i B,(k+m,i)∈a/\bl[i]? =some B/\(∀h,jj T F w ρ bl B h->jj T F' w ρ' bl' B' h)/\ ∀u k,k∈bE B' u->k∈bE B u
 |[],a1,a,k,d,_,_,m,B',c=>by simp[bP]at c
 |p::r,a1,a,k,d,h,n,m,B',c=>by
  simp only[oo]at h;split at h
  ·rename_i i hi
   split at h
   ·rename_i B o
    split at h
    ·rename_i x y e
     split at h
     ·rename_i z A J
      cases h
      have q:=(FT J).1
      have s:=(N1 e).1
      rw[dh]at o
      cases m with
      |zero=>
       simp only[bP,dU,aH]at c
       subst c
       exact⟨i,B,q _ (s _ (oG hi)),o,λ h ag=>(ax' f l (n.sub q) e ag).1,axL e⟩
      |succ m=>
       obtain⟨i',rM,v,ao,aT⟩:=VU f l J n m B' (by simpa[bP]using c)
       exact⟨i',rM,by rw[show k+(m+1)=k+1+m by omega];exact v,ao,aT⟩
     ·cases h
    ·cases h
   ·cases h
  ·cases h
where
 axL {post:Bool}:∀ {p:bK}{B:aF T.El}{a1 a:List (Nat×Nat)}{d:tB T.El p},iO bl a1 post p B=some (d,a)-> ∀u k,k∈bE (dG σ g post p d) u->k∈bE B u
  | .c ty ps,B,a1,a,d,h,u,k,b=>by
    simp only[iO]at h;split at h
    ·exact b
    ·cases h
  | .r t same,B,a1,a,d,h,u,k,b=>by
    simp only[iO]at h;split at h
    ·exact b
    ·cases h
  | .m kt vt,B,a1,a,d,h,u,k,b=>by
    simp only[iO]at h;split at h
    ·exact b
    ·cases h
  | .d,B,a1,a,d,h,u,k,b=>by simp[dG,bE]at b
end
end bc
namespace bc
open Go Go.RowKit ay I
structure mP {El:Nat->Type} (bl:List (aF El)) (ρ:List Value) (bl':List (aF El)) (ρ':List Value) (sel:List Nat):Prop where
 len:ρ'.length=bl'.length
 at_:∀(j:Nat)(B':aF El)(h':Value),bl'[j]? =some B'->ρ'[j]? =some h'-> ∃i B,sel[j]? =some i/\bl[i]? =some B/\ρ[i]? =some h'/\ ∀u k,k∈bE B' u->k∈bE B u
 inj:∀(j gB i:Nat),sel[j]? =some i->sel[gB]? =some i->j=gB
def r_{El:Nat->Type}:List (aF El)->List Value->List Nat
 |B::r,h::s=>bE B h++r_ r s
 |_,_=>[]
theorem tY{El:Nat->Type}{k:Nat}:∀ {bl:List (aF El)}{ρ:List Value},k∈r_ bl ρ↔qo bl ρ k
 |[],ρ=>by simp[r_,qo]
 |B::r,[]=>by simp[r_,qo]
 |B::r,h::s=>by
  simp only[r_,cj,tY (bl:=r)];constructor
  ·rintro(e |⟨i,C,u,a,J,b⟩)
   ·exact⟨0,B,h,rfl,rfl,e⟩
   ·exact⟨i+1,C,u,by simpa using a,by simpa using J,b⟩
  ·rintro⟨i,C,u,a,J,b⟩
   cases i with
   |zero=>
    simp only[dU,aH]at a J
    subst a;subst J
    exact .inl b
   |succ i=>exact .inr ⟨i,C,u,by simpa using a,by simpa using J,b⟩
section
variable{T:bT}{W w:World}{M0:List Nat}{X:Nat->Prop}{bl bl':List (aF T.El)}{ρ ρ':List Value}{sel:List Nat}
theorem mP.own(h:mP bl ρ bl' ρ' sel){k:Nat}(a:qo bl' ρ' k):qo bl ρ k:=by
 obtain⟨j,B',h',b,J,c⟩:=a;obtain⟨i,B,_,ao,aT,bQ⟩:=h.at_ j B' h' b J;exact⟨i,B,h',ao,aT,bQ _ _ c⟩
theorem mP.bC(h:mP bl ρ bl' ρ' sel)(f:Mem T W M0 X bl ρ w)(i j:Nat)(B C:aF T.El)(u v:Value)(g:bl'[i]? =some B)(J:ρ'[i]? =some u)(l:bl'[j]? =some C)(m:ρ'[j]? =some v)(n:i≠j):∀k∈bE B u,k∉bE C v:=λ k c d=>by
 obtain⟨a,jg,o,ao,aT,bQ⟩:=h.at_ i B u g J;obtain⟨b,MD,p,q,r,s⟩:=h.at_ j C v l m;have c:=bQ _ _ c;have d:=s _ _ d;refine f.bC a b jg MD u v ao aT q r (λ e=>?_) k c d;subst e;exact n (h.inj i j a o p)
def jS(X:Nat->Prop)(bl:List (aF T.El))(ρ:List Value)(sel:List Nat)(k:Nat):Prop:=X k\/ ∃i B h,i∉sel/\bl[i]? =some B/\ρ[i]? =some h/\k∈bE B h
theorem mP.G_(h:mP bl ρ bl' ρ' sel){k:Nat}(a:bk X bl ρ w k):bk (jS X bl ρ sel) bl' ρ' w k:=
 ⟨λ b=>by
  rcases b with b |⟨i,B,u,_,c,J,d⟩
  ·exact a.1 b
  ·exact a.2.1 ⟨i,B,u,c,J,d⟩,λ e=>a.2.1 (h.own e),a.2.2⟩
theorem mP.K6(h:mP bl ρ bl' ρ' sel){k:Nat}(a:bk X bl ρ w k):bk X bl' ρ' w k:=⟨a.1,λ b=>a.2.1 (h.own b),a.2.2⟩
theorem mP.enter(h:mP bl ρ bl' ρ' sel)(a:Mem T W M0 X bl ρ w)(g:∀(j:Nat)(B':aF T.El)(h':Value),bl'[j]? =some B'->ρ'[j]? =some h'->jj T (bk (jS X bl ρ sel) bl' ρ' w) w ρ' bl' B' h'):Mem T w (r_ bl' ρ') (jS X bl ρ sel) bl' ρ' w:=by
 refine⟨br.refl _ _,h.len,λ k b=>?_,λ k b=>?_,h.bC a,g⟩
 ·rcases b with c |⟨i,B,u,hi,d,J,f⟩
  ·refine⟨fe (a.hW k c).1 a.bY.size,λ e=>?_⟩
   exact a.aj8 (h.own (tY.1 e)) c
  ·refine⟨(a.lt k ⟨i,B,u,d,J,f⟩).1,λ e=>?_⟩
   obtain⟨j,B',h',l,ao,aT⟩:=tY.1 e
   obtain⟨i',jg,m,n,o,p⟩:=h.at_ j B' h' l ao
   have aT:=p _ _ aT
   refine a.bC i i' B jg u h' d J n o (λ e=>?_) k f aT
   subst e
   exact hi (bG m)
 ·exact⟨(a.lt k (h.own b)).1,.inl (tY.2 b)⟩
theorem mP.leave(h:mP bl ρ bl' ρ' sel)(a:Mem T W M0 X bl ρ w)(b:∀(j:Nat)(B':aF T.El)(h':Value),bl'[j]? =some B'->ρ'[j]? =some h'->jj T (bk X bl' ρ' w) w ρ' bl' B' h'):Mem T W M0 X bl' ρ' w:=
 ⟨a.bY,h.len,a.hW,λ k c=>a.lt k (h.own c),h.bC a,b⟩
end
def cd(post:Bool)(pbs:List bK)(j:Nat):Nat:=fc post (pbs[j]?)
def gO(ρ:List Value)(sel:List Nat):List Value:=sel.map λ i=>ρ.getD i undef
section
variable{T:bT}{W w:World}{M0:List Nat}{X:Nat->Prop}{bl bl':List (aF T.El)}{ρ ρ':List Value}{sel:List Nat}
theorem G3{σ g:Nat->Nat}{post:Bool}:∀ {ps:List bK}{d:cK T.El ps}{j:Nat},b4 (bP σ g post ps d)[j]? =fc post ps[j]?
 |[],d,j=>by simp[bP,b4,fc]
 |p::r,d,0=>by
  simp only[bP,dU];cases p<;>rfl
 |p::r,d,j+1=>by simpa[bP]using G3 (ps:=r)
theorem Xp{a1:List (Nat×Nat)}:∀ {n k:Nat}{sel:List Nat},J' a1 k n=some sel->sel.length=n/\ ∀j i,sel[j]? =some i->(k+j,i)∈a1
 |0,k,sel,h=>by simp only[J',aH]at h;subst h;simp
 |n+1,k,sel,h=>by
  simp only[J']at h;split at h
  ·rename_i i r a J
   simp only[aH]at h
   subst h
   obtain⟨b,c⟩:=Xp J
   refine⟨by simp[b],λ j i' aA=>?_⟩
   cases j with
   |zero=>simp only[dU,aH]at aA;subst aA;exact oG a
   |succ j=>rw[show k+(j+1)=k+1+j by omega];exact c j i' (by simpa using aA)
  ·cases h
theorem adV{n:Nat}:∀ {a1:List (Nat×Nat)},MW n a1=true-> ∀p∈a1,p.1<n
 |[],_,p,aC=>by simp at aC
 |q::r,h,p,aC=>by
  simp only[MW,cb]at h;rcases cI.1 aC with rfl |aC
  ·exact cS h.1
  ·exact adV h.2 p aC
theorem ub(l:Mem T W M0 X bl ρ w){a1:List (Nat×Nat)}(aL:jN a1){post:Bool}{pas:List cN}{pbs:List bK}{ys:List (aI T.El)}{da:dv T.El pas}{db:cK T.El pbs}(h:iw bl a1 post pas pbs ys=some ((da,db),sel)) :
 mP bl ρ (bP id (cd post pbs) post pbs db) (gO ρ sel) sel/\(∀p∈a1,sel[p.1]? =some p.2)/\
 ∀F':Nat->Prop,(∀k,bk X bl ρ w k->F' k)->(∀vs,a8 T (bk X bl ρ w) w ρ bl ys vs->a8 T F' w (gO ρ sel) (bP id (cd post pbs) post pbs db) (gu id (cd post pbs) pas da) vs)/\
  ∀(j:Nat)(B':aF T.El)(h':Value),(bP id (cd post pbs) post pbs db)[j]? =some B'->(gO ρ sel)[j]? =some h'->jj T F' w (gO ρ sel) (bP id (cd post pbs) post pbs db) B' h':=by
 unfold iw at h
 split at h
 ·rename_i U O s
  split at h
  ·rename_i n t J
   split at h
   ·rename_i b P Q
    simp only[aH,cF]at h
    obtain⟨⟨rfl,rfl⟩,rfl⟩:=h
    obtain⟨A,H⟩:=N0 s
    obtain⟨v,I⟩:=FT J
    have K:=I (H aL)
    obtain⟨l1,C⟩:=Xp P
    have L:=adV Q
    have x:∀p∈t,b[p.1]? =some p.2:=λ p f=>by
     have D:p.1<b.length:=by rw[l1];exact L p f
     have e:=aK D;have:=C p.1 _ e;rw[jM]at this;have ao:b[p.1]=p.2:=K.fn _ this p f rfl;rw[e,ao]
    have c:(bP id (cd post pbs) post pbs n).length=pbs.length:=nu
    have base:∀(j:Nat)(B':aF T.El),(bP id (cd post pbs) post pbs n)[j]? =some B'-> ∃i B u,b[j]? =some i/\bl[i]? =some B/\ρ[i]? =some u/\(gO ρ b)[j]? =some u:=λ j B' aA=>by
     have y:∀j,cd post pbs j=b4 (bP id (cd post pbs) post pbs n)[id j]? :=λ j=>G3.symm;have E:∀i,(j,i)∈t-> ∀B,bl[i]? =some B-> ∃i B u,b[j]? =some i/\bl[i]? =some B/\ρ[i]? =some u/\(gO ρ b)[j]? =some u:=λ i hi B o=>by
      obtain⟨u,M⟩:=l.sA o;have aj:=x _ hi;refine⟨i,B,u,aj,o,M,?_⟩;rw[gO,jw,aj];simp[List.getD_eq_getElem?_getD,M]
     obtain⟨i,B,a,ao⟩:=agV J j B' aA;exact E i (by simpa using a) B ao
    have q:rL id t ρ (gO ρ b):=⟨λ p f=>by
     have aj:=x p f;have D:p.1<(bP id (cd post pbs) post pbs n).length:=by rw[c];exact L p f
     obtain⟨i,B,u,a,ao,aT,bQ⟩:=base p.1 _ (aK D);rw[aj]at a;cases a;show(gO ρ b)[p.1]? =_
     rw[bQ,aT]⟩
    have y:∀j,cd post pbs j=b4 (bP id (cd post pbs) post pbs n)[id j]? :=λ j=>G3.symm
    refine⟨⟨by rw[c];simp[gO,l1],λ j B' h' aA G=>?_,λ j gB i aA R=>?_⟩,λ p f=>x p (v p (A p f)),λ F' N=>⟨λ vs S=>agT N y (q.sub v) s S,λ j B' h' aA G=>?_⟩⟩
    ·obtain⟨i,B,a,ao,_,aT⟩:=VU (F:=λ _=>False) (F':=λ _=>False) (w:=w) (λ _ h=>h) y J q j B' aA
     rw[jM]at a
     have aj:=x _ a
     refine⟨i,B,aj,ao,?_,aT⟩
     rw[<-q.at_ _ a];exact G
    ·have a:=C j i aA
     have ao:=C gB i R
     have:=K.inj _ a _ ao rfl
     simpa using this
    ·obtain⟨i,B,a,ao,aT,_⟩:=VU N y J q j B' aA
     rw[jM]at a
     have Wr:ρ[i]? =some h':=by rw[<-q.at_ _ a];exact G
     exact aT h' (l.ok i B h' ao Wr)
   ·cases h
  ·cases h
 ·cases h
where
 agV {post:Bool} {σ g:Nat->Nat}:∀ {ps:List bK}{a1 z:List (Nat×Nat)}{k:Nat}{d:cK T.El ps},oo bl post a1 k ps=some (d,z)-> ∀(m:Nat)(B':aF T.El),(bP σ g post ps d)[m]? =some B'-> ∃i B,(k+m,i)∈z/\bl[i]? =some B
  |[],a1,z,k,d,_,m,B',l=>by simp[bP]at l
  |p::r,a1,z,k,d,h,m,B',l=>by
   simp only[oo]at h;split at h
   ·rename_i i hi
    split at h
    ·rename_i B o
     split at h
     ·rename_i H O s
      split at h
      ·rename_i I t J
       cases h
       have v:=(FT J).1
       have A:=(N1 s).1
       rw[dh]at o
       cases m with
       |zero=>exact⟨i,B,v _ (A _ (oG hi)),o⟩
       |succ m=>
        obtain⟨i',rM,a,ao⟩:=agV J m B' (by simpa[bP]using l)
        exact⟨i',rM,by rw[show k+(m+1)=k+1+m by omega];exact a,ao⟩
      ·cases h
     ·cases h
    ·cases h
   ·cases h
end
end bc
namespace bc
open Go Go.RowKit ay I
def gn{α:Type}:List α->List Nat->List α->List α
 |l,[],qs=>l++qs
 |l,i::r,q::qs=>gn (l.set i q) r qs
 |l,_::_,[]=>l
section
variable{α:Type}
theorem Yl:∀ {sel:List Nat}{l qs:List α},sel.length<=qs.length->(gn l sel qs).length=l.length+(qs.length-sel.length)
 |[],l,qs,_=>by simp[gn]
 |i::r,l,q::qs,h=>by
  simp only[gn];rw[Yl (by simpa using h)];simp
 |i::r,l,[],h=>by simp at h
theorem GD:∀ {sel:List Nat}{l qs:List α}{i:Nat},i∉sel->i<l.length->(gn l sel qs)[i]? =l[i]?
 |[],l,qs,i,_,hi=>by simp[gn,eA hi]
 |j::r,l,q::qs,i,h,hi=>by
  simp only[cI,not_or]at h;simp only[gn];rw[GD h.2 (by simpa using hi),jG (Ne.symm h.1)]
 |j::r,l,[],i,_,_=>rfl
theorem Pt:∀ {sel:List Nat}{l qs:List α}{j i:Nat},sel.length<=qs.length->sel.Nodup->(∀i∈sel,i<l.length)->sel[j]? =some i->(gn l sel qs)[i]? =qs[j]?
 |[],l,qs,j,i,_,_,_,h=>by simp at h
 |a::r,l,q::qs,0,i,b,d,c,h=>by
  simp only[dU,aH]at h;subst h;have e:=ie.1 d;simp only[gn];rw[GD e.1 (by simpa using c a (by simp)),gv (c a (by simp))];rfl
 |a::r,l,q::qs,j+1,i,b,d,c,h=>by
  have e:=ie.1 d;simp only[gn];rw[Pt (by simpa using b) e.2 (λ i hi=>by simpa using c i (dZ _ hi)) (by simpa using h)];rfl
 |a::r,l,[],j,i,b,_,_,_=>by simp at b
theorem Pu:∀ {sel:List Nat}{l qs:List α}{m:Nat},sel.length<=qs.length->(gn l sel qs)[l.length+m]? =qs[sel.length+m]?
 |[],l,qs,m,_=>by simp[gn,fq]
 |a::r,l,q::qs,m,b=>by
  simp only[gn];have:=Pu (sel:=r) (l:=l.set a q) (qs:=qs) (m:=m) (by simpa using b);rw[kc]at this;rw[this,show(a::r).length+m=(r.length+m)+1 by simp;omega];rfl
 |a::r,l,[],m,b=>by simp at b
theorem aEj{sel:List Nat}{l qs:List α}(a:sel.length<=qs.length)(c:sel.Nodup)(d:∀i∈sel,i<l.length){i:Nat}{x:α}(h:(gn l sel qs)[i]? =some x) :
 (i∉sel/\i<l.length/\l[i]? =some x)\/ ∃j,qs[j]? =some x/\((j<sel.length/\sel[j]? =some i)\/(sel.length<=j/\i=l.length+(j-sel.length))):=by
 rcases gL i l.length with e |e
 ·by_cases hi:i∈sel
  ·obtain⟨j,aA,rfl⟩:=jf.1 hi
   have b:=aK aA
   rw[Pt a c d b]at h
   exact .inr ⟨j,h,.inl ⟨aA,b⟩⟩
  ·rw[GD hi e]at h
   exact .inl ⟨hi,e,h⟩
 ·right
  obtain⟨m,rfl⟩:∃m,i=l.length+m:=⟨i-l.length,by omega⟩
  rw[Pu a]at h
  exact⟨sel.length+m,h,.inr ⟨by omega,by omega⟩⟩
end
def iW(sel:List Nat)(len j:Nat):Nat:=match nth sel j with
 |some i=>i
 |none=>len+(j-sel.length)
theorem Hj{sel:List Nat}{len j i:Nat}(h:sel[j]? =some i):iW sel len j=i:=by rw[iW,dh,h]
theorem aaP{sel:List Nat}{len j:Nat}(h:sel.length<=j):iW sel len j=len+(j-sel.length):=by
 rw[iW,dh,gE h]
def hq{El:Nat->Type}:Option (aF El)->aF El->aF El
 |some (.r _ g k _),.r t g' k' l=>.r t (g+g') (k+k') l
 |some (.r _ g _ _),.no g'=>.no (g+g')
 |some (.no g),.no g'=>.no (g+g')
 |_,B=>B
def xV{El:Nat->Type}(bl:List (aF El)):List Nat->List (aF El)->List (aF El)
 |i::r,B::qs=>hq (nth bl i) B::xV bl r qs
 |_,qs=>qs
theorem amN{El:Nat->Type}{bl:List (aF El)}:∀ {sel:List Nat}{qs:List (aF El)},(xV bl sel qs).length=qs.length
 |[],qs=>rfl
 |i::r,B::qs=>by simp[xV,amN (sel:=r)]
 |i::r,[]=>rfl
theorem amM{El:Nat->Type}{bl:List (aF El)}:∀ {sel:List Nat}{qs:List (aF El)}{j:Nat},(xV bl sel qs)[j]? =(qs[j]?).map λ B=>(match sel[j]? with
 |some i=>hq (nth bl i) B
 |none=>B)
 |[],qs,j=>by simp[xV]
 |i::r,B::qs,0=>by simp[xV]
 |i::r,B::qs,j+1=>by simpa[xV]using amM (sel:=r) (qs:=qs) (j:=j)
 |i::r,[],j=>by simp[xV]
theorem LI{El:Nat->Type}{o:Option (aF El)}{B:aF El}{u:Value}:bE (hq o B) u=bE B u:=by
 unfold hq;split<;>rfl
section
variable{T:bT}{F F':Nat->Prop}{w:World}{ρ ρ':List Value}{bl bl':List (aF T.El)}{σ g g':Nat->Nat}
theorem aew(a:∀j v,ρ[j]? =some v->ρ'[σ j]? =some v):∀ {ef:List Nat}{vs:List Value},a8 T F w ρ bl (ef.map λ j=>.b (id j) 0) vs->a8 T F' w ρ' bl' (ef.map λ j=>.b (σ j) 0) vs
 |[],vs,h=>by simpa only[iD,a8]using h
 |j::r,vs,h=>by
  simp only[eB,a8,aw]at h⊢;obtain⟨u,us,e,⟨b,c,ao⟩,aT⟩:=h;exact⟨u,us,e,⟨b,a j _ c,ao⟩,aew a aT⟩
theorem akS(e:∀k,F k->F' k)(f:∀j v,ρ[j]? =some v->ρ'[σ j]? =some v)(n:∀j,g j=b4 bl[j]?)(o:∀j v,ρ[j]? =some v->g' j=b4 bl'[σ j]?):∀ {p:jh}{d:yo T.El p}{v:Value},aw T F w ρ bl (gN id g p d) v->aw T F' w ρ' bl' (gN σ g' p d) v
 | .i k,d,v,h=>by simpa only[gN,aw]using h
 | .b,d,v,h=>by simpa only[gN,aw]using h
 | .s,d,v,h=>by simpa only[gN,aw]using h
 | .l t,d,v,h=>by simp only[gN,aw]at h⊢;exact(b5 (T.ty t)).law (λ k i=>⟨e k i,rfl⟩) h
 | .x t,d,v,h=>by
   simp only[gN,aw]at h⊢;obtain⟨a,q,cs,b,ao,aT,bQ⟩:=h;exact⟨a,q,cs,b,e a ao,(T.ty t).law (λ k i=>⟨e k i,rfl⟩) aT,bQ⟩
 | .n kt vt,d,v,h=>by
   simp only[gN,aw]at h⊢;obtain⟨r,b,ao,aT⟩:=h;exact⟨r,b,e r ao,aT.law (λ k i=>⟨e k i,rfl⟩) rfl⟩
 | .gM,d,v,h=>by simpa only[gN,aw]using h
 | .B j,d,v,h=>by
   simp only[gN,aw,id]at h⊢;obtain⟨l,b,ao⟩:=h;exact⟨l,f j _ b,ao⟩
 | .R j,d,v,h=>by
   simp only[gN,aw,id]at h⊢;obtain⟨u,m,b,ao,aT⟩:=h;exact⟨u,m,f j _ b,by rw[o j _ b];exact cT _,λ _=>aT (n j)⟩
 | .M j,d,v,h=>by
   simp only[gN,aw,id]at h⊢;obtain⟨l,b,ao⟩:=h;exact⟨l,f j _ b,ao⟩
 | .P j sz,d,v,h=>by
   simp only[gN,aw,id]at h⊢;obtain⟨A,c,b,ao,aT,bQ⟩:=h;refine⟨A,c,b,ao,aT,λ x=>?_⟩;obtain⟨y,z,xs,B,C⟩:=bQ x;exact⟨y,e _ z,xs,B.imp λ q v ⟨D,m,s,G,E⟩=>⟨D,m,f j _ s,by rw[o j _ s];exact cT _,λ _=>E (n j)⟩,C⟩
 | .F g ef,d,v,h=>by
   simp only[gN,aw]at h⊢;obtain⟨vs,b,ao⟩:=h;exact⟨vs,b,aew f ao⟩
theorem P9(a:∀k,F k->F' k)(b:∀j v,ρ[j]? =some v->ρ'[σ j]? =some v)(c:∀j,g j=b4 bl[j]?)(f:∀j v,ρ[j]? =some v->g' j=b4 bl'[σ j]?):∀ {ps:List jh}{d:vD T.El ps}{vs:List Value},a8 T F w ρ bl (sV id g ps d) vs->a8 T F' w ρ' bl' (sV σ g' ps d) vs
 |[],d,vs,h=>by simpa only[sV,a8]using h
 |p::r,d,vs,h=>by
  simp only[sV,a8]at h⊢;obtain⟨u,us,e,i,J⟩:=h;exact⟨u,us,e,akS a b c f i,P9 a b c f J⟩
theorem aFJ(a:∀k,F k->F' k)(b:∀j v,ρ[j]? =some v->ρ'[σ j]? =some v)(c:∀j,g j=b4 bl[j]?)(f:∀j v,ρ[j]? =some v->g' j=b4 bl'[σ j]?):∀ {p:cN}{d:E1 T.El p}{v:Value},aw T F w ρ bl (Ar id g p d) v->aw T F' w ρ' bl' (Ar σ g' p d) v
 | .p p,d,v,h=>akS a b c f h
 | .a ps,d,v,h=>by
   simp only[Ar,aw]at h⊢;obtain⟨vs,e,i⟩:=h;exact⟨vs,e,P9 a b c f i⟩
 | .f fn ps,d,v,h=>by
   simp only[Ar,aw]at h⊢;obtain⟨vs,e,i⟩:=h;exact⟨vs,e,P9 a b c f i⟩
theorem akR(a:∀k,F k->F' k)(b:∀j v,ρ[j]? =some v->ρ'[σ j]? =some v)(c:∀j,g j=b4 bl[j]?)(f:∀j v,ρ[j]? =some v->g' j=b4 bl'[σ j]?):∀ {ps:List cN}{d:dv T.El ps}{vs:List Value},a8 T F w ρ bl (gu id g ps d) vs->a8 T F' w ρ' bl' (gu σ g' ps d) vs
 |[],d,vs,h=>by simpa only[gu,a8]using h
 |p::r,d,vs,h=>by
  simp only[gu,a8]at h⊢;obtain⟨u,us,e,i,J⟩:=h;exact⟨u,us,e,aFJ a b c f i,akR a b c f J⟩
theorem aFK(l:∀k,F k->F' k)(n:∀j v,ρ[j]? =some v->ρ'[σ j]? =some v)(q:∀j,g j=b4 bl[j]?)(s:∀j v,ρ[j]? =some v->g' j=b4 bl'[σ j]?){post:Bool}{o:Option (aF T.El)}:∀ {p:bK}{d:tB T.El p}{h:Value},jj T F w ρ bl (dG id g post p d) h->jj T F' w ρ' bl' (hq o (dG σ g' post p d)) h
 | .c ty ps,d,h,a=>by
   have:hq o (dG σ g' post (.c ty ps) d)=dG σ g' post (.c ty ps) d:=by unfold hq;split<;>first |rfl |(rename_i e;cases e)
   rw[this];obtain⟨u,vs,b,ao,aT⟩:=a;exact⟨u,vs,b,ao,P9 l n q s aT⟩
 | .r t same,d,h,a=>by
   obtain⟨A,c,xs,b,ao,aT⟩:=a;have:∃f i,hq o (dG σ g' post (.r t same) d)= .r t f i d:=by
    unfold hq;split
    ·rename_i e;cases e;exact⟨_,_,rfl⟩
    ·rename_i e;cases e
    ·rename_i e;cases e
    ·exact⟨_,_,rfl⟩
   obtain⟨f,i,e⟩:=this;rw[e];exact⟨A,c,xs,b,ao,oO _ (λ k m=>⟨l k m,rfl⟩) aT⟩
 | .m kt vt,d,h,a=>by
   have:hq o (dG σ g' post (.m kt vt) d)=dG σ g' post (.m kt vt) d:=by unfold hq;split<;>first |rfl |(rename_i e;cases e)
   rw[this];obtain⟨r,b,ao⟩:=a;exact⟨r,b,ao.law (λ k m=>⟨l k m,rfl⟩) rfl⟩
 | .d,d,h,a=>by
   have:∃f,hq o (dG σ g' post .d d)= .no f:=by
    unfold hq;split
    ·rename_i e;cases e
    ·exact⟨_,rfl⟩
    ·exact⟨_,rfl⟩
    ·exact⟨_,rfl⟩
   obtain⟨f,e⟩:=this;rw[e];trivial
end
end bc
namespace bc
open Go Go.RowKit ay I
def qU{El:Nat->Type}:bK->aF El->Prop
 | .c _ _,.c _ _=>True
 | .r t _,.r t' _ _ _=>t'=t
 | .m _ _,.m _ _ _=>True
 | .d,.c _ _=>True
 | .d,.r _ _ _ _=>True
 | .d,.m _ _ _=>True
 | .d,.no _=>True
 |_,_=>False
def zF:bK->bK->Bool
 | .c _ _,.c _ _=>true
 | .r t _,.r t' _=>cy t t'
 | .m _ _,.m _ _=>true
 | .c _ _,.d=>true
 | .r _ _,.d=>true
 | .m _ _,.d=>true
 |_,_=>false
def j':List bK->List bK->Bool
 |[],_=>true
 |p::r,q::s=>zF p q&&j' r s
 |_::_,[]=>false
theorem Lf:∀ {ps qs:List bK},j' ps qs=true->ps.length<=qs.length
 |[],_,_=>by simp
 |p::r,q::s,h=>by
  simp only[j',cb]at h;have:=Lf h.2;simp;omega
 |p::r,[],h=>by cases h
theorem Ld:∀ {ps qs:List bK}{j:Nat}{p q:bK},j' ps qs=true->ps[j]? =some p->qs[j]? =some q->zF p q=true
 |[],_,j,p,q,_,h,_=>by simp at h
 |a::r,b::s,0,p,q,c,h,h'=>by
  simp only[dU,aH]at h h';subst h;subst h';simp only[j',cb]at c;exact c.1
 |a::r,b::s,j+1,p,q,c,h,h'=>by
  simp only[j',cb]at c;exact Ld c.2 (by simpa using h) (by simpa using h')
 |a::r,[],j,p,q,c,_,_=>by cases c
def fx{El:Nat->Type}(bl:List (aF El))(sel:List Nat)(ct:List bK)(j:Nat):Nat:=(match nth sel j with
 |some i=>uc bl i
 |none=>0)+cd true ct j
def vS{El:Nat->Type}(bl:List (aF El))(sel:List Nat)(ct:List bK)(a:cK El ct):List (aF El):=xV bl sel (bP (iW sel bl.length) (fx bl sel ct) true ct a)
def gx{El:Nat->Type}(bl:List (aF El))(sel:List Nat)(ct:List bK)(a:cK El ct):List (aF El):=gn bl sel (vS bl sel ct a)
section
variable{T:bT}{W w w':World}{M0:List Nat}{X:Nat->Prop}{bl:List (aF T.El)}{ρ nV dS:List Value}{sel:List Nat}{pre ct:List bK}{dp:cK T.El pre}{eL:cK T.El ct}{mX gq:Nat->Nat}
theorem P7{σ g:Nat->Nat}{post:Bool}:∀ {ps:List bK}{d:cK T.El ps}{j:Nat}{B:aF T.El},(bP σ g post ps d)[j]? =some B-> ∃p a,ps[j]? =some p/\B=dG σ g post p a/\ ∀σ' g',(bP σ' g' post ps d)[j]? =some (dG σ' g' post p a)
 |[],d,j,B,h=>by simp[bP]at h
 |p::r,d,0,B,h=>by
  simp only[bP,dU,aH]at h;subst h;exact⟨p,d.1,rfl,rfl,λ _ _=>rfl⟩
 |p::r,d,j+1,B,h=>by
  obtain⟨q,a,b,J,c⟩:=P7 (ps:=r) (d:=d.2) (j:=j) (by simpa[bP]using h);exact⟨q,a,by simpa using b,J,λ σ' g'=>by simpa[bP]using c σ' g'⟩
theorem back(o:Mem T W M0 X bl ρ w)(aj:mP bl ρ (bP id mX false pre dp) nV sel)(mZ:sel.length=pre.length)(c:∀(j i:Nat)(B:aF T.El)(p:bK),sel[j]? =some i->bl[i]? =some B->pre[j]? =some p->qU p B)(b8:j' pre ct=true)
 (bD:∀i∈sel,i<bl.length)(azB:∀j,gq j=cd true ct j)
 (r:Mem T w (r_ (bP id mX false pre dp) nV) (jS X bl ρ sel) (bP id gq true ct eL) dS w')(aJ:To (jS X bl ρ sel) (bP id mX false pre dp) (bP id gq true ct eL) nV dS w w') :
 Mem T W M0 X (gx bl sel ct eL) (gn ρ sel dS) w'/\To X bl (gx bl sel ct eL) ρ (gn ρ sel dS) w w'/\hf bl ρ w w' sel/\
  ∀pas (da:dv T.El pas) vs,a8 T (bk (jS X bl ρ sel) (bP id gq true ct eL) dS w') w' dS (bP id gq true ct eL) (gu id gq pas da) vs->a8 T (bk X (gx bl sel ct eL) (gn ρ sel dS) w') w' (gn ρ sel dS) (gx bl sel ct eL) (gu (iW sel bl.length) (fx bl sel ct) pas da) vs:=by
 have ahQ:(bP id mX false pre dp).length=pre.length:=nu
 have WG:(bP id gq true ct eL).length=ct.length:=nu
 have aBg:dS.length=ct.length:=by rw[r.len,WG]
 have aOJ:nV.length=pre.length:=by rw[aj.len,ahQ]
 have ahh:=Lf b8
 have ix:sel.Nodup:=by
  refine jl.2 λ i j hi aA CY e=>?_;have:=aj.inj i j _ (aK hi) (by rw[e];exact aK aA);omega
 have aDy:(vS bl sel ct eL).length=ct.length:=by rw[vS,amN,nu]
 have s1:sel.length<=(vS bl sel ct eL).length:=by omega
 have s2:sel.length<=dS.length:=by omega
 have az0:∀i∈sel,i<ρ.length:=λ i hi=>by rw[o.len];exact bD i hi
 have l1:(gx bl sel ct eL).length=bl.length+(ct.length-sel.length):=by rw[gx,Yl s1,aDy]
 have cx:(gn ρ sel dS).length=bl.length+(ct.length-sel.length):=by rw[Yl s2,o.len,aBg]
 have SC:∀(j:Nat)(v:Value),dS[j]? =some v->(gn ρ sel dS)[iW sel bl.length j]? =some v:=λ j v aA=>by
  rcases gL j sel.length with e |e
  ·have d:=aK e
   rw[Hj d,Pt s2 ix az0 d];exact aA
  ·rw[aaP e,<-o.len,Pu s2,show sel.length+(j-sel.length)=j by omega];exact aA
 have F:∀(j:Nat),j<ct.length->(gx bl sel ct eL)[iW sel bl.length j]? =(vS bl sel ct eL)[j]? :=λ j aA=>by
  rcases gL j sel.length with e |e
  ·have d:=aK e
   rw[Hj d,gx,Pt s1 ix bD d]
  ·rw[aaP e,gx,Pu s1,show sel.length+(j-sel.length)=j by omega]
 have G:∀(j:Nat),j<sel.length-> ∃i B h,sel[j]? =some i/\bl[i]? =some B/\ρ[i]? =some h/\nV[j]? =some h/\ ∃p,pre[j]? =some p/\qU p B:=λ j aA=>by
  have CZ:j<(bP id mX false pre dp).length:=by omega
  have wL:j<nV.length:=by omega
  obtain⟨i,B,d,ao,aT,_⟩:=aj.at_ j _ _ (aK CZ) (aK wL);have H:j<pre.length:=by omega
  exact⟨i,B,_,d,ao,aT,aK wL,_,aK H,c j i B _ d ao (aK H)⟩
 have I:∀B:aF T.El,hq none B=B:=λ B=>by cases B<;>rfl
 have S':∀(j:Nat)(B:aF T.El),(vS bl sel ct eL)[j]? =some B-> ∃q f,ct[j]? =some q/\(bP id gq true ct eL)[j]? =some (dG id gq true q f)/\B=hq ((sel[j]?).bind λ i=>nth bl i) (dG (iW sel bl.length) (fx bl sel ct) true q f):=λ j B y=>by
  rw[vS,amM,cz]at y;obtain⟨jg,s,J⟩:=y;obtain⟨q,f,d,ao,aT⟩:=P7 s;refine⟨q,f,d,aT _ _,?_⟩;subst ao;rw[<-J];cases aOD:sel[j]? with
  |none=>exact(I _).symm
  |some i=>rfl
 have K:∀(q:bK)(f:tB T.El q)(σ g σ' g':Nat->Nat)(u:Value),bE (dG σ g true q f) u=bE (dG σ' g' true q f) u:=λ q f σ g σ' g' u=>by cases q<;>rfl
 have cs:∀(i:Nat)(B:aF T.El)(h:Value),(gx bl sel ct eL)[i]? =some B->(gn ρ sel dS)[i]? =some h->(i∉sel/\bl[i]? =some B/\ρ[i]? =some h)\/
  ∃j q f,ct[j]? =some q/\dS[j]? =some h/\iW sel bl.length j=i/\(bP id gq true ct eL)[j]? =some (dG id gq true q f)/\B=hq ((sel[j]?).bind λ i=>nth bl i) (dG (iW sel bl.length) (fx bl sel ct) true q f):=λ i B h y L=>by
  rcases aEj s1 ix bD y with⟨d,ao,aT⟩|⟨j,d,ao⟩
  ·left
   rw[GD d (by rw[o.len];exact ao)]at L
   exact⟨d,aT,L⟩
  ·right
   obtain⟨q,f,m,n,l⟩:=S' j B d
   have aA:j<ct.length:=(aP.1 m).1
   have M:iW sel bl.length j=i:=by
    rcases ao with⟨_,ao⟩|⟨ao,aT⟩
    ·exact Hj ao
    ·rw[aaP ao,aT]
   have N:=SC j _ (aK (by omega:j<dS.length))
   rw[M,L]at N
   simp only[aH]at N
   exact⟨j,q,f,m,by rw[N];exact aK _,M,n,l⟩
 have YZ:∀k,qo (gx bl sel ct eL) (gn ρ sel dS) k->(∃i B h,i∉sel/\bl[i]? =some B/\ρ[i]? =some h/\k∈bE B h)\/qo (bP id gq true ct eL) dS k:=λ k c=>by
  obtain⟨i,B,h,s,J,t⟩:=c;rcases cs i B h s J with⟨d,ao,aT⟩|⟨j,q,f,d,ao,aT,bQ,rfl⟩
  ·exact .inl ⟨i,B,h,d,ao,aT,t⟩
  ·rw[LI,K q f _ _ id gq]at t
   exact .inr ⟨j,_,h,bQ,ao,t⟩
 have O:∀k,bk (jS X bl ρ sel) (bP id gq true ct eL) dS w' k->bk X (gx bl sel ct eL) (gn ρ sel dS) w' k:=λ k c=>⟨λ aa=>c.1 (.inl aa),λ P=>by
  rcases YZ k P with h |h
  ·exact c.1 (.inr h)
  ·exact c.2.1 h,c.2.2⟩
 have Q:∀k,bk X bl ρ w k->bk X (gx bl sel ct eL) (gn ρ sel dS) w' k/\w'.heap[k]? =w.heap[k]? :=λ k c=>⟨⟨c.1,λ P=>by
  rcases YZ k P with⟨i,B,h,_,s,J,t⟩|h
  ·exact c.2.1 ⟨i,B,h,s,J,t⟩
  ·rcases(r.lt k h).2 with e |e
   ·exact c.2.1 (aj.own (tY.1 e))
   ·have:=c.2.2;omega,fe c.2.2 r.bY.size⟩,r.bY.block k c.2.2 λ e=>c.2.1 (aj.own (tY.1 e))⟩
 have R:∀j,gq j=b4 (bP id gq true ct eL)[j]? :=λ j=>by rw[G3];exact azB j
 have kF:∀(j:Nat)(q:bK),ct[j]? =some q->j<sel.length-> ∃i B,sel[j]? =some i/\bl[i]? =some B/\qU q B:=λ j q aA al=>by
  obtain⟨i,B,h,d,ao,_,_,p,dw,eR⟩:=G j al;have:=Ld b8 dw aA;refine⟨i,B,d,ao,?_⟩;cases p<;>cases q<;>simp only[zF,hX]at this<;>cases B<;>simp only[qU]at eR⊢;rw[eR,bd this]
 have fG:∀j v,dS[j]? =some v->fx bl sel ct j=b4 (gx bl sel ct eL)[iW sel bl.length j]? :=λ j v aA=>by
  have ku:j<ct.length:=by have:=(aP.1 aA).1;omega
  rw[F j ku];have S:j<(vS bl sel ct eL).length:=by omega
  obtain⟨q,f,d,ao,aT⟩:=S' j _ (aK S);rw[aK S,aT];rw[fx,dh,cd,d];rcases gL j sel.length with al |al
  ·obtain⟨i,B,m,n,l⟩:=kF j q d al
   rw[m]
   simp only[ae,dh,n,CJ]
   cases q<;>cases B<;>simp only[qU]at l<;>simp[hq,dG,b4,fc]
  ·rw[gE al]
   simp only[Option.bind_none,I,jM]
   cases q<;>rfl
 have U:mM T ρ (gn ρ sel dS) bl (gx bl sel ct eL):=⟨λ i h hi=>by
  have b6:i<ρ.length:=(aP.1 hi).1;by_cases ez:i∈sel
  ·obtain⟨j,aA,rfl⟩:=jf.1 ez
   obtain⟨i,B,aE,d,ao,aT,bQ,p,dw,eR⟩:=G j aA
   have T_:sel[j]=i:=by rw[aK aA]at d;exact eJ d
   rw[T_]at hi⊢
   rw[hi]at aT
   cases aT
   obtain⟨h',bn,bi,ch,dr⟩:=aJ.L.at_ j h bQ
   have ku:j<ct.length:=by omega
   have S:j<(vS bl sel ct eL).length:=by omega
   obtain⟨q,f,m,n,l⟩:=S' j _ (aK S)
   have y:=F j ku
   rw[Hj d,aK S,l,d]at y
   simp only[ae,dh,ao]at y
   have av:=SC j h' bn
   rw[Hj d]at av
   refine⟨h',av,bi,?_⟩
   rw[y,ao]
   obtain⟨i2,rM,m1,m2,m3⟩:=kF j q m aA
   rw[d]at m1
   cases m1
   rw[ao]at m2
   cases m2
   have z:b4 (bP id mX false pre dp)[j]? =0:=by
    rw[G3,dw];cases p<;>rfl
   have A:b4 (bP id gq true ct eL)[j]? =fc true (some q):=by rw[G3,m]
   rw[z,A]at dr
   cases q<;>cases B<;>simp only[qU]at m3
   ·exact⟨cT _,λ _=>⟨(dr rfl).1,rfl,cT _,λ _=>rfl⟩⟩
   ·subst m3
    refine⟨by simp[hq,dG,b4],λ e=>⟨(dr (by simpa[hq,dG,b4]using e)).1,rfl,by simp[hq,dG,gY],λ e=>?_⟩⟩
    simp[hq,dG,gY,AP]at e
   ·exact⟨cT _,λ _=>⟨(dr rfl).1,rfl,cT _,λ _=>rfl⟩⟩
   ·exact⟨gT _,λ e=>by simp[hq,dG,b4,fc]at e⟩
   ·exact⟨by simp[hq,dG,b4],λ e=>by simp[hq,dG,b4,fc]at e⟩
   ·exact⟨gT _,λ e=>by simp[hq,dG,b4,fc]at e⟩
   ·exact⟨by simp[hq,dG,b4],λ e=>by simp[hq,dG,b4,fc]at e⟩
  ·have ag:(gx bl sel ct eL)[i]? =bl[i]? :=GD ez (by rw[<-o.len];exact b6)
   refine⟨h,by rw[GD ez b6];exact hi,λ _=>rfl,?_⟩
   rw[ag]
   exact⟨cT _,λ _=>⟨rfl,rfl,cT _,λ _=>rfl⟩⟩⟩
 have V:∀(i:Nat)(B:aF T.El)(h:Value),i∉sel->bl[i]? =some B->ρ[i]? =some h-> ∀k∈bE B h,k<w.heap.size/\k∉r_ (bP id mX false pre dp) nV:=λ i B h hi s J k c=>by
  refine⟨(o.lt k ⟨i,B,h,s,J,c⟩).1,λ e=>?_⟩;obtain⟨j,C,u,m,n,l⟩:=tY.1 e;obtain⟨i',jg,z,A,Y,Z⟩:=aj.at_ j C u m n;have l:=Z _ _ l;refine o.bC i i' B jg h u s J A Y (λ e=>?_) k c l;subst e;exact hi (bG z)
 have at':To X bl (gx bl sel ct eL) ρ (gn ρ sel dS) w w':=⟨Q,U,r.bY.size,λ i B' h' hi L k c WH=>by
  rcases cs i B' h' hi L with⟨_,ao,aT⟩|⟨j,q,f,d,ao,aT,bQ,rfl⟩
  ·exact⟨B',h',ao,aT,c⟩
  ·rw[LI,K q f _ _ id gq]at c
   obtain⟨jg,aE,m,n,l⟩:=aJ.om j _ h' bQ ao k c WH
   obtain⟨i',B,z,A,Y,Z⟩:=aj.at_ j jg aE m n
   rw[Hj z]at aT
   subst aT
   exact⟨B,aE,A,Y,Z _ _ l⟩⟩
 refine⟨⟨o.bY.trans r.bY λ k c=>(o.lt k (aj.own (tY.1 c))).2,by rw[l1,cx],o.hW,λ k c=>?_,?_,?_⟩,at',λ k c aB=>?_,λ pas da vs N=>akR O SC R fG N⟩
 ·rcases YZ k c with⟨i,B,h,_,s,J,t⟩|h
  ·have:=o.lt k ⟨i,B,h,s,J,t⟩
   exact⟨fe this.1 r.bY.size,this.2⟩
  ·refine⟨(r.lt k h).1,?_⟩
   rcases(r.lt k h).2 with e |e
   ·exact(o.lt k (aj.own (tY.1 e))).2
   ·exact .inr (hv o.bY.size e)
 ·intro a b B C u v s J t a_ b2 k c E
  have ad2:∀(i:Nat)(D:aF T.El)(x:Value),i∉sel->bl[i]? =some D->ρ[i]? =some x->k∈bE D x->qo (bP id gq true ct eL) dS k->False:=λ i D x hi d1 d2 d3 P=>by
   obtain⟨bq,bA⟩:=V i D x hi d1 d2 k d3;rcases(r.lt k P).2 with e |e
   ·exact bA e
   ·omega
  rcases cs a B u s J with⟨d,ao,aT⟩|⟨j,q,f,d,ao,aT,bQ,rfl⟩
  ·rcases cs b C v t a_ with⟨m,n,l⟩|⟨gB,D0,IK,m,n,l,f4,rfl⟩
   ·exact o.bC a b B C u v ao aT n l b2 k c E
   ·rw[LI,K D0 IK _ _ id gq]at E
    exact ad2 a B u d ao aT c ⟨gB,_,v,f4,n,E⟩
  ·rw[LI,K q f _ _ id gq]at c
   rcases cs b C v t a_ with⟨m,n,l⟩|⟨gB,D0,IK,m,n,l,f4,rfl⟩
   ·exact ad2 b C v m n l E ⟨j,_,u,bQ,ao,c⟩
   ·rw[LI,K D0 IK _ _ id gq]at E
    refine r.bC j gB _ _ u v bQ ao f4 n (λ e=>?_) k c E
    subst e
    exact b2 (aT.symm.trans l)
 ·intro i B h s J
  rcases cs i B h s J with⟨d,ao,aT⟩|⟨j,q,f,d,ao,aT,bQ,rfl⟩
  ·exact(o.ok i B h ao aT).later Q U λ k c=>by
    obtain⟨bq,bA⟩:=V i B h d ao aT k c;exact r.bY.block k bq bA
  ·exact aFK O SC R fG (r.ok j _ h bQ ao)
 ·refine r.bY.block k c λ e=>?_
  obtain⟨j,C,u,m,n,l⟩:=tY.1 e
  obtain⟨i',jg,z,A,Y,Z⟩:=aj.at_ j C u m n
  have l:=Z _ _ l
  exact aB i' (bG z) jg u A Y l
end
end bc
namespace bc
open Go Go.RowKit ay I
def oB:Nat->List (Nat×Nat)
 |0=>[]
 |n+1=>(n,n)::oB n
theorem Df{n:Nat}{p:Nat×Nat}:p∈oB n↔p.1<n/\p.2=p.1:=by
 induction n with
 |zero=>simp[oB]
 |succ n d=>
  simp only[oB,cI,d]
  constructor
  ·rintro(rfl |⟨c,J⟩)
   ·exact⟨l4 _,rfl⟩
   ·exact⟨by omega,J⟩
  ·rintro⟨c,J⟩
   rcases gL p.1 n with e |e
   ·exact .inr ⟨e,J⟩
   ·left
    obtain⟨a,b⟩:=p
    simp only at c J e
    simp only[cF]
    omega
theorem Dd{n:Nat}:jN (oB n):=⟨λ p a q b e=>by rw[(Df.1 a).2,(Df.1 b).2,e],λ p a q b e=>by rw[<-(Df.1 a).2,<-(Df.1 b).2,e]⟩
theorem tP:jN []:=⟨λ p a=>by simp at a,λ p a=>by simp at a⟩
def xU{El:Nat->Type}(n:Nat)(y:aI El):List (aI El):=match cy n 1 with
 |true=>[y]
 |false=>match y with
  | .u ys=>ys
  | .p (.tuple ⟨vs⟩)=>vs.map .p
  |y=>[y]
section
variable{T:bT}{W w w':World}{M0:List Nat}{X:Nat->Prop}{bl:List (aF T.El)}{ρ:List Value}
theorem OY{El:Nat->Type}{pre ct:List bK}(b8:j' pre ct=true){j:Nat}{p:bK}{B:aF El}(a:pre[j]? =some p)(h:p≠ .d->qU p B):qU p B:=h λ e=>by
 subst e;have aA:=(aP.1 a).1;have b:=Lf b8;have:=Ld b8 a (aK (by omega));simp[zF]at this
theorem ax_{a1 b:List (Nat×Nat)}{post:Bool}:∀ {p:bK}{B:aF T.El}{d:tB T.El p},iO bl a1 post p B=some (d,b)->(p≠ .d->qU p B)/\(post=true->fc true (some p)=0 ->b4 (some B)=0)
 | .c ty ps,B,d,h=>by
   simp only[iO]at h;split at h
   ·exact⟨λ _=>trivial,λ _ _=>rfl⟩
   ·cases h
 | .r t same,B,d,h=>by
   simp only[iO]at h;split at h
   ·split at h
    ·rename_i ag
     obtain⟨x,c,h⟩:=cz.1 h
     obtain⟨e,_⟩:=alk c
     refine⟨λ _=>e,λ f a=>?_⟩
     subst f
     cases same with
     |false=>simp[fc]at a
     |true=>simpa[b4]using bd (by simpa using ag)
    ·cases h
   ·cases h
 | .m kt vt,B,d,h=>by
   simp only[iO]at h;split at h
   ·exact⟨λ _=>trivial,λ _ _=>rfl⟩
   ·cases h
 | .d,B,d,h=>by
   simp only[iO]at h;split at h<;>first |exact⟨λ h=>absurd rfl h,λ _ a=>by simp[fc]at a⟩|cases h
theorem agW{post:Bool}:∀ {ps:List bK}{a1 b:List (Nat×Nat)}{k:Nat}{d:cK T.El ps},oo bl post a1 k ps=some (d,b)-> ∀(m:Nat)(p:bK),ps[m]? =some p-> ∃i B,(k+m,i)∈b/\bl[i]? =some B/\(p≠ .d->qU p B)/\(post=true->fc true (some p)=0 ->b4 (some B)=0)
 |[],a1,b,k,d,_,m,p,a=>by simp at a
 |q::r,a1,b,k,d,h,m,p,a=>by
  simp only[oo]at h;split at h
  ·rename_i i hi
   split at h
   ·rename_i B c
    split at h
    ·rename_i l n e
     split at h
     ·rename_i o s J
      cases h
      have f:=(FT J).1
      have g:=(N1 e).1
      rw[dh]at c
      cases m with
      |zero=>
       simp only[dU,aH]at a
       subst a
       exact⟨i,B,f _ (g _ (oG hi)),c,ax_ e⟩
      |succ m=>
       obtain⟨i',rM,j,ao,aT⟩:=agW J m p (by simpa using a)
       exact⟨i',rM,by rw[show k+(m+1)=k+1+m by omega];exact j,ao,aT⟩
     ·cases h
    ·cases h
   ·cases h
  ·cases h
theorem CI{a1:List (Nat×Nat)}(aL:jN a1){post:Bool}{pas:List cN}{pbs:List bK}{ys:List (aI T.El)}{a:dv T.El pas×cK T.El pbs}{sel:List Nat}(h:iw bl a1 post pas pbs ys=some (a,sel)) :
 sel.length=pbs.length/\ ∀(j i:Nat)(p:bK),sel[j]? =some i->pbs[j]? =some p-> ∃B,bl[i]? =some B/\(p≠ .d->qU p B)/\(post=true->fc true (some p)=0 ->b4 (some B)=0):=by
 unfold iw at h
 split at h
 ·rename_i k l b
  split at h
  ·rename_i m n J
   split at h
   ·rename_i o c q
    simp only[aH,cF]at h
    obtain⟨rfl,rfl⟩:=h
    have d:=(FT J).2 ((N0 b).2 aL)
    obtain⟨l1,e⟩:=Xp c
    refine⟨l1,λ j i p aA f=>?_⟩
    obtain⟨i',B,g,ao,aT⟩:=agW J j p f
    have:=d.fn _ g _ (e j i aA) rfl
    simp only at this
    subst this
    exact⟨B,ao,aT⟩
   ·cases h
  ·cases h
 ·cases h
theorem X7{pre ct:List bK}{dp:cK T.El pre}{d:cK T.El ct}{mX gq:Nat->Nat}{q z A:List Value}{r:List (aF T.El)}{sel:List Nat}(G:q.length=pre.length)(a:To X (bP id mX false pre dp) r q A w w')(aj:mP r A (bP id gq true ct d) z sel)
 (s:∀j,j<pre.length->sel[j]? =some j)(U:sel.length=ct.length)(b8:j' pre ct=true)(f:∀(j i:Nat)(p:bK),sel[j]? =some i->ct[j]? =some p-> ∃B,r[i]? =some B/\(p≠ .d->qU p B)/\(true=true->fc true (some p)=0 ->b4 (some B)=0)) :
 To X (bP id mX false pre dp) (bP id gq true ct d) q z w w':=by
 have H:=Lf b8
 refine⟨λ k f=>⟨aj.K6 (a.F k f).1,(a.F k f).2⟩,⟨λ i h hi=>?_⟩,a.sz,λ i B' h' hi I k t J=>?_⟩
 ·have b:i<pre.length:=by have:=(aP.1 hi).1;omega
  obtain⟨h',K,L,V,g⟩:=a.L.at_ i h hi
  have Ot:i<(bP id gq true ct d).length:=by rw[nu];omega
  obtain⟨i',B,l,ao,aT,bQ⟩:=aj.at_ i _ _ (aK Ot) (aK (by rw[aj.len];exact Ot))
  rw[s i b]at l
  cases l
  rw[K]at aT
  have aT:=eJ aT
  refine⟨h',by rw[aK (by rw[aj.len];exact Ot),aT],L,?_⟩
  have C:i<pre.length:=b
  have D:=aK C
  have u:i<ct.length:=by omega
  have v:=aK u
  have kk:=Ld b8 D v
  obtain⟨rM,M,Y,m⟩:=f i i _ (s i b) v
  obtain⟨N,x⟩:∃B,(bP id mX false pre dp)[i]? =some B:=⟨_,aK (by rw[nu];exact C)⟩
  obtain⟨O,E⟩:∃B,(bP id gq true ct d)[i]? =some B:=⟨_,aK Ot⟩
  obtain⟨pp,Z,n,o,_⟩:=P7 x
  obtain⟨P,IK,F,Q,_⟩:=P7 E
  rw[D]at n
  rw[v]at F
  subst o;subst Q
  have y:=eJ n
  have c:=eJ F
  rw[y,c]at kk
  rw[c]at m
  rw[x,E]
  rw[x,M]at g
  cases pp<;>cases P<;>simp only[zF,hX]at kk
  ·exact⟨cT _,λ _=>⟨(g (m rfl rfl)).1,rfl,cT _,λ _=>rfl⟩⟩
  ·exact⟨gT _,λ e=>by simp[dG,b4,fc]at e⟩
  ·have:=bd kk
   subst this
   refine⟨by simp[dG,b4,fc],λ e=>⟨(g ?_).1,rfl,by simp[dG,gY,AP],λ e=>by simp[dG,gY,AP]at e⟩⟩
   have:=m rfl (by simpa[dG,b4,fc]using e)
   simpa[dG,b4,fc]using this
  ·exact⟨by simp[dG,b4,fc],λ e=>by simp[dG,b4,fc]at e⟩
  ·exact⟨cT _,λ _=>⟨(g (m rfl rfl)).1,rfl,cT _,λ _=>rfl⟩⟩
  ·exact⟨gT _,λ e=>by simp[dG,b4,fc]at e⟩
 ·obtain⟨i',B,l,ao,aT,bQ⟩:=aj.at_ i B' h' hi I
  have t:=bQ _ _ t
  obtain⟨jg,R,n,o,S⟩:=a.om i' B h' ao aT k t J
  have b:i'<pre.length:=by have:=(aP.1 o).1;omega
  have:=aj.inj i i' i' l (s i' b)
  subst this
  exact⟨jg,R,n,o,S⟩
end
end bc
namespace bc
open Go Go.RowKit ay I
section
variable{El:Nat->Type}
def I0(pbs:List bK)(p:jh)(bl:List (aF El))(y:aI El):List (aF El)×aI El:=match p with
 | .l _=>gy bl y
 | .R j=>match y,nth pbs j with
   | .p (.slice none 0 0),some (.r t _)=>(bl++[.r t 0 0 []],.r bl.length 0)
   | .v i g (.ofNat 0) hi,_=>match nth bl i with
     |some (.r t a _ l)=>match cy g a with
      |true=>(bl.set i (.r t (a+1) 0 (l.take hi.toNat)),.r i (a+1))
      |false=>(bl,y)
     |_=>(bl,y)
   |_,_=>(bl,y)
 |_=>(bl,y)
def qG(pbs:List bK):List jh->List (aF El)->List (aI El)->List (aF El)×List (aI El)
 |p::r,bl,y::ys=>match I0 pbs p bl y with
  |(a,b)=>match qG pbs r a ys with
   |(c,d)=>(c,b::d)
 |_,bl,ys=>(bl,ys)
def IY(pbs:List bK)(p:cN)(bl:List (aF El))(y:aI El):List (aF El)×aI El:=match p with
 | .p p=>I0 pbs p bl y
 | .a ps=>match lG y with
   |true=>match qG pbs ps bl (cellsOf y)with
    |(a,ys)=>(a,.a ys)
   |false=>(bl,y)
 | .f _ ps=>match y with
   | .f g cs=>match qG pbs ps bl cs with
     |(a,ys)=>(a,.f g ys)
   |_=>(bl,y)
def ob(pbs:List bK):List cN->List (aF El)->List (aI El)->List (aF El)×List (aI El)
 |p::r,bl,y::ys=>match IY pbs p bl y with
  |(a,b)=>match ob pbs r a ys with
   |(c,d)=>(c,b::d)
 |_,bl,ys=>(bl,ys)
def wc(pbs:List bK):List (Nat×Nat)->Nat->List bK->List (aF El)->List (aF El)
 |a1,k,.c ty ps::r,bl=>match cG a1 k with
  |some i=>match nth bl i with
   |some (.c _ cs)=>match qG pbs ps bl cs with
    |(a,b)=>match nth a i with
     |some (.c c _)=>match oq (a.set i (.c c b)) a1 ps b with
      |some (_,d)=>wc pbs d (k+1) r (a.set i (.c c b))
      |none=>a.set i (.c c b)
     |_=>bl
   |_=>bl
  |none=>bl
 |a1,k,_::r,bl=>wc pbs a1 (k+1) r bl
 |_,_,[],bl=>bl
def gH(a1:List (Nat×Nat))(pas:List cN)(pbs:List bK)(bl:List (aF El))(ys:List (aI El)):List (aF El)×List (aI El):=match ob pbs pas bl ys with
 |(a,b)=>match l5 a a1 pas b with
  |some (_,c)=>(wc pbs c 0 pbs a,b)
  |none=>(a,b)
end
section
variable{T:bT}{W w:World}{M0:List Nat}{X:Nat->Prop}{bl bl':List (aF T.El)}{ρ:List Value}{pbs:List bK}
theorem Mem.avv(a:Mem T W M0 X bl ρ w){i t g k:Nat}{l:List (T.El t)}{A:Option Addr}{c q:Nat}(hi:bl[i]? =some (.r t g k l))(b:ρ[i]? =some (.slice A l.length c))(d:q<=l.length) :
 Mem T W M0 X (bl.set i (.r t (g+1) 0 (l.take q))) (ρ.set i (.slice A q c)) w/\To X bl (bl.set i (.r t (g+1) 0 (l.take q))) ρ (ρ.set i (.slice A q c)) w w:=by
 obtain⟨cn,n,xs,j,ao,aT⟩:=a.ok i _ _ hi b
 simp only[Value.slice.injEq,true_and]at j
 obtain⟨rfl,rfl⟩:=j
 have ad:∀k'∈bE (aF.r (El:=T.El) t (g+1) 0 (l.take q)) (.slice A q c),k'∈bE (aF.r t g k l) (.slice A l.length c)\/(w.heap.size<=k'/\k'<w.heap.size):=λ k' m=>by
  left;revert m;cases A<;>cases c<;>simp[bE,ag]
 have f:=a.D9 (B':=aF.r t (g+1) 0 (l.take q)) (h':=.slice A q c) (w':=w) hi b (br.refl _ _) ad ⟨λ h=>absurd trivial h,Nat.le_succ _,λ e=>by simp[b4]at e⟩
 refine⟨a.dC hi b (br.refl _ _) ad f ⟨A,c,xs.take (q*(T.ty t).size),by rw[fZ,mj d],?_,?_⟩,f⟩
 ·rw[fZ,mj d]
  exact ao.short d
 ·have:=u2 0 q (oO _ f.F aT)
  simpa using this
theorem agB(a:Mem T W M0 X bl ρ w){p:jh}{y e:aI T.El}{v:Value}(h:I0 pbs p bl y=(bl',e))(b:aw T (bk X bl ρ w) w ρ bl y v):∃ρ',Mem T W M0 X bl' ρ' w/\To X bl bl' ρ ρ' w w/\aw T (bk X bl' ρ' w) w ρ' bl' e v:=by
 have same:(bl,y)=(bl',e)-> ∃ρ',Mem T W M0 X bl' ρ' w/\To X bl bl' ρ ρ' w w/\aw T (bk X bl' ρ' w) w ρ' bl' e v:=λ h=>by
  simp only[cF]at h;obtain⟨rfl,rfl⟩:=h;exact⟨ρ,a,.refl,b⟩
 unfold I0 at h;split at h
 ·obtain⟨x,J,z⟩:=agL a h b
  exact⟨ρ,x,J,z⟩
 ·split at h
  ·rename_i t _ _
   simp only[cF]at h
   obtain⟨rfl,rfl⟩:=h
   simp only[aw]at b
   subst b
   have ad:∀k∈bE (aF.r (El:=T.El) t 0 0 []) (.slice none 0 0),w.heap.size<=k/\k<w.heap.size:=λ k C=>by simp[bE,ag]at C
   have D:=a.push (B:=aF.r t 0 0 []) (h:=.slice none 0 0) (br.refl _ _) ad ⟨none,0,[],rfl,.inr ⟨rfl,rfl,none,rfl⟩,rfl⟩
   refine⟨_,D,a.AN (br.refl _ _) ad,?_⟩
   simp only[aw]
   refine⟨trivial,.slice none 0 0,by rw[<-a.len];simp,gT _,λ _=>rfl⟩
  ·rename_i i g hi
   split at h
   ·rename_i t I k l d
    rw[dh]at d
    split at h
    ·rename_i ag
     simp only[cF]at h
     obtain⟨rfl,rfl⟩:=h
     simp only[aw]at b
     obtain⟨_,u,f,K,r⟩:=b
     rw[d]at r
     obtain⟨A,n,c,B,s,L,M,E,j,f6,N⟩:=r (bd ag)
     obtain⟨cn,O,xs,m,F,P⟩:=a.ok i _ _ d f
     rw[s]at m
     simp only[Value.slice.injEq]at m
     obtain⟨rfl,rfl,rfl⟩:=m
     rw[s]at f
     have o:=f6 rfl
     subst o
     have j:v= .slice B hi.toNat c:=by simpa using j
     subst j
     obtain⟨G,H⟩:=a.avv d f (q:=hi.toNat) (by have:hi<=(l.length:Int):=E;omega)
     refine⟨_,G,H,?_⟩
     simp only[aw]
     refine⟨trivial,_,gv (aP.1 f).1,?_,λ _=>rfl⟩
     rw[gv (aP.1 d).1]
     exact cT _
    ·exact same h
   ·exact same h
  ·exact same h
 ·exact same h
theorem NG:∀ {ps:List jh}{ys b:List (aI T.El)}{bl bl':List (aF T.El)}{ρ:List Value}{vs:List Value},Mem T W M0 X bl ρ w->qG pbs ps bl ys=(bl',b)->a8 T (bk X bl ρ w) w ρ bl ys vs-> ∃ρ',Mem T W M0 X bl' ρ' w/\To X bl bl' ρ ρ' w w/\a8 T (bk X bl' ρ' w) w ρ' bl' b vs
 |[],ys,b,bl,bl',ρ,vs,c,h,a=>by
  simp only[qG,cF]at h;obtain⟨rfl,rfl⟩:=h;exact⟨ρ,c,.refl,a⟩
 |_::_,[],b,bl,bl',ρ,vs,c,h,a=>by
  simp only[qG,cF]at h;obtain⟨rfl,rfl⟩:=h;exact⟨ρ,c,.refl,a⟩
 |p::r,y::ys,b,bl,bl',ρ,vs,c,h,a=>by
  simp only[a8]at a;obtain⟨u,us,rfl,g,i⟩:=a;simp only[qG]at h;cases d:I0 pbs p bl y with
  |mk j o=>
   rw[d]at h
   cases J:qG pbs r j ys with
   |mk q s=>
    rw[J]at h
    simp only[cF]at h
    obtain⟨rfl,rfl⟩:=h
    obtain⟨t,k,e,v1⟩:=agB c d g
    obtain⟨l,m,f,n⟩:=NG k J (e.vs i)
    refine⟨l,m,e.trans f,?_⟩
    simp only[a8]
    exact⟨u,us,rfl,f.v v1,n⟩
theorem axD(c:Mem T W M0 X bl ρ w){p:cN}{y d:aI T.El}{v:Value}(h:IY pbs p bl y=(bl',d))(a:aw T (bk X bl ρ w) w ρ bl y v):∃ρ',Mem T W M0 X bl' ρ' w/\To X bl bl' ρ ρ' w w/\aw T (bk X bl' ρ' w) w ρ' bl' d v:=by
 have same:(bl,y)=(bl',d)-> ∃ρ',Mem T W M0 X bl' ρ' w/\To X bl bl' ρ ρ' w w/\aw T (bk X bl' ρ' w) w ρ' bl' d v:=λ h=>by
  simp only[cF]at h;obtain⟨rfl,rfl⟩:=h;exact⟨ρ,c,.refl,a⟩
 unfold IY at h;split at h
 ·exact agB c h a
 ·rename_i ps
  split at h
  ·rename_i j
   cases b:qG pbs ps bl (cellsOf y)with
   |mk k ys=>
    rw[b]at h
    simp only[cF]at h
    obtain⟨rfl,rfl⟩:=h
    obtain⟨e,f,i,v1⟩:=NG c b (pk a)
    refine⟨e,f,i,?_⟩
    rw[Kc (E:=⟨default,T,[],true,[],0,λ _=>[]⟩) j a]
    simp only[aw]
    exact⟨_,rfl,v1⟩
  ·exact same h
 ·rename_i l ps
  split at h
  ·rename_i g cs
   cases b:qG pbs ps bl cs with
   |mk k ys=>
    rw[b]at h
    simp only[cF]at h
    obtain⟨rfl,rfl⟩:=h
    simp only[aw]at a
    obtain⟨vs,rfl,a⟩:=a
    obtain⟨e,f,i,v1⟩:=NG c b a
    refine⟨e,f,i,?_⟩
    simp only[aw]
    exact⟨_,rfl,v1⟩
  ·exact same h
theorem agA:∀ {ps:List cN}{ys b:List (aI T.El)}{bl bl':List (aF T.El)}{ρ:List Value}{vs:List Value},Mem T W M0 X bl ρ w->ob pbs ps bl ys=(bl',b)->a8 T (bk X bl ρ w) w ρ bl ys vs-> ∃ρ',Mem T W M0 X bl' ρ' w/\To X bl bl' ρ ρ' w w/\a8 T (bk X bl' ρ' w) w ρ' bl' b vs
 |[],ys,b,bl,bl',ρ,vs,c,h,a=>by
  simp only[ob,cF]at h;obtain⟨rfl,rfl⟩:=h;exact⟨ρ,c,.refl,a⟩
 |_::_,[],b,bl,bl',ρ,vs,c,h,a=>by
  simp only[ob,cF]at h;obtain⟨rfl,rfl⟩:=h;exact⟨ρ,c,.refl,a⟩
 |p::r,y::ys,b,bl,bl',ρ,vs,c,h,a=>by
  simp only[a8]at a;obtain⟨u,us,rfl,g,i⟩:=a;simp only[ob]at h;cases d:IY pbs p bl y with
  |mk j o=>
   rw[d]at h
   cases J:ob pbs r j ys with
   |mk q s=>
    rw[J]at h
    simp only[cF]at h
    obtain⟨rfl,rfl⟩:=h
    obtain⟨t,k,e,v1⟩:=axD c d g
    obtain⟨l,m,f,n⟩:=agA k J (e.vs i)
    refine⟨l,m,e.trans f,?_⟩
    simp only[a8]
    exact⟨u,us,rfl,f.v v1,n⟩
theorem Mem.aIh(e:Mem T W M0 X bl ρ w){i g ty:Nat}{cs a:List (aI T.El)}{vs:List Value}(hi:bl[i]? =some (.c ty cs))(c:ρ[i]? =some (.pointer (some ⟨g,0,none⟩)))(hc:w.heap[g]? =some (.cells ⟨vs⟩ ty (0,0)))(h:a8 T (bk X bl ρ w) w ρ bl a vs):Mem T W M0 X (bl.set i (.c ty a)) ρ w/\To X bl (bl.set i (.c ty a)) ρ ρ w w:=by
 have b:=e.D9 (B':=aF.c ty a) (h':=.pointer (some ⟨g,0,none⟩)) (w':=w) hi c (br.refl _ _) (λ q d=>.inl d) ⟨λ _=>rfl,cT _,λ _=>⟨rfl,rfl,cT _,λ _=>rfl⟩⟩;have f:=e.dC (B':=aF.c ty a) (h':=.pointer (some ⟨g,0,none⟩)) (w':=w) hi c (br.refl _ _) (λ q d=>.inl d) b ⟨g,vs,rfl,hc,b.vs h⟩;rw[Hh c]at f b;exact⟨f,b⟩
theorem IZ:∀ {ps:List bK}{a1:List (Nat×Nat)}{k:Nat}{bl:List (aF T.El)}{ρ:List Value},Mem T W M0 X bl ρ w-> ∃ρ',Mem T W M0 X (wc pbs a1 k ps bl) ρ' w/\To X bl (wc pbs a1 k ps bl) ρ ρ' w w
 |[],a1,k,bl,ρ,a=>⟨ρ,a,.refl⟩
 | .r _ _::r,a1,k,bl,ρ,a=>by simp only[wc];exact IZ a
 | .m _ _::r,a1,k,bl,ρ,a=>by simp only[wc];exact IZ a
 | .d::r,a1,k,bl,ρ,a=>by simp only[wc];exact IZ a
 | .c ty ps::r,a1,k,bl,ρ,a=>by
   simp only[wc];split
   ·rename_i i hi
    split
    ·rename_i t0 cs b
     rw[dh]at b
     cases o:qG pbs ps bl cs with
     |mk v x=>
      simp only
      split
      ·rename_i y z c
       rw[dh]at c
       obtain⟨u,h⟩:=a.sA b
       obtain⟨g,vs,rfl,hc,p⟩:=a.ok i _ u b h
       obtain⟨q,j,d,v1⟩:=NG a o p
       obtain⟨A,e,s,_⟩:=d.L.at_ i _ h
       rw[s (by simp[kZ])]at e
       obtain⟨g',B,l,ao,_⟩:=j.ok i _ _ c e
       simp only[Value.pointer.injEq,aH,Addr.mk.injEq,and_true]at l
       subst l
       rw[hc]at ao
       simp only[aH,Obj.cells.injEq,Array.mk.injEq,and_true]at ao
       obtain⟨rfl,rfl⟩:=ao
       obtain⟨m,n⟩:=j.aIh c e hc v1
       split
       ·obtain⟨f,t,t3⟩:=IZ m (ps:=r)
        exact⟨f,t,(d.trans n).trans t3⟩
       ·exact⟨q,m,d.trans n⟩
      ·exact⟨ρ,a,.refl⟩
    ·exact⟨ρ,a,.refl⟩
   ·exact⟨ρ,a,.refl⟩
theorem wg(f:Mem T W M0 X bl ρ w){a1:List (Nat×Nat)}{pas:List cN}{ys a:List (aI T.El)}{vs:List Value}(h:gH a1 pas pbs bl ys=(bl',a))(g:a8 T (bk X bl ρ w) w ρ bl ys vs):∃ρ',Mem T W M0 X bl' ρ' w/\To X bl bl' ρ ρ' w w/\a8 T (bk X bl' ρ' w) w ρ' bl' a vs:=by
 unfold gH at h;cases b:ob pbs pas bl ys with
 |mk l m=>
  rw[b]at h
  obtain⟨i,c,d,v1⟩:=agA f b g
  simp only at h
  split at h
  ·simp only[cF]at h
   obtain⟨rfl,rfl⟩:=h
   obtain⟨j,k,e⟩:=IZ c (pbs:=pbs) (ps:=pbs)
   exact⟨j,k,d.trans e,e.vs v1⟩
  ·simp only[cF]at h
   obtain⟨rfl,rfl⟩:=h
   exact⟨i,c,d,v1⟩
end
end bc
namespace bc
open Go Go.RowKit ay I
structure ey (T:bT) where
 pas:List cN
 pbs:List bK
 eF:List cN
 dt:List bK
 fn:dv T.El pas×cK T.El pbs->Option (dv T.El eF×cK T.El dt)
def ey.run(E:Env)(c:ey E.T)(ys:List (aI E.T.El))(bl:List (aF E.T.El)):D (fu E.T.El):=match gH [] c.pas c.pbs bl ys with
 |(a,b)=>match j' c.pbs c.dt,iw a [] false c.pas c.pbs b with
  |true,some (d,sel)=>.op (c.fn d) λ r=>.ok ⟨.ret (q8 (gu (iW sel a.length) (fx a sel c.dt) c.eF r.1)),gx a sel c.dt r.2,sel⟩
  |_,_=>.no
def ey.fin{T:bT}(c:ey T)(r:fu T.El):Option (dv T.El c.eF×cK T.El c.dt):=match r.e with
 | .ret y=>match gH (oB c.pbs.length) c.eF c.dt r.bl (xU c.eF.length y)with
   |(a,b)=>match iw a (oB c.pbs.length) true c.eF c.dt b with
    |some (d,_)=>some d
    |none=>none
 | .Ap _=>none
def ey.Eq(E:Env)(bu:fp E)(LE:lj E)(f:Nat)(c:ey E.T):Prop:=∀(da:dv E.T.El c.pas)(db:cK E.T.El c.pbs),(og E bu LE f (gu id (cd false c.pbs) c.pas da) (bP id (cd false c.pbs) false c.pbs db)).run c.fin=c.fn (da,db)
section
variable{T:bT}{F:Nat->Prop}{w:World}{ρ:List Value}{bl:List (aF T.El)}
theorem VT:∀ {ps:List cN}{ys:List (aI T.El)}{a1 a:List (Nat×Nat)}{d:dv T.El ps},l5 bl a1 ps ys=some (d,a)->ys.length=ps.length
 |[],[],a1,a,d,h=>rfl
 |p::r,y::ys,a1,a,d,h=>by
  simp only[l5]at h;split at h
  ·split at h
   ·rename_i J
    simp[VT J]
   ·cases h
  ·cases h
 |[],y::ys,a1,a,d,h=>by simp[l5]at h
 |p::r,[],a1,a,d,h=>by simp[l5]at h
theorem akt:∀ {vs:List Value},vs.length≠1 ->pack vs= .tuple ⟨vs⟩
 |[],_=>rfl
 |[v],h=>by simp at h
 |v::u::r,_=>rfl
theorem amK{n:Nat}{y:aI T.El}{v:Value}(a:(xU n y).length=n)(h:aw T F w ρ bl y v):∃vs,a8 T F w ρ bl (xU n y) vs/\pack vs=v:=by
 unfold xU at a⊢;split at a
 ·refine⟨[v],?_,rfl⟩
  simp only[a8]
  exact⟨v,[],rfl,h,rfl⟩
 ·rename_i ag
  have b:n≠1:=λ e=>by subst e;simp at ag
  split at a
  ·simp only[aw]at h
   obtain⟨vs,rfl,J⟩:=h
   exact⟨vs,J,akt (by rw[J.len,a];exact b)⟩
  ·simp only[aw]at h
   subst h
   rename_i vs
   exact⟨vs,Qs (E:=⟨default,T,[],true,[],0,λ _=>[]⟩) vs,akt (by simpa using(by simpa using a:vs.length=n)▸b)⟩
  ·simp at a
   exact absurd a.symm b
end
section
variable{E:Env}{bu:fp E}{LE:lj E}{f:Nat}
theorem agz{pbs:List bK}:∀ {ps:List cN}{ys a:List (aI E.T.El)}{bl bl':List (aF E.T.El)},ob pbs ps bl ys=(bl',a)->a.length=ys.length
 |[],ys,a,bl,bl',h=>by simp only[ob,cF]at h;rw[h.2]
 |_::_,[],a,bl,bl',h=>by simp only[ob,cF]at h;rw[<-h.2]
 |p::r,y::ys,a,bl,bl',h=>by
  simp only[ob]at h;cases b:IY pbs p bl y with
  |mk c d=>
   rw[b]at h
   cases J:ob pbs r c ys with
   |mk e g=>
    rw[J]at h
    simp only[cF]at h
    rw[<-h.2,dL,agz J,dL]
theorem agC{a1:List (Nat×Nat)}{pas:List cN}{pbs:List bK}{ys a:List (aI E.T.El)}{bl bl':List (aF E.T.El)}(h:gH a1 pas pbs bl ys=(bl',a)):a.length=ys.length:=by
 unfold gH at h;cases b:ob pbs pas bl ys with
 |mk c d=>
  rw[b]at h
  simp only at h
  split at h<;>(simp only[cF]at h;rw[<-h.2];exact agz b)
def ey.S3(E:Env)(bu:fp E)(LE:lj E)(f:Nat)(c:ey E.T):Prop:=∀(da:dv E.T.El c.pas)(db:cK E.T.El c.pbs)(F:Nat->Prop)(w:World)(ρ:List Value)(bl:List (aF E.T.El))(vs:List Value),a8 E.T F w ρ bl (gu id (cd false c.pbs) c.pas da) vs ->
 ∃ys,a8 E.T F w ρ bl ys vs/\ ∀r,c.fn (da,db)=some r->(og E bu LE f ys (bP id (cd false c.pbs) false c.pbs db)).run c.fin=some r
theorem ey.Eq.v{c:ey E.T}(h:c.Eq E bu LE f):c.S3 E bu LE f:=λ da db _ _ _ _ _ a=>⟨_,a,λ _ b=>(h da db).trans b⟩
def ey.nZ(E:Env)(bu:fp E)(LE:lj E)(f:Nat)(c:ey E.T):Prop:=∀(da:dv E.T.El c.pas)(db:cK E.T.El c.pbs) r,c.fn (da,db)=some r->(og E bu LE f (gu id (cd false c.pbs) c.pas da) (bP id (cd false c.pbs) false c.pbs db)).run c.fin=some r
theorem ey.nZ.v{c:ey E.T}(h:c.nZ E bu LE f):c.S3 E bu LE f:=λ da db _ _ _ _ _ a=>⟨_,a,λ r b=>h da db r b⟩
def ey.BC(E:Env)(f:Nat)(c:ey E.T):Prop:=∀(da:dv E.T.El c.pas)(db:cK E.T.El c.pbs) e2,c.fn (da,db)=some e2-> ∀(W:World)(M0:List Nat)(X:Nat->Prop)(ρ:List Value)(w:World)(vs:List Value),Mem E.T W M0 X (bP id (cd false c.pbs) false c.pbs db) ρ w->a8 E.T (bk X (bP id (cd false c.pbs) false c.pbs db) ρ w) w ρ (bP id (cd false c.pbs) false c.pbs db) (gu id (cd false c.pbs) c.pas da) vs ->
 ∃a,c.fin a=some e2/\Calls E.P f ⟨vs⟩ w λ e w'=>∃ρ',Mem E.T W M0 X a.bl ρ' w'/\To X (bP id (cd false c.pbs) false c.pbs db) a.bl ρ ρ' w w'/\hf (bP id (cd false c.pbs) false c.pbs db) ρ w w' a.ws/\Co E X a.bl ρ' w' a.e e
theorem Nh{c:ey E.T}(M:c.BC E f):kj E f (c.run E):=by
 intro ys N r b W M0 X ρ0 w vs O _ P;unfold ey.run at b;cases F:gH [] c.pas c.pbs N ys with
 |mk bl cJ=>
 rw[F]at b;obtain⟨ρ,q,iC,Q⟩:=wg O F P;simp only at b;split at b
 ·rename_i d sel b8 G
  obtain⟨da,db⟩:=d
  obtain⟨e2,R,J⟩:=b
  obtain⟨H,I⟩:=e2
  have J:(⟨.ret (q8 (gu (iW sel bl.length) (fx bl sel c.dt) c.eF H)),gx bl sel c.dt I,sel⟩:fu E.T.El)=r:=J
  subst J
  obtain⟨aj,_,S⟩:=ub q tP G
  obtain⟨T,g⟩:=CI tP G
  obtain⟨U,V⟩:=S (bk (jS X bl ρ sel) (bP id (cd false c.pbs) false c.pbs db) (gO ρ sel) w) λ k g=>aj.G_ g
  have Y:=aj.enter q V
  obtain⟨s,a,hc⟩:=M da db _ R _ _ _ _ _ vs Y (U vs Q)
  refine hc.mono λ e w' Z=>?_
  obtain⟨t,Yf,u,k9,l⟩:=Z
  unfold ey.fin at a
  cases K:s.e with
  |Ap y=>rw[K]at a;cases a
  |ret y=>
   rw[K]at a l
   simp only at a
   cases e with
   |returned v=>
    have l:aw E.T _ w' t s.bl y v:=l
    cases x:gH (oB c.pbs.length) c.eF c.dt s.bl (xU c.eF.length y)with
    |mk IB iI=>
    rw[x]at a
    simp only at a
    split at a
    ·rename_i y5 z n
     have a:=eJ a
     subst a
     have o:(xU c.eF.length y).length=c.eF.length:=by
      rw[<-agC x];unfold iw at n;split at n
      ·rename_i Wo
       exact VT Wo
      ·cases n
     obtain⟨us,A,mB⟩:=amK o l
     obtain⟨Bz,gW,C,A⟩:=wg Yf x A
     have LC:=u.trans C
     obtain⟨D,sm,JW⟩:=ub gW Dd n
     obtain⟨zj,JI⟩:=CI Dd n
     obtain⟨C',sd⟩:=JW (bk (jS X bl ρ sel) (bP id (cd true c.dt) true c.dt I) (gO Bz z) w') λ k g=>D.K6 g
     have WM:=D.leave gW sd
     have W8:=X7 (by rw[aj.len,nu]) LC D (λ j aA=>sm (j,j) (Df.2 ⟨aA,rfl⟩)) zj b8 λ j i p h h'=>by
      obtain⟨B,m,ao,aT⟩:=JI j i p h h';exact⟨B,m,ao,aT⟩
     obtain⟨bN,dF,eY,e6⟩:=back (gq:=cd true c.dt) q aj T (λ j i B p h h' L=>by
      obtain⟨B',m,ao,_⟩:=g j i p h L;rw[h']at m;cases m;exact OY b8 L ao) b8 (λ i hi=>by
       obtain⟨j,aA,rfl⟩:=jf.1 hi;obtain⟨B,m,_⟩:=g j _ _ (aK aA) (aK (by omega:j<c.pbs.length));exact(aP.1 m).1) (λ j=>rfl) WM W8
     refine⟨_,bN,iC.trans dF,?_,?_⟩
     ·have:=hf.nil.bI iC eY
      rwa [hR]at this
     ·show aw E.T _ w' _ _ (q8 _) v
      rw[<-mB]
      exact Y0 (e6 c.eF H us (C' us A))
    ·cases a
   |panicked qB=>exact l.elim
   |outgrown=>exact l.elim
 ·exact b.elim
theorem FA(a7:di E)(b:lh E bu)(d:vF E LE)(e:E.cY=[]){c:ey E.T}(h:c.S3 E bu LE f):kj E f (c.run E):=Nh λ da db e2 i W M0 X ρ w vs j k=>by
 obtain⟨l,wS,heq⟩:=h da db _ _ _ _ _ k;obtain⟨m,n,o⟩:=D.s4 (heq _ i);have p:∀ {q bl' ρ' w'},H' E q bl' ρ' w':=λ{_ _ _ _} g y a=>by rw[e]at a;simp[cG]at a
 exact⟨m,o,((NI a7 b d).ok _ _ _ _ n).2 _ _ _ _ _ vs j p wS⟩
theorem TV(a7:di E)(a:lh E bu)(b:vF E LE)(d:E.cY=[]){c:ey E.T}(e:c.Eq E bu LE f):kj E f (c.run E):=FA a7 a b d e.v
end
end bc
namespace bc
open Go Go.RowKit ay I
structure mO where
 eF:List cN
 dt:List bK
@[reducible] def E3(El:Nat->Type)(w:mO):Type:=dv El w.eF×cK El w.dt
@[reducible] def yp(El:Nat->Type):List mO->Type
  |[]=>Empty
  |[w]=>E3 El w
  |w::v::r=>E3 El w⊕yp El (v::r)
structure kN (T:bT) where
 pas:List cN
 pbs:List bK
 ws:List mO
 fn:dv T.El pas×cK T.El pbs->Option (yp T.El ws)
def K_(E:Env)(bl:List (aF E.T.El))(sel:List Nat)(w:mO)(r:E3 E.T.El w):D (fu E.T.El):=.ok ⟨.ret (q8 (gu (iW sel bl.length) (fx bl sel w.dt) w.eF r.1)),gx bl sel w.dt r.2,sel⟩
def Ha(E:Env)(bl:List (aF E.T.El))(sel:List Nat):(ws:List mO)->Option (yp E.T.El ws)->D (fu E.T.El)
 |[],_=>.no
 |[w],o=>.op o λ d=>K_ E bl sel w d
 |w::v::r,o=>.u9 o (λ d=>K_ E bl sel w d) (λ q=>Ha E bl sel (v::r) (some q))
def KJ(pbs:List bK):List mO->Bool
 |[]=>true
 |w::r=>j' pbs w.dt&&KJ pbs r
def kN.run(E:Env)(c:kN E.T)(ys:List (aI E.T.El))(bl:List (aF E.T.El)):D (fu E.T.El):=match gH [] c.pas c.pbs bl ys with
 |(a,b)=>match KJ c.pbs c.ws,iw a [] false c.pas c.pbs b with
  |true,some (d,sel)=>Ha E a sel c.ws (c.fn d)
  |_,_=>.no
def Qk{El:Nat->Type}(gM:Nat)(y:aI El)(bl:List (aF El))(w:mO):Option (E3 El w):=match gH (oB gM) w.eF w.dt bl (xU w.eF.length y)with
 |(a,b)=>match iw a (oB gM) true w.eF w.dt b with
  |some (d,_)=>some d
  |none=>none
def QC{El:Nat->Type}(gM:Nat)(y:aI El)(bl:List (aF El)):(ws:List mO)->Option (yp El ws)
 |[]=>none
 |[w]=>Qk gM y bl w
 |w::v::r=>match Qk gM y bl w with
  |some d=>some (.inl d)
  |none=>match QC gM y bl (v::r)with
   |some q=>some (.inr q)
   |none=>none
def kN.fin{T:bT}(c:kN T)(r:fu T.El):Option (yp T.El c.ws):=match r.e with
 | .ret y=>QC c.pbs.length y r.bl c.ws
 | .Ap _=>none
def kN.Eq(E:Env)(bu:fp E)(LE:lj E)(f:Nat)(c:kN E.T):Prop:=∀(da:dv E.T.El c.pas)(db:cK E.T.El c.pbs),(og E bu LE f (gu id (cd false c.pbs) c.pas da) (bP id (cd false c.pbs) false c.pbs db)).run c.fin=c.fn (da,db)
section
variable{E:Env}{bu:fp E}{LE:lj E}{f:Nat}
theorem akd{pbs:List bK}:∀ {ws:List mO}{w:mO},KJ pbs ws=true->w∈ws->j' pbs w.dt=true
 |[],w,_,h=>by simp at h
 |v::r,w,h,hm=>by
  simp only[KJ,cb]at h;rcases cI.1 hm with rfl |hm
  ·exact h.1
  ·exact akd h.2 hm
theorem alQ{gM:Nat}{y:aI E.T.El}{bl:List (aF E.T.El)}:∀ {ws:List mO}{r:yp E.T.El ws},QC gM y bl ws=some r-> ∃(w:mO)(d:E3 E.T.El w),w∈ws/\Qk gM y bl w=some d/\ ∀bl' sel t,(Ha E bl' sel ws (some r)).out t->(K_ E bl' sel w d).out t
 |[],r,h=>by cases h
 |[w],r,h=>⟨w,r,by simp,h,λ bl' sel t b=>by
  obtain⟨d,a,ao⟩:=b;simp only[aH]at a;subst a;exact ao⟩
 |w::v::ws,r,h=>by
  simp only[QC]at h;split at h
  ·rename_i d aL
   simp only[aH]at h
   subst h
   refine⟨w,d,by simp,aL,λ bl' sel t b=>?_⟩
   rcases b with⟨d',a,ao⟩|⟨d',a,ao⟩
   ·simp only[aH,Sum.inl.injEq]at a
    subst a
    exact ao
   ·simp at a
  ·split at h
   ·rename_i q c
    simp only[aH]at h
    subst h
    obtain⟨w',d,e,J,g⟩:=alQ c
    refine⟨w',d,dZ _ e,J,λ bl' sel t b=>?_⟩
    rcases b with⟨d',a,ao⟩|⟨d',a,ao⟩
    ·simp at a
    ·simp only[aH,Sum.inr.injEq]at a
     subst a
     exact g bl' sel t ao
   ·cases h
theorem aIg{bl:List (aF E.T.El)}{sel:List Nat}:∀ {ws:List mO}{o:Option (yp E.T.El ws)}{t:fu E.T.El},(Ha E bl sel ws o).out t-> ∃r,o=some r/\(Ha E bl sel ws (some r)).out t
 |[],o,t,h=>h.elim
 |[w],o,t,h=>by
  obtain⟨d,a,ao⟩:=h;exact⟨d,a,d,rfl,ao⟩
 |w::v::r,o,t,h=>by
  rcases h with⟨d,a,ao⟩|⟨d,a,ao⟩
  ·exact⟨_,a,.inl ⟨d,rfl,ao⟩⟩
  ·exact⟨_,a,.inr ⟨d,rfl,ao⟩⟩
def kN.nZ(E:Env)(bu:fp E)(LE:lj E)(f:Nat)(c:kN E.T):Prop:=∀(da:dv E.T.El c.pas)(db:cK E.T.El c.pbs) r,c.fn (da,db)=some r->(og E bu LE f (gu id (cd false c.pbs) c.pas da) (bP id (cd false c.pbs) false c.pbs db)).run c.fin=some r
theorem kN.Eq.one{c:kN E.T}(h:c.Eq E bu LE f):c.nZ E bu LE f:=λ da db _ a=>(h da db).trans a
theorem aeP(a7:di E)(T:lh E bu)(U:vF E LE)(V:E.cY=[]){c:kN E.T}(Y:c.nZ E bu LE f):kj E f (c.run E):=by
 intro ys Z r b W M0 X ρ0 w vs dO _ ca;unfold kN.run at b;cases M:gH [] c.pas c.pbs Z ys with
 |mk bl cJ=>
 rw[M]at b;obtain⟨ρ,t,iC,af⟩:=wg dO M ca;simp only at b;split at b
 ·rename_i d sel u N
  obtain⟨da,db⟩:=d
  obtain⟨e2,h1,J⟩:=aIg b
  obtain⟨aj,_,lC⟩:=ub t tP N
  obtain⟨mZ,l⟩:=CI tP N
  obtain⟨et,bR⟩:=lC (bk (jS X bl ρ sel) (bP id (cd false c.pbs) false c.pbs db) (gO ρ sel) w) λ k l=>aj.G_ l
  have iR:=aj.enter t bR
  have wS:=et vs af
  obtain⟨x,dz,a⟩:=D.s4 (Y da db _ h1)
  have qO:∀ {ll bl' ρ' w'},H' E ll bl' ρ' w':=λ{_ _ _ _} g y O=>by rw[V]at O;simp[cG]at O
  have hc:=((NI a7 T U).ok _ _ _ _ dz).2 _ _ _ _ _ vs iR qO wS
  unfold kN.fin at a
  cases z:x.e with
  |Ap y=>rw[z]at a;cases a
  |ret y=>
   rw[z]at a
   simp only at a
   obtain⟨jk,P,hw,m,A⟩:=alQ a
   have b8:=akd u hw
   have J:=A _ _ _ J
   obtain⟨Q,R⟩:=P
   have J:(⟨.ret (q8 (gu (iW sel bl.length) (fx bl sel jk.dt) jk.eF Q)),gx bl sel jk.dt R,sel⟩:fu E.T.El)=r:=J
   subst J
   refine hc.mono λ e w' av=>?_
   obtain⟨C,Yf,F,k9,n⟩:=av
   rw[z]at n
   cases e with
   |returned v=>
    have n:aw E.T _ w' C x.bl y v:=n
    unfold Qk at m
    cases G:gH (oB c.pbs.length) jk.eF jk.dt x.bl (xU jk.eF.length y)with
    |mk IB iI=>
    rw[G]at m
    simp only at m
    split at m
    ·rename_i P H q
     have a:=eJ m
     subst a
     have s:(xU jk.eF.length y).length=jk.eF.length:=by
      rw[<-agC G];unfold iw at q;split at q
      ·rename_i Wo
       exact VT Wo
      ·cases q
     obtain⟨us,I,mB⟩:=amK s n
     obtain⟨Bz,gW,K,I⟩:=wg Yf G I
     have LC:=F.trans K
     obtain⟨L,sm,JW⟩:=ub gW Dd q
     obtain⟨zj,JI⟩:=CI Dd q
     obtain⟨C',sd⟩:=JW (bk (jS X bl ρ sel) (bP id (cd true jk.dt) true jk.dt R) (gO Bz H) w') λ k l=>L.K6 l
     have WM:=L.leave gW sd
     have W8:=X7 (by rw[aj.len,nu]) LC L (λ j aA=>sm (j,j) (Df.2 ⟨aA,rfl⟩)) zj b8 λ j i p h h'=>by
      obtain⟨B,o,ao,aT⟩:=JI j i p h h';exact⟨B,o,ao,aT⟩
     obtain⟨bN,dF,eY,e6⟩:=back (gq:=cd true jk.dt) t aj mZ (λ j i B p h h' S=>by
      obtain⟨B',o,ao,_⟩:=l j i p h S;rw[h']at o;cases o;exact OY b8 S ao) b8 (λ i hi=>by
       obtain⟨j,aA,rfl⟩:=jf.1 hi;obtain⟨B,o,_⟩:=l j _ _ (aK aA) (aK (by omega:j<c.pbs.length));exact(aP.1 o).1) (λ j=>rfl) WM W8
     refine⟨_,bN,iC.trans dF,?_,?_⟩
     ·have:=hf.nil.bI iC eY
      rwa [hR]at this
     ·show aw E.T _ w' _ _ (q8 _) v
      rw[<-mB]
      exact Y0 (e6 jk.eF Q us (C' us I))
    ·cases m
   |panicked qB=>exact n.elim
   |outgrown=>exact n.elim
 ·exact b.elim
end
end bc
namespace bc
open Go Go.RowKit ay I
def vz{α:Type}:List Nat->List α->List (Nat×α)
 |s::r,y::ys=>(s,y)::vz r ys
 |_,_=>[]
def sT:List bK->List bK->Bool
 | .r _ s::r,.r _ s'::a=>(s|| !s')&&sT r a
 |_::r,_::a=>sT r a
 |_,_=>true
def G9(E:Env)(gM:Nat)(bl:List (aF E.T.El))(f:cC E.T.El)(ss:List Nat)(pas:List cN)(pbs:List bK):Option (dv E.T.El pas×cK E.T.El pbs):=match pR E bl f [] (ss.map .tmp)with
 |some ys=>match gH (oB gM) pas pbs bl ys with
  |(a,b)=>match iw a (oB gM) true pas pbs b with
   |some (d,_)=>some d
   |none=>none
 |none=>none
section
variable{T:bT}{F:Nat->Prop}{w w':World}{ρ:List Value}{bl:List (aF T.El)}
theorem ax9{a1:List (Nat×Nat)}{p:bK}{B:aF T.El}{r:tB T.El p×List (Nat×Nat)}(h:iO bl a1 true p B=some r):iO bl a1 false p B=some r:=by
 cases p with
 |c ty ps=>exact h
 |m kt vt=>exact h
 |d=>exact h
 |r t same=>
  simp only[iO]at h⊢
  split at h
  ·split at h
   ·simpa using h
   ·cases h
  ·cases h
theorem agU:∀ {ps:List bK}{a1:List (Nat×Nat)}{k:Nat}{r:cK T.El ps×List (Nat×Nat)},oo bl true a1 k ps=some r->oo bl false a1 k ps=some r
 |[],a1,k,r,h=>h
 |p::ps,a1,k,r,h=>by
  simp only[oo]at h⊢;split at h
  ·split at h
   ·split at h
    ·rename_i d b a
     rw[ax9 a]
     simp only
     split at h
     ·rename_i c e J
      rw[agU J]
      exact h
     ·cases h
    ·cases h
   ·cases h
  ·cases h
theorem aya{a1:List (Nat×Nat)}{pas:List cN}{pbs:List bK}{ys:List (aI T.El)}{r:(dv T.El pas×cK T.El pbs)×List Nat}(h:iw bl a1 true pas pbs ys=some r):iw bl a1 false pas pbs ys=some r:=by
 unfold iw at h⊢;split at h
 ·split at h
  ·rename_i J
   rw[agU J]
   exact h
  ·cases h
 ·cases h
theorem SA{t:Nat}{y:aI T.El}{a:Act}:∀ {ss:List Nat}{ys:List (aI T.El)},a8 T F w ρ bl ys ((ss.map Operand.tmp).map a.eval)->cG (vz ss ys) t=some y->aw T F w ρ bl y (a.tmps.getD t undef)
 |[],ys,_,h=>by simp[vz,cG]at h
 |s::r,[],_,h=>by simp[vz,cG]at h
 |s::r,z::ys,b,h=>by
  simp only[eB,a8]at b;obtain⟨u,us,e,c,J⟩:=b;simp only[h3]at e;obtain⟨rfl,rfl⟩:=e;simp only[vz,cG]at h;split at h
  ·rename_i ag
   simp only[aH]at h
   subst h
   rw[<-bd ag]
   exact c
  ·exact SA J h
theorem P8{σ g σ' g':Nat->Nat}{post post':Bool}:∀ {ps:List bK}{d:cK T.El ps}{j:Nat}{B:aF T.El},(bP σ g post ps d)[j]? =some B-> ∃B',(bP σ' g' post' ps d)[j]? =some B'/\ ∀u,bE B' u=bE B u
 |[],d,j,B,h=>by simp[bP]at h
 |p::r,d,0,B,h=>by
  simp only[bP,dU,aH]at h;subst h;refine⟨dG σ' g' post' p d.1,rfl,λ u=>?_⟩;cases p<;>rfl
 |p::r,d,j+1,B,h=>by
  obtain⟨B',a,J⟩:=P8 (σ':=σ') (g':=g') (post':=post') (ps:=r) (d:=d.2) (j:=j) (by simpa[bP]using h);exact⟨B',by simpa[bP]using a,J⟩
theorem alu{X:Nat->Prop}{σ g σ' g':Nat->Nat}{post post':Bool}{ps:List bK}{d:cK T.El ps}{k:Nat}(h:bk X (bP σ g post ps d) ρ w k):bk X (bP σ' g' post' ps d) ρ w k:=⟨h.1,λ⟨j,B,u,a,J,b⟩=>by
 obtain⟨B',c,ao⟩:=P8 (σ':=σ) (g':=g) (post':=post) a;exact h.2.1 ⟨j,B',u,c,J,by rw[ao];exact b⟩,h.2.2⟩
theorem ake:∀ {ps qs:List bK}{j:Nat}{p q:bK},sT ps qs=true->ps[j]? =some p->qs[j]? =some q->zF p q=true->fc true (some q)=0 ->fc true (some p)=0
 |[],_,j,p,q,_,h,_,_,_=>by simp at h
 |a::r,[],j,p,q,_,_,h,_,_=>by simp at h
 |a::r,b::s,0,p,q,c,h,h',e,d=>by
  simp only[dU,aH]at h h';subst h;subst h';cases a<;>cases b<;>simp only[zF,hX]at e<;>try first |rfl |(simp[fc]at d;done)
  simp only[sT,cb,ia,ha]at c;rename_i i f k g;cases f<;>cases g<;>simp[fc]at c d⊢
 |a::r,b::s,j+1,p,q,c,h,h',e,d=>by
  refine ake (ps:=r) (qs:=s) (j:=j) ?_ (by simpa using h) (by simpa using h') e d;cases a<;>cases b<;>simp only[sT,cb]at c<;>first |exact c.2 |exact c
variable{X:Nat->Prop}{pre ct:List bK}{d0 d1:cK T.El pre}{d2:cK T.El ct}{ρ0 eG lV:List Value}{w0 dQ c0:World}
theorem KU{σ g:Nat->Nat}{post:Bool}:∀ {ps:List bK}{d:cK T.El ps}{j:Nat},j<ps.length-> ∃p a,ps[j]? =some p/\ ∀σ' g' post',(bP σ' g' post' ps d)[j]? =some (dG σ' g' post' p a)
 |[],d,j,h=>by simp at h
 |p::r,d,0,h=>⟨p,d.1,rfl,λ _ _ _=>rfl⟩
 |p::r,d,j+1,h=>by
  obtain⟨q,a,b,J⟩:=KU (σ:=σ) (g:=g) (post:=post) (ps:=r) (d:=d.2) (j:=j) (by simpa using h);exact⟨q,a,by simpa using b,λ σ' g' post'=>by simpa[bP]using J σ' g' post'⟩
theorem aJn:To X (bP id (cd false pre) false pre d0) (bP id (cd true pre) true pre d0) ρ0 ρ0 w w:=by
 refine⟨λ k a=>⟨alu a,rfl⟩,⟨λ i h hi=>⟨h,hi,λ _=>rfl,?_⟩⟩,cT _,λ i B' h' hi f k a _=>?_⟩
 ·rcases gL i pre.length with al |al
  ·obtain⟨p,j,b,ao⟩:=KU (σ:=id) (g:=id) (post:=true) (d:=d0) al
   rw[ao,ao]
   cases p with
   |c ty ps=>exact⟨cT _,λ _=>⟨rfl,rfl,cT _,λ _=>rfl⟩⟩
   |r t s=>exact⟨by simp[dG,b4,fc],λ _=>⟨rfl,rfl,by simp[dG,gY,AP],λ e=>by simp[dG,gY,AP]at e⟩⟩
   |m kt vt=>exact⟨cT _,λ _=>⟨rfl,rfl,cT _,λ _=>rfl⟩⟩
   |d=>exact⟨by simp[dG,b4,fc],λ e=>by simp[dG,b4,fc]at e⟩
  ·rw[gE (by rw[nu];exact al),gE (by rw[nu];exact al)]
   exact⟨cT _,λ _=>⟨rfl,rfl,cT _,λ _=>rfl⟩⟩
 ·obtain⟨B,b,ao⟩:=P8 (σ':=id) (g':=cd false pre) (post':=false) hi
  exact⟨B,h',b,f,by rw[ao];exact a⟩
theorem amw(b8:j' pre ct=true)(t:sT pre ct=true)(I:ρ0.length=pre.length)(h:To X (bP id (cd false pre) false pre d0) (bP id (cd true pre) true pre d1) ρ0 eG w0 dQ)(k:To X (bP id (cd false pre) false pre d1) (bP id (cd true ct) true ct d2) eG lV dQ c0) :
 To X (bP id (cd false pre) false pre d0) (bP id (cd true ct) true ct d2) ρ0 lV w0 c0:=by
 have v:=Lf b8
 refine⟨λ q f=>?_,⟨λ i u hi=>?_⟩,hv h.sz k.sz,λ i B' h' hi x q f l=>?_⟩
 ·obtain⟨a,ao⟩:=h.F q f
  obtain⟨aT,bQ⟩:=k.F q (alu a)
  exact⟨aT,bQ.trans ao⟩
 ·have m:i<pre.length:=by have:=(aP.1 hi).1;omega
  obtain⟨p,J,a,ao⟩:=KU (σ:=id) (g:=id) (post:=true) (d:=d0) m
  obtain⟨K,L,b,c⟩:=KU (σ:=id) (g:=id) (post:=true) (d:=d1) m
  obtain⟨q,y,n,o⟩:=KU (σ:=id) (g:=id) (post:=true) (d:=d2) (show i<ct.length by omega)
  rw[a]at b
  cases b
  have j:=Ld b8 a n
  have z:=ake t a n j
  obtain⟨A,C,D,a3,a4⟩:=h.L.at_ i u hi
  obtain⟨E,G,H,M,e6⟩:=k.L.at_ i A C
  rw[ao,c]at a4
  rw[c,o]at e6
  refine⟨E,G,λ aj=>?_,?_⟩
  ·have e:=D aj
   rw[H (by rw[e];exact aj),e]
  ·rw[ao,o]
   cases p<;>cases q<;>simp only[zF,hX]at j
   ·exact⟨cT _,λ _=>⟨(e6 rfl).1.trans (a4 rfl).1,rfl,cT _,λ _=>rfl⟩⟩
   ·exact⟨gT _,λ e=>by simp[dG,b4,fc]at e⟩
   ·have:=bd j
    subst this
    rename_i r s
    refine⟨by cases r<;>cases s<;>simp[dG,b4,fc],λ e=>⟨(e6 ?_).1.trans (a4 ?_).1,rfl,by simp[dG,gY,AP],λ e=>by simp[dG,gY,AP]at e⟩⟩<;>cases r<;>cases s<;>simp[dG,b4,fc]at e z⊢
   ·exact⟨by simp[dG,b4,fc],λ e=>by simp[dG,b4,fc]at e⟩
   ·exact⟨cT _,λ _=>⟨(e6 rfl).1.trans (a4 rfl).1,rfl,cT _,λ _=>rfl⟩⟩
   ·exact⟨gT _,λ e=>by simp[dG,b4,fc]at e⟩
 ·obtain⟨B,u,a,ao,aT⟩:=k.om i B' h' hi x q f (fe l h.sz)
  obtain⟨BA,b,c⟩:=P8 (σ':=id) (g':=cd true pre) (post':=true) a
  exact h.om i BA u b ao q (by rw[c];exact aT) l
end
section
variable{E:Env}{W w w':World}{M0:List Nat}{X:Nat->Prop}{n:cE}{f:cC E.T.El}{bl:List (aF E.T.El)}{ρ nV:List Value}{a:Act}{pre pbs:List bK}{pas:List cN}{dp:cK E.T.El pre}{da:dv E.T.El pas}{db:cK E.T.El pbs}{ss:List Nat}
def Told(E:Env)(W:World)(M0:List Nat)(X:Nat->Prop)(ss:List Nat)(pas:List cN)(pbs:List bK)(da:dv E.T.El pas)(db:cK E.T.El pbs)(ρ:List Value)(a:Act)(w:World)(post:Bool):Prop:=
 Mem E.T W M0 X (bP id (cd post pbs) post pbs db) ρ w/\a8 E.T (bk X (bP id (cd post pbs) post pbs db) ρ w) w ρ (bP id (cd post pbs) post pbs db) (gu id (cd post pbs) pas da) ((ss.map Operand.tmp).map a.eval)
theorem aaq(h:R E W M0 X n f bl ρ a w')(u:nV.length=pre.length)(b8:j' pre pbs=true)(v:To X (bP id (cd false pre) false pre dp) bl nV ρ w w')(b:G9 E pre.length bl f ss pas pbs=some (da,db)) :
 ∃s,(∀post,Told E W M0 X ss pas pbs da db s a w' post)/\To X (bP id (cd false pre) false pre dp) (bP id (cd true pbs) true pbs db) nV s w w':=by
 unfold G9 at b
 split at b
 ·rename_i ys x
  have y:=Al h (cur:=[]) trivial x
  cases t:gH (oB pre.length) pas pbs bl ys with
  |mk H I=>
  rw[t]at b
  simp only at b
  split at b
  ·rename_i d sel e
   simp only[aH]at b
   subst b
   obtain⟨g,c,z,v1⟩:=wg h.mem t y
   obtain⟨l,A,C⟩:=ub c Dd e
   obtain⟨C6,_,m⟩:=ub c Dd (aya e)
   obtain⟨D,F⟩:=CI Dd e
   refine⟨gO g sel,λ post=>?_,X7 u (v.trans z) l (λ j aA=>A (j,j) (Df.2 ⟨aA,rfl⟩)) D b8 λ j i p h h'=>?_⟩
   ·cases post with
    |true=>
     obtain⟨o,q⟩:=C (bk X (bP id (cd true pbs) true pbs db) (gO g sel) w') λ k r=>l.K6 r
     exact⟨l.leave c q,o _ v1⟩
    |false=>
     obtain⟨o,q⟩:=m (bk X (bP id (cd false pbs) false pbs db) (gO g sel) w') λ k r=>C6.K6 r
     exact⟨C6.leave c q,o _ v1⟩
   ·obtain⟨B,G,ao,aT⟩:=F j i p h h'
    exact⟨B,G,ao,aT⟩
  ·cases b
 ·cases b
end
end bc
namespace bc
open Go Go.RowKit ay I
inductive yU
 |nm
 |ex (id:Nat)
 |rt
structure kn where
 x:yU
 ss:List Nat
 eF:List cN
 dt:List bK
def Sg:yU->yU->Bool
 | .nm,.nm=>true
 | .ex i,.ex j=>cy i j
 | .rt,.rt=>true
 |_,_=>false
theorem apq{x y:yU}(h:Sg x y=true):x=y:=by
 cases x<;>cases y<;>simp only[Sg,hX]at h<;>try rfl
 rw[bd h]
def H0{El:Nat->Type}:yU->MT El
 | .nm=>.nm
 | .ex i=>.ex i
 | .rt=>.rt
@[reducible] def yq(El:Nat->Type)(w:kn):Type:=dv El w.eF×cK El w.dt
@[reducible] def yr(El:Nat->Type):List kn->Type
  |[]=>Empty
  |[w]=>yq El w
  |w::v::r=>yq El w⊕yr El (v::r)
structure fB (T:bT) where
 ss:List Nat
 pas:List cN
 pbs:List bK
 ws:List kn
 fn:Nat->dv T.El pas×cK T.El pbs->Option (yr T.El ws)
def Ed(E:Env)(gM:Nat)(x:yU)(bl:List (aF E.T.El))(f:cC E.T.El):(ws:List kn)->Option (yr E.T.El ws)
 |[]=>none
 |[w]=>match Sg w.x x with
  |true=>G9 E gM bl f w.ss w.eF w.dt
  |false=>none
 |w::v::r=>match(match Sg w.x x with
   |true=>G9 E gM bl f w.ss w.eF w.dt
   |false=>none)with
  |some d=>some (.inl d)
  |none=>match Ed E gM x bl f (v::r)with
   |some q=>some (.inr q)
   |none=>none
def P_(E:Env)(bl:List (aF E.T.El))(sel ws:List Nat)(w:kn)(d:yq E.T.El w):D (b9 E.T.El):=.ok ⟨H0 w.x,⟨⟨vz w.ss (gu (iW sel bl.length) (fx bl sel w.dt) w.eF d.1),[],[]⟩,gx bl sel w.dt d.2,sel++ws⟩⟩
def G4(E:Env)(bl:List (aF E.T.El))(sel us:List Nat):(ws:List kn)->Option (yr E.T.El ws)->D (b9 E.T.El)
 |[],_=>.no
 |[w],o=>.op o λ d=>P_ E bl sel us w d
 |w::v::r,o=>.u9 o (λ d=>P_ E bl sel us w d) (λ q=>G4 E bl sel us (v::r) (some q))
def GM(pbs:List bK):List kn->Bool
 |[]=>true
 |w::r=>j' pbs w.dt&&sT pbs w.dt&&GM pbs r
def fB.run(E:Env)(F:Nat)(c:fB E.T)(s:eP E.T.El):D (b9 E.T.El):=match pR E s.bl s.f [] (c.ss.map .tmp)with
 |some ys=>match gH [] c.pas c.pbs s.bl ys with
  |(a,b)=>match GM c.pbs c.ws&&(j' c.pbs c.pbs&&sT c.pbs c.pbs),iw a [] false c.pas c.pbs b with
   |true,some (d,sel)=>G4 E a sel s.ws c.ws (c.fn F d)
   |_,_=>.no
 |none=>.no
def agp(id i:Nat):yU:=match cy i id with
 |true=>.nm
 |false=>.ex i
def fB.fin(E:Env)(c:fB E.T)(id k:Nat)(t:b9 E.T.El):Option (yr E.T.El c.ws):=match t.x with
 | .nm=>match G9 E c.pbs.length t.s.bl t.s.f c.ss c.pas c.pbs with
   |some d=>c.fn k d
   |none=>none
 | .ex i=>Ed E c.pbs.length (agp id i) t.s.bl t.s.f c.ws
 | .rt=>Ed E c.pbs.length .rt t.s.bl t.s.f c.ws
 | .hZ _=>none
def zn(E:Env)(c:fB E.T)(da:dv E.T.El c.pas)(db:cK E.T.El c.pbs):eP E.T.El:=⟨⟨vz c.ss (gu id (cd false c.pbs) c.pas da),[],[]⟩,bP id (cd false c.pbs) false c.pbs db,[]⟩
structure fB.Eq (E:Env) (bu:fp E) (LE:nY E) (n id:Nat) (body:Code) (c:fB E.T):Prop where
 zero:∀d,c.fn 0 d=none
 succ:∀k (da:dv E.T.El c.pas)(db:cK E.T.El c.pbs),(den E bu LE n body (zn E c da db)).run (c.fin E id k)=c.fn (k+1) (da,db)
structure fB.nZ (E:Env) (bu:fp E) (LE:nY E) (n id:Nat) (body:Code) (c:fB E.T):Prop where
 zero:∀d,c.fn 0 d=none
 succ:∀k (da:dv E.T.El c.pas)(db:cK E.T.El c.pbs) r,c.fn (k+1) (da,db)=some r->(den E bu LE n body (zn E c da db)).run (c.fin E id k)=some r
theorem fB.Eq.one{E:Env}{bu:fp E}{LE:nY E}{n id:Nat}{body:Code}{c:fB E.T}(h:c.Eq E bu LE n id body):c.nZ E bu LE n id body:=⟨h.zero,λ k da db _ a=>(h.succ k da db).trans a⟩
section
variable{E:Env}{bu:fp E}{LE:nY E}
theorem am4{gM:Nat}{x:yU}{bl:List (aF E.T.El)}{f:cC E.T.El}:∀ {ws:List kn}{r:yr E.T.El ws},Ed E gM x bl f ws=some r ->
 ∃(w:kn)(da:dv E.T.El w.eF)(db:cK E.T.El w.dt),w∈ws/\w.x=x/\G9 E gM bl f w.ss w.eF w.dt=some (da,db)/\ ∀bl' sel us t,(G4 E bl' sel us ws (some r)).out t->⟨H0 w.x,⟨⟨vz w.ss (gu (iW sel bl'.length) (fx bl' sel w.dt) w.eF da),[],[]⟩,gx bl' sel w.dt db,sel++us⟩⟩=t
 |[],r,h=>by cases h
 |[w],r,h=>by
  simp only[Ed]at h;split at h
  ·rename_i c
   refine⟨w,r.1,r.2,by simp,apq c,h,λ bl' sel us t b=>?_⟩
   obtain⟨d,a,ao⟩:=b
   simp only[aH]at a
   subst a
   exact ao
  ·cases h
 |w::v::ws,r,h=>by
  simp only[Ed]at h;split at h
  ·rename_i d aL
   simp only[aH]at h
   subst h
   split at aL
   ·rename_i c
    refine⟨w,d.1,d.2,by simp,apq c,aL,λ bl' sel us t b=>?_⟩
    rcases b with⟨d',a,ao⟩|⟨d',a,ao⟩
    ·simp only[aH,Sum.inl.injEq]at a
     subst a
     exact ao
    ·simp at a
   ·cases aL
  ·split at h
   ·rename_i q e
    simp only[aH]at h
    subst h
    obtain⟨w',da,db,g,J,i,j⟩:=am4 e
    refine⟨w',da,db,dZ _ g,J,i,λ bl' sel us t b=>?_⟩
    rcases b with⟨d',a,ao⟩|⟨d',a,ao⟩
    ·simp at a
    ·simp only[aH,Sum.inr.injEq]at a
     subst a
     exact j bl' sel us t ao
   ·cases h
theorem akV{bl:List (aF E.T.El)}{sel us:List Nat}:∀ {ws:List kn}{o:Option (yr E.T.El ws)}{t:b9 E.T.El},(G4 E bl sel us ws o).out t-> ∃r,o=some r/\(G4 E bl sel us ws (some r)).out t
 |[],o,t,h=>h.elim
 |[w],o,t,h=>by
  obtain⟨d,a,ao⟩:=h;exact⟨d,a,d,rfl,ao⟩
 |w::v::r,o,t,h=>by
  rcases h with⟨d,a,ao⟩|⟨d,a,ao⟩
  ·exact⟨_,a,.inl ⟨d,rfl,ao⟩⟩
  ·exact⟨_,a,.inr ⟨d,rfl,ao⟩⟩
theorem PV{pbs:List bK}:∀ {ws:List kn}{w:kn},GM pbs ws=true->w∈ws->j' pbs w.dt=true/\sT pbs w.dt=true
 |[],w,_,h=>by simp at h
 |v::r,w,h,hm=>by
  simp only[GM,cb]at h;rcases cI.1 hm with rfl |hm
  ·exact h.1
  ·exact PV h.2 hm
theorem aDU(a7:di E)(aD:lh E bu)(ea:E.cY=[]){n:cE}{hC:Nat}{body:Code}(al:km E LE n body){c:fB E.T}(he:c.nZ E bu LE n.n hC body)(F:Nat):BE E n (c.run E F) (.block hC (.loop body)):=by
 intro s t r W M0 X b0 ρ0 w0 ρ a w Q h k;have qO:∀ {ll:Nat->Prop}{bl':List (aF E.T.El)}{ρ':List Value}{w':World},∀g y,cG E.cY g=some y->aw E.T (bk ll bl' ρ' w') w' ρ' bl' y (.pointer (some ⟨g,0,none⟩)):=λ{_ _ _ _} g y az=>by rw[ea]at az;simp[cG]at az
 unfold fB.run at r;split at r
 ·rename_i ys Dc
  cases hh:gH [] c.pas c.pbs s.bl ys with
  |mk bl cJ=>
  rw[hh]at r
  simp only at r
  obtain⟨f,P,iC,af⟩:=wg h.r.mem hh (Al h.r (cur:=[]) trivial Dc)
  split at r
  ·rename_i d sel JX eT
   simp only[cb]at JX
   obtain⟨zz,V1,S⟩:=JX
   obtain⟨da,db⟩:=d
   obtain⟨e2,ic,J⟩:=akV r
   obtain⟨aj,_,lC⟩:=ub P tP eT
   obtain⟨mZ,M⟩:=CI tP eT
   obtain⟨et,bR⟩:=lC (bk (jS X bl f sel) (bP id (cd false c.pbs) false c.pbs db) (gO f sel) w) λ k M=>aj.G_ M
   have iR:=aj.enter P bR
   have wS:=et _ af
   have u:(gO f sel).length=c.pbs.length:=by rw[aj.len,nu]
   have leave:∀(b:kn),b∈c.ws-> ∀(G:dv E.T.El b.eF)(H:cK E.T.El b.dt)(l:List Value)(o:Act)(w':World),o.tmps.size=n.n->o.defers=n.ds ->
    Told E w (r_ (bP id (cd false c.pbs) false c.pbs db) (gO f sel)) (jS X bl f sel) b.ss b.eF b.dt G H l o w' true ->
    To (jS X bl f sel) (bP id (cd false c.pbs) false c.pbs db) (bP id (cd true b.dt) true b.dt H) (gO f sel) l w w' ->
    t=⟨H0 b.x,⟨⟨vz b.ss (gu (iW sel bl.length) (fx bl sel b.dt) b.eF G),[],[]⟩,gx bl sel b.dt H,sel++s.ws⟩⟩ ->
    Cr E X t.s.bl (gn f sel l) Q o w' (H0 b.x):=λ b T G H l o w' U sl I N aJ=>by
    obtain⟨b8,dN⟩:=PV zz T
    obtain⟨bN,dF,eY,e6⟩:=back (gq:=cd true b.dt) P aj mZ (λ j i B p h h' qI=>by
     obtain⟨B',O,ao,_⟩:=M j i p h qI;rw[h']at O;cases O;exact OY b8 qI ao) b8 (λ i hi=>by
      obtain⟨j,aA,rfl⟩:=jf.1 hi;obtain⟨B,O,_⟩:=M j _ _ (aK aA) (aK (by omega:j<c.pbs.length));exact(aP.1 O).1) (λ j=>rfl) I.1 N
    have Gk:=e6 b.eF G _ I.2
    have pD:hf s.bl ρ w w' sel:=by
     have:=hf.nil.bI iC eY;rwa [hR]at this
    have:=k (gn f sel l) o w' (by
     subst aJ;exact⟨⟨bN,⟨⟨U,sl,λ t y hy=>SA Gk hy⟩,λ p z=>by simp at z,λ p z=>by simp at z⟩,qO⟩,h.to.trans (iC.trans dF),h.wr.bI h.to pD⟩)
    rw[aJ]at this⊢
    exact this
   refine wp_block (wp_loop_ghost (λ m o w'=>∃(K:dv E.T.El c.pas)(A:cK E.T.El c.pbs)(ρ':List Value),o.tmps.size=n.n/\o.defers=n.ds/\Told E w (r_ (bP id (cd false c.pbs) false c.pbs db) (gO f sel)) (jS X bl f sel) c.ss c.pas c.pbs K A ρ' o w' false/\
    To (jS X bl f sel) (bP id (cd false c.pbs) false c.pbs db) (bP id (cd true c.pbs) true c.pbs A) (gO f sel) ρ' w w'/\c.fn m (K,A)=some e2) F ⟨da,db,gO f sel,h.r.d_.er.size,h.r.d_.er.defers,⟨iR,wS⟩,aJn,ic⟩ λ m o w' jX=>?_)
   obtain⟨K,A,ρ',U,sl,I,N,V⟩:=jX
   cases m with
   |zero=>rw[he.zero]at V;cases V
   |succ m=>
    obtain⟨Y,dz,q⟩:=D.s4 (he.succ _ _ _ _ V)
    have pA:ρ'.length=c.pbs.length:=by rw[I.1.len,nu]
    have ei:R E w (r_ (bP id (cd false c.pbs) false c.pbs db) (gO f sel)) (jS X bl f sel) n (zn E c K A).f (zn E c K A).bl ρ' o w':=⟨I.1,⟨⟨U,sl,λ t y hy=>SA I.2 hy⟩,λ p z=>by simp[zn]at z,λ p z=>by simp[zn]at z⟩,qO⟩
    refine n5 (b0:=(zn E c K A).bl) (ρ0:=ρ') (w0:=w') a7 aD body al dz ⟨ei,.refl,.nil⟩ λ Bz Z k9 v=>?_
    have out:∀x,Ed E c.pbs.length x Y.s.bl Y.s.f c.ws=some e2-> ∃(b:kn)(l:List Value),Cr E X t.s.bl (gn f sel l) Q Z k9 (H0 b.x)/\b.x=x:=λ x L=>by
     obtain⟨b,G,H,bq,bA,bU,fL⟩:=am4 L;obtain⟨b8,dN⟩:=PV zz bq;obtain⟨l,c8,eO⟩:=aaq v.r pA b8 v.to bU;have J:=fL _ _ _ _ J;exact⟨b,l,leave b bq G H l Z k9 v.r.d_.er.size v.r.d_.er.defers (c8 true) (amw b8 dN u N eO) J.symm,bA⟩
    unfold fB.fin at q
    cases L:Y.x with
    |nm=>
     rw[L]at q
     simp only at q
     split at q
     ·rename_i y5 azj
      obtain⟨l,c8,eO⟩:=aaq v.r pA V1 v.to azj
      exact⟨m,l4 m,y5.1,y5.2,l,v.r.d_.er.size,v.r.d_.er.defers,c8 false,amw V1 S u N eO,q⟩
     ·cases q
    |ex i=>
     rw[L]at q
     obtain⟨b,l,C,J⟩:=out _ q
     show Exit.inBlock hC Q (.exit i) Z k9
     unfold agp at J
     split at J
     ·rename_i ag
      rw[bd ag]
      simp only[Exit.inBlock,if_true]
      rw[J]at C
      exact C
     ·rename_i ag
      have b2:i≠hC:=λ e=>by subst e;simp at ag
      simp only[Exit.inBlock,if_neg b2]
      rw[J]at C
      exact C
    |rt=>
     rw[L]at q
     obtain⟨b,l,C,J⟩:=out _ q
     rw[J]at C
     exact C
    |hZ y=>rw[L]at q;cases q
  ·exact r.elim
 ·exact r.elim
end
end bc
namespace bc
open Go Go.RowKit ay I
def fw(i:Nat):Code->Option Code
 | .seq x y=>match fw i x with
   |some b=>some b
   |none=>fw i y
 | .cond _ x y=>match fw i x with
   |some b=>some b
   |none=>fw i y
 | .block id c=>match cy id i with
   |true=>match c with
    | .loop b=>some b
    |_=>none
   |false=>fw i c
 | .loop c=>fw i c
 | .scope c=>fw i c
 |_=>none
def iq(i:Nat):Code->Nat
 | .seq x y=>iq i x+iq i y
 | .cond _ x y=>iq i x+iq i y
 | .block id c=>match cy id i with
   |true=>iq i c+1
   |false=>iq i c
 | .loop c=>iq i c
 | .scope c=>iq i c
 |_=>0
def tE(E:Env)(i:Nat)(g:eP E.T.El->D (b9 E.T.El))(n:cE):Code->Prop
 | .seq x y=>tE E i g n x/\tE E i g n y
 | .cond _ x y=>tE E i g n x/\tE E i g n y
 | .block id c=>(id=i->BE E n g (.block id c))/\tE E i g n c
 | .loop c=>tE E i g n c
 | .scope c=>tE E i g n c
 |_=>True
section
variable{E:Env}{LE:nY E}{n:cE}{i:Nat}{g:eP E.T.El->D (b9 E.T.El)}
theorem q0:∀ {c:Code},iq i c=0 ->tE E i g n c
 | .seq x y,h=>by
   simp only[iq]at h;exact⟨q0 (by omega),q0 (by omega)⟩
 | .cond _ x y,h=>by
   simp only[iq]at h;exact⟨q0 (by omega),q0 (by omega)⟩
 | .block id c,h=>by
   simp only[iq]at h;split at h
   ·omega
   ·rename_i ag
    exact⟨λ e=>by subst e;simp at ag,q0 h⟩
 | .loop c,h=>q0 (c:=c) h
 | .scope c,h=>q0 (c:=c) h
 | .skip,_ | .region _ _ _,_ | .rangeFunc _ _ _ _,_ | .exit _,_ | .label _,_ | .goto _,_ | .ret,_ | .refuse _,_=>trivial
theorem r9:∀ {c b:Code},fw i c=some b->0<iq i c
 | .seq x y,b,h=>by
   simp only[fw]at h;simp only[iq];split at h
   ·rename_i a;have:=r9 a;omega
   ·have:=r9 h;omega
 | .cond _ x y,b,h=>by
   simp only[fw]at h;simp only[iq];split at h
   ·rename_i a;have:=r9 a;omega
   ·have:=r9 h;omega
 | .block id c,b,h=>by
   simp only[fw]at h;simp only[iq];split at h
   ·omega
   ·exact r9 h
 | .loop c,b,h=>by simp only[iq];exact r9 (c:=c) h
 | .scope c,b,h=>by simp only[iq];exact r9 (c:=c) h
 | .skip,_,h | .region _ _ _,_,h | .rangeFunc _ _ _ _,_,h | .exit _,_,h | .label _,_,h | .goto _,_,h | .ret,_,h | .refuse _,_,h=>by simp[fw]at h
theorem zJ{b:Code}(a:BE E n g (.block i (.loop b))):∀ {c:Code},iq i c<=1 ->fw i c=some b->tE E i g n c
 | .seq x y,h,ad=>by
   simp only[iq]at h;simp only[fw]at ad;split at ad
   ·rename_i d
    have:=r9 d
    simp only[aH]at ad
    subst ad
    exact⟨zJ a (by omega) d,q0 (by omega)⟩
   ·have:=r9 ad
    exact⟨q0 (by omega),zJ a (by omega) ad⟩
 | .cond _ x y,h,ad=>by
   simp only[iq]at h;simp only[fw]at ad;split at ad
   ·rename_i d
    have:=r9 d
    simp only[aH]at ad
    subst ad
    exact⟨zJ a (by omega) d,q0 (by omega)⟩
   ·have:=r9 ad
    exact⟨q0 (by omega),zJ a (by omega) ad⟩
 | .block id c,h,ad=>by
   simp only[iq]at h;simp only[fw]at ad;split at ad
   ·rename_i ag
    rw[ag]at h
    have e:=bd ag
    subst e
    split at ad
    ·simp only[aH]at ad
     subst ad
     exact⟨λ _=>a,q0 (by simp only at h;omega)⟩
    ·cases ad
   ·rename_i ag
    rw[ag]at h
    exact⟨λ e=>by subst e;simp at ag,zJ a h ad⟩
 | .loop c,h,ad=>zJ (c:=c) a h ad
 | .scope c,h,ad=>zJ (c:=c) a h ad
 | .skip,_,h | .region _ _ _,_,h | .rangeFunc _ _ _ _,_,h | .exit _,_,h | .label _,_,h | .goto _,_,h | .ret,_,h | .refuse _,_,h=>by simp[fw]at h
theorem zG{d:nY E}(hi:i<1000000)(a:∀j h,d j=some h->(j=i/\h=g)\/LE j=some h):∀ {c:Code},km E LE n c->tE E i g n c->km E d n c
 | .seq x y,h,h'=>⟨(λ q r rest b e=>by
   unfold KN at b;split at b
   ·rename_i id _
    rcases a _ q b with⟨f,_⟩|ao
    ·omega
    ·exact h.1 q r rest ao e
   ·cases b),zG hi a h.2.1 h'.1,zG hi a h.2.2 h'.2⟩
 | .cond _ x y,h,h'=>⟨zG hi a h.1 h'.1,zG hi a h.2 h'.2⟩
 | .block id c,h,h'=>⟨λ q b=>by
   rcases a id q b with⟨f,ao⟩|e
   ·rw[ao];exact h'.1 f
   ·exact h.1 q e,zG hi a h.2 h'.2⟩
 | .loop c,h,h'=>zG (c:=c) hi a h h'
 | .scope c,h,h'=>zG (c:=c) hi a h h'
 | .skip,_,_ | .region _ _ _,_,_ | .rangeFunc _ _ _ _,_,_ | .exit _,_,_ | .label _,_,_ | .goto _,_,_ | .ret,_,_ | .refuse _,_,_=>trivial
def k4:Code->List (Nat×Code×Code)
 | .seq x y=>(match x,y with
   | .seq (.region a b c) (.block id d),.seq r _=>[(id,.seq (.region a b c) (.block id d),r)]
   |_,_=>[])++k4 x++k4 y
 | .cond _ x y=>k4 x++k4 y
 | .block _ c=>k4 c
 | .loop c=>k4 c
 | .scope c=>k4 c
 |_=>[]
def qT:Code->Bool
 | .seq x y=>qT x&&qT y
 | .cond _ x y=>qT x&&qT y
 | .block id c=>fs id 1000000&&qT c
 | .loop c=>qT c
 | .scope c=>qT c
 |_=>true
theorem zH{s:nY E}(o:∀j h,s j=some h->(j=1000000+i/\h=g)\/LE j=some h):∀ {c:Code},(∀x r,(i,x,r)∈k4 c->yB E n g x r)->qT c=true->km E LE n c->km E s n c
 | .seq x y,m,ag,h=>by
   simp only[qT,cb]at ag;refine⟨λ q r rest p e=>?_,zH o (λ f k l=>m f k (by simp only[k4];simp[l])) ag.1 h.2.1,zH o (λ f k l=>m f k (by simp only[k4];simp[l])) ag.2 h.2.2⟩;unfold KN at p;split at p
   ·rename_i a b c id d
    rcases o _ q p with⟨t,ao⟩|ao
    ·have:id=i:=by omega
     subst this
     subst e
     rw[ao]
     exact m _ _ (by simp only[k4];simp)
    ·exact h.1 q r rest ao e
   ·cases p
 | .cond _ x y,m,ag,h=>by
   simp only[qT,cb]at ag;exact⟨zH o (λ f k l=>m f k (by simp only[k4];simp[l])) ag.1 h.1,zH o (λ f k l=>m f k (by simp only[k4];simp[l])) ag.2 h.2⟩
 | .block id c,m,ag,h=>by
   simp only[qT,cb]at ag;refine⟨λ q p=>?_,zH o (λ f k l=>m f k (by simpa only[k4]using l)) ag.2 h.2⟩;rcases o id q p with⟨t,_⟩|e
   ·have:=cS ag.1
    omega
   ·exact h.1 q e
 | .loop c,m,ag,h=>zH (c:=c) o (λ f k l=>m f k (by simpa only[k4]using l)) ag h
 | .scope c,m,ag,h=>zH (c:=c) o (λ f k l=>m f k (by simpa only[k4]using l)) ag h
 | .skip,_,_,_ | .region _ _ _,_,_,_ | .rangeFunc _ _ _ _,_,_,_ | .exit _,_,_,_ | .label _,_,_,_ | .goto _,_,_,_ | .ret,_,_,_ | .refuse _,_,_,_=>trivial
theorem zI:∀ {c b:Code},km E LE n c->fw i c=some b->km E LE n b
 | .seq x y,b,h,ad=>by
   simp only[fw]at ad;split at ad
   ·rename_i a
    simp only[aH]at ad
    subst ad
    exact zI h.2.1 a
   ·exact zI h.2.2 ad
 | .cond _ x y,b,h,ad=>by
   simp only[fw]at ad;split at ad
   ·rename_i a
    simp only[aH]at ad
    subst ad
    exact zI h.1 a
   ·exact zI h.2 ad
 | .block id c,b,h,ad=>by
   simp only[fw]at ad;split at ad
   ·split at ad
    ·simp only[aH]at ad
     subst ad
     exact h.2
    ·cases ad
   ·exact zI h.2 ad
 | .loop c,b,h,ad=>zI (c:=c) h ad
 | .scope c,b,h,ad=>zI (c:=c) h ad
 | .skip,_,_,h | .region _ _ _,_,_,h | .rangeFunc _ _ _ _,_,_,h | .exit _,_,_,h | .label _,_,_,h | .goto _,_,_,h | .ret,_,_,h | .refuse _,_,_,h=>by simp[fw]at h
end
structure cW (E:Env) where
 ce:List (Nat×(List (aI E.T.El)->List (aF E.T.El)->D (fu E.T.El)))
 le:List (Nat×Nat×(eP E.T.El->D (b9 E.T.El)))
def Gx{E:Env}:List (Nat×Nat×(eP E.T.El->D (b9 E.T.El)))->lj E
 |[],_,_=>none
 |p::r,g,i=>match cy p.1 g&&cy p.2.1 i with
  |true=>some p.2.2
  |false=>Gx r g i
def X'{E:Env}:List (Nat×(List (aI E.T.El)->List (aF E.T.El)->D (fu E.T.El)))->H9 E
 |[],_=>none
 |p::r,g=>match cy p.1 g with
  |true=>some p.2
  |false=>X' r g
def cW.kL{E:Env}(t:cW E):H9 E:=X' t.ce
def cW.LE{E:Env}(t:cW E):lj E:=Gx t.le
noncomputable def cW.bu{E:Env}(t:cW E):fp E:=FN E t.kL t.LE 100
def cW.f{E:Env}(t:cW E)(g:Nat)(h:List (aI E.T.El)->List (aF E.T.El)->D (fu E.T.El)):cW E:=⟨(g,h)::t.ce,t.le⟩
def cW.l{E:Env}(t:cW E)(g i:Nat)(h:eP E.T.El->D (b9 E.T.El)):cW E:=⟨t.ce,(g,i,h)::t.le⟩
structure cW.Ok {E:Env} (t:cW E):Prop where
 ce:MG E t.kL
 le:vF E t.LE
def ey.fit(E:Env)(c:ey E.T)(ys:List (aI E.T.El))(bl:List (aF E.T.El)):Bool:=match gH [] c.pas c.pbs bl ys with
 |(a,b)=>match iw a [] false c.pas c.pbs b with
  |some _=>true
  |none=>false
def fB.fit(E:Env)(c:fB E.T)(s:eP E.T.El):Bool:=match pR E s.bl s.f [] (c.ss.map .tmp)with
 |some ys=>match gH [] c.pas c.pbs s.bl ys with
  |(a,b)=>match iw a [] false c.pas c.pbs b with
   |some _=>true
   |none=>false
 |none=>false
noncomputable def cW.FM{E:Env}(t:cW E)(g:Nat)(c:ey E.T):cW E:=t.f g λ ys bl=>match c.fit E ys bl with
 |true=>c.run E ys bl
 |false=>t.bu g ys bl
noncomputable def cW.O'{E:Env}(t:cW E)(g i:Nat)(c:fB E.T)(F:Nat):cW E:=t.l g i λ s=>match c.fit E s with
 |true=>c.run E F s
 |false=>match t.LE g i with
  |some h=>h s
  |none=>.no
def qD(P:Program)(g:Nat):Code:=match P.funcs[g]? with
 |some fn=>match fn.body with
  |some c=>c
  |none=>.skip
 |none=>.skip
def ht(P:Program)(g i:Nat):Code:=match fw i (qD P g)with
 |some b=>b
 |none=>.skip
def fz(P:Program)(g:Nat):Nat:=match P.funcs[g]? with
 |some fn=>fn.ntmps
 |none=>0
def oK(P:Program)(g i:Nat):Bool:=match fw i (qD P g)with
 |some _=>jF (iq i (qD P g)) 1&&fs i 1000000
 |none=>false
section
variable{E:Env}{t:cW E}
theorem cW.Ok.pd(h:t.Ok){f:Nat}{r:List (aI E.T.El)->List (aF E.T.El)->D (fu E.T.El)}(ad:ff E.cf f=true)(hc:kj E f r):(t.f f r).Ok:=by
 have key:∀g q,(t.f f r).kL g=some q->(g=f/\q=r)\/t.kL g=some q:=λ g q a=>by
  simp only[cW.kL,cW.f,X']at a;split at a
  ·rename_i ag
   simp only[aH]at a
   exact .inl ⟨(bd ag).symm,a.symm⟩
  ·exact .inr a
 refine⟨⟨λ g q a=>?_,λ g q a=>?_⟩,h.le⟩
 ·rcases key g q a with⟨rfl,_⟩|e
  ·exact sw ad
  ·exact h.ce.cf g q e
 ·rcases key g q a with⟨rfl,rfl⟩|e
  ·exact hc
  ·exact h.ce.ok g q e
theorem cW.Ok.fn(a7:di E)(a:E.cY=[])(h:t.Ok){f:Nat}(ad:ff E.cf f=true){c:ey E.T}(b:c.Eq E t.bu t.LE f):(t.f f (c.run E)).Ok:=h.pd ad (TV a7 (lr a7 h.ce h.le 100) h.le a b)
theorem cW.Ok.MU(a7:di E)(h:t.Ok){g i:Nat}(d:oK E.P g i=true){r:eP E.T.El->D (b9 E.T.El)}(a:g∈E.cf->BE E ⟨fz E.P g,[]⟩ r (.block i (.loop (ht E.P g i)))):(t.l g i r).Ok:=by
 refine⟨h.ce,λ g' fn l m k n=>?_⟩;have c:=h.le g' fn l m k n;by_cases e:g'=g
 ·subst e
  have p:qD E.P g'=l:=by unfold qD;rw[k];simp only;rw[n]
  have s:fz E.P g'=fn.ntmps:=by unfold fz;rw[k]
  have a:=a m
  unfold oK at d
  unfold ht at a
  rw[p]at d a
  rw[s]at a
  split at d
  ·rename_i b ag
   rw[ag]at a
   simp only at a
   simp only[cb]at d
   refine zG (i:=i) (cS d.2) (λ j q f=>?_) c (zJ a (cS d.1) ag)
   simp only[cW.LE,cW.l,Gx]at f
   split at f
   ·rename_i o
    simp only[cb]at o
    simp only[aH]at f
    exact .inl ⟨(bd o.2).symm,f.symm⟩
   ·exact .inr f
  ·cases d
 ·have same:∀j,(t.l g i r).LE g' j=t.LE g' j:=λ j=>by
   simp only[cW.LE,cW.l,Gx];have:cy g g'=false:=by
    rw[gQ];intro ag;exact e (bd ag).symm
   rw[this];rfl
  have:(t.l g i r).LE g'=t.LE g':=funext same;rw[this];exact c
def DY(P:Program)(g i:Nat):Option (Code×Code):=match(k4 (qD P g)).filter (λ p=>cy p.1 i),qT (qD P g)with
 |[p],true=>some p.2
 |_,_=>none
theorem cW.Ok.auc(h:t.Ok){g i:Nat}{x y:Code}(b:DY E.P g i=some (x,y)){r:eP E.T.El->D (b9 E.T.El)}(d:g∈E.cf->yB E ⟨fz E.P g,[]⟩ r x y):(t.l g (1000000+i) r).Ok:=by
 refine⟨h.ce,λ g' fn f l k m=>?_⟩;have a:=h.le g' fn f l k m;by_cases e:g'=g
 ·subst e
  have s:qD E.P g'=f:=by unfold qD;rw[k];simp only;rw[m]
  have u:fz E.P g'=fn.ntmps:=by unfold fz;rw[k]
  have d:=d l
  unfold DY at b
  rw[s]at b
  rw[u]at d
  split at b
  ·rename_i p v w
   simp only[aH]at b
   refine zH (i:=i) (g:=r) (λ j q c=>?_) (λ z A B=>?_) w a
   ·simp only[cW.LE,cW.l,Gx]at c
    split at c
    ·rename_i n
     simp only[cb]at n
     simp only[aH]at c
     exact .inl ⟨(bd n.2).symm,c.symm⟩
    ·exact .inr c
   ·have o:(i,z,A)∈(k4 f).filter (λ p=>cy p.1 i):=js.2 ⟨B,by simp⟩
    rw[v]at o
    have:=dT.1 o
    rw[<-this]at b
    cases b
    exact d
  ·cases b
 ·have same:∀j,(t.l g (1000000+i) r).LE g' j=t.LE g' j:=λ j=>by
   simp only[cW.LE,cW.l,Gx];have:cy g g'=false:=by
    rw[gQ];intro ag;exact e (bd ag).symm
   rw[this];rfl
  have:(t.l g (1000000+i) r).LE g'=t.LE g':=funext same;rw[this];exact a
theorem cW.Ok.N3(a7:di E)(j:E.cY=[])(h:t.Ok){g i:Nat}(d:oK E.P g i=true){c:fB E.T}(e:c.nZ E t.bu (t.LE g) (fz E.P g) i (ht E.P g i))(F:Nat):g∈E.cf->BE E ⟨fz E.P g,[]⟩ (c.run E F) (.block i (.loop (ht E.P g i))):=λ k=>by
 unfold oK at d;split at d
 ·rename_i b ag
  have l:ht E.P g i=b:=by unfold ht;rw[ag]
  rw[l]at e⊢
  unfold qD at ag
  split at ag
  ·rename_i fn f
   split at ag
   ·rename_i m o
    have a:=h.le g fn m k f o
    have p:fz E.P g=fn.ntmps:=by unfold fz;rw[f]
    rw[p]at e⊢
    exact aDU (n:=⟨fn.ntmps,[]⟩) a7 (lr a7 h.ce h.le 100) j (zI a ag) e F
   ·simp[fw]at ag
  ·simp[fw]at ag
 ·cases d
theorem cW.Ok.gd(a7:di E)(b:E.cY=[])(h:t.Ok){g i:Nat}(a:oK E.P g i=true){c:fB E.T}(d:c.Eq E t.bu (t.LE g) (fz E.P g) i (ht E.P g i))(F:Nat):(t.l g i (c.run E F)).Ok:=h.MU a7 a (h.N3 a7 b a d.one F)
theorem xk{LE:nY E}{n:cE}{i:Nat}{q:eP E.T.El->D (b9 E.T.El)}(a:LE i=some q):∀ {c b:Code},km E LE n c->fw i c=some b->BE E n q (.block i (.loop b))
 | .seq x y,b,h,ad=>by
   simp only[fw]at ad;split at ad
   ·rename_i d
    simp only[aH]at ad
    subst ad
    exact xk a h.2.1 d
   ·exact xk a h.2.2 ad
 | .cond _ x y,b,h,ad=>by
   simp only[fw]at ad;split at ad
   ·rename_i d
    simp only[aH]at ad
    subst ad
    exact xk a h.1 d
   ·exact xk a h.2 ad
 | .block id c,b,h,ad=>by
   simp only[fw]at ad;split at ad
   ·rename_i ag
    have e:=bd ag
    subst e
    split at ad
    ·simp only[aH]at ad
     subst ad
     exact h.1 q a
    ·cases ad
   ·exact xk a h.2 ad
 | .loop c,b,h,ad=>xk (c:=c) a h ad
 | .scope c,b,h,ad=>xk (c:=c) a h ad
 | .skip,_,_,h | .region _ _ _,_,_,h | .rangeFunc _ _ _ _,_,_,h | .exit _,_,_,h | .label _,_,_,h | .goto _,_,_,h | .ret,_,_,h | .refuse _,_,_,h=>by simp[fw]at h
theorem cW.Ok.aDV(a7:di E)(k:E.cY=[])(h:t.Ok){g i:Nat}(a:oK E.P g i=true){c:fB E.T}(l:c.Eq E t.bu (t.LE g) (fz E.P g) i (ht E.P g i))(F:Nat):(t.O' g i c F).Ok:=by
 refine h.MU a7 a λ f s r d=>?_;split at d
 ·exact h.N3 a7 k a l.one F f s r d
 ·split at d
  ·rename_i q m
   have v:=a
   unfold oK at a
   split at a
   ·rename_i b ag
    have n:ht E.P g i=b:=by unfold ht;rw[ag]
    rw[n]
    unfold qD at ag
    split at ag
    ·rename_i fn j
     split at ag
     ·rename_i o p
      have e:=h.le g fn o f j p
      have u:fz E.P g=fn.ntmps:=by unfold fz;rw[j]
      rw[u]
      exact xk m e ag s r d
     ·simp[fw]at ag
    ·simp[fw]at ag
   ·cases a
  ·exact d.elim
theorem cW.Ok.jk(a7:di E)(a:E.cY=[])(h:t.Ok){f:Nat}(ad:ff E.cf f=true){c:kN E.T}(b:c.Eq E t.bu t.LE f):(t.f f (c.run E)).Ok:=h.pd ad (aeP a7 (lr a7 h.ce h.le 100) h.le a b.one)
theorem cW.Ok.axK(a7:di E)(b:E.cY=[])(h:t.Ok){f:Nat}(ad:ff E.cf f=true){c:ey E.T}(d:c.Eq E t.bu t.LE f):(t.FM f c).Ok:=by
 refine h.pd ad λ ys bl r a=>?_;split at a
 ·exact TV a7 (lr a7 h.ce h.le 100) h.le b d ys bl r a
 ·exact((lr a7 h.ce h.le 100).ok f ys bl r a).2
end
end bc
