/- Part 3 of the proof that is ended in the last text: small logic, what the functions compute, walks, plain laws. -/
import Derived.Test.YteeliipnilghaaaGreatGn2
open Array renaming getD_eq_getD_getElem?->eF,getElem?_eq_getElem->jz,getElem?_eq_none->h6,getElem?_eq_some_iff->gz,getElem?_setIfInBounds->gm,getElem?_toList->hR,setIfInBounds_comm->jA
open Bool renaming and_eq_true->cd,eq_false_iff->gQ,false_eq_true->hM,not_eq_true'->hh,or_eq_false_iff->ik,or_eq_true->h3
open List renaming all_eq_true->kp,any_eq_true->il,append_nil->hv,cons.injEq->hU,getElem?_append_left->er,getElem?_append_right->eS,getElem?_cons_zero->ee,getElem?_drop->iF,getElem?_eq_getElem->aN,getElem?_eq_none->gH,getElem?_eq_some_iff->aR,getElem?_map->jv,getElem?_set_ne->jx,getElem?_set_self->gu,getElem?_take->hx,length_cons->di,length_set->hg,length_take->gl,map_cons->ez,map_nil->ig,mem_append->cf,mem_cons->cH,mem_cons_of_mem->d_,mem_filter->jt,mem_iff_getElem->iZ,mem_of_getElem?->bH,mem_singleton->dV,nodup_cons->h4,not_mem_nil->io,pairwise_iff_getElem->i_
open Nat renaming beq->cj,ble->jw,blt->fg,decEq->lL,eq_of_beq_eq_true->bd,le_of_ble_eq_true->cJ,le_refl->cP,le_trans->hl,lt_of_lt_of_le->eN,lt_or_ge->gI,lt_succ_self->lM,min_eq_left->l2,zero_add->jO,zero_le->gY
open Option renaming bind_some->ae,getD_some->iX,map_eq_some_iff->cA,some.inj->eD,some.injEq->aF
open Prod renaming mk.injEq->cB
noncomputable section
namespace ba
open Go Go.RowKit ay I
inductive adM (El:Nat->Type):Type
 |ret (y:aL El)
 |Bk (y:aL El)
structure fE (El:Nat->Type) where
 e:adM El
 bl:List (aH El)
 ws:List Nat
abbrev fz(E:Env):=Nat->List (aL E.T.El)->List (aH E.T.El)->D (fE E.T.El)
structure eU (El:Nat->Type) where
 f:cD El
 bl:List (aH El)
 ws:List Nat
inductive Nr (El:Nat->Type):Type
 |nm
 |ex (id:Nat)
 |rt
 |im (y:aL El)
structure ca (El:Nat->Type) where
 x:Nr El
 s:eU El
def hC{El:Nat->Type}(bl:List (aH El))(ρ:List Value)(w w':World)(ws:List Nat):Prop:=∀k,k<w.heap.size->(∀i∈ws,∀B h,bl[i]? =some B->ρ[i]? =some h->k∉bF B h)->w'.heap[k]? =w.heap[k]?
section
variable{T:bU}{X:Nat->Prop}{bl bl' wS:List (aH T.El)}{ρ ρ' IX:List Value}{w w' w'':World}{s s':List Nat}
theorem hC.nil:hC bl ρ w w []:=λ _ _ _=>rfl
theorem hC.bI(h:hC bl ρ w w' s)(b:To X bl bl' ρ ρ' w w')(k:hC bl' ρ' w' w'' s'):hC bl ρ w w'' (s'++s):=λ q a c=>(k q (eN a b.sz) λ i hi B h ag d e=>by obtain⟨jB,f,g,ao,aW⟩:=b.oY i B h ag d q e a;exact c i (cf.2 (.inl hi)) jB f g ao aW).trans (h q a λ i hi=>c i (cf.2 (.inr hi)))
theorem hC.same(h:hC bl ρ w w' s)(e:∀q:Nat,w''.heap[q]? =w'.heap[q]?):hC bl ρ w w'' s:=λ q a b=>(e q).trans (h q a b)
end
def Dd(E:Env)(X:Nat->Prop)(bl:List (aH E.T.El))(ρ:List Value)(w:World):adM E.T.El->Ending->Prop
 | .ret y,.returned v=>ax E.T (bj X bl ρ w) w ρ bl y v
 | .Bk y,.panicked c=>∃v,c=[{ v,recovered:=false }]/\ax E.T (bj X bl ρ w) w ρ bl y v
 |_,_=>False
def I3(E:Env)(X:Nat->Prop)(bl:List (aH E.T.El))(ρ:List Value)(w:World):Prop:=∀g y,cI E.cY g=some y->ax E.T (bj X bl ρ w) w ρ bl y (.pointer (some ⟨g,0,none⟩))
structure lO (E:Env) (bw:fz E):Prop where
 ok:∀f ys bl r,(bw f ys bl).out r->(∀args w,(callFunc f args).run E.P w= .ok (.enter f args) w)/\
  ∀(W:World)(M0:List Nat)(X:Nat->Prop)(ρ:List Value)(w:World)(vs:List Value),Mem E.T W M0 X bl ρ w->I3 E X bl ρ w->a_ E.T (bj X bl ρ w) w ρ bl ys vs ->
   Calls E.P f ⟨vs⟩ w λ e w'=>∃ρ',Mem E.T W M0 X r.bl ρ' w'/\To X bl r.bl ρ ρ' w w'/\hC bl ρ w w' r.ws/\Dd E X r.bl ρ' w' r.e e
structure q2 (El:Nat->Type) where
 f:cD El
 aJ:Option (Option Nat)
def Zx(E:Env)(bl:List (aH E.T.El))(f:cD E.T.El)(d:Nat)(op:Op):D (q2 E.T.El):=(GC E bl f [] op).bind λ y=>.ok ⟨f.put d y,rK E bl f [] op⟩
def QQ(E:Env)(bl:List (aH E.T.El))(f:cD E.T.El)(d:Nat)(want c:Bool)(op:Op):D (q2 E.T.El):=match Gi c want with
 |true=>Zx E bl f d op
 |false=>.ok ⟨f.put d (.p undef),none⟩
def cD.know{El:Nat->Type}(f:cD El)(j:Nat)(b:Bool):cD El:=⟨f.fr,f.gs,(j,b)::f.ew⟩
def amO(E:Env)(ops:Array Oper)(d:Nat):List Oper->Bool
 |[]=>false
 |o::r=>(match o.guard with
  |some (j,_)=>match J0 ops j,(match o.op with
   | .indexAddr _ _ _=>Nh.e
   | .index _ _ _=>Nh.e
   | .slice _ _ _ _ _=>Nh.e
   |op=>PG E.P op)with
    |_,.q=>false
    |some d',_=>cj d' d
    |none,_=>false
  |none=>false)||amO E ops d r
def QR(E:Env)(ops:Array Oper)(n:Nat)(bl:List (aH E.T.El))(f:cD E.T.El)(o:Oper):D (q2 E.T.El):=match o.dst with
 |none=>.no
 |some d=>match fg d n with
  |false=>.no
  |true=>match OB E ops f n o.guard with
   | .run=>Zx E bl f d o.op
   | .skip=>.ok ⟨f.put d (.p undef),none⟩
   | .maybe bC want b=>match GC E bl f [(bC,want)] o.op,cj bC d||amO E ops d ops.toList with
     | .ok y,false=>.ok ⟨f.rV d bC want y,rK E bl f [(bC,want)] o.op⟩
     |_,_=>.q' b (QQ E bl (f.know bC true) d want true o.op) (QQ E bl (f.know bC false) d want false o.op)
   | .cond bC want=>match GC E bl f [(bC,want)] o.op,cj bC d with
     | .ok y,false=>.ok ⟨f.rV d bC want y,rK E bl f [(bC,want)] o.op⟩
     |_,_=>.no
   | .no=>.no
section
variable{E:Env}{W w w':World}{M0:List Nat}{X:Nat->Prop}{n:cG}{f:cD E.T.El}{bl:List (aH E.T.El)}{ρ:List Value}{a:Act}{ops:Array Oper}{o:Oper}
theorem R.rV{d j:Nat}{b:Bool}{y:aL E.T.El}{v:Value}(h:R E W M0 X n f bl ρ a w)(aJ:fg d n.n=true)(c:cj j d=false)(e:a.tmps.getD j undef= .bool b->ax E.T (bj X bl ρ w) w ρ bl y v):R E W M0 X n (f.rV d j b y) bl ρ (a.put (some d) v) w:=⟨h.mem,h.ea.rV aJ c e,h.cY⟩
theorem R.know{j:Nat}{b:Bool}(h:R E W M0 X n f bl ρ a w)(aA:a.tmps.getD j undef= .bool b):R E W M0 X n (f.know j b) bl ρ a w:=⟨h.mem,⟨h.ea.eu,h.ea.gs,λ p aD=>by
 rcases cH.1 aD with rfl |aD;exact aA
 ·exact h.ea.ew p aD⟩,h.cY⟩
def I_(E:Env)(W:World)(M0:List Nat)(X:Nat->Prop)(n:cG)(bl:List (aH E.T.El))(ρ:List Value)(a:Act)(w:World)(ops:Array Oper)(o:Oper)(d:Nat)(r:q2 E.T.El):Prop:=∃u,R E W M0 X n r.f bl ρ (a.put (some d) u) w/\((Region.wanted o (yielded ops a.tmps)=true/\zG E.P o a X bl ρ w u r.aJ)\/(Region.wanted o (yielded ops a.tmps)=false/\u=undef))
theorem alu(a8:dl E)(h:R E W M0 X n f bl ρ a w){d:Nat}(aJ:fg d n.n=true)(b:Region.wanted o (yielded ops a.tmps)=true){r:q2 E.T.El}(c:(Zx E bl f d o.op).out r):I_ E W M0 X n bl ρ a w ops o d r:=by obtain⟨y,e,J⟩:=D.ks c;have J:(⟨f.put d y,rK E bl f [] o.op⟩:q2 E.T.El)=r:=J;subst J;obtain⟨u,g,i⟩:=agG a8 h (cur:=[]) trivial rfl e;exact⟨u,h.put aJ g,.inl ⟨b,i⟩⟩
theorem alw(h:R E W M0 X n f bl ρ a w){d:Nat}(aJ:fg d n.n=true)(b:Region.wanted o (yielded ops a.tmps)=false):I_ E W M0 X n bl ρ a w ops o d ⟨f.put d (.p undef),none⟩:=⟨undef,h.put aJ (by simp only[ax]),.inr ⟨b,rfl⟩⟩
theorem alv(a8:dl E)(h:R E W M0 X n f bl ρ a w){d bC:Nat}{want c:Bool}(aJ:fg d n.n=true)(aA:a.tmps.getD bC undef= .bool c)(e:Region.wanted o (yielded ops a.tmps)=true↔a.tmps.getD bC undef= .bool want){r:q2 E.T.El}(b:(QQ E bl f d want c o.op).out r):I_ E W M0 X n bl ρ a w ops o d r:=by unfold QQ at b;split at b;rename_i ag;rw[zI]at ag;subst ag;exact alu a8 h aJ (e.2 aA) b;rename_i ag;have b:(⟨f.put d (.p undef),none⟩:q2 E.T.El)=r:=b;subst b;refine alw h aJ ((gQ).2 λ g=>?_);have:=e.1 g;rw[aA]at this;injection this with this;rw[zI.2 this]at ag;cases ag
theorem als(a8:dl E)(h:R E W M0 X n f bl ρ a w){d bC:Nat}{want:Bool}(aJ:fg d n.n=true)(c:cj bC d=false)(e:Region.wanted o (yielded ops a.tmps)=true↔a.tmps.getD bC undef= .bool want){y:aL E.T.El}(g:GC E bl f [(bC,want)] o.op= .ok y):I_ E W M0 X n bl ρ a w ops o d ⟨f.rV d bC want y,rK E bl f [(bC,want)] o.op⟩:=by by_cases ag:a.tmps.getD bC undef= .bool want;obtain⟨u,i,j⟩:=agG a8 h (cur:=[(bC,want)]) (o:=o) (z:=y) ⟨ag,trivial⟩ rfl (by rw[g];rfl);exact⟨u,h.rV aJ c λ _=>i,.inl ⟨e.2 ag,j⟩⟩;exact⟨undef,h.rV aJ c λ b=>absurd b ag,.inr ⟨(gQ).2 λ b=>ag (e.1 b),rfl⟩⟩
theorem Zy(a8:dl E)(h:R E W M0 X n f bl ρ a w){r:q2 E.T.El}(c:(QR E ops n.n bl f o).out r):∃d,o.dst=some d/\I_ E W M0 X n bl ρ a w ops o d r:=by have e:=aha (ops:=ops) (o:=o) h;unfold QR at c;split at c;exact c.elim;rename_i d k;refine⟨d,k,?_⟩;split at c;exact c.elim;rename_i aJ;split at c;rename_i g;rw[g]at e;exact alu a8 h aJ e c;rename_i g;rw[g]at e;have c:(⟨f.put d (.p undef),none⟩:q2 E.T.El)=r:=c;subst c;exact alw h aJ e;rename_i bC want b g;rw[g]at e;obtain⟨m,j,i⟩:=e;split at c;rename_i y l J;have c:(⟨f.rV d bC want y,rK E bl f [(bC,want)] o.op⟩:q2 E.T.El)=r:=c;subst c;exact als a8 h aJ (ik.1 J).1 i l;rcases c with⟨rfl,c⟩|⟨rfl,c⟩;exact alv a8 (h.know j) aJ j i c;exact alv a8 (h.know j) aJ j i c;rename_i bC want g;rw[g]at e;obtain⟨m,i⟩:=e;split at c;rename_i y l J;have c:(⟨f.rV d bC want y,rK E bl f [(bC,want)] o.op⟩:q2 E.T.El)=r:=c;subst c;exact als a8 h aJ J i l;exact c.elim;exact c.elim
end
def L5{T:bU}(n:Nat)(f:cD T.El)(y:aL T.El):Option Nat->Option (cD T.El)
 |none=>some f
 |some d=>match fg d n with
  |true=>some (f.put d y)
  |false=>none
def afW(E:Env)(n:Nat)(bl:List (aH E.T.El))(f:cD E.T.El)(o:Oper):D (ca E.T.El):=(N_ E bl f [] o.op).bind λ e=>match L5 n f (e.y.getD (.p undef)) o.dst with
 |some a=>.ok ⟨.nm,a,e.bl,e.ws⟩
 |none=>.no
def Vg{El:Nat->Type}:aL El->Option (Nat×List (aL El)×List (aL El))
 | .p (.func (.func g) ⟨us⟩ ⟨cs⟩)=>some (g,us.map .p,cs.map .p)
 | .f (.func g) cs=>some (g,[],cs)
 | .h (.func g) us=>some (g,us,[])
 |_=>none
def T'(E:Env)(bw:fz E)(n:Nat)(bl:List (aH E.T.El))(f:cD E.T.El)(a:Option Nat):Op->D (ca E.T.El)
 | .call ⟨.value b,⟨xs⟩,_⟩=>match od E bl f [] b,qm E bl f [] xs with
   |some c,some ys=>match Vg c with
    |some (g,us,cs)=>(bw g (us++ys++cs) bl).bind λ r=>match r.e with
     | .ret y=>match L5 n f y a with
       |some d=>.ok ⟨.nm,d,r.bl,r.ws⟩
       |none=>.no
     | .Bk y=>.ok ⟨.im y,f,r.bl,r.ws⟩
    |none=>.no
   |_,_=>.no
 |_=>.no
def SC(E:Env)(bw:fz E)(n:Nat)(bl:List (aH E.T.El))(f:cD E.T.El)(o:Oper):D (ca E.T.El):=match PG E.P o.op with
 | .e=>afW E n bl f o
 | .c=>T' E bw n bl f o.dst o.op
 |_=>.no
def SE{T:bU}(n:Nat)(bl:List (aH T.El))(f:cD T.El)(o:Oper):D (ca T.El):=match L5 n f (.p undef) o.dst with
 |some a=>.ok ⟨.nm,a,bl,[]⟩
 |none=>.no
def SD(E:Env)(bw:fz E)(n:Nat)(bl:List (aH E.T.El))(f:cD E.T.El)(want c:Bool)(o:Oper):D (ca E.T.El):=match Gi c want with
 |true=>SC E bw n bl f o
 |false=>SE n bl f o
def SF(E:Env)(bw:fz E)(ops:Array Oper)(n:Nat)(bl:List (aH E.T.El))(f:cD E.T.El)(o:Oper):D (ca E.T.El):=match OB E ops f n o.guard with
 | .run=>SC E bw n bl f o
 | .skip=>SE n bl f o
 | .maybe bC want b=>.q' b (SD E bw n bl (f.know bC true) want true o) (SD E bw n bl (f.know bC false) want false o)
 |_=>.no
structure jE (E:Env) (W:World) (M0:List Nat) (X:Nat->Prop) (n:cG) (b0:List (aH E.T.El)) (ρ0:List Value) (w0:World) (s:eU E.T.El) (ρ:List Value) (a:Act) (w:World):Prop where
 r:R E W M0 X n s.f s.bl ρ a w
 to:To X b0 s.bl ρ0 ρ w0 w
 wr:hC b0 ρ0 w0 w s.ws
def Dh(E:Env)(X:Nat->Prop)(bl:List (aH E.T.El))(ρ:List Value)(Q:Exit->Act->World->Prop)(a:Act)(w:World):Nr E.T.El->Prop
 | .nm=>Q .normal a w
 | .ex id=>Q (.exit id) a w
 | .rt=>Q .ret a w
 | .im y=>∀v,ax E.T (bj X bl ρ w) w ρ bl y v->∀b,b.defers=a.defers->Q (.panic [{ v,recovered:=false }]) b w
section
variable{E:Env}{bw:fz E}{W w w':World}{M0:List Nat}{X:Nat->Prop}{n:cG}{f:cD E.T.El}{bl:List (aH E.T.El)}{ρ:List Value}{a:Act}{ops:Array Oper}{o:Oper}
theorem R.set{c:cD E.T.El}{y:aL E.T.El}{v:Value}{b:Option Nat}(h:R E W M0 X n f bl ρ a w)(aj:L5 n.n f y b=some c)(d:ax E.T (bj X bl ρ w) w ρ bl y v):R E W M0 X n c bl ρ (a.put b v) w:=by unfold L5 at aj;split at aj;simp only[aF]at aj;subst aj;exact h;split at aj;rename_i aJ;simp only[aF]at aj;subst aj;exact h.put aJ d;cases aj
def Gg(E:Env)(W:World)(M0:List Nat)(X:Nat->Prop)(n:cG)(bl:List (aH E.T.El))(ρ:List Value)(a:Act)(w:World)(ops:Array Oper)(o:Oper)(r:ca E.T.El):Prop:=
 ∀(K:Act->World->Prop)(Q:Exit->Act->World->Prop),
  (∀ρ' b w',R E W M0 X n r.s.f r.s.bl ρ' b w'->To X bl r.s.bl ρ ρ' w w'->hC bl ρ w w' r.s.ws->Dh E X r.s.bl ρ' (Exit.then K Q) b w' r.x) ->
  if Region.wanted o (yielded ops a.tmps)then o.wp E.P a w K Q else K (a.put o.dst undef) w
theorem axg(a8:dl E)(h:R E W M0 X n f bl ρ a w)(i:Region.wanted o (yielded ops a.tmps)=true){r:ca E.T.El}(j:(afW E n.n bl f o).out r):Gg E W M0 X n bl ρ a w ops o r:=by obtain⟨e,l,J⟩:=D.ks j;obtain⟨w',ρ',m,b,d,hy⟩:=axZ a8 h (cur:=[]) (o:=o) trivial rfl l;intro K Q k;rw[nf i];split at J;rename_i p aj;have J:(⟨.nm,p,e.bl,e.ws⟩:ca E.T.El)=r:=J;subst J;have g:=h.to b m;unfold Oper.wp;split at hy;rename_i y c;obtain⟨v,q,s⟩:=hy;rw[show(execOp a.eval o).run E.P w=_ from q];rw[c]at aj;exact k ρ' _ w' (g.set aj s) b d;rename_i c;rw[show(execOp a.eval o).run E.P w=_ from hy];rw[c]at aj;exact k ρ' _ w' (g.set (y:=.p undef) aj (by simp only[ax])) b d;exact J.elim
theorem Q6{F:Nat->Prop}:∀(l:List Value),a_ E.T F w ρ bl (l.map .p) l
 |[]=>by simp[a_]
 |v::r=>by simp only[ez,a_];exact⟨v,r,rfl,rfl,Q6 r⟩
theorem ayr{F:Nat->Prop}{y:aL E.T.El}{v:Value}{g:Nat}{us cs:List (aL E.T.El)}(h:Vg y=some (g,us,cs))(b:ax E.T F w ρ bl y v):∃u c,v= .func (.func g) ⟨u⟩ ⟨c⟩/\a_ E.T F w ρ bl us u/\a_ E.T F w ρ bl cs c:=by unfold Vg at h;split at h;simp only[aF,cB]at h;obtain⟨rfl,rfl,rfl⟩:=h;simp only[ax]at b;exact⟨_,_,b,Q6 _,Q6 _⟩;simp only[aF,cB]at h;obtain⟨rfl,rfl,rfl⟩:=h;simp only[ax]at b;obtain⟨vs,d,J⟩:=b;exact⟨[],vs,d,by simp[a_],J⟩;simp only[aF,cB]at h;obtain⟨rfl,rfl,rfl⟩:=h;simp only[ax]at b;obtain⟨vs,d,J⟩:=b;exact⟨vs,[],d,J,by simp[a_]⟩;cases h
theorem avx(s:lO E bw)(h:R E W M0 X n f bl ρ a w)(t:Region.wanted o (yielded ops a.tmps)=true){op:Op}(x:o.op=op){r:ca E.T.El}(d:(T' E bw n.n bl f o.dst op).out r):Gg E W M0 X n bl ρ a w ops o r:=by
 unfold T' at d;split at d
 ·rename_i N xs O;split at d
  ·rename_i P ys z J;split at d
   ·rename_i g us cs A;obtain⟨j,B,b⟩:=D.ks d;obtain⟨u,c,C,ao,aW⟩:=ayr A (dA h (cur:=[]) trivial z);have bR:=Bg h (cur:=[]) trivial J;obtain⟨F,l⟩:=s.ok _ _ _ _ B;have hc:=l W M0 X ρ w (u++xs.map a.eval++c) h.mem h.cY ((ao.bI bR).bI aW);intro K Q k;rw[nf t];unfold Oper.wp;have G:(execOp a.eval o).run E.P w= .ok (.enter g ⟨u++xs.map a.eval++c⟩) w:=by simp only[execOp,x,resolve,C];simp[Deferred.ofValue,invoke,F]
    rw[G];refine hc.mono λ e w' H=>?_;obtain⟨ρ',I,m,p,i⟩:=H;have q:=h.to m I;split at b
    ·rename_i y hy;rw[hy]at i;split at b
     ·rename_i L aj;have b:(⟨.nm,L,j.bl,j.ws⟩:ca E.T.El)=r:=b;subst b;cases e with
      |returned v=>exact k ρ' _ w' (q.set aj i) m p
      |panicked c=>exact i.elim
      |outgrown=>exact i.elim
     ·exact b.elim
    ·rename_i y hy;rw[hy]at i;have b:(⟨.im y,f,j.bl,j.ws⟩:ca E.T.El)=r:=b;subst b;cases e with
     |returned v=>exact i.elim
     |panicked c=>obtain⟨v,rfl,M⟩:=i;exact k ρ' a w' q m p v M a rfl
     |outgrown=>exact i.elim
   ·exact d.elim
  ·exact d.elim
 ·exact d.elim
theorem ap4(a8:dl E)(d:lO E bw)(h:R E W M0 X n f bl ρ a w)(c:Region.wanted o (yielded ops a.tmps)=true){r:ca E.T.El}(b:(SC E bw n.n bl f o).out r):Gg E W M0 X n bl ρ a w ops o r:=by unfold SC at b;split at b;exact axg a8 h c b;exact avx d h c rfl b;exact b.elim
theorem ap6(h:R E W M0 X n f bl ρ a w)(c:Region.wanted o (yielded ops a.tmps)=false){r:ca E.T.El}(b:(SE n.n bl f o).out r):Gg E W M0 X n bl ρ a w ops o r:=by unfold SE at b;split at b;rename_i d aj;have b:(⟨.nm,d,bl,[]⟩:ca E.T.El)=r:=b;subst b;intro K Q k;rw[nc (by simp[c])];exact k ρ _ w (h.set aj (by simp only[ax])) .refl .nil;exact b.elim
theorem ap5(a8:dl E)(e:lO E bw)(h:R E W M0 X n f bl ρ a w){bC:Nat}{want c:Bool}(aA:a.tmps.getD bC undef= .bool c)(d:Region.wanted o (yielded ops a.tmps)=true↔a.tmps.getD bC undef= .bool want){r:ca E.T.El}(b:(SD E bw n.n bl f want c o).out r):Gg E W M0 X n bl ρ a w ops o r:=by unfold SD at b;split at b;rename_i ag;rw[zI]at ag;subst ag;exact ap4 a8 e h (d.2 aA) b;rename_i ag;refine ap6 h ((gQ).2 λ g=>?_) b;have:=d.1 g;rw[aA]at this;injection this with this;rw[zI.2 this]at ag;cases ag
theorem adl(a8:dl E)(i:lO E bw)(h:R E W M0 X n f bl ρ a w){r:ca E.T.El}(c:(SF E bw ops n.n bl f o).out r):Gg E W M0 X n bl ρ a w ops o r:=by have d:=aha (ops:=ops) (o:=o) h;unfold SF at c;split at c;rename_i e;rw[e]at d;exact ap4 a8 i h d c;rename_i e;rw[e]at d;exact ap6 h d c;rename_i bC want b e;rw[e]at d;obtain⟨k,g,j⟩:=d;rcases c with⟨rfl,c⟩|⟨rfl,c⟩;exact ap5 a8 i (h.know g) g j c;exact ap5 a8 i (h.know g) g j c;exact c.elim
end
def opsL(E:Env)(bw:fz E)(ops:Array Oper)(n:Nat):List Oper->eU E.T.El->D (ca E.T.El)
 |[],s=>.ok ⟨.nm,s⟩
 |o::r,s=>match PG E.P o.op with
  | .q=>(QR E ops n s.bl s.f o).bind λ q=>EQ E q.f λ f=>opsL E bw ops n r ⟨f,s.bl,s.ws⟩
  | .no=>.no
  |_=>(SF E bw ops n s.bl s.f o).bind λ t=>match t.x with
   | .nm=>EQ E t.s.f λ f=>Ls E t.s.ws s.bl.length t.s.bl λ bl=>opsL E bw ops n r ⟨f,bl,t.s.ws++s.ws⟩
   |x=>.ok ⟨x,t.s.f,t.s.bl,t.s.ws++s.ws⟩
def Fin(E:Env)(W:World)(M0:List Nat)(X:Nat->Prop)(n:cG)(b0:List (aH E.T.El))(ρ0:List Value)(w0:World)(t:ca E.T.El)(Q:Exit->Act->World->Prop):Prop:=∀ρ a w,jE E W M0 X n b0 ρ0 w0 t.s ρ a w->Dh E X t.s.bl ρ Q a w t.x
section
variable{E:Env}{bw:fz E}{W:World}{M0:List Nat}{X:Nat->Prop}{n:cG}{b0:List (aH E.T.El)}{ρ0:List Value}{w0:World}{ops:Array Oper}{Q:Exit->Act->World->Prop}
theorem jE.next{s s':eU E.T.El}{ρ ρ':List Value}{a b:Act}{w w':World}(h:jE E W M0 X n b0 ρ0 w0 s ρ a w)(c:R E W M0 X n s'.f s'.bl ρ' b w')(d:To X s.bl s'.bl ρ ρ' w w')(e:hC s.bl ρ w w' s'.ws):jE E W M0 X n b0 ρ0 w0 ⟨s'.f,s'.bl,s'.ws++s.ws⟩ ρ' b w':=⟨c,h.to.trans d,h.wr.bI h.to e⟩
theorem Zg(a8:dl E)(i:lO E bw):∀(os:List Oper){s:eU E.T.El}{t:ca E.T.El}{ρ:List Value}{a:Act}{w:World},(opsL E bw ops n.n os s).out t->jE E W M0 X n b0 ρ0 w0 s ρ a w->Fin E W M0 X n b0 ρ0 w0 t Q->wpList E.P ops Q os a w
 |[],s,t,ρ,a,w,c,h,k=>by have c:(⟨.nm,s⟩:ca E.T.El)=t:=c;subst c;exact k ρ a w h
 |o::r,s,t,ρ,a,w,c,h,k=>by
  simp only[opsL]at c;split at c
  ·obtain⟨q,j,J⟩:=D.ks c;rw[ER]at J;obtain⟨d,aJ,u,l,hy⟩:=Zy (ops:=ops) a8 h.r j;have next:=Zg a8 i r J (ρ:=ρ) (a:=a.put (some d) u) (w:=w) ⟨l,h.to,h.wr⟩ k
   refine wpList_step λ K p=>?_;rcases hy with⟨e,hy⟩|⟨e,hy⟩
   ·rw[nf e];unfold Oper.wp;rw[show(execOp a.eval o).run E.P w=_ from hy.now];show K (a.put o.dst u) w
    rw[aJ];exact p _ _ next
   ·rw[nc (by simp[e]),aJ,<-hy];exact p _ _ next
  ·exact c.elim
  ·obtain⟨b,j,J⟩:=D.ks c;have f:=adl a8 i h.r j
   have f:=f (wpList E.P ops Q r) Q λ ρ' m w' l v e=>by
    have aj:=h.next l v e;cases g:b.x with
    |nm=>rw[g]at J;simp only[ER,Qt]at J;exact Zg a8 i r J aj k
    |ex id=>rw[g]at J;have J:(⟨.ex id,b.s.f,b.s.bl,b.s.ws++s.ws⟩:ca E.T.El)=t:=J;subst J;exact k ρ' m w' aj
    |rt=>rw[g]at J;have J:(⟨.rt,b.s.f,b.s.bl,b.s.ws++s.ws⟩:ca E.T.El)=t:=J;subst J;exact k ρ' m w' aj
    |im y=>rw[g]at J;have J:(⟨.im y,b.s.f,b.s.bl,b.s.ws++s.ws⟩:ca E.T.El)=t:=J;subst J;exact k ρ' m w' aj
   unfold wpList;split;rename_i e;rw[nf e]at f;exact .inl f;rename_i e;rw[nc e]at f;exact f
end
section
variable{P:Program}{ops:Array Oper}{Q:Exit->Act->World->Prop}
def lb(H:List (List Nat×(World->Prop)))(a:Array Bool)(w:World):Prop:=∀h∈H,(∀v∈h.1,a.getD v false=false)->h.2 w
def n5(P:Program)(ops:Array Oper)(Q:Exit->Act->World->Prop)(H:List (List Nat×(World->Prop))):Nat->Array Bool->Act->World->Prop
 |0,b,a,w=>Region.ready .any ops b=[]/\Q .normal a w
 |cN+1,b,a,w=>(Region.ready .any ops b=[]->Q .normal a w)/\∀i∈Region.ready .any ops b,wpOp P ops Q i (λ c w'=>lb H (b.setIfInBounds i true) w'/\n5 P ops Q H cN (b.setIfInBounds i true) c w') a w
theorem anK{H:List (List Nat×(World->Prop))}:∀(cN:Nat)(b:Array Bool)(a:Act)(w:World),n5 P ops Q H cN b a w->Go.wpAny P .any ops Q cN b a w
 |0,_,_,_,h=>h
 |cN+1,_,_,_,h=>⟨h.1,λ i hi=>wpOp_mono (λ c w' h'=>anK cN _ c w' h'.2) (h.2 i hi)⟩
theorem abQ{H c:List (List Nat×(World->Prop))}(d:∀b w,lb H b w->lb c b w):∀(cN:Nat)(b:Array Bool)(a:Act)(w:World),n5 P ops Q H cN b a w->n5 P ops Q c cN b a w
 |0,_,_,_,h=>h
 |cN+1,_,_,_,h=>⟨h.1,λ i hi=>wpOp_mono (λ e w' h'=>⟨d _ _ h'.1,abQ d cN _ e w' h'.2⟩) (h.2 i hi)⟩
theorem JY{a:Array Bool}{i v:Nat}(h:i≠v):(a.setIfInBounds i true).getD v false=a.getD v false:=getD_set_ne false h
theorem aJT{a:Array Bool}{i v:Nat}(h:(a.setIfInBounds i true).getD v false=false):a.getD v false=false:=by by_cases e:i=v;subst e;rcases gI i a.size with h' |h';simp[h']at h;simp[h6 h'];rwa [JY e]at h
theorem anM{H:List (List Nat×(World->Prop))}{i:Nat}{oi:Oper}{v:Value}{S:World->Prop}{U V:List Nat}(hi:ops[i]? =some oi)(G:∀(j:Nat)(o:Oper) cs b,ops[j]? =some o->o.op≠ .select cs b)
 (T:∀c a w,Q (.panic c) (a.put oi.dst v) w->Q (.panic c) a w)(X:FY ops i U)(Y:∀v∈V,v∈U)(Z:i∉V)(WO:∀h∈H,i∉h.1) :
 ∀(t:Nat)(d:Array Bool)(a:Act)(w:World),
  (∀j g,ops[j]? =some g->j≠i->d.getD j true=false->(∀e∈g.after,Region.binds .any e=true->e.on≠i)->oi.apart ops g=true) ->
  (∀u∈U,d.getD u false=false)->i∈Region.ready .any ops d->lb H d w->S w->YieldsIf P ops S oi v a ->
  n5 P ops Q ((V,S)::H) t (d.setIfInBounds i true) (a.put oi.dst v) w->n5 P ops Q H (t+1) d a w:=by
 have mono:∀(d:Array Bool)(w:World),lb ((V,S)::H) d w->lb H d w:=λ d w h p q=>h p (d_ _ q)
 have put:∀ {d:Array Bool}{w:World},lb H d w->lb H (d.setIfInBounds i true) w:=λ{d w} h p q r=>h p q λ v l=>aJT (r v l)
 intro t
 induction t with
 |zero=>intro d a w _ _ m D E hy W;refine⟨λ h=>(by rw[h]at m;cases m),λ j aA=>?_⟩;by_cases f:j=i;subst f;exact hy.wpOp hi E ⟨put D,W⟩;have:=ready_mono aA f;rw[W.1]at this;cases this
 |succ t a'=>
  intro d a w I s m D E hy W;refine⟨λ h=>(by rw[h]at m;cases m),λ j aA=>?_⟩;by_cases f:j=i;subst f;exact hy.wpOp hi E ⟨put D,abQ mono _ _ _ _ W⟩
  ·have n:=W.2 j (ready_mono aA f);obtain⟨K,g,A,L⟩:=mem_ready.1 aA;have M:∀e∈g.after,Region.binds .any e=true->e.on≠i:=λ e B ag heq=>by have n:=L e B ag;have N:=(mem_ready.1 m).1;rw[heq]at n;rcases gI i d.size with h' |h';simp[h']at N n;rw[N]at n;cases n;simp[h6 h']at n
   have O:j∉U:=λ Kt=>by obtain⟨dd,F,e,B,ag,J⟩:=X j Kt;rw[A]at F;simp only[aF]at F;subst F;rcases J with J |J;exact M e B ag J;have C:=L e B ag;rw[s _ J]at C;cases C
   have Xx:∀u∈U,(d.setIfInBounds j true).getD u false=false:=λ u r=>by have x:j≠u:=λ e=>O (e▸r);rw[JY x];exact s u r
   have J:=wpOp_putIf A (I j g A f K M) (λ cs b=>G i oi cs b hi) (λ cs b=>G j g cs b A) T hy n
   have Kj:∀k ok,ops[k]? =some ok->k≠i->(d.setIfInBounds j true).getD k true=false ->
    (∀e∈ok.after,Region.binds .any e=true->e.on≠i)->oi.apart ops ok=true:=λ k ok hk Kw s jk=>by
    refine I k ok hk Kw ?_ jk
    by_cases R:j=k
    ·subst R;exact K
    ·rw[getD_set_ne true R]at s;exact s
   refine wpOp_mono (λ aX w' C=>?_) J;obtain⟨qU,c3,j0⟩:=C;have OP:S w':=c3 (V,S) (by simp) λ v l=>by have y:=Y v l;have x:j≠v:=λ e=>O (e▸y);have W_:i≠v:=λ e=>Z (e▸l);rw[JY x,JY W_];exact s v y
   have z:lb H (d.setIfInBounds j true) w':=λ p q r=>c3 p (d_ _ q) λ v l=>by have x:i≠v:=λ e=>WO p q (e▸l);rw[jA _ _ (Ne.symm f),JY x];exact r v l
   refine⟨z,a' (d.setIfInBounds j true) aX w' Kj Xx (ready_mono m (Ne.symm f)) z OP qU ?_⟩;rw[jA _ _ f];exact j0
theorem aLh{H:List (List Nat×(World->Prop))}{i:Nat}{oi:Oper}{v:Value}(hi:ops[i]? =some oi)(l:∀(j:Nat)(o:Oper) cs b,ops[j]? =some o->o.op≠ .select cs b)
 (m:∀c a w,Q (.panic c) (a.put oi.dst v) w->Q (.panic c) a w)(n:∀h∈H,i∉h.1){g:Nat}{d:Array Bool}{a:Act}{w:World}
 (q:∀j k,ops[j]? =some k->j≠i->d.getD j true=false->(∀e∈k.after,Region.binds .any e=true->e.on≠i)->oi.apart ops k=true)
 (r:i∈Region.ready .any ops d)(s:lb H d w)(hy:YieldsIf P ops (λ _=>True) oi v a)(h:n5 P ops Q H g (d.setIfInBounds i true) (a.put oi.dst v) w):n5 P ops Q H (g+1) d a w:=
 anM (S:=λ _=>True) (U:=[]) (V:=[]) hi l m (λ u f=>by simp at f) (λ v t=>by simp at t) (by simp) n g d a w q (λ u f=>by simp at f) r s trivial hy
  (abQ (λ d w h p aD f=>by
   rcases cH.1 aD with rfl |aD;trivial
   ·exact h p aD f) _ _ _ _ h)
end
def XW:Op->Bool
 | .select _ _=>true
 |_=>false
def zT(o:Oper)(i:Nat):Bool:=o.after.toList.any λ e=>Region.binds .any e&&cj e.on i
def afq(o:Oper)(d:Nat):Bool:=match o.dst with
 |some d'=>cj d' d
 |none=>false
def Mu(ops:Array Oper)(x:Oper)(i:Nat)(d:Nat):Nat->List Oper->Bool
 |_,[]=>true
 |j,y::r=>(cj i j||(zT x j||(!afq y d&&(!fp (y.looksAt ops) d||zT y i))))&&Mu ops x i d (j+1) r
def Fa(ops:Array Oper)(all:List Oper):Nat->List Oper->Bool
 |_,[]=>true
 |i,x::r=>(!XW x.op&&(match x.dst with
  |none=>true
  |some d=>Mu ops x i d 0 all))&&Fa ops all (i+1) r
section
variable{ops:Array Oper}
theorem Pp{l:List Nat}{j:Nat}:fp l j=true↔j∈l:=by
 refine⟨th,λ h=>?_⟩;induction l with
 |nil=>simp at h
 |cons i r a=>simp only[fp,h3];rcases cH.1 h with rfl |h;exact .inl (by simp);exact .inr (a h)
theorem abP{x:Oper}{i d:Nat}:∀ {l:List Oper}{k:Nat},Mu ops x i d k l=true->∀(m:Nat)(y:Oper),l[m]? =some y->i≠k+m->zT x (k+m)=true\/(y.dst≠some d/\(d∈y.looksAt ops->zT y i=true))
 |[],_,_,m,y,a,_=>by simp at a
 |z::r,k,h,m,y,a,b=>by
  simp only[Mu,cd,h3,hh]at h;cases m with
  |zero=>simp only[ee,aF]at a;subst a;rcases h.1 with e |e |⟨c,ao⟩;exact absurd (bd e) (by simpa using b);exact .inl (by simpa using e);refine .inr ⟨λ e=>?_,λ f=>?_⟩;simp[afq,e]at c;rcases ao with ao |ao;rw[Pp.2 f]at ao;cases ao;exact ao
  |succ m=>have:=abP h.2 m y (by simpa using a) (by omega);rwa [show k+1+m=k+(m+1) by omega]at this
theorem RS{all:List Oper}:∀ {l:List Oper}{k:Nat},Fa ops all k l=true->∀(m:Nat)(x:Oper),l[m]? =some x->XW x.op=false/\∀d,x.dst=some d->Mu ops x (k+m) d 0 all=true
 |[],_,_,m,x,a=>by simp at a
 |z::r,k,h,m,x,a=>by
  simp only[Fa,cd,hh]at h;cases m with
  |zero=>simp only[ee,aF]at a;subst a;refine⟨h.1.1,λ d aJ=>?_⟩;have:=h.1.2;rw[aJ]at this;exact this
  |succ m=>have:=RS h.2 m x (by simpa using a);rwa [show k+1+m=k+(m+1) by omega]at this
theorem Uy{o:Oper}{i:Nat}(h:zT o i=true):∃e∈o.after,Region.binds .any e=true/\e.on=i:=by simp only[zT,il,cd]at h;obtain⟨e,a,J,b⟩:=h;exact⟨e,by simpa using a,J,bd b⟩
theorem anG(h:Fa ops ops.toList 0 ops.toList=true)(j:Nat)(o:Oper)(cs:_)(b:Bool)(a:ops[j]? =some o):o.op≠ .select cs b:=λ e=>by have:=(RS h j o (by rw[hR];exact a)).1;rw[e]at this;simp[XW]at this
theorem aLd(h:Fa ops ops.toList 0 ops.toList=true){c:Array Bool}(aj:c.size=ops.size){i:Nat}{oi:Oper}(hi:ops[i]? =some oi)(q:i∈Region.ready .any ops c) :
 ∀j a,ops[j]? =some a->j≠i->c.getD j true=false->(∀e∈a.after,Region.binds .any e=true->e.on≠i)->oi.apart ops a=true:=λ j a aA v f k=>by
 have l:ops.toList[i]? =some oi:=by rw[hR];exact hi
 have m:ops.toList[j]? =some a:=by rw[hR];exact aA
 have n:=(RS h i oi l).2
 have o:=(RS h j a m).2
 simp only[jO]at n o
 have done:zT oi j=true->False:=λ hc=>by
  obtain⟨e,b,ao,aW⟩:=Uy hc;obtain⟨_,w,p,r⟩:=mem_ready.1 q;rw[hi]at p;cases p;have:=r e b ao;rw[aW]at this;have s:j<c.size:=by rw[aj];exact(gz.1 aA).1
  simp[s]at this f;rw[this]at f;cases f
 unfold Oper.apart
 rw[cd]
 constructor
 ·cases aJ:oi.dst with
  |none=>rfl
  |some d=>rcases abP (n d aJ) j a m (by omega)with hc |⟨t,g⟩;exact(done (by simpa using hc)).elim;simp only[cd,hh,bne_iff_ne,ne_eq];refine⟨?_,t⟩;rw[gQ];intro hc;obtain⟨e,b,ao,aW⟩:=Uy (g (by simpa using hc));exact k e b ao aW
 ·cases aJ:a.dst with
  |none=>rfl
  |some d=>simp only[hh];rw[gQ];intro hc;rcases abP (o d aJ) i oi l (by omega)with u |⟨_,g⟩;obtain⟨e,b,ao,aW⟩:=Uy (by simpa using u:zT a i=true);exact k e b ao aW;exact done (g (by simpa using hc))
end
inductive kI (El:Nat->Type):Type
 |ro
 |Dm (i:Nat)
 |cl (i o:Nat) (y:aL El)
def NU{El:Nat->Type}(bl:List (aH El)):aL El->Bool
 | .b _ _=>true
 | .m _=>true
 | .r i g=>cj g (u1 bl i)
 |_=>false
def aa5{El:Nat->Type}:aL El->aL El->Bool
 | .b i o,.b j p=>cj i j&&cj o p
 | .m i,.m j=>cj i j
 | .r i g,.r j h=>cj i j&&cj g h
 |_,_=>false
def Ug(E:Env)(bl:List (aH E.T.El))(f:cD E.T.El):Op->Option (Nat×Nat×aL E.T.El)
 | .load t x=>match od E bl f [] x with
   |some (.b i o)=>match nth bl i,lay E.P t with
    |some (.c _ cs),some (false,_)=>match nth cs o with
     |some y=>match NU bl y with
      |true=>some (i,o,y)
      |false=>none
     |none=>none
    |_,_=>none
   |_=>none
 |_=>none
def Eh(P:Program)(o:Oper):Bool:=match PG P o.op with
 | .q=>true
 |_=>false
def Dr(P:Program)(ops:Array Oper):List Nat->List Nat
 |[]=>[]
 |v::r=>match nth ops.toList v with
  |some o=>match Eh P o with
   |true=>Dr P ops r
   |false=>v::Dr P ops r
  |none=>Dr P ops r
def ends(P:Program)(ops:Array Oper)(i:Nat):List Nat:=Dr P ops (oP ops.toList 0 i [])
def ahS(E:Env)(bl:List (aH E.T.El))(f:cD E.T.El)(op:Op)(b:Nat):kI E.T.El:=match Ug E bl f op with
 |some (i,o,y)=>.cl i o y
 |none=>.Dm b
def ad9(E:Env)(ops:Array Oper)(bl:List (aH E.T.El))(f:cD E.T.El)(i:Nat)(op:Op)(aj:List (List Nat×kI E.T.El)):Option (Option Nat)->List (List Nat×kI E.T.El)
 |none=>aj
 |some none=>(ends E.P ops i,.ro)::aj
 |some (some b)=>(ends E.P ops i,ahS E bl f op b)::aj
def OY{El:Nat->Type}(ws:List Nat)(bl':List (aH El)):kI El->Bool
 | .ro=>true
 | .Dm i=>!fp ws i
 | .cl i o y=>!fp ws i||match nth bl' i with
   |some (.c _ cs)=>match nth cs o with
    |some e3=>aa5 y e3&&NU bl' y
    |none=>false
   |_=>false
def Ek{El:Nat->Type}(e:Nat)(ws:List Nat)(bl':List (aH El)):List (List Nat×kI El)->Option (List (List Nat×kI El))
 |[]=>some []
 |(V,h)::r=>match Ek e ws bl' r with
  |none=>none
  |some a=>match fp V e with
   |true=>some a
   |false=>match OY ws bl' h with
    |true=>some ((V,h)::a)
    |false=>none
section
variable{T:bU}{W w w':World}{M0:List Nat}{X:Nat->Prop}{bl bl':List (aH T.El)}{ρ ρ':List Value}
def wE(bl:List (aH T.El))(ρ:List Value)(q i:Nat):Prop:=∀j B h,bl[j]? =some B->ρ[j]? =some h->q∈bF B h->j=i
def Nf(X:Nat->Prop)(bl:List (aH T.El))(ρ:List Value)(w:World)(S:World->Prop):kI T.El->Prop
 | .ro=>∃q,bj X bl ρ w q/\∀w':World,w'.heap[q]? =w.heap[q]? ->S w'
 | .Dm i=>∃q,q<w.heap.size/\wE bl ρ q i/\∀w':World,w'.heap[q]? =w.heap[q]? ->S w'
 | .cl i o y=>∃g u,ρ[i]? =some (.pointer (some ⟨g,0,none⟩))/\g<w.heap.size/\wE bl ρ g i/\ax T (bj X bl ρ w) w ρ bl y u/\w.cell? ⟨g,o,none⟩=some u/\∀w':World,w'.cell? ⟨g,o,none⟩=some u->S w'
def wC(X:Nat->Prop)(bl:List (aH T.El))(ρ:List Value)(w:World)(S:World->Prop)(h:kI T.El):Prop:=(∀w',S w')\/Nf X bl ρ w S h
theorem wC.now{S:World->Prop}{h:kI T.El}(k:wC X bl ρ w S h):S w:=by
 rcases k with k |k;exact k w
 ·cases h with
  |ro=>obtain⟨q,_,k⟩:=k;exact k w rfl
  |Dm i=>obtain⟨q,_,_,k⟩:=k;exact k w rfl
  |cl i o y=>obtain⟨g,u,_,_,_,_,hc,k⟩:=k;exact k w hc
theorem wE.to(a:To X bl bl' ρ ρ' w w'){q i:Nat}(b:q<w.heap.size)(h:wE bl ρ q i):wE bl' ρ' q i:=λ j B g aA c d=>by obtain⟨jB,e,f,ao,aW⟩:=a.oY j B g aA c q d b;exact h j jB e f ao aW
theorem wE.anP{s:List Nat}(a:hC bl ρ w w' s){q i:Nat}(b:q<w.heap.size)(h:wE bl ρ q i)(hi:i∉s):w'.heap[q]? =w.heap[q]? :=a q b λ j aA B g ag c d=>hi (h j B g ag c d▸aA)
theorem awj(j:Mem T W M0 X bl ρ w){y:aL T.El}{u v:Value}(aJ:NU bl y=true)(a:ax T (bj X bl ρ w) w ρ bl y u)(b:ax T (bj X bl ρ w) w ρ bl y v):u=v:=by cases y<;>simp only[NU,hM]at aJ;simp only[ax]at a b;obtain⟨g,c,rfl⟩:=a;obtain⟨g',J,rfl⟩:=b;rw[c]at J;simp only[aF,Value.pointer.injEq,Addr.mk.injEq]at J;rw[J.1];rename_i i g;simp only[ax]at a b;have e:=bd aJ;rw[DE]at e;obtain⟨_,h,c,_,J⟩:=a;obtain⟨_,h',d,_,f⟩:=b;rw[c]at d;cases d;rw[J e,f e];simp only[ax]at a b;obtain⟨g,c,rfl⟩:=a;obtain⟨g',J,rfl⟩:=b;rw[c]at J;simp only[aF,Value.map.injEq]at J;rw[J]
theorem aJH{y z:aL T.El}(h:aa5 y z=true):y=z:=by unfold aa5 at h;split at h;simp only[cd]at h;rw[bd h.1,bd h.2];rw[bd h];simp only[cd]at h;rw[bd h.1,bd h.2];cases h
theorem wC.fi(l:Mem T W M0 X bl' ρ' w')(b:To X bl bl' ρ ρ' w w'){ws:List Nat}(m:hC bl ρ w w' ws){S:World->Prop}{h:kI T.El}(k:wC X bl ρ w S h)(hk:OY ws bl' h=true):wC X bl' ρ' w' S h:=by
 rcases k with k |k;exact .inl k;refine .inr ?_;cases h with
 |ro=>obtain⟨q,c,J⟩:=k;have:=b.F q c;exact⟨q,this.1,λ w'' e=>J w'' (e.trans this.2)⟩
 |Dm i=>
  obtain⟨q,c,J,f⟩:=k;simp only[OY,hh]at hk;have hi:i∉ws:=λ e=>by rw[Pp.2 e]at hk;cases hk
  exact⟨q,eN c b.sz,J.to b c,λ w'' e=>f w'' (e.trans (J.anP m c hi))⟩
 |cl i o y=>
  obtain⟨g,u,c,J,f,p,r,s⟩:=k;obtain⟨C,n,ao,_⟩:=b.L.at_ i _ c;have aW:=ao (by simp[lv]);subst aW;have d:=b.v p;refine⟨g,u,n,eN J b.sz,f.to b J,d,?_,s⟩;simp only[OY,h3,hh]at hk;rcases hk with hk |hk
  ·have hi:i∉ws:=λ e=>by rw[Pp.2 e]at hk;cases hk
   rw[<-r];exact World.cell?_of_block (a:=⟨g,o,none⟩) (f.anP m J hi)
  ·split at hk;rename_i t cs ag;split at hk;rename_i e3 hy;simp only[cd]at hk;have:=aJH hk.1;subst this;rw[dj]at ag hy;obtain⟨g',vs,j,x,z⟩:=l.ok i _ _ ag n;simp only[Value.pointer.injEq,aF,Addr.mk.injEq]at j;have j:=j.1;subst j;obtain⟨v,A,B⟩:=z.at_ hy;rw[awj l hk.2 d B];have:=zK (g:=g) (t:=t) (cs:=vs) (w:=w') (by simpa[bc.cp]using x) A;simpa using this;cases hk;cases hk
def hA(P:Program)(ops:Array Oper)(X:Nat->Prop)(bl:List (aH T.El))(ρ:List Value)(w:World):List (List Nat×kI T.El)->List (List Nat×(World->Prop))->Prop
 |[],H=>H=[]
 |p::r,H=>∃S a,H=(p.1,S)::a/\(∀v∈p.1,∃o,ops[v]? =some o/\Eh P o=false)/\wC X bl ρ w S p.2/\hA P ops X bl ρ w r a
theorem hA.zO{P:Program}{ops:Array Oper}:∀ {aj:List (List Nat×kI T.El)}{H:List (List Nat×(World->Prop))},hA P ops X bl ρ w aj H->∀a,lb H a w
 |[],H,h,a=>by simp only[hA]at h;subst h;intro p b;simp at b
 |p::r,H,h,a=>by simp only[hA]at h;obtain⟨S,e,rfl,_,J,c⟩:=h;intro q aQ d;rcases cH.1 aQ with rfl |aQ;exact J.now;exact hA.zO c a q aQ d
theorem hA.akA{P:Program}{ops:Array Oper}:∀ {aj:List (List Nat×kI T.El)}{H:List (List Nat×(World->Prop))},hA P ops X bl ρ w aj H->∀h∈H,∀v∈h.1,∃o,ops[v]? =some o/\Eh P o=false
 |[],H,h,p,a=>by simp only[hA]at h;subst h;simp at a
 |p::r,H,h,q,aQ=>by simp only[hA]at h;obtain⟨S,d,rfl,b,_,c⟩:=h;rcases cH.1 aQ with rfl |aQ;exact b;exact hA.akA c q aQ
theorem hA.fi{P:Program}{ops:Array Oper}(j:Mem T W M0 X bl' ρ' w')(k:To X bl bl' ρ ρ' w w'){ws:List Nat}(l:hC bl ρ w w' ws){e:Nat}:∀ {aj d:List (List Nat×kI T.El)}{H:List (List Nat×(World->Prop))},hA P ops X bl ρ w aj H->Ek e ws bl' aj=some d ->
 ∃m,hA P ops X bl' ρ' w' d m/\∀b w,b.getD e false=true->lb m b w->lb H b w
 |[],d,H,h,a=>by simp only[Ek,aF]at a;subst a;exact⟨H,h,λ _ _ _ h=>h⟩
 |(V,aJ)::r,d,H,h,a=>by simp only[hA]at h;obtain⟨S,s,rfl,t,J,u⟩:=h;simp only[Ek]at a;split at a;cases a;rename_i z v;obtain⟨g,n,o⟩:=hA.fi j k l u v;split at a;rename_i x;simp only[aF]at a;subst a;refine⟨g,n,λ b w f hc p aD c=>?_⟩;rcases cH.1 aD with rfl |aD;have:=c e (th x);rw[f]at this;cases this;exact o b w f hc p aD c;split at a;rename_i i;simp only[aF]at a;subst a;refine⟨(V,S)::g,?_,λ b w f hc p aD c=>?_⟩;simp only[hA];exact⟨S,g,rfl,t,J.fi j k l i,n⟩;rcases cH.1 aD with rfl |aD;exact hc _ (by simp) c;exact o b w f (λ q y=>hc q (d_ _ y)) p aD c;cases a
end
section
variable{E:Env}{W w w':World}{M0:List Nat}{X:Nat->Prop}{n:cG}{f:cD E.T.El}{bl:List (aH E.T.El)}{ρ:List Value}{a:Act}{ops:Array Oper}{o:Oper}
theorem akP(b:Mem E.T W M0 X bl ρ w){i:Nat}{B:aH E.T.El}{h:Value}(hi:bl[i]? =some B)(c:ρ[i]? =some h){q:Nat}(d:q∈bF B h):q<w.heap.size/\wE bl ρ q i:=by refine⟨(b.lt q ⟨i,B,h,hi,c,d⟩).1,λ j C g aA k l=>?_⟩;by_cases e:j=i;exact e;exact absurd l (b.bC i j B C h g hi c aA k (Ne.symm e) q d)
theorem avR(h:R E W M0 X n f bl ρ a w){i p:Nat}{y:aL E.T.El}(b:Ug E bl f o.op=some (i,p,y)):∃S,Nf X bl ρ w S (.cl i p y)/\∃u,∀w',S w'->bh E.P o a w' u w':=by unfold Ug at b;split at b;rename_i t x k;split at b;rename_i i' l m;split at b;rename_i t' cs G d r;split at b;rename_i e3 hy;split at b;simp only[aF,cB]at b;obtain⟨rfl,rfl,rfl⟩:=b;have j:=dA h (cur:=[]) trivial m;simp only[ax]at j;obtain⟨g,e,ao⟩:=j;rw[dj]at d hy;obtain⟨g',vs,c,s,z⟩:=h.mem.ok i' _ _ d e;simp only[Value.pointer.injEq,aF,Addr.mk.injEq]at c;have c:=c.1;subst c;obtain⟨v,A,B⟩:=z.at_ hy;obtain⟨C,D⟩:=akP h.mem d e (q:=g) (by simp[bF,ag]);have hc:=zK (g:=g) (t:=t') (cs:=vs) (w:=w) (by simpa[bc.cp]using s) A;exact⟨λ w'=>w'.cell? ⟨g,l,none⟩=some v,⟨g,v,e,C,D,B,by simpa using hc,λ _ h=>h⟩,v,λ w' F=>y3 (K6 r).1 k ao F⟩;cases b;cases b;cases b;cases b;cases b
end
section
variable{T:bU}{W w w':World}{M0:List Nat}{X:Nat->Prop}{bl:List (aH T.El)}{ρ:List Value}{B C:aH T.El}{h g:Value}
theorem Ij(b:ρ.length=bl.length){j:Nat}{D:aH T.El}{u:Value}(aA:(bl++[B,C])[j]? =some D)(a:(ρ++[h,g])[j]? =some u) :
 (j<bl.length/\bl[j]? =some D/\ρ[j]? =some u)\/(j=bl.length/\D=B/\u=h)\/(j=bl.length+1/\D=C/\u=g):=by
 rcases gI j bl.length with e |e
 ·rw[er e]at aA;rw[er (by rw[b];exact e)]at a;exact .inl ⟨e,aA,a⟩
 ·rw[eS e]at aA;rw[eS (by rw[b];exact e),b]at a;right;cases aJ:j-bl.length with
  |zero=>rw[aJ]at aA a;simp only[ee,aF]at aA a;exact .inl ⟨by omega,aA.symm,a.symm⟩
  |succ q=>
   cases q with
   |zero=>rw[aJ]at aA a;simp only[List.getElem?_cons_succ,ee,aF]at aA a;exact .inr ⟨by omega,aA.symm,a.symm⟩
   |succ q=>rw[aJ]at aA;simp at aA
theorem Mem.abx(b:Mem T W M0 X bl ρ w)(c:br [] w w')(ad:∀k∈bF B h,w.heap.size<=k/\k<w'.heap.size)(l:∀k∈bF C g,w.heap.size<=k/\k<w'.heap.size):To X bl (bl++[B,C]) ρ (ρ++[h,g]) w w':=by
 refine⟨λ k a=>⟨⟨a.1,?_,eN a.2.2 c.size⟩,c.block k a.2.2 (by simp)⟩,⟨λ j u aA=>?_⟩,c.size,λ j D u aA d k a m=>?_⟩;rintro⟨j,D,u,aA,d,f⟩;have:=a.2.2;rcases Ij b.len aA d with⟨_,i,ao⟩|⟨_,rfl,rfl⟩|⟨_,rfl,rfl⟩;exact a.2.1 ⟨j,D,u,i,ao,f⟩;have:=(ad k f).1;omega;have:=(l k f).1;omega
 ·have e:=(aR.1 aA).1;have e':j<bl.length:=by rw[<-b.len];exact e
  refine⟨u,by rw[er e];exact aA,λ _=>rfl,?_⟩;rw[er e'];exact⟨cP _,λ _=>⟨rfl,rfl,cP _,λ _=>rfl⟩⟩
 ·rcases Ij b.len aA d with⟨_,i,ao⟩|⟨_,rfl,rfl⟩|⟨_,rfl,rfl⟩;exact⟨D,u,i,ao,a⟩;have:=(ad k a).1;omega;have:=(l k a).1;omega
theorem Mem.alj(d:Mem T W M0 X bl ρ w)(m:br [] w w')(ad:∀k∈bF B h,w.heap.size<=k/\k<w'.heap.size)(i:∀k∈bF C g,w.heap.size<=k/\k<w'.heap.size)(aJ:∀k∈bF B h,k∉bF C g)
 (r:jF T (bj X (bl++[B,C]) (ρ++[h,g]) w') w' (ρ++[h,g]) (bl++[B,C]) B h)(s:jF T (bj X (bl++[B,C]) (ρ++[h,g]) w') w' (ρ++[h,g]) (bl++[B,C]) C g):Mem T W M0 X (bl++[B,C]) (ρ++[h,g]) w':=by
 have q:=d.abx m ad i
 have cn:∀ {j:Nat}{D:aH T.El}{u:Value}{k:Nat},bl[j]? =some D->ρ[j]? =some u->k∈bF D u->k<w.heap.size:=λ{j D u k} t J x=>(d.lt k ⟨j,D,u,t,J,x⟩).1
 refine⟨d.bZ.trans m (by simp),by simp[d.len],d.ij,?_,?_,?_⟩
 ·rintro k ⟨j,D,u,aA,l,c⟩;rcases Ij d.len aA l with⟨_,e,ao⟩|⟨_,rfl,rfl⟩|⟨_,rfl,rfl⟩;have:=d.lt k ⟨j,D,u,e,ao,c⟩;exact⟨eN this.1 m.size,this.2⟩;exact⟨(ad k c).2,.inr (hl d.bZ.size (ad k c).1)⟩;exact⟨(i k c).2,.inr (hl d.bZ.size (i k c).1)⟩
 ·intro a b D G u v ap l y ev n k c f;rcases Ij d.len ap l with⟨_,e,ao⟩|⟨z,rfl,rfl⟩|⟨z,rfl,rfl⟩<;>rcases Ij d.len y ev with⟨_,o,p⟩|⟨A,rfl,rfl⟩|⟨A,rfl,rfl⟩;exact d.bC _ _ _ _ _ _ e ao o p n k c f;have:=cn e ao c;have:=(ad k f).1;omega;have:=cn e ao c;have:=(i k f).1;omega;have:=cn o p f;have:=(ad k c).1;omega;exact n (by omega);exact aJ k c f;have:=cn o p f;have:=(i k c).1;omega;exact aJ k f c;exact n (by omega)
 ·intro j D u aA l;rcases Ij d.len aA l with⟨_,e,ao⟩|⟨_,rfl,rfl⟩|⟨_,rfl,rfl⟩;exact(d.ok j D u e ao).later q.F q.L λ k c=>m.block k (cn e ao c) (by simp);exact r;exact s
theorem Nf.bZ(b:br [] w w'){S:World->Prop}{d:kI T.El}(k:wC X bl ρ w S d):S w':=by
 rcases k with k |k;exact k w'
 ·cases d with
  |ro=>obtain⟨q,c,k⟩:=k;exact k w' (b.block q c.2.2 (by simp))
  |Dm i=>obtain⟨q,c,_,k⟩:=k;exact k w' (b.block q c (by simp))
  |cl i o y=>obtain⟨g,u,_,J,_,_,hc,k⟩:=k;refine k w' ?_;rw[<-hc];exact World.cell?_of_block (a:=⟨g,o,none⟩) (b.block g J (by simp))
theorem hA.bZ{P:Program}{ops:Array Oper}(b:br [] w w'):∀ {aj:List (List Nat×kI T.El)}{H:List (List Nat×(World->Prop))},hA P ops X bl ρ w aj H->∀a,lb H a w'
 |[],H,h,a=>by simp only[hA]at h;subst h;intro p c;simp at c
 |p::r,H,h,a=>by simp only[hA]at h;obtain⟨S,f,rfl,_,J,d⟩:=h;intro q aQ e;rcases cH.1 aQ with rfl |aQ;exact Nf.bZ b J;exact hA.bZ b d a q aQ e
end
def two(E:Env)(n:Nat)(bl:List (aH E.T.El))(f:cD E.T.El)(oi a:Oper):Option (cD E.T.El×List (aH E.T.El)):=match oi.op,a.op,oi.guard,a.guard,oi.dst,a.dst with
 | .alloc ti,.alloc c,none,none,some b,some bC=>match FV E.P ti,FV E.P c,fg b n&&(fg bC n&& !cj b bC)with
   |some d,some e,true=>some ((f.put b (.b bl.length 0)).put bC (.b (bl.length+1) 0),bl++[.c ti (d.map .p),.c c (e.map .p)])
   |_,_,_=>none
 |_,_,_,_,_,_=>none
section
variable{E:Env}{W w:World}{M0:List Nat}{X:Nat->Prop}{n:cG}{f f2:cD E.T.El}{bl zJ:List (aH E.T.El)}{ρ:List Value}{a:Act}{oi dX:Oper}
abbrev vJ(g:Nat):Value:=.pointer (some ⟨g,0,none⟩)
theorem aKz(h:R E W M0 X n f bl ρ a w)(i:two E n.n bl f oi dX=some (f2,zJ)):∃m bC ti o j l,oi.dst=some m/\dX.dst=some bC/\m≠bC/\oi.guard=none/\dX.guard=none/\
 (∀a w,bh E.P oi a w (vJ w.heap.size) (w.alloc (.cells ⟨j⟩ ti)))/\(∀a w,bh E.P dX a w (vJ w.heap.size) (w.alloc (.cells ⟨l⟩ o)))/\
 ∀d g b,br [] w b->w.heap.size<=d->d<b.heap.size->w.heap.size<=g->g<b.heap.size->d≠g->b.heap[d]? =some (.cells ⟨j⟩ ti (0,0))->b.heap[g]? =some (.cells ⟨l⟩ o (0,0)) ->
  ∃r,R E W M0 X n f2 zJ r ((a.put (some m) (vJ d)).put (some bC) (vJ g)) b/\To X bl zJ ρ r w b/\hC bl ρ w b []:=by
 unfold two at i
 split at i
 ·rename_i ti o m bC v J x y z A;split at i
  ·rename_i j l B ao aW;simp only[cd,hh]at aW;obtain⟨p,C,D⟩:=aW;simp only[aF,cB]at i;obtain⟨rfl,rfl⟩:=i;obtain⟨e4,F,G⟩:=M1 B;obtain⟨H,l1,I⟩:=M1 ao;refine⟨m,bC,ti,o,j,l,z,A,λ e=>by subst e;simp at D,x,y,λ a w=>Cm F G v,λ a w=>Cm l1 I J,λ d g b q K L M N O P Q=>?_⟩;have ad:∀k∈bF (aH.c (El:=E.T.El) ti (j.map .p)) (vJ d),w.heap.size<=k/\k<b.heap.size:=λ k c=>by simp only[bF,ag,dV]at c;subst c;exact⟨K,L⟩
   have s:∀k∈bF (aH.c (El:=E.T.El) o (l.map .p)) (vJ g),w.heap.size<=k/\k<b.heap.size:=λ k c=>by simp only[bF,ag,dV]at c;subst c;exact⟨M,N⟩
   have t:=h.mem.abx q ad s;have S:=h.mem.alj q ad s (λ k c u=>by simp only[bF,ag,dV]at c u;exact O (c.symm.trans u)) ⟨d,j,rfl,P,tR j⟩ ⟨g,l,rfl,Q,tR l⟩;refine⟨_,((h.to t S).put p ?_).put C ?_,t,λ k c _=>q.block k c (by simp)⟩;simp only[ax];exact⟨d,by rw[<-h.mem.len];simp,rfl⟩;simp only[ax];exact⟨g,by rw[<-h.mem.len];simp,rfl⟩
  ·cases i
 ·cases i
end
def tP(ds:List Nat)(o:Oper):Bool:=o.after.toList.all λ e=>!Region.binds .any e||fp ds e.on
def LB(P:Program)(ds:List Nat):List (Nat×Oper)->Option (Nat×Oper)
 |[]=>none
 |(i,o)::r=>match Eh P o&&tP ds o with
  |true=>some (i,o)
  |false=>LB P ds r
def n0(ds:List Nat):List (Nat×Oper)->List (Nat×Oper)
 |[]=>[]
 |(i,o)::r=>match tP ds o with
  |true=>(i,o)::n0 ds r
  |false=>n0 ds r
def m'(i:Nat):List (Nat×Oper)->List (Nat×Oper)
 |[]=>[]
 |(j,o)::r=>match cj j i with
  |true=>m' i r
  |false=>(j,o)::m' i r
def HE:Nat->List Oper->List (Nat×Oper)
 |_,[]=>[]
 |i,o::r=>(i,o)::HE (i+1) r
def wO(E:Env)(bw:fz E)(ops:Array Oper)(n:Nat):Nat->List (Nat×Oper)->List Nat->List (List Nat×kI E.T.El)->eU E.T.El->D (ca E.T.El)
 |0,rem,ds,_,s=>match n0 ds rem with
  |[]=>.ok ⟨.nm,s⟩
  |_=>.no
 |cN+1,rem,ds,aj,s=>match LB E.P ds rem with
  |some (i,o)=>(QR E ops n s.bl s.f o).bind λ q=>EQ E q.f λ f=>wO E bw ops n cN (m' i rem) (i::ds) (ad9 E ops s.bl s.f i o.op aj q.aJ) ⟨f,s.bl,s.ws⟩
  |none=>match n0 ds rem with
   |[]=>.ok ⟨.nm,s⟩
   |[(i,o)]=>(SF E bw ops n s.bl s.f o).bind λ t=>match t.x with
    | .nm=>match Ek i t.s.ws t.s.bl aj with
      |some b=>EQ E t.s.f λ f=>Ls E t.s.ws s.bl.length t.s.bl λ bl=>wO E bw ops n cN (m' i rem) (i::ds) b ⟨f,bl,t.s.ws++s.ws⟩
      |none=>.no
    |x=>.ok ⟨x,t.s.f,t.s.bl,t.s.ws++s.ws⟩
   |[(i,oi),(j,c)]=>match two E n s.bl s.f oi c with
    |some (d,a)=>match n0 (i::ds) (m' i rem),n0 (j::ds) (m' j rem)with
     |[(gN,_)],[(i',_)]=>match cj gN j&&cj i' i,Ek i [] a aj with
      |true,some e=>match Ek j [] a e,cN with
       |some J,cN+1=>EQ E d λ f=>Ls E [] s.bl.length a λ bl=>wO E bw ops n cN (m' j (m' i rem)) (j::i::ds) J ⟨f,bl,s.ws⟩
       |_,_=>.no
      |_,_=>.no
     |_,_=>.no
    |none=>.no
   |_=>.no
structure zC (ops:Array Oper) (rem:List (Nat×Oper)) (ds:List Nat):Prop where
 mem:∀i o,(i,o)∈rem↔ops[i]? =some o/\i∉ds
 lt:∀i∈ds,i<ops.size
 cl:∀i∈ds,∀o,ops[i]? =some o->tP ds o=true
section
variable{ops:Array Oper}{rem:List (Nat×Oper)}{ds:List Nat}
theorem P3{n:Nat}:∀ {ds:List Nat},(dW n ds).size=n
 |[]=>by simp[dW]
 |i::r=>by simp[dW,P3 (ds:=r)]
theorem Hy{n j:Nat}{b:Bool}:∀ {ds:List Nat},j∈ds->j<n->(dW n ds).getD j b=true
 |i::r,h,a=>by simp only[dW,eF,gm];by_cases e:i=j;subst e;simp[P3,a];rw[nc e];rcases cH.1 h with rfl |h;exact absurd rfl e;have:=Hy (b:=b) h a;simpa[eF]using this
theorem P2{n j:Nat}:∀ {ds:List Nat},j∉ds->(dW n ds).getD j false=false
 |[],_=>by simp only[dW,eF,Array.getElem?_replicate];split<;>rfl
 |i::r,h=>by simp only[cH,not_or]at h;have:=P2 (n:=n) h.2;simp only[dW,eF,gm,nc (Ne.symm h.1)]at this⊢;exact this
theorem aE4{n j:Nat}(b:j<n)(h:j∉ds):(dW n ds).getD j true=false:=by
 have a:=P2 (n:=n) h;have c:j<(dW n ds).size:=by rw[P3];exact b
 simp only[eF,jz c,iX]at a⊢;exact a
theorem LU{o:Oper}:tP ds o=true↔∀e∈o.after,Region.binds .any e=true->e.on∈ds:=by
 simp only[tP,kp,h3,hh];constructor;intro h e a ag;rcases h e (by simpa using a)with h |h;rw[ag]at h;cases h;exact th h
 ·intro h e a;cases ag:Region.binds .any e with
  |false=>exact .inl rfl
  |true=>exact .inr (Pp.2 (h e (by simpa using a) ag))
theorem vO(c:zC ops rem ds){i:Nat}:i∈Region.ready .any ops (dW ops.size ds)↔∃o,(i,o)∈rem/\tP ds o=true:=by rw[mem_ready];constructor;rintro⟨a,o,J,b⟩;have f:=(gz.1 J).1;refine⟨o,(c.mem i o).2 ⟨J,λ e=>?_⟩,LU.2 λ e d ag=>?_⟩;rw[Hy e f]at a;cases a;by_cases aJ:e.on∈ds;exact aJ;have:=b e d ag;rw[P2 aJ]at this;cases this;rintro⟨o,a,J⟩;obtain⟨b,g⟩:=(c.mem i o).1 a;refine⟨aE4 (gz.1 b).1 g,o,b,λ e d ag=>?_⟩;have:=LU.1 J e d ag;exact Hy this (c.lt _ this)
theorem aaZ{i j:Nat}{o:Oper}:∀ {rem:List (Nat×Oper)},(j,o)∈m' i rem↔(j,o)∈rem/\j≠i
 |[]=>by simp[m']
 |(k,p)::r=>by
  simp only[m'];cases ag:cj k i with
  |true=>have:=bd ag;subst this;rw[aaZ (rem:=r)];simp only[cH,cB];constructor;rintro⟨h1,J⟩;exact⟨.inr h1,J⟩;rintro⟨h1,J⟩;rcases h1 with⟨h1,_⟩|h1;exact absurd h1 J;exact⟨h1,J⟩
  |false=>
   have a:k≠i:=λ e=>by subst e;simp at ag
   simp only[cH,cB,aaZ (rem:=r)];constructor;rintro(⟨rfl,rfl⟩|⟨h1,J⟩);exact⟨.inl ⟨rfl,rfl⟩,a⟩;exact⟨.inr h1,J⟩;rintro⟨h1 |h1,J⟩;exact .inl h1;exact .inr ⟨h1,J⟩
theorem zC.next(f:zC ops rem ds){i:Nat}{o:Oper}(hi:(i,o)∈rem)(h:tP ds o=true):zC ops (m' i rem) (i::ds):=by obtain⟨g,J⟩:=(f.mem i o).1 hi;have up:∀ {p:Oper},tP ds p=true->tP (i::ds) p=true:=λ{p} d=>LU.2 λ e k ag=>d_ _ (LU.1 d e k ag);refine⟨λ j p=>?_,λ j aA=>?_,λ j aA p d=>?_⟩;rw[aaZ,f.mem];simp only[cH,not_or];exact⟨λ⟨⟨a,b⟩,c⟩=>⟨a,c,b⟩,λ⟨a,c,b⟩=>⟨⟨a,b⟩,c⟩⟩;rcases cH.1 aA with rfl |aA;exact(gz.1 g).1;exact f.lt j aA;rcases cH.1 aA with rfl |aA;rw[g]at d;cases d;exact up h;exact up (f.cl j aA p d)
theorem ak2{P:Program}{i:Nat}{o:Oper}:∀ {rem:List (Nat×Oper)},LB P ds rem=some (i,o)->(i,o)∈rem/\Eh P o=true/\tP ds o=true
 |[],h=>by simp[LB]at h
 |(k,p)::r,h=>by simp only[LB]at h;split at h;rename_i ag;simp only[aF,cB]at h;obtain⟨rfl,rfl⟩:=h;rw[cd]at ag;exact⟨by simp,ag⟩;obtain⟨a,J⟩:=ak2 h;exact⟨d_ _ a,J⟩
theorem r2{i:Nat}{o:Oper}:∀ {rem:List (Nat×Oper)},(i,o)∈n0 ds rem↔(i,o)∈rem/\tP ds o=true
 |[]=>by simp[n0]
 |(k,p)::r=>by simp only[n0];split;rename_i ag;simp only[cH,cB,r2 (rem:=r)];constructor;rintro(⟨rfl,rfl⟩|⟨h1,J⟩);exact⟨.inl ⟨rfl,rfl⟩,ag⟩;exact⟨.inr h1,J⟩;rintro⟨h1 |h1,J⟩;exact .inl h1;exact .inr ⟨h1,J⟩;rename_i ag;simp only[cH,cB,r2 (rem:=r)];constructor;rintro⟨h1,J⟩;exact⟨.inr h1,J⟩;rintro⟨⟨rfl,rfl⟩|h1,J⟩;rw[J]at ag;cases ag;exact⟨h1,J⟩
theorem al3(a:zC ops rem ds)(h:n0 ds rem=[]):Region.ready .any ops (dW ops.size ds)=[]:=by refine List.eq_nil_iff_forall_not_mem.2 λ i hi=>?_;obtain⟨o,b,J⟩:=(vO a).1 hi;have:=(r2 (ds:=ds)).2 ⟨b,J⟩;rw[h]at this;simp at this
theorem akB{i:Nat}{o:Oper}:∀ {l:List Oper}{k:Nat},(i,o)∈HE k l↔k<=i/\l[i-k]? =some o
 |[],k=>by simp[HE]
 |p::r,k=>by simp only[HE,cH,cB,akB (l:=r)];constructor;rintro(⟨rfl,rfl⟩|⟨h1,J⟩);exact⟨cP _,by simp⟩;refine⟨by omega,?_⟩;rw[show i-k=(i- (k+1))+1 by omega];simpa using J;rintro⟨h1,J⟩;rcases Nat.eq_or_lt_of_le h1 with rfl |h1;left;simpa using J.symm;right;refine⟨h1,?_⟩;rw[show i-k=(i- (k+1))+1 by omega]at J;simpa using J
theorem aI9:zC ops (HE 0 ops.toList) []:=⟨λ i o=>by rw[akB];simp,λ i hi=>by simp at hi,λ i hi=>by simp at hi⟩
theorem afl(a:zC ops rem ds){i:Nat}(hi:i∉ds):∀ {l:List Oper}{k:Nat}{acc:List Nat},(∀m o,l[m]? =some o->ops[k+m]? =some o)->(∀u∈acc,u∉ds)->∀u∈oP l k i acc,u∉ds
 |[],_,_,_,h=>h
 |o::r,k,acc,b,h=>by rw[oP];refine afl a hi (λ m c d=>by have:=b (m+1) c (by simpa using d);rwa [show k+(m+1)=k+1+m by omega]at this) ?_;split;rename_i ag;intro u hu;rcases cH.1 hu with rfl |hu;intro f;simp only[il,cd,h3]at ag;obtain⟨e,g,j,J⟩:=ag;have:=LU.1 (a.cl u f o (by simpa using b 0 o rfl)) e (by simpa using g) j;rcases J with J |J;rw[bd J]at this;exact hi this;exact h _ (th J) this;exact h u hu;exact h
theorem JH{P:Program}{v:Nat}:∀ {l:List Nat},v∈Dr P ops l->v∈l/\∃o,ops[v]? =some o/\Eh P o=false
 |[],h=>by simp[Dr]at h
 |k::r,h=>by simp only[Dr]at h;split at h;rename_i o b;rw[dj,hR]at b;split at h;obtain⟨a,J⟩:=JH h;exact⟨d_ _ a,J⟩;rename_i c;rcases cH.1 h with rfl |h;exact⟨by simp,o,b,c⟩;obtain⟨a,J⟩:=JH h;exact⟨d_ _ a,J⟩;obtain⟨a,J⟩:=JH h;exact⟨d_ _ a,J⟩
end
def nv(Q:Exit->Act->World->Prop):Exit->Act->World->Prop
 | .panic c,a,w=>∀b,b.defers=a.defers->Q (.panic c) b w
 |e,a,w=>Q e a w
theorem nv.imp{Q:Exit->Act->World->Prop}:∀(e:Exit)(a:Act)(w:World),nv Q e a w->Q e a w:=λ e a w h=>by cases e<;>first |exact h |exact h a rfl
theorem nv.put{Q:Exit->Act->World->Prop}{d:Option Nat}{v:Value}(c:List PanicEntry)(a:Act)(w:World)(h:nv Q (.panic c) (a.put d v) w):nv Q (.panic c) a w:=λ b ap=>h b (by rw[ap];cases d<;>rfl)
section
variable{E:Env}{bw:fz E}{W:World}{M0:List Nat}{X:Nat->Prop}{n:cG}{b0:List (aH E.T.El)}{ρ0:List Value}{w0:World}{ops:Array Oper}{Q:Exit->Act->World->Prop}
theorem RT{P:Program}{H c:List (List Nat×(World->Prop))}{i:Nat}(d:∀(b:Array Bool) w,b.getD i false=true->lb H b w->lb c b w):∀(cN:Nat)(b:Array Bool)(a:Act)(w:World),b.getD i false=true->n5 P ops Q H cN b a w->n5 P ops Q c cN b a w
 |0,_,_,_,_,h=>h
 |cN+1,_,_,_,e,h=>⟨h.1,λ j aA=>wpOp_mono (λ f w' h'=>⟨d _ _ (getD_set_true e) h'.1,RT d cN _ f w' (getD_set_true e) h'.2⟩) (h.2 j aA)⟩
theorem YF{m i:Nat}{ds:List Nat}:(dW m ds).setIfInBounds i true=dW m (i::ds):=rfl
theorem Jm(a8:dl E)(aC:lO E bw)(I:Fa ops ops.toList 0 ops.toList=true):∀(cN:Nat){rem:List (Nat×Oper)}{ds:List Nat}{aj:List (List Nat×kI E.T.El)}{H:List (List Nat×(World->Prop))}{s:eU E.T.El}{t:ca E.T.El}{ρ:List Value}{a:Act}{w:World},
 (wO E bw ops n.n cN rem ds aj s).out t->jE E W M0 X n b0 ρ0 w0 s ρ a w->zC ops rem ds->hA E.P ops X s.bl ρ w aj H->Fin E W M0 X n b0 ρ0 w0 t Q->n5 E.P ops (nv Q) H cN (dW ops.size ds) a w
 |0,rem,ds,aj,H,s,t,ρ,a,w,f,h,l,C,k=>by simp only[wO]at f;split at f;rename_i aB;have f:(⟨.nm,s⟩:ca E.T.El)=t:=f;subst f;exact⟨al3 l aB,k ρ a w h⟩;exact f.elim
 |cN+1,rem,ds,aj,H,s,t,ρ,a,w,f,h,l,C,k=>by
  simp only[wO]at f;split at f
  ·rename_i i o aD;obtain⟨L,eT,fK⟩:=ak2 aD;obtain⟨F,tK⟩:=(l.mem i o).1 L;obtain⟨q,h1,J⟩:=D.ks f;rw[ER]at J;obtain⟨d,aJ,u,aBt,hy⟩:=Zy (ops:=ops) a8 h.r h1;have nM:jE E W M0 X n b0 ρ0 w0 ⟨q.f,s.bl,s.ws⟩ ρ (a.put (some d) u) w:=⟨aBt,h.to,h.wr⟩
   have mL:=l.next L fK;have V:=(vO l).2 ⟨o,L,fK⟩;have nK:=aLd I (P3 (ds:=ds)) F V;have xn:=C.zO (dW ops.size ds);have aie:∀h∈H,i∉h.1:=λ p aD hi=>by obtain⟨M,g,ao⟩:=C.akA p aD i hi;rw[F]at g;cases g;rw[eT]at ao;cases ao
   have rp:∀v∈ends E.P ops i,v∈oP ops.toList 0 i []:=λ v N=>(JH N).1;have ahK:∀v∈ends E.P ops i,∃o,ops[v]? =some o/\Eh E.P o=false:=λ v N=>(JH N).2;have WQ:i∉ends E.P ops i:=λ hi=>by obtain⟨M,g,ao⟩:=ahK i hi;rw[F]at g;cases g;rw[eT]at ao;cases ao
   have J':FY ops i (oP ops.toList 0 i []):=Up (λ m o hm=>by simpa using hm) (λ u O=>by simp at O);have azw:∀u∈oP ops.toList 0 i [],(dW ops.size ds).getD u false=false:=λ u O=>P2 (afl l tK (λ m o hm=>by simpa using hm) (λ u O=>by simp at O) u O);have one:∀(s4:kI E.T.El)(S:World->Prop),wC X s.bl ρ w S s4->YieldsIf E.P ops S o u a->(wO E bw ops n.n cN (m' i rem) (i::ds) ((ends E.P ops i,s4)::aj) ⟨q.f,s.bl,s.ws⟩).out t->n5 E.P ops (nv Q) H (cN+1) (dW ops.size ds) a w:=λ s4 S g ao aW=>by
    have next:=Jm a8 aC I cN aW nM mL (H:=(ends E.P ops i,S)::H) (by simp only[hA];exact⟨S,H,rfl,ahK,g,C⟩) k
    refine anM F (anG I) (λ c a w h=>nv.put c a w h) J' rp WQ aie cN _ a w nK azw V xn g.now ao ?_;rw[aJ];exact next
   have free:(wO E bw ops n.n cN (m' i rem) (i::ds) aj ⟨q.f,s.bl,s.ws⟩).out t->YieldsIf E.P ops (λ _=>True) o u a->n5 E.P ops (nv Q) H (cN+1) (dW ops.size ds) a w:=λ aW ao=>by
    have next:=Jm a8 aC I cN aW nM mL C k
    refine aLh F (anG I) (λ c a w h=>nv.put c a w h) aie nK V xn ao ?_;rw[aJ];exact next
   rcases hy with⟨r,hy⟩|⟨r,hy⟩
   ·cases Kn:q.aJ with
    |none=>rw[Kn]at J hy;exact free J (.inl ⟨r,λ w' _=>hy w'⟩)
    |some b=>
     rw[Kn]at J hy;obtain⟨LH,S,cO,k_,qU,IR⟩:=hy;cases b with
     |none=>exact one .ro S (.inr ⟨LH,cO,qU⟩) (.inl ⟨r,IR⟩) J
     |some b=>
      obtain⟨B,bN,ww,z2,z3⟩:=cO;obtain⟨dz,cR⟩:=akP h.r.mem ww z2 z3;simp only[ad9,ahS]at J;split at J
      ·rename_i i' M e3 gv;obtain⟨Gd,Y,qA,G⟩:=avR (o:=o) h.r gv;have g:wC X s.bl ρ w Gd (.cl i' M e3):=.inr Y;have ao:=G w g.now;have aW:=IR w k_;have O:qA=u:=by have:=(show(execOp a.eval o).run E.P w=_ from ao).symm.trans (show(execOp a.eval o).run E.P w=_ from aW);injection this with this;injection this
       subst O;exact one _ Gd g (.inl ⟨r,G⟩) J
      ·exact one (.Dm b) S (.inr ⟨LH,dz,(cR:wE s.bl ρ LH b),qU⟩) (.inl ⟨r,IR⟩) J
   ·have xE:YieldsIf E.P ops (λ _=>True) o u a:=.inr ⟨r,hy⟩;cases Kn:q.aJ with
    |none=>rw[Kn]at J;exact free J xE
    |some b=>
     rw[Kn]at J;cases b with
     |none=>exact one _ _ (.inl λ _=>trivial) xE J
     |some b=>exact one _ _ (.inl λ _=>trivial) xE J
  ·split at f;rename_i aB;have f:(⟨.nm,s⟩:ca E.T.El)=t:=f;subst f;exact⟨λ _=>k ρ a w h,by rw[al3 l aB];simp⟩
   ·rename_i i o DY;have Kq:(i,o)∈n0 ds rem:=by rw[DY];simp
    obtain⟨L,fK⟩:=r2.1 Kq;obtain⟨F,tK⟩:=(l.mem i o).1 L;have mL:=l.next L fK;have bD:=(gz.1 F).1;have V:=(vO l).2 ⟨o,L,fK⟩;obtain⟨x,h1,J⟩:=D.ks f;have Z:=adl a8 aC h.r h1;refine⟨λ e=>by rw[e]at V;simp at V,λ j aA=>?_⟩;have fU:j=i:=by obtain⟨M,g,ao⟩:=(vO l).1 aA;have:=r2.2 ⟨g,ao⟩;rw[DY]at this;simp only[dV,cB]at this;exact this.1
    subst fU;have Z:=Z (λ aX w'=>lb H ((dW ops.size ds).setIfInBounds j true) w'/\n5 E.P ops (nv Q) H cN ((dW ops.size ds).setIfInBounds j true) aX w') (nv Q) λ ρ' aX w' kV aG r=>by
     have km:=h.next kV aG r;cases lr:x.x with
     |nm=>
      rw[lr]at J;simp only at J;split at J
      ·rename_i b6 hk;obtain⟨nq,Y,G⟩:=C.fi kV.mem aG r hk;simp only[ER,Qt]at J;have next:=Jm a8 aC I cN J km mL Y k
       have al:((dW ops.size ds).setIfInBounds j true).getD j false=true:=Hy (ds:=j::ds) (by simp) bD;exact⟨G _ _ al (Y.zO _),RT G cN _ aX w' al next⟩
      ·exact J.elim
     |ex id=>rw[lr]at J;have J:(⟨.ex id,x.s.f,x.s.bl,x.s.ws++s.ws⟩:ca E.T.El)=t:=J;subst J;exact k ρ' aX w' km
     |rt=>rw[lr]at J;have J:(⟨.rt,x.s.f,x.s.bl,x.s.ws++s.ws⟩:ca E.T.El)=t:=J;subst J;exact k ρ' aX w' km
     |im y=>rw[lr]at J;have J:(⟨.im y,x.s.f,x.s.bl,x.s.ws++s.ws⟩:ca E.T.El)=t:=J;subst J;have:=k ρ' aX w' km;exact λ v N b ag kM gL=>this v N kM (gL.trans ag)
    unfold wpOp;simp only[F];split;rename_i r;rw[nf r]at Z;exact .inl Z;rename_i r;rw[nc r]at Z;exact Z
   ·rename_i i oi j dX DT;split at f
    ·rename_i f2 dF aBJ;split at f
     ·rename_i gN Qv i' akE b' c';split at f
      ·rename_i h1 g ao;split at f
       ·rename_i J cN aW;simp only[ER,Qt]at f;simp only[cd]at g;have axs:=bd g.1;have Uz:=bd g.2;subst axs;subst Uz;obtain⟨sL,bC,ti,r5,qX,qY,d1,d2,b3,ahm,ahn,aqs,aqt,fin⟩:=aKz h.r aBJ;obtain⟨Zo,ak1⟩:=r2.1 (show(i',oi)∈n0 ds rem by rw[DT];simp);obtain⟨ak4,aGo⟩:=r2.1 (show(gN,dX)∈n0 ds rem by rw[DT];simp);obtain⟨QE,aPV⟩:=(l.mem i' oi).1 Zo;obtain⟨HT,aPW⟩:=(l.mem gN dX).1 ak4;have aAy:i'≠gN:=λ e=>by subst e;rw[QE]at HT;cases HT;rw[d1]at d2;exact b3 (eD d2)
        have Pg:=l.next Zo ak1;have aio:=l.next ak4 aGo;obtain⟨P,aly⟩:=r2.1 (show(gN,Qv)∈n0 (i'::ds) (m' i' rem) by rw[b'];simp);have axt:Qv=dX:=by have:=((Pg.mem gN Qv).1 P).1;rw[HT]at this;exact(eD this).symm
        subst axt;have kV:=Pg.next P aly;have li:=(gz.1 QE).1;have aEA:=(gz.1 HT).1;have step:∀ {q:Nat}{o:Oper}{d t:Nat}{z:List Value}{b:Act}{v:World}{K:Act->World->Prop},ops[q]? =some o->o.guard=none->o.dst=some d->bh E.P o b v (vJ v.heap.size) (v.alloc (.cells ⟨z⟩ t))->K (b.put (some d) (vJ v.heap.size)) (v.alloc (.cells ⟨z⟩ t))->wpOp E.P ops (nv Q) q K b v:=by
         intro q o d t z b v K aQ az aJ hy b_;have r:Region.wanted o (yielded ops b.tmps)=true:=RP az;unfold wpOp;simp only[aQ,r,if_true];left;unfold Oper.wp;rw[show(execOp b.eval o).run E.P v=_ from hy];show K (b.put o.dst _) _
         rw[aJ];exact b_
        have agP:∀R U a2 A,a2=(a.put (some sL) (vJ R)).put (some bC) (vJ U)->br [] w A->w.heap.size<=R->R<A.heap.size->w.heap.size<=U->U<A.heap.size->R≠U->A.heap[R]? =some (.cells ⟨qX⟩ ti (0,0))->A.heap[U]? =some (.cells ⟨qY⟩ r5 (0,0)) ->
         lb H (dW ops.size (gN::i'::ds)) A/\n5 E.P ops (nv Q) H cN (dW ops.size (gN::i'::ds)) a2 A:=λ R U a2 A ap N i1 i2 lx qb az bq bx=>by
         obtain⟨mx,s1,s2,Bw⟩:=fin R U A N i1 i2 lx qb az bq bx
         subst ap
         have km:=h.next (s':=⟨f2,dF,[]⟩) s1 s2 Bw
         obtain⟨H1,Y,G⟩:=C.fi s1.mem s2 Bw ao
         obtain⟨aOW,ch,dh⟩:=Y.fi s1.mem .refl .nil aW
         have next:=Jm a8 aC I cN f km kV ch k
         have x:(dW ops.size (gN::i'::ds)).getD gN false=true:=Hy (by simp) aEA
         have t2:(dW ops.size (gN::i'::ds)).getD i' false=true:=Hy (by simp) li
         exact⟨G _ _ t2 (dh _ _ x (ch.zO _)),RT G cN _ _ A t2 (RT dh cN _ _ A x next)⟩
        have al1:=(vO l).2 ⟨oi,Zo,ak1⟩;have sz:∀(v:World)(o:Obj),(v.alloc o).heap.size=v.heap.size+1:=λ v o=>by simp
        refine⟨λ e=>by rw[e]at al1;simp at al1,λ q aQ=>?_⟩;have tc:q=i'\/q=gN:=by obtain⟨M,g,ao⟩:=(vO l).1 aQ;have:=r2.2 ⟨g,ao⟩;rw[DT]at this;simp only[cH,cB,io,or_false]at this;rcases this with⟨e,_⟩|⟨e,_⟩;exact .inl e;exact .inr e
        rcases tc with rfl |rfl
        ·refine step QE ahm d1 (aqs _ _) ⟨hA.bZ (br.alloc _ _ _) C _,?_⟩;have LS:=(vO Pg).2 ⟨Qv,P,aly⟩;refine⟨λ e=>by rw[YF]at e;rw[e]at LS;simp at LS,λ q aQ=>?_⟩;have:q=gN:=by obtain⟨M,g,ao⟩:=(vO Pg).1 aQ;have:=r2.2 ⟨g,ao⟩;rw[b']at this;simp only[dV,cB]at this;exact this.1
         subst this;refine step HT ahn d2 (aqt _ _) ?_
         exact agP w.heap.size (w.heap.size+1) _ _ (by simp) ((br.alloc [] w _).trans (br.alloc [] _ _) (by simp)) (cP _) (by rw[sz,sz];omega) (Nat.le_succ _) (by rw[sz,sz];omega) (by omega)
          (by rw[Below.heap_alloc _ _ _ (by rw[sz];omega)];exact heap_alloc_new w _) (by have:=heap_alloc_new (w.alloc (.cells ⟨qX⟩ ti)) (.cells ⟨qY⟩ r5);rwa [sz]at this)
        ·refine step HT ahn d2 (aqt _ _) ⟨hA.bZ (br.alloc _ _ _) C _,?_⟩;obtain⟨aGZ,aG0⟩:=r2.1 (show(i',akE)∈n0 (q::ds) (m' q rem) by rw[c'];simp);have LS:=(vO aio).2 ⟨akE,aGZ,aG0⟩;refine⟨λ e=>by rw[YF]at e;rw[e]at LS;simp at LS,λ p aD=>?_⟩;have:p=i':=by obtain⟨M,g,ao⟩:=(vO aio).1 aD;have:=r2.2 ⟨g,ao⟩;rw[c']at this;simp only[dV,cB]at this;exact this.1
         subst this;refine step QE ahm d1 (aqs _ _) ?_;have aAL:(dW ops.size (q::ds)).setIfInBounds p true=dW ops.size (q::p::ds):=by
          show((dW ops.size ds).setIfInBounds q true).setIfInBounds p true=((dW ops.size ds).setIfInBounds p true).setIfInBounds q true
          exact jA _ _ (Ne.symm aAy)
         rw[YF,aAL];exact agP (w.heap.size+1) w.heap.size _ _ (by
          simp only[Act.put,sz];rw[jA _ _ (Ne.symm b3)]) ((br.alloc [] w _).trans (br.alloc [] _ _) (by simp)) (Nat.le_succ _) (by rw[sz,sz];omega) (cP _) (by rw[sz,sz];omega) (by omega)
          (by have:=heap_alloc_new (w.alloc (.cells ⟨qY⟩ r5)) (.cells ⟨qX⟩ ti);rwa [sz]at this) (by rw[Below.heap_alloc _ _ _ (by rw[sz];omega)];exact heap_alloc_new w _)
       ·exact f.elim
      ·exact f.elim
     ·exact f.elim
    ·exact f.elim
   ·exact f.elim
end
abbrev oE(E:Env):=Nat->Option (eU E.T.El->D (ca E.T.El))
def PU{El:Nat->Type}(g:eU El->D (ca El)):Nat->eU El->D (ca El)
 |0,_=>.no
 |k+1,s=>(g s).bind λ t=>match t.x with
  | .nm=>PU g k t.s
  |_=>.ok t
def akO{El:Nat->Type}(id:Nat)(t:ca El):D (ca El):=match t.x with
 | .ex i=>match cj i id with
   |true=>.ok ⟨.nm,t.s⟩
   |false=>.ok t
 |_=>.ok t
def ajj{El:Nat->Type}(f:cD El):Operand->Option Bool
 | .tmp t=>cI f.ew t
 |_=>none
def eU.X'{El:Nat->Type}(s:eU El)(b:Bool):Operand->eU El
 | .tmp t=>⟨s.f.know t b,s.bl,s.ws⟩
 |_=>s
def Ly{E:Env}(LE:oE E):Code->Option (eU E.T.El->D (ca E.T.El))
 | .seq (.region _ _ _) (.block id _)=>LE (1000000+id)
 |_=>none
def den(E:Env)(bw:fz E)(LE:oE E)(n:Nat):Code->eU E.T.El->D (ca E.T.El)
 | .skip,s=>.ok ⟨.nm,s⟩
 | .label _,s=>.ok ⟨.nm,s⟩
 | .exit id,s=>.ok ⟨.ex id,s⟩
 | .ret,s=>.ok ⟨.rt,s⟩
 | .region _ ops false,s=>opsL E bw ops n ops.toList s
 | .region _ ops true,s=>match Fa ops ops.toList 0 ops.toList with
   |true=>wO E bw ops n ops.size (HE 0 ops.toList) [] [] s
   |false=>.no
 | .seq x y,s=>match Ly LE x with
   |none=>(den E bw LE n x s).bind λ t=>match t.x with
    | .nm=>den E bw LE n y t.s
    |_=>.ok t
   |some g=>match y with
    | .seq _ rest=>(g s).bind λ t=>match t.x with
      | .nm=>den E bw LE n rest t.s
      |_=>.ok t
    |_=>.no
 | .cond c x y,s=>match od E s.bl s.f [] c with
   |some (.p (.bool b))=>match E.cl with
    |true=>match b with
     |true=>den E bw LE n x s
     |false=>den E bw LE n y s
    |false=>match ajj s.f c with
     |some true=>den E bw LE n x s
     |some false=>den E bw LE n y s
     |none=>.q' b (den E bw LE n x (s.X' true c)) (den E bw LE n y (s.X' false c))
   |_=>.no
 | .block id c,s=>match LE id with
   |some g=>g s
   |none=>(den E bw LE n c s).bind (akO id)
 | .loop c,s=>PU (den E bw LE n c) 1000000 s
 | .scope c,s=>den E bw LE n c s
 |_,_=>.no
def Cw(E:Env)(n:cG)(g:eU E.T.El->D (ca E.T.El))(c:Code):Prop:=∀s t,(g s).out t->∀(W:World)(M0:List Nat)(X:Nat->Prop)(b0:List (aH E.T.El))(ρ0:List Value)(w0:World)(ρ:List Value)(a:Act)(w:World)(Q:Exit->Act->World->Prop),jE E W M0 X n b0 ρ0 w0 s ρ a w->Fin E W M0 X n b0 ρ0 w0 t Q->c.wp E.P Q a w
def zl(E:Env)(n:cG)(g:eU E.T.El->D (ca E.T.El))(x r:Code):Prop:=∀rest s t,(g s).out t->∀(W:World)(M0:List Nat)(X:Nat->Prop)(b0:List (aH E.T.El))(ρ0:List Value)(w0:World)(ρ:List Value)(a:Act)(w:World)(Q:Exit->Act->World->Prop),jE E W M0 X n b0 ρ0 w0 s ρ a w->Fin E W M0 X n b0 ρ0 w0 t (Exit.then (rest.wp E.P Q) Q)->(Code.seq x (.seq r rest)).wp E.P Q a w
def kJ(E:Env)(LE:oE E)(n:cG):Code->Prop
 | .seq x y=>(∀g r rest,Ly LE x=some g->y= .seq r rest->zl E n g x r)/\kJ E LE n x/\kJ E LE n y
 | .cond _ x y=>kJ E LE n x/\kJ E LE n y
 | .block id c=>(∀g,LE id=some g->Cw E n g (.block id c))/\kJ E LE n c
 | .loop c=>kJ E LE n c
 | .scope c=>kJ E LE n c
 |_=>True
section
variable{E:Env}{bw:fz E}{LE:oE E}{W:World}{M0:List Nat}{X:Nat->Prop}{n:cG}{b0:List (aH E.T.El)}{ρ0:List Value}{w0:World}
theorem vq(h:∀id,LE id=none):∀c,kJ E LE n c
 | .seq x y=>⟨(λ g r rest a=>by
  unfold Ly at a;split at a;rw[h]at a;cases a
  ·cases a),vq h x,vq h y⟩
 | .cond _ x y=>⟨vq h x,vq h y⟩
 | .block id c=>⟨(λ g a=>by rw[h id]at a;cases a),vq h c⟩
 | .loop c=>vq h c
 | .scope c=>vq h c
 | .skip | .region _ _ _ | .rangeFunc _ _ _ _ | .exit _ | .label _ | .goto _ | .ret | .refuse _=>trivial
theorem R.drew{f:cD E.T.El}{bl:List (aH E.T.El)}{ρ:List Value}{a:Act}{w w':World}(h:R E W M0 X n f bl ρ a w)(b:br [] w w'):R E W M0 X n f bl ρ a w':=h.to (Mem.tZ b) (h.mem.fi b)
theorem jE.drew{s:eU E.T.El}{ρ:List Value}{a:Act}{w w':World}(h:jE E W M0 X n b0 ρ0 w0 s ρ a w)(b:br [] w w'):jE E W M0 X n b0 ρ0 w0 s ρ a w':=⟨h.r.drew b,h.to.trans (Mem.tZ b),by have:=h.wr.bI h.to (s':=[]) (w'':=w') (bl':=s.bl) (ρ':=ρ) λ q c _=>b.block q c (by simp);simpa using this⟩
theorem ap9{K:Act->World->Prop}{Q:Exit->Act->World->Prop}{bl:List (aH E.T.El)}{ρ:List Value}{a:Act}{w:World}{x:Nr E.T.El}(b:x= .nm->K a w)(h:x≠ .nm->Dh E X bl ρ Q a w x):Dh E X bl ρ (Exit.then K Q) a w x:=by
 cases x with
 |nm=>exact b rfl
 |ex id=>exact h (by simp)
 |rt=>exact h (by simp)
 |im y=>exact h (by simp)
theorem oO(a8:dl E)(q:lO E bw):∀(c:Code){s:eU E.T.El}{t:ca E.T.El}{ρ:List Value}{a:Act}{w:World}{Q:Exit->Act->World->Prop},kJ E LE n c->(den E bw LE n.n c s).out t->jE E W M0 X n b0 ρ0 w0 s ρ a w->Fin E W M0 X n b0 ρ0 w0 t Q->c.wp E.P Q a w
 | .skip,s,t,ρ,a,w,Q,_,d,h,k=>by have d:(⟨.nm,s⟩:ca E.T.El)=t:=d;subst d;exact wp_skip (k ρ a w h)
 | .label l,s,t,ρ,a,w,Q,_,d,h,k=>by have d:(⟨.nm,s⟩:ca E.T.El)=t:=d;subst d;exact wp_label (k ρ a w h)
 | .exit id,s,t,ρ,a,w,Q,_,d,h,k=>by have d:(⟨.ex id,s⟩:ca E.T.El)=t:=d;subst d;exact wp_exit (k ρ a w h)
 | .ret,s,t,ρ,a,w,Q,_,d,h,k=>by have d:(⟨.rt,s⟩:ca E.T.El)=t:=d;subst d;exact wp_ret (k ρ a w h)
 | .region id ops false,s,t,ρ,a,w,Q,_,d,h,k=>by simp only[den]at d;exact wp_region_list (Zg a8 q ops.toList d h k)
 | .region id ops true,s,t,ρ,a,w,Q,_,d,h,k=>by simp only[den]at d;split at d;rename_i I;have aJ:jE E W M0 X n b0 ρ0 w0 s ρ a w.drew:=h.drew (br.drew [] w);have:=Jm a8 q I ops.size d aJ aI9 (H:=[]) (by simp[hA]) k;exact Code.wp_mono nv.imp (wp_region_any a8.aE3 (anK _ _ _ _ this));exact d.elim
 | .seq x y,s,t,ρ,a,w,Q,j,d,h,k=>by
   have v:∀ {z:Code}{f:ca E.T.El}(_:kJ E LE n z),(match f.x with| .nm=>den E bw LE n.n z f.s |_=>.ok f:D (ca E.T.El)).out t->(∀ {s':eU E.T.El}{ρ':List Value}{o:Act}{w':World},(den E bw LE n.n z s').out t->jE E W M0 X n b0 ρ0 w0 s' ρ' o w'->z.wp E.P Q o w')->∀ρ' o w',jE E W M0 X n b0 ρ0 w0 f.s ρ' o w'->Dh E X f.s.bl ρ' (Exit.then (z.wp E.P Q) Q) o w' f.x:=λ{z f} Pa J aJ ρ' o w' aj=>ap9 (λ p=>by
    rw[p]at J;exact aJ J aj) λ p=>by
    have J:f=t:=by
     revert J;cases C:f.x with
     |nm=>exact absurd C p
     |_=>exact λ h=>h
    subst J;exact k ρ' o w' aj
   simp only[den]at d;split at d;obtain⟨f,A,J⟩:=D.ks d;exact wp_seq (oO a8 q x j.2.1 A h (v j.2.2 J λ aJ F=>oO a8 q y j.2.2 aJ F k));rename_i g G;split at d;rename_i r rest;obtain⟨f,A,J⟩:=D.ks d;exact j.1 g r rest G rfl rest s f A _ _ _ _ _ _ _ _ _ _ h (v j.2.2.2.2 J λ aJ F=>oO a8 q rest j.2.2.2.2 aJ F k);exact d.elim
 | .cond c x y,s,t,ρ,a,w,Q,j,d,h,k=>by
   simp only[den]at d;split at d
   ·rename_i b hc;have u:=dA h.r (cur:=[]) trivial hc;simp only[ax]at u;split at d;split at d;exact wp_cond_split u (λ _=>oO a8 q x j.1 d h k) (λ e=>by cases e);exact wp_cond_split u (λ e=>by cases e) (λ _=>oO a8 q y j.2 d h k)
    ·have ew:∀B,ajj s.f c=some B->a.eval c= .bool B:=λ B ag=>by
      cases c with
      |tmp t=>exact h.r.ea.ew _ (pc ag)
      |_=>cases ag
     have kw:∀B,a.eval c= .bool B->jE E W M0 X n b0 ρ0 w0 (s.X' B c) ρ a w:=λ B ag=>by
      cases c with
      |tmp t=>exact⟨h.r.know ag,h.to,h.wr⟩
      |_=>exact h
     split at d
     ·rename_i ag;have:=ew _ ag;rw[u]at this;cases this;exact wp_cond_split u (λ _=>oO a8 q x j.1 d h k) (λ e=>by cases e)
     ·rename_i ag;have:=ew _ ag;rw[u]at this;cases this;exact wp_cond_split u (λ e=>by cases e) (λ _=>oO a8 q y j.2 d h k)
     ·rcases d with⟨rfl,d⟩|⟨rfl,d⟩;exact wp_cond_split u (λ _=>oO a8 q x j.1 d (kw _ u) k) (λ e=>by cases e);exact wp_cond_split u (λ e=>by cases e) (λ _=>oO a8 q y j.2 d (kw _ u) k)
   ·exact d.elim
 | .block id c,s,t,ρ,a,w,Q,j,d,h,k=>by
   simp only[den]at d;split at d;rename_i g G;exact j.1 g G s t d _ _ _ _ _ _ _ _ _ _ h k
   ·obtain⟨f,A,J⟩:=D.ks d;refine wp_block (oO a8 q c j.2 A h λ ρ' o w' aj=>?_);unfold akO at J;cases p:f.x with
    |nm=>rw[p]at J;have J:f=t:=J;subst J;have:=k ρ' o w' aj;rw[p]at this;exact this
    |ex i=>
     rw[p]at J;simp only at J;show Exit.inBlock id Q (.exit i) o w'
     split at J;rename_i ag;have J:(⟨.nm,f.s⟩:ca E.T.El)=t:=J;subst J;rw[bd ag];simp only[Exit.inBlock,if_true];exact k ρ' o w' aj
     ·rename_i ag;have J:f=t:=J;subst J;have K:i≠id:=λ e=>by subst e;simp at ag
      simp only[Exit.inBlock,nc K];have:=k ρ' o w' aj;rw[p]at this;exact this
    |rt=>rw[p]at J;have J:f=t:=J;subst J;have:=k ρ' o w' aj;rw[p]at this;exact this
    |im y=>rw[p]at J;have J:f=t:=J;subst J;have:=k ρ' o w' aj;rw[p]at this;exact this
 | .loop c,s,t,ρ,a,w,Q,j,d,h,k=>by
   simp only[den]at d;refine wp_loop_ghost (λ m a w=>∃s ρ,jE E W M0 X n b0 ρ0 w0 s ρ a w/\(PU (den E bw LE n.n c) m s).out t) 1000000 ⟨s,ρ,h,d⟩ λ m a w L=>?_;obtain⟨s,ρ,h,d⟩:=L;cases m with
   |zero=>exact d.elim
   |succ m=>
    simp only[PU]at d;obtain⟨f,A,J⟩:=D.ks d;refine oO a8 q c j A h λ ρ' o w' aj=>ap9 (λ p=>?_) λ p=>?_;rw[p]at J;exact⟨m,lM m,_,_,aj,J⟩
    ·have J:f=t:=by
      revert J;cases C:f.x with
      |nm=>exact absurd C p
      |_=>exact λ h=>h
     subst J;exact k ρ' o w' aj
 | .scope c,s,t,ρ,a,w,Q,j,d,h,k=>by
   simp only[den]at d;refine wp_scope_straight (oO a8 q c j d h λ ρ' o w' aj=>?_);have:=k ρ' o w' aj;revert this;cases t.x with
   |nm=>exact λ h=>h
   |ex i=>exact λ h=>h
   |rt=>exact λ h=>h
   |im y=>exact λ h=>h
 | .rangeFunc _ _ _ _,s,t,ρ,a,w,Q,_,d,_,_=>by simp only[den]at d;exact d.elim
 | .goto _,s,t,ρ,a,w,Q,_,d,_,_=>by simp only[den]at d;exact d.elim
 | .refuse _,s,t,ρ,a,w,Q,_,d,_,_=>by simp only[den]at d;exact d.elim
end
def Gz{El:Nat->Type}:Nat->List (aL El)->List (Nat×aL El)
 |_,[]=>[]
 |k,y::r=>(k,y)::Gz (k+1) r
def aaR(E:Env)(s:eU E.T.El):ResultVar->Option (aL E.T.El)
 | .tmp t=>od E s.bl s.f [] (.tmp t)
 | .cell eo ty=>match od E s.bl s.f [] (.tmp eo),lay E.P ty with
   |some (.b i o),some a=>match nth s.bl i with
    |some (.c _ cs)=>nA cs o a
    |_=>none
   |_,_=>none
def H3(E:Env)(s:eU E.T.El):List ResultVar->Option (List (aL E.T.El))
 |[]=>some []
 |r::rs=>match aaR E s r,H3 E s rs with
  |some y,some ys=>some (y::ys)
  |_,_=>none
def rU{El:Nat->Type}:List (aL El)->aL El
 |[y]=>y
 |ys=>.u ys
def afZ(E:Env)(rs:List ResultVar)(t:ca E.T.El):D (fE E.T.El):=match t.x with
 | .ex _=>.no
 | .im y=>.ok ⟨.Bk y,t.s.bl,t.s.ws⟩
 |_=>match H3 E t.s rs with
  |some ys=>.ok ⟨.ret (rU ys),t.s.bl,t.s.ws⟩
  |none=>.no
abbrev lP(E:Env):=Nat->oE E
def oV(E:Env)(bw:fz E)(LE:lP E):fz E:=λ g ys bl=>match fp E.cm g,E.P.funcs[g]? with
 |true,some fn=>match fn.body,jw ys.length fn.ntmps with
  |some c,true=>(den E bw (LE g) fn.ntmps c ⟨⟨Gz 0 ys,[],[]⟩,bl,[]⟩).bind (afZ E fn.results.toList)
  |_,_=>.no
 |_,_=>.no
abbrev I1(E:Env):=Nat->Option (List (aL E.T.El)->List (aH E.T.El)->D (fE E.T.El))
def GG(E:Env)(la:I1 E)(LE:lP E):Nat->fz E
 |0=>λ _ _ _=>.no
 |k+1=>λ g ys bl=>match la g with
  |some h=>h ys bl
  |none=>oV E (GG E la LE k) LE g ys bl
def kH(E:Env)(g:Nat)(h:List (aL E.T.El)->List (aH E.T.El)->D (fE E.T.El)):Prop:=∀ys bl r,(h ys bl).out r ->
 ∀(W:World)(M0:List Nat)(X:Nat->Prop)(ρ:List Value)(w:World)(vs:List Value),Mem E.T W M0 X bl ρ w->I3 E X bl ρ w->a_ E.T (bj X bl ρ w) w ρ bl ys vs ->
  Calls E.P g ⟨vs⟩ w λ e w'=>∃ρ',Mem E.T W M0 X r.bl ρ' w'/\To X bl r.bl ρ ρ' w w'/\hC bl ρ w w' r.ws/\Dd E X r.bl ρ' w' r.e e
structure Nc (E:Env) (la:I1 E):Prop where
 cm:∀g h,la g=some h->g∈E.cm
 ok:∀g h,la g=some h->kH E g h
def wD(E:Env)(LE:lP E):Prop:=∀g fn c,g∈E.cm->E.P.funcs[g]? =some fn->fn.body=some c->kJ E (LE g) ⟨fn.ntmps,[]⟩ c
section
variable{E:Env}{bw:fz E}{LE:lP E}{la:I1 E}{W:World}{M0:List Nat}{X:Nat->Prop}{bl:List (aH E.T.El)}{ρ:List Value}{a:Act}{w:World}
theorem ajQ{F:Nat->Prop}{t:Nat}{y:aL E.T.El}:∀ {ys:List (aL E.T.El)}{vs:List Value}{k:Nat},a_ E.T F w ρ bl ys vs->cI (Gz k ys) t=some y->∃v,ey (uS k vs) t=some v/\ax E.T F w ρ bl y v
 |[],vs,k,_,h=>by simp[Gz,cI]at h
 |z::r,vs,k,b,h=>by
  simp only[a_]at b;obtain⟨u,us,rfl,c,J⟩:=b;simp only[Gz,cI]at h;simp only[uS,ey];cases ag:cj k t with
  |true=>rw[ag]at h;simp only[aF]at h;subst h;exact⟨u,rfl,c⟩
  |false=>rw[ag]at h;exact ajQ J h
theorem aI_{n:cG}{s:eU E.T.El}(h:R E W M0 X n s.f s.bl ρ a w){r:ResultVar}{y:aL E.T.El}(c:aaR E s r=some y):∃v,aaS E.P a w r v/\ax E.T (bj X s.bl ρ w) w ρ s.bl y v:=by
 unfold aaR at c;split at c;exact⟨_,rfl,dA h (cur:=[]) trivial c⟩
 ·rename_i eo ty;split at c
  ·rename_i i o q x J;split at c
   ·rename_i t cs k;have l:=dA h (cur:=[]) trivial x;simp only[ax]at l;obtain⟨g,z,ao⟩:=l;rw[dj]at k;obtain⟨g',vs,d,A,e⟩:=h.mem.ok i _ _ k z;simp only[Value.pointer.injEq,aF,Addr.mk.injEq]at d;have d:=d.1;subst d;have f:=K6 J;have hc:fy w ⟨g,0,none⟩ vs:=λ j u aA=>by simpa using zK (g:=g) (t:=t) (cs:=vs) (w:=w) (by simpa[bc.cp]using A) aA
    obtain⟨b,m⟩:=q;cases b with
    |false=>simp only[nA]at c;rw[dj]at c;obtain⟨v,B,C⟩:=e.at_ c;exact⟨v,⟨g,o,ao,.inr ⟨f.1,by simpa using hc o v B⟩⟩,C⟩
    |true=>
     simp only[nA]at c;split at c
     ·rename_i ag;simp only[aF]at c;subst c;have D:=cJ ag;have p:=e.len;refine⟨.agg ⟨(vs.drop o).take m⟩,⟨g,o,ao,.inl ⟨(vs.drop o).take m,f.1,?_,λ j u aA=>?_,rfl⟩⟩,?_⟩
      ·have:((vs.drop o).take m).length=m:=by simp;omega
       rw[this];exact f.2
      ·rw[hx]at aA;split at aA;rw[iF]at aA;simpa using hc (o+j) u aA;cases aA
      ·simp only[ax];exact⟨_,rfl,a_.take m (a_.drop o e)⟩
     ·cases c
   ·cases c
  ·cases c
theorem al7{n:cG}{s:eU E.T.El}(h:R E W M0 X n s.f s.bl ρ a w):∀ {rs:List ResultVar}{ys:List (aL E.T.El)},H3 E s rs=some ys->∃vs,Q_ E.P a w rs vs/\a_ E.T (bj X s.bl ρ w) w ρ s.bl ys vs
 |[],ys,b=>by simp only[H3,aF]at b;subst b;exact⟨[],trivial,by simp[a_]⟩
 |r::rs,ys,b=>by simp only[H3]at b;split at b;rename_i y i c J;simp only[aF]at b;subst b;obtain⟨v,d,e⟩:=aI_ h c;obtain⟨vs,f,g⟩:=al7 h J;refine⟨v::vs,⟨d,f⟩,?_⟩;simp only[a_];exact⟨v,vs,rfl,e,g⟩;cases b
theorem Zl{F:Nat->Prop}:∀ {ys:List (aL E.T.El)}{vs:List Value},a_ E.T F w ρ bl ys vs->ax E.T F w ρ bl (rU ys) (pack vs)
 |[],vs,h=>by simp only[a_]at h;subst h;simp only[rU,pack,ax];exact⟨[],rfl,by simp[a_]⟩
 |[y],vs,h=>by simp only[a_]at h;obtain⟨u,us,rfl,b,rfl⟩:=h;exact b
 |y::z::r,vs,h=>by have h':=h;simp only[a_]at h;obtain⟨u,us,rfl,b,d,c,rfl,J,e⟩:=h;simp only[rU,pack,ax];exact⟨_,rfl,h'⟩
theorem Oi(a8:dl E)(x:lO E bw)(z:wD E LE):lO E (oV E bw LE):=by
 refine⟨λ g ys bl r b=>?_⟩;unfold oV at b;split at b
 ·rename_i fn A q;have d:=th A;refine⟨a8.call g d,λ W M0 X ρ w vs B C s=>?_⟩;split at b
  ·rename_i c hc F;obtain⟨t,G,J⟩:=D.ks b;have f:=s.len;refine enter q hc rfl (by rw[f];exact F) λ a ad=>?_;have H:R E W M0 X ⟨fn.ntmps,[]⟩ ⟨Gz 0 ys,[],[]⟩ bl ρ a w:=⟨B,⟨⟨ad.size,ad.defers,λ t y I=>by obtain⟨v,K,ao⟩:=ajQ s I;rw[ad.get t v K];exact ao⟩,λ p m=>by simp at m,λ p m=>by simp at m⟩,C⟩
   refine oO (n:=⟨fn.ntmps,[]⟩) (b0:=bl) (ρ0:=ρ) (w0:=w) a8 x c (z g fn c d q hc) G ⟨H,.refl,.nil⟩ λ ρ' u w' aj=>?_;have fr:Fr ⟨fn.ntmps,[]⟩ [] u:=⟨aj.r.ea.eu.size,aj.r.ea.eu.defers,λ t v h=>by simp[ey]at h⟩
   have fin:∀ {j},H3 E t.s fn.results.toList=some j->(⟨.ret (rU j),t.s.bl,t.s.ws⟩:fE E.T.El)=r->bodyPost E.P fn (λ e w'=>∃ρ',Mem E.T W M0 X r.bl ρ' w'/\To X bl r.bl ρ ρ' w w'/\hC bl ρ w w' r.ws/\Dd E X r.bl ρ' w' r.e e) .ret u w':=λ{j} k L=>by subst L;obtain⟨us,M,N⟩:=al7 aj.r k;exact aIj (rs:=fn.results.toList) (by simp) fr M ⟨ρ',aj.r.mem,aj.to,aj.wr,Zl N⟩
   unfold afZ at J;cases l:t.x with
   |nm=>rw[l]at J;simp only at J;split at J;rename_i j k;exact fin k J;exact J.elim
   |rt=>rw[l]at J;simp only at J;split at J;rename_i j k;exact fin k J;exact J.elim
   |ex i=>rw[l]at J;exact J.elim
   |im y=>rw[l]at J;have J:(⟨.Bk y,t.s.bl,t.s.ws⟩:fE E.T.El)=r:=J;subst J;intro v O P o;exact⟨o.trans aj.r.ea.eu.defers,ρ',aj.r.mem,aj.to,aj.wr,v,rfl,O⟩
  ·exact b.elim
 ·exact b.elim
theorem lV(a8:dl E)(c:Nc E la)(d:wD E LE):∀k,lO E (GG E la LE k)
 |0=>⟨λ f ys bl r b=>b.elim⟩
 |k+1=>⟨λ f ys bl r b=>by
  simp only[GG]at b;split at b;rename_i h e;exact⟨a8.call f (c.cm f h e),c.ok f h e ys bl r b⟩
  ·exact(Oi a8 (lV a8 c d k) d).ok f ys bl r b⟩
end
inductive jb
 |i (k:IntKind)
 |b
 |s
 |y
 |l (t:Nat)
section
variable(El:Nat->Type)
@[reducible] def LT:jb->Type
  | .i _=>Int
  | .b=>Bool
  | .s=>List UInt8
  | .y=>UInt8
  | .l t=>List (El t)
@[reducible] def nr:List jb->Type
  |[]=>Unit
  |f::r=>LT El f×nr r
end
section
variable{El:Nat->Type}
def Gr:(f:jb)->LT El f->aL El
 | .i k,d=>.p (.int k d)
 | .b,d=>.p (.bool d)
 | .s,d=>.p (cy d)
 | .y,d=>.p (.int .u8 ((d:UInt8).toNat:Int))
 | .l t,d=>.s t d
def ri:(ls:List jb)->nr El ls->List (aL El)
 |[],_=>[]
 |f::r,d=>Gr f d.1::ri r d.2
def Dn{t' t:Nat}(l:List (El t')):Option (List (El t)):=match lL t' t with
 |isTrue h=>some (h▸l)
 |isFalse _=>none
def Ps(k:IntKind):aL El->Option Int
 | .p (.int j m)=>match nQ j k with
   |true=>some m
   |false=>none
 |_=>none
def Pr:aL El->Option Bool
 | .p (.bool d)=>some d
 |_=>none
def Pt:aL El->Option (List UInt8)
 | .p (.string ⟨⟨d⟩⟩)=>some d
 |_=>none
def XS:aL El->Option UInt8
 | .p (.int .u8 (.ofNat m))=>match fg m 256 with
   |true=>some (UInt8.ofNat m)
   |false=>none
 |_=>none
def Pu(t:Nat):aL El->Option (List (El t))
 | .s _ l=>Dn l
 | .q _ l=>Dn l
 | .p (.slice none 0 0)=>some []
 |_=>none
def aiQ:(f:jb)->aL El->Option (LT El f)
 | .i k,y=>Ps k y
 | .b,y=>Pr y
 | .s,y=>Pt y
 | .y,y=>XS y
 | .l t,y=>Pu t y
def Eg:(ls:List jb)->List (aL El)->Option (nr El ls)
 |[],[]=>some ()
 |f::r,y::ys=>match aiQ f y,Eg r ys with
  |some d,some ds=>some (d,ds)
  |_,_=>none
 |_,_=>none
def LQ(ty:(t:Nat)->dm (El t))(F:Nat->Prop)(w:World):(f:jb)->Value->LT El f->Prop
 | .i k,v,d=>v= .int k d
 | .b,v,d=>v= .bool d
 | .s,v,d=>v=cy d
 | .y,v,d=>v= .int .u8 ((d:UInt8).toNat:Int)
 | .l t,v,d=>(b7 (ty t)).rd F w [v] d
def fs(ty:(t:Nat)->dm (El t))(F:Nat->Prop)(w:World):(ls:List jb)->List Value->nr El ls->Prop
 |[],xs,_=>xs=[]
 |f::r,xs,d=>∃v vs,xs=v::vs/\LQ ty F w f v d.1/\fs ty F w r vs d.2
theorem alU{ty:(t:Nat)->dm (El t)}{F:Nat->Prop}{w:World}:∀ {ls:List jb}{xs:List Value}{d:nr El ls},fs ty F w ls xs d->xs.length=ls.length
 |[],xs,d,h=>by simp only[fs]at h;subst h;rfl
 |f::r,xs,d,h=>by obtain⟨v,vs,rfl,_,J⟩:=h;simp[alU J]
theorem aIz{ty:(t:Nat)->dm (El t)}{F:Nat->Prop}{w:World}{f:jb}{v:Value}{d:LT El f}(h:LQ ty F w f v d):v.oneCell'=true:=by
 cases f with
 |l t=>exact(b7 (ty t)).one h v (by simp)
 |_=>simp only[LQ]at h;subst h;rfl
theorem alV{ty:(t:Nat)->dm (El t)}{F:Nat->Prop}{w:World}:∀ {ls:List jb}{xs:List Value}{d:nr El ls},fs ty F w ls xs d->∀v∈xs,v.oneCell'=true
 |[],xs,d,h=>by simp only[fs]at h;subst h;simp
 |f::r,xs,d,h=>by obtain⟨v,vs,rfl,a,J⟩:=h;intro u hu;rcases cH.1 hu with rfl |hu;exact aIz a;exact alV J u hu
theorem alT{ty:(t:Nat)->dm (El t)}{F F':Nat->Prop}{w w':World}(a:∀k,F k->F' k/\w'.heap[k]? =w.heap[k]?):∀ {ls:List jb}{xs:List Value}{d:nr El ls},fs ty F w ls xs d->fs ty F' w' ls xs d
 |[],xs,d,h=>h
 |f::r,xs,d,h=>by
  obtain⟨v,vs,e,b,J⟩:=h;refine⟨v,vs,e,?_,alT a J⟩;cases f with
  |l t=>exact(b7 (ty t)).law a b
  |_=>exact b
def aKB{α:Type}(ty:(t:Nat)->dm (El t))(ls:List jb)(fr:α->nr El ls):dm α where
 size:=ls.length
 rd F w xs d:=fs ty F w ls xs (fr d)
 len h:=alU h
 one h:=alV h
 law a h:=alT a h
def fl(es:List (Σ t,b8 El t)){t:Nat}(agg:Bool)(ls:List jb)(fr:El t->nr El ls)(to:nr El ls->El t)(eq:Option (El t->El t->Bool))(key:Option (iA (El t))):b8 El t:=⟨aKB (λ t=>(fZ es t).ty) ls fr,agg,λ d=>ri ls (fr d),λ l=>(Eg ls l).map to,eq,key⟩
end
structure eL (T:bU) (t:Nat) (e:b8 T.El t):Prop where
 cs:∀d F w xs,e.ty.rd F w xs d->a_ T F w [] [] (e.cs d) xs
 hX:∀l d,e.hX l=some d->∀F w ρ bl xs,a_ T F w ρ bl l xs->e.ty.rd F w xs d
 key:∀K,e.key=some K->∀F w xs k,e.ty.rd F w xs k->Bh e.agg xs= @mA.enc _ K.dec K.tl k
 one:e.agg=false->∀d,(e.cs d).length=1
def UI(T:bU):List (Σ t,b8 T.El t)->Prop
 |[]=>True
 |p::r=>eL T p.1 p.2/\UI T r
theorem aKd{T:bU}{t:Nat}:eL T t b8.no:=⟨λ d F w xs h=>h.elim,(λ l d h=>by cases h),(λ K h=>by cases h),(λ h=>by cases h)⟩
theorem Mo{T:bU}{t:Nat}:∀ {es:List (Σ t,b8 T.El t)},UI T es->eL T t (fZ es t)
 |[],_=>aKd
 |p::r,h=>by simp only[fZ];split;rename_i e _;subst e;exact h.1;exact Mo h.2
theorem aKc{T:bU}(h:UI T T.es):zE T:=⟨λ t=>(Mo h (t:=t)).cs,λ t=>(Mo h (t:=t)).hX,λ t=>(Mo h (t:=t)).key,λ t=>(Mo h (t:=t)).one⟩
def x_(T:bU)(ty:(t:Nat)->dm (T.El t)):List jb->Prop
 |[]=>True
 | .l t::r=>ty t=T.ty t/\x_ T ty r
 |_::r=>x_ T ty r
section
variable{T:bU}{F:Nat->Prop}{w:World}{ρ:List Value}{bl:List (aH T.El)}
theorem Gs{ty:(t:Nat)->dm (T.El t)}:∀ {ls:List jb}{xs:List Value}{d:nr T.El ls},x_ T ty ls->fs ty F w ls xs d->a_ T F w ρ bl (ri ls d) xs
 |[],xs,d,_,h=>by simp only[fs]at h;subst h;simp[ri,a_]
 |f::r,xs,d,c,h=>by
  obtain⟨v,vs,rfl,e,J⟩:=h;cases f with
  |l t=>have a:=Gs c.2 J;simp only[ri,a_];refine⟨v,vs,rfl,?_,a⟩;simp only[Gr,ax];simp only[LQ,c.1]at e;exact e
  |i k=>have a:=Gs (ty:=ty) (ls:=r) c J;simp only[ri,a_];exact⟨v,vs,rfl,by simp only[Gr,ax];exact e,a⟩
  |b=>have a:=Gs (ty:=ty) (ls:=r) c J;simp only[ri,a_];exact⟨v,vs,rfl,by simp only[Gr,ax];exact e,a⟩
  |s=>have a:=Gs (ty:=ty) (ls:=r) c J;simp only[ri,a_];exact⟨v,vs,rfl,by simp only[Gr,ax];exact e,a⟩
  |y=>have a:=Gs (ty:=ty) (ls:=r) c J;simp only[ri,a_];exact⟨v,vs,rfl,by simp only[Gr,ax];exact e,a⟩
theorem aeS{t' t:Nat}{l:List (T.El t')}{l':List (T.El t)}(h:Dn l=some l'){xs:List Value}(a:(b7 (T.ty t')).rd F w xs l):(b7 (T.ty t)).rd F w xs l':=by unfold Dn at h;split at h;rename_i e _;subst e;simp only[aF]at h;subst h;exact a;cases h
theorem aiR{k:IntKind}{y:aL T.El}{d:Int}{v:Value}(h:Ps k y=some d)(a:ax T F w ρ bl y v):v= .int k d:=by unfold Ps at h;split at h;split at h;rename_i b;have:=qd b;subst this;simp only[aF]at h;subst h;simpa only[ax]using a;cases h;cases h
theorem aiP{y:aL T.El}{d:Bool}{v:Value}(h:Pr y=some d)(a:ax T F w ρ bl y v):v= .bool d:=by unfold Pr at h;split at h;simp only[aF]at h;subst h;simpa only[ax]using a;cases h
theorem aiT{y:aL T.El}{d:List UInt8}{v:Value}(h:Pt y=some d)(a:ax T F w ρ bl y v):v=cy d:=by unfold Pt at h;split at h;simp only[aF]at h;subst h;simpa only[ax]using a;cases h
theorem aCm{y:aL T.El}{d:UInt8}{v:Value}(h:XS y=some d)(a:ax T F w ρ bl y v):v= .int .u8 (d.toNat:Int):=by
 unfold XS at h;split at h
 ·rename_i m;split at h
  ·rename_i ag;simp only[aF]at h;subst h;have b:m<256:=cJ ag;simp only[ax]at a;have:(UInt8.ofNat m).toNat=m:=by simp;omega
   rw[a,this];rfl
  ·cases h
 ·cases h
theorem aiU{t:Nat}{y:aL T.El}{d:List (T.El t)}{v:Value}(h:Pu t y=some d)(a:ax T F w ρ bl y v):(b7 (T.ty t)).rd F w [v] d:=by unfold Pu at h;split at h;simp only[ax]at a;exact aeS h a;simp only[ax]at a;exact aeS h a.1;simp only[aF]at h;subst h;simp only[ax]at a;subst a;exact⟨none,0,rfl,cP _,gY _,λ _=>rfl,λ h=>absurd rfl h⟩;cases h
theorem aCk{ty:(t:Nat)->dm (T.El t)}{f:jb}{y:aL T.El}{d:LT T.El f}{v:Value}(c:x_ T ty [f])(h:aiQ f y=some d)(a:ax T F w ρ bl y v):LQ ty F w f v d:=by
 cases f with
 |i k=>exact aiR h a
 |b=>exact aiP h a
 |s=>exact aiT h a
 |y=>exact aCm h a
 |l t=>
  have:=aiU h a;show(b7 (ty t)).rd F w [v] d
  rw[c.1];exact this
theorem aEI{ty:(t:Nat)->dm (T.El t)}{f:jb}{r:List jb}(h:x_ T ty (f::r)):x_ T ty [f]/\x_ T ty r:=by
 cases f with
 |l t=>exact⟨⟨h.1,trivial⟩,h.2⟩
 |_=>exact⟨trivial,h⟩
theorem aiS{ty:(t:Nat)->dm (T.El t)}:∀ {ls:List jb}{ys:List (aL T.El)}{d:nr T.El ls}{xs:List Value},x_ T ty ls->Eg ls ys=some d->a_ T F w ρ bl ys xs->fs ty F w ls xs d
 |[],[],d,xs,_,_,a=>by simp only[a_]at a;simp only[fs];exact a
 |f::r,y::ys,d,xs,b,h,a=>by simp only[Eg]at h;split at h;rename_i e es c J;have h:=eD h;subst h;simp only[a_]at a;obtain⟨u,us,rfl,g,i⟩:=a;obtain⟨l1,j⟩:=aEI b;exact⟨u,us,rfl,aCk l1 c g,aiS j J i⟩;cases h
 |[],y::ys,d,xs,_,h,_=>by simp[Eg]at h
 |f::r,[],d,xs,_,h,_=>by simp[Eg]at h
theorem afd:∀ {ls:List jb}{d:nr T.El ls},(ri ls d).length=ls.length
 |[],d=>rfl
 |f::r,d=>by simp[ri,afd (ls:=r)]
theorem ft{es:List (Σ t,b8 T.El t)}{t:Nat}{agg:Bool}{ls:List jb}{fr:T.El t->nr T.El ls}{to:nr T.El ls->T.El t}{eq:Option (T.El t->T.El t->Bool)}{key:Option (iA (T.El t))}
 (a:x_ T (λ t=>(fZ es t).ty) ls)(ad:∀p,fr (to p)=p)(ap:agg=false->ls.length=1)(b:∀K,key=some K->∀F w xs k,fs (λ t=>(fZ es t).ty) F w ls xs (fr k)->Bh agg xs= @mA.enc _ K.dec K.tl k):eL T t (fl es agg ls fr to eq key):=by
 refine⟨λ d F w xs h=>Gs a h,λ l d h F w ρ bl xs c=>?_,b,λ h d=>by
  show(ri ls (fr d)).length=1
  rw[afd];exact ap h⟩
 obtain⟨p,e,J⟩:=cA.1 (show(Eg ls l).map to=some d from h)
 subst J
 show fs _ F w ls xs (fr (to p))
 rw[ad]
 exact aiS a e c
end
def afX:List (Nat×Type)->Nat->Type
 |[],_=>Empty
 |p::r,t=>match lL p.1 t with
  |isTrue _=>p.2
  |isFalse _=>afX r t
def vm:iA Int:=⟨inferInstance,aC4⟩
def K2:iA (List UInt8):=⟨inferInstance,nS⟩
inductive jC
 |i (k:IntKind)
 |b
 |s
 |l (t:Nat)
 |x (t:Nat)
 |n (kt vt:Nat)
 |gZ
 |B (j:Nat)
 |R (j:Nat)
 |M (j:Nat)
 |P (j sz:Nat)
 |F (g:Nat) (eg:List Nat)
inductive cM
 |p (p:jC)
 |a (ps:List jC)
 |f (g:Nat) (ps:List jC)
@[reducible] def nl : jC:= .i .i64
@[reducible] def ni : cM:= .p (.i .i64)
@[reducible] def nj : cM:= .p (.l 3)
@[reducible] def nk : cM:= .p (.b)
inductive bK
 |c (ty:Nat) (ps:List jC)
 |r (t:Nat) (same:Bool)
 |m (kt vt:Nat)
 |d
section
variable(El:Nat->Type)
@[reducible] def y':jC->Type
  | .i _=>Int
  | .b=>Bool
  | .s=>List UInt8
  | .l t=>List (El t)
  | .x t=>El t
  | .n kt vt=>List (El kt×El vt)
  | .P _ _=>List Int
  |_=>Unit
@[reducible] def wB:List jC->Type
  |[]=>Unit
  |p::r=>y' El p×wB r
@[reducible] def FX:cM->Type
  | .p p=>y' El p
  | .a ps=>wB El ps
  | .f _ ps=>wB El ps
@[reducible] def dw:List cM->Type
  |[]=>Unit
  |p::r=>FX El p×dw r
@[reducible] def ux:bK->Type
  | .c _ ps=>wB El ps
  | .r t _=>List (El t)
  | .m kt vt=>List (El kt×El vt)
  | .d=>Unit
@[reducible] def cK:List bK->Type
  |[]=>Unit
  |p::r=>ux El p×cK r
end
def fo(post:Bool):Option bK->Nat
 |some (.r _ same)=>match post,same with
  |true,false=>1
  |_,_=>0
 |some .d=>match post with
  |true=>1
  |false=>0
 |_=>0
def BL(post:Bool):Nat:=match post with
 |true=>1
 |false=>0
section
variable{El:Nat->Type}
def g_(σ g:Nat->Nat):(p:jC)->y' El p->aL El
 | .i k,d=>.p (.int k d)
 | .b,d=>.p (.bool d)
 | .s,d=>.p (cy d)
 | .l t,d=>.s t d
 | .x t,d=>.x t d 0
 | .n kt vt,d=>.n kt vt d
 | .gZ,_=>.p (.pointer none)
 | .B j,_=>.b (σ j) 0
 | .R j,_=>.r (σ j) (g j)
 | .M j,_=>.m (σ j)
 | .P j sz,d=>.pp (σ j) (g j) sz d
 | .F fn eg,_=>.f (.func fn) (eg.map λ j=>.b (σ j) 0)
def tM(σ g:Nat->Nat):(ps:List jC)->wB El ps->List (aL El)
 |[],_=>[]
 |p::r,d=>g_ σ g p d.1::tM σ g r d.2
def Bn(σ g:Nat->Nat):(p:cM)->FX El p->aL El
 | .p p,d=>g_ σ g p d
 | .a ps,d=>.a (tM σ g ps d)
 | .f fn ps,d=>.f (.func fn) (tM σ g ps d)
def gG(σ g:Nat->Nat):(ps:List cM)->dw El ps->List (aL El)
 |[],_=>[]
 |p::r,d=>Bn σ g p d.1::gG σ g r d.2
def dG(σ g:Nat->Nat)(post:Bool):(p:bK)->ux El p->aH El
 | .c ty ps,d=>.c ty (tM σ g ps d)
 | .r t same,d=>.r t (fo post (some (.r t same))) (BL post) d
 | .m kt vt,d=>.m kt vt d
 | .d,_=>.no (fo post (some .d))
def bQ(σ g:Nat->Nat)(post:Bool):(ps:List bK)->cK El ps->List (aH El)
 |[],_=>[]
 |p::r,d=>dG σ g post p d.1::bQ σ g post r d.2
def Nw:List (Nat×Nat)->Nat->Bool
 |[],_=>true
 |p::r,i=>!cj p.2 i&&Nw r i
def wP(a6:List (Nat×Nat))(j i:Nat):Option (List (Nat×Nat)):=match cI a6 j with
 |some i'=>match cj i' i with
  |true=>some a6
  |false=>none
 |none=>match Nw a6 i with
  |true=>some ((j,i)::a6)
  |false=>none
def Ub{t' t:Nat}(d:El t'):Option (El t):=match lL t' t with
 |isTrue h=>some (h▸d)
 |isFalse _=>none
def NI{k' a k v:Nat}(d:List (El k'×El a)):Option (List (El k×El v)):=match lL k' k,lL a v with
 |isTrue h,isTrue h'=>some (h▸h'▸d)
 |_,_=>none
def ahl(t:Nat):aL El->Option (El t)
 | .x _ d 0=>Ub d
 |_=>none
def ahk(kt vt:Nat):aL El->Option (List (El kt×El vt))
 | .n _ _ d=>NI d
 |_=>none
def mF:List (Nat×Nat)->List Nat->List (aL El)->Option (List (Nat×Nat))
 |a6,[],[]=>some a6
 |a6,j::r,.b i 0::ys=>match wP a6 j i with
  |some a=>mF a r ys
  |none=>none
 |_,_,_=>none
def iP(bl:List (aH El))(a6:List (Nat×Nat)):(p:jC)->aL El->Option (y' El p×List (Nat×Nat))
 | .i k,y=>(Ps k y).map λ d=>(d,a6)
 | .b,y=>(Pr y).map λ d=>(d,a6)
 | .s,y=>(Pt y).map λ d=>(d,a6)
 | .l t,y=>(Pu t y).map λ d=>(d,a6)
 | .x t,y=>(ahl t y).map λ d=>(d,a6)
 | .n kt vt,y=>(ahk kt vt y).map λ d=>(d,a6)
 | .gZ,y=>match y with
   | .p (.pointer none)=>some ((),a6)
   |_=>none
 | .B j,y=>match y with
   | .b i 0=>(wP a6 j i).map λ a6=>((),a6)
   |_=>none
 | .R j,y=>match y with
   | .r i g=>match cj g (u1 bl i)with
     |true=>(wP a6 j i).map λ a6=>((),a6)
     |false=>none
   |_=>none
 | .M j,y=>match y with
   | .m i=>(wP a6 j i).map λ a6=>((),a6)
   |_=>none
 | .P j sz,y=>match y with
   | .pp i a b eg=>match cj a (u1 bl i)&&cj b sz with
     |true=>(wP a6 j i).map λ a6=>(eg,a6)
     |false=>none
   |_=>none
 | .F g eg,y=>match y with
   | .f (.func g') cs=>match cj g' g with
     |true=>(mF a6 eg cs).map λ a6=>((),a6)
     |false=>none
   |_=>none
def o1(bl:List (aH El)):(a6:List (Nat×Nat))->(ps:List jC)->List (aL El)->Option (wB El ps×List (Nat×Nat))
 |a6,[],[]=>some ((),a6)
 |a6,p::r,y::ys=>match iP bl a6 p y with
  |some (d,a)=>match o1 bl a r ys with
   |some (ds,b)=>some ((d,ds),b)
   |none=>none
  |none=>none
 |_,_,_=>none
def JX(bl:List (aH El))(a6:List (Nat×Nat)):(p:cM)->aL El->Option (FX El p×List (Nat×Nat))
 | .p p,y=>iP bl a6 p y
 | .a ps,y=>o1 bl a6 ps (cellsOf y)
 | .f g ps,y=>match y with
   | .f (.func g') ys=>match cj g' g with
     |true=>o1 bl a6 ps ys
     |false=>none
   |_=>none
def TZ:cM->aL El->Bool
 | .a _,y=>l_ y
 |_,_=>true
def mE(bl:List (aH El)):(a6:List (Nat×Nat))->(ps:List cM)->List (aL El)->Option (dw El ps×List (Nat×Nat))
 |a6,[],[]=>some ((),a6)
 |a6,p::r,y::ys=>match TZ p y,JX bl a6 p y with
  |true,some (d,a)=>match mE bl a r ys with
   |some (ds,b)=>some ((d,ds),b)
   |none=>none
  |_,_=>none
 |_,_,_=>none
end
section
variable{T:bU}{F F':Nat->Prop}{w:World}{ρ ρ':List Value}{bl bl':List (aH T.El)}{g:Nat->Nat}
theorem uM{a6 a:List (Nat×Nat)}{j i:Nat}(h:wP a6 j i=some a):cI a j=some i/\∀p∈a6,p∈a:=by unfold wP at h;split at h;rename_i i' hi;split at h;rename_i ag;simp only[aF]at h;subst h;rw[<-bd ag];exact⟨hi,λ p b=>b⟩;cases h;split at h;simp only[aF]at h;subst h;exact⟨by simp[cI],λ p b=>d_ _ b⟩;cases h
structure st (σ:Nat->Nat) (a6:List (Nat×Nat)) (ρ ρ':List Value):Prop where
 at_:∀p∈a6,ρ'[σ p.1]? =ρ[p.2]?
theorem avI{t' t:Nat}{d:T.El t'}{d':T.El t}(h:Ub d=some d'){cs:List Value}(a:(T.ty t').rd F w cs d):(T.ty t).rd F w cs d':=by unfold Ub at h;split at h;rename_i e _;subst e;simp only[aF]at h;subst h;exact a;cases h
theorem aeR{k' a k v r:Nat}{d:List (T.El k'×T.El a)}{d':List (T.El k×T.El v)}(h:NI d=some d')(b:zk T F w k' a r d):zk T F w k v r d':=by unfold NI at h;split at h;rename_i e e' _ _;subst e;subst e';simp only[aF]at h;subst h;exact b;cases h
theorem Wj:∀ {eg:List Nat}{cs:List (aL T.El)}{a6 a:List (Nat×Nat)},mF a6 eg cs=some a->∀q∈a6,q∈a
 |[],[],a6,a,h=>by simp only[mF,aF]at h;subst h;exact λ q b=>b
 |j::r,y::ys,a6,a,h=>by unfold mF at h;split at h;rename_i e;cases e;rename_i c ao;simp only[hU]at c ao;obtain⟨rfl,rfl⟩:=c;obtain⟨_,rfl⟩:=ao;split at h;rename_i d;exact λ q b=>Wj h q ((uM d).2 q b);cases h;cases h
 |[],y::ys,a6,a,h=>by simp[mF]at h
 |j::r,[],a6,a,h=>by simp[mF]at h
theorem ahg{σ:Nat->Nat}:∀ {eg:List Nat}{cs:List (aL T.El)}{a6 b:List (Nat×Nat)}{vs:List Value},st σ b ρ ρ'->mF a6 eg cs=some b->a_ T F w ρ bl cs vs->a_ T F' w ρ' bl' (eg.map λ j=>.b (σ j) 0) vs
 |[],[],a6,b,vs,ap,h,a=>by simp only[a_]at a;subst a;simp[a_]
 |j::r,y::ys,a6,b,vs,ap,h,a=>by unfold mF at h;split at h;rename_i e;cases e;rename_i c ao;simp only[hU]at c ao;obtain⟨rfl,rfl⟩:=c;obtain⟨rfl,rfl⟩:=ao;split at h;rename_i d;have e:=ap.at_ _ (Wj h _ (pc (uM d).1));simp only[a_,ax]at a;obtain⟨u,us,rfl,⟨f,c,ao⟩,aW⟩:=a;simp only[ez,a_,ax];exact⟨u,us,rfl,⟨f,e.trans c,ao⟩,ahg ap h aW⟩;cases h;cases h
 |[],y::ys,a6,b,vs,ap,h,a=>by simp[mF]at h
 |j::r,[],a6,b,vs,ap,h,a=>by simp[mF]at h
theorem ahj{a6 c:List (Nat×Nat)}:∀ {p:jC}{y:aL T.El}{d:y' T.El p},iP bl a6 p y=some (d,c)->∀q∈a6,q∈c
 | .i k,y,d,h=>by obtain⟨x,_,h⟩:=cA.1 h;cases h;exact λ q a=>a
 | .b,y,d,h=>by obtain⟨x,_,h⟩:=cA.1 h;cases h;exact λ q a=>a
 | .s,y,d,h=>by obtain⟨x,_,h⟩:=cA.1 h;cases h;exact λ q a=>a
 | .l t,y,d,h=>by obtain⟨x,_,h⟩:=cA.1 h;cases h;exact λ q a=>a
 | .x t,y,d,h=>by obtain⟨x,_,h⟩:=cA.1 h;cases h;exact λ q a=>a
 | .n kt vt,y,d,h=>by obtain⟨x,_,h⟩:=cA.1 h;cases h;exact λ q a=>a
 | .gZ,y,d,h=>by simp only[iP]at h;split at h;cases h;exact λ q a=>a;cases h
 | .B j,y,d,h=>by simp only[iP]at h;split at h;obtain⟨x,b,h⟩:=cA.1 h;cases h;exact(uM b).2;cases h
 | .R j,y,d,h=>by simp only[iP]at h;split at h;split at h;obtain⟨x,b,h⟩:=cA.1 h;cases h;exact(uM b).2;cases h;cases h
 | .M j,y,d,h=>by simp only[iP]at h;split at h;obtain⟨x,b,h⟩:=cA.1 h;cases h;exact(uM b).2;cases h
 | .P j sz,y,d,h=>by simp only[iP]at h;split at h;split at h;obtain⟨x,b,h⟩:=cA.1 h;cases h;exact(uM b).2;cases h;cases h
 | .F g eg,y,d,h=>by simp only[iP]at h;split at h;split at h;obtain⟨x,b,h⟩:=cA.1 h;cases h;exact Wj b;cases h;cases h
theorem ahi{σ:Nat->Nat}(m:∀k,F k->F' k)(u:∀j,g j=b5 bl'[σ j]?){a6 z:List (Nat×Nat)}(ap:st σ z ρ ρ'):∀ {p:jC}{y:aL T.El}{d:y' T.El p}{v:Value},iP bl a6 p y=some (d,z)->ax T F w ρ bl y v->ax T F' w ρ' bl' (g_ σ g p d) v
 | .i k,y,d,v,h,b=>by obtain⟨x,f,h⟩:=cA.1 h;cases h;simp only[g_,ax];exact aiR f b
 | .b,y,d,v,h,b=>by obtain⟨x,f,h⟩:=cA.1 h;cases h;simp only[g_,ax];exact aiP f b
 | .s,y,d,v,h,b=>by obtain⟨x,f,h⟩:=cA.1 h;cases h;simp only[g_,ax];exact aiT f b
 | .l t,y,d,v,h,b=>by obtain⟨x,f,h⟩:=cA.1 h;cases h;simp only[g_,ax];exact(b7 (T.ty t)).law (λ k n=>⟨m k n,rfl⟩) (aiU f b)
 | .x t,y,d,v,h,b=>by obtain⟨x,f,h⟩:=cA.1 h;cases h;unfold ahl at f;split at f;simp only[ax]at b;obtain⟨a,q,cs,l,ao,aW,bR⟩:=b;simp only[g_,ax];exact⟨a,q,cs,l,m a ao,(T.ty t).law (λ k n=>⟨m k n,rfl⟩) (avI f aW),bR⟩;cases f
 | .n kt vt,y,d,v,h,b=>by obtain⟨x,f,h⟩:=cA.1 h;cases h;unfold ahk at f;split at f;simp only[ax]at b;obtain⟨r,l,ao,aW⟩:=b;simp only[g_,ax];exact⟨r,l,m r ao,(aeR f aW).law (λ k n=>⟨m k n,rfl⟩) rfl⟩;cases f
 | .gZ,y,d,v,h,b=>by simp only[iP]at h;split at h;simp only[ax]at b;simp only[g_,ax];exact b;cases h
 | .B j,y,d,v,h,b=>by simp only[iP]at h;split at h;rename_i i;obtain⟨x,f,h⟩:=cA.1 h;cases h;have e:=ap.at_ _ (pc (uM f).1);simp only[ax]at b;obtain⟨o,l,ao⟩:=b;simp only[g_,ax];exact⟨o,e.trans l,ao⟩;cases h
 | .R j,y,d,v,h,b=>by simp only[iP]at h;split at h;rename_i i C;split at h;rename_i ag;have ag:=bd ag;rw[DE]at ag;obtain⟨x,f,h⟩:=cA.1 h;cases h;have e:=ap.at_ _ (pc (uM f).1);simp only[ax]at b;obtain⟨D,s,l,ao,aW⟩:=b;simp only[g_,ax];exact⟨D,s,e.trans l,by rw[u];exact cP _,λ _=>aW ag⟩;cases h;cases h
 | .M j,y,d,v,h,b=>by simp only[iP]at h;split at h;rename_i i;obtain⟨x,f,h⟩:=cA.1 h;cases h;have e:=ap.at_ _ (pc (uM f).1);simp only[ax]at b;obtain⟨o,l,ao⟩:=b;simp only[g_,ax];exact⟨o,e.trans l,ao⟩;cases h
 | .P j sz,y,d,v,h,b=>by simp only[iP]at h;split at h;rename_i i C O eg;split at h;rename_i ag;simp only[cd]at ag;have B:=bd ag.1;have E:=bd ag.2;subst E;rw[DE]at B;obtain⟨x,f,h⟩:=cA.1 h;cases h;have e:=ap.at_ _ (pc (uM f).1);simp only[ax]at b;obtain⟨A,c,l,ao,aW,bR⟩:=b;simp only[g_,ax];refine⟨A,c,l,ao,aW,λ G=>?_⟩;obtain⟨H,I,xs,J,K⟩:=bR G;exact⟨H,m _ I,xs,J.imp λ q v ⟨L,s,M,P,N⟩=>⟨L,s,e.trans M,by rw[u];exact cP _,λ _=>N B⟩,K⟩;cases h;cases h
 | .F g eg,y,d,v,h,b=>by simp only[iP]at h;split at h;rename_i g' cs;split at h;rename_i ag;have ag:=bd ag;subst ag;obtain⟨x,f,h⟩:=cA.1 h;cases h;simp only[ax]at b;obtain⟨vs,l,ao⟩:=b;simp only[g_,ax];exact⟨vs,l,ahg ap f ao⟩;cases h;cases h
end
section
variable{El:Nat->Type}
def jh(bl:List (aH El))(a6:List (Nat×Nat))(post:Bool):(p:bK)->aH El->Option (ux El p×List (Nat×Nat))
 | .c ty ps,B=>match B with
   | .c a cs=>match cj a ty with
     |true=>o1 bl a6 ps cs
     |false=>none
   |_=>none
 | .r t same,B=>match B with
   | .r _ g _ l=>match !post|| !same||cj g 0 with
     |true=>(Dn l).map λ d=>(d,a6)
     |false=>none
   |_=>none
 | .m kt vt,B=>match B with
   | .m _ _ d=>(NI d).map λ d=>(d,a6)
   |_=>none
 | .d,B=>match B with
   | .c _ _=>some ((),a6)
   | .r _ _ _ _=>some ((),a6)
   | .m _ _ _=>some ((),a6)
   | .no _=>some ((),a6)
   | .z _ _ _ _=>some ((),a6)
   |_=>none
def o0(bl:List (aH El))(post:Bool):List (Nat×Nat)->Nat->(ps:List bK)->Option (cK El ps×List (Nat×Nat))
 |a6,_,[]=>some ((),a6)
 |a6,k,p::r=>match cI a6 k with
  |some i=>match nth bl i with
   |some B=>match jh bl a6 post p B with
    |some (d,a)=>match o0 bl post a (k+1) r with
     |some (ds,b)=>some ((d,ds),b)
     |none=>none
    |none=>none
   |none=>none
  |none=>none
def KU(a6:List (Nat×Nat)):Nat->Nat->Option (List Nat)
 |_,0=>some []
 |k,n+1=>match cI a6 k,KU a6 (k+1) n with
  |some i,some r=>some (i::r)
  |_,_=>none
def Nu(n:Nat):List (Nat×Nat)->Bool
 |[]=>true
 |p::r=>fg p.1 n&&Nu n r
def iQ(bl:List (aH El))(a6:List (Nat×Nat))(post:Bool)(pas:List cM)(pbs:List bK)(ys:List (aL El)):Option ((dw El pas×cK El pbs)×List Nat):=
 match mE bl a6 pas ys with
 |some (da,b)=>match o0 bl post b 0 pbs with
  |some (db,a)=>match KU a 0 pbs.length,Nu pbs.length a with
   |some sel,true=>some ((da,db),sel)
   |_,_=>none
  |none=>none
 |none=>none
end
structure j' (a6:List (Nat×Nat)):Prop where
 fn:∀p∈a6,∀q∈a6,p.1=q.1 ->p.2=q.2
 inj:∀p∈a6,∀q∈a6,p.2=q.2 ->p.1=q.1
theorem ajR{α:Type}{j:Nat}:∀ {l:List (Nat×α)},cI l j=none->∀p∈l,p.1≠j
 |[],_,p,aD=>by simp at aD
 |q::r,h,p,aD=>by simp only[cI]at h;split at h;cases h;rename_i ag;rcases cH.1 aD with rfl |aD;intro e;subst e;simp at ag;exact ajR h p aD
theorem aei{i:Nat}:∀ {l:List (Nat×Nat)},Nw l i=true->∀p∈l,p.2≠i
 |[],_,p,aD=>by simp at aD
 |q::r,h,p,aD=>by simp only[Nw,cd,hh]at h;rcases cH.1 aD with rfl |aD;intro e;rw[e]at h;simp at h;exact aei h.2 p aD
theorem Jq{a6 a:List (Nat×Nat)}{j i:Nat}(h:wP a6 j i=some a)(aJ:j' a6):j' a:=by unfold wP at h;split at h;split at h;simp only[aF]at h;subst h;exact aJ;cases h;rename_i c;split at h;rename_i ad;simp only[aF]at h;subst h;have b:=ajR c;have J:=aei ad;refine⟨λ p aD q aQ e=>?_,λ p aD q aQ e=>?_⟩;rcases cH.1 aD with rfl |aD<;>rcases cH.1 aQ with rfl |aQ;rfl;exact absurd e.symm (b q aQ);exact absurd e (b p aD);exact aJ.fn p aD q aQ e;rcases cH.1 aD with rfl |aD<;>rcases cH.1 aQ with rfl |aQ;rfl;exact absurd e.symm (J q aQ);exact absurd e (J p aD);exact aJ.inj p aD q aQ e;cases h
section
variable{T:bU}{F F':Nat->Prop}{w:World}{ρ ρ':List Value}{bl bl':List (aH T.El)}{σ g:Nat->Nat}
theorem ahf:∀ {eg:List Nat}{cs:List (aL T.El)}{a6 a:List (Nat×Nat)},j' a6->mF a6 eg cs=some a->j' a
 |[],[],a6,a,aJ,h=>by simp only[mF,aF]at h;subst h;exact aJ
 |j::r,y::ys,a6,a,aJ,h=>by unfold mF at h;split at h;rename_i e;cases e;rename_i b ao;simp only[hU]at b ao;obtain⟨rfl,rfl⟩:=b;obtain⟨_,rfl⟩:=ao;split at h;rename_i c;exact ahf (Jq c aJ) h;cases h;cases h
 |[],y::ys,a6,a,aJ,h=>by simp[mF]at h
 |j::r,[],a6,a,aJ,h=>by simp[mF]at h
theorem ahh{a6 b:List (Nat×Nat)}(aJ:j' a6):∀ {p:jC}{y:aL T.El}{d:y' T.El p},iP bl a6 p y=some (d,b)->j' b
 | .i k,y,d,h=>by obtain⟨x,_,h⟩:=cA.1 h;cases h;exact aJ
 | .b,y,d,h=>by obtain⟨x,_,h⟩:=cA.1 h;cases h;exact aJ
 | .s,y,d,h=>by obtain⟨x,_,h⟩:=cA.1 h;cases h;exact aJ
 | .l t,y,d,h=>by obtain⟨x,_,h⟩:=cA.1 h;cases h;exact aJ
 | .x t,y,d,h=>by obtain⟨x,_,h⟩:=cA.1 h;cases h;exact aJ
 | .n kt vt,y,d,h=>by obtain⟨x,_,h⟩:=cA.1 h;cases h;exact aJ
 | .gZ,y,d,h=>by simp only[iP]at h;split at h;cases h;exact aJ;cases h
 | .B j,y,d,h=>by simp only[iP]at h;split at h;obtain⟨x,a,h⟩:=cA.1 h;cases h;exact Jq a aJ;cases h
 | .R j,y,d,h=>by simp only[iP]at h;split at h;split at h;obtain⟨x,a,h⟩:=cA.1 h;cases h;exact Jq a aJ;cases h;cases h
 | .M j,y,d,h=>by simp only[iP]at h;split at h;obtain⟨x,a,h⟩:=cA.1 h;cases h;exact Jq a aJ;cases h
 | .P j sz,y,d,h=>by simp only[iP]at h;split at h;split at h;obtain⟨x,a,h⟩:=cA.1 h;cases h;exact Jq a aJ;cases h;cases h
 | .F g eg,y,d,h=>by simp only[iP]at h;split at h;split at h;obtain⟨x,a,h⟩:=cA.1 h;cases h;exact ahf aJ a;cases h;cases h
theorem st.sub{a6 a:List (Nat×Nat)}(h:st σ a ρ ρ')(aj:∀q∈a6,q∈a):st σ a6 ρ ρ':=⟨λ p b=>h.at_ p (aj p b)⟩
theorem JZ:∀ {ps:List jC}{ys:List (aL T.El)}{a6 a:List (Nat×Nat)}{d:wB T.El ps},o1 bl a6 ps ys=some (d,a)->(∀q∈a6,q∈a)/\(j' a6->j' a)
 |[],[],a6,a,d,h=>by simp only[o1]at h;cases h;exact⟨λ q b=>b,λ h=>h⟩
 |p::r,y::ys,a6,a,d,h=>by simp only[o1]at h;split at h;rename_i i j c;split at h;rename_i k l J;cases h;obtain⟨e,f⟩:=JZ J;exact⟨λ q b=>e q (ahj c q b),λ aJ=>f (ahh aJ c)⟩;cases h;cases h
 |[],y::ys,a6,a,d,h=>by simp[o1]at h
 |p::r,[],a6,a,d,h=>by simp[o1]at h
theorem OE(c:∀k,F k->F' k)(e:∀j,g j=b5 bl'[σ j]?):∀ {ps:List jC}{ys:List (aL T.El)}{a6 a:List (Nat×Nat)}{d:wB T.El ps}{vs:List Value},st σ a ρ ρ'->o1 bl a6 ps ys=some (d,a)->a_ T F w ρ bl ys vs->a_ T F' w ρ' bl' (tM σ g ps d) vs
 |[],[],a6,a,d,vs,ap,h,b=>by simp only[a_]at b;subst b;simp[tM,a_]
 |p::r,y::ys,a6,a,d,vs,ap,h,b=>by simp only[o1]at h;split at h;rename_i l m f;split at h;rename_i n o J;cases h;simp only[a_]at b;obtain⟨u,us,rfl,i,ao⟩:=b;simp only[tM,a_];exact⟨u,us,rfl,ahi c e (ap.sub (JZ J).1) f i,OE c e ap J ao⟩;cases h;cases h
 |[],y::ys,a6,a,d,vs,_,h,_=>by simp[o1]at h
 |p::r,[],a6,a,d,vs,_,h,_=>by simp[o1]at h
theorem ayT:∀ {p:cM}{y:aL T.El}{a6 a:List (Nat×Nat)}{d:FX T.El p},JX bl a6 p y=some (d,a)->(∀q∈a6,q∈a)/\(j' a6->j' a)
 | .p p,y,a6,a,d,h=>⟨ahj h,λ aJ=>ahh aJ h⟩
 | .a ps,y,a6,a,d,h=>JZ h
 | .f fn ps,y,a6,a,d,h=>by simp only[JX]at h;split at h;split at h;exact JZ h;cases h;cases h
theorem ayS(c:∀k,F k->F' k)(e:∀j,g j=b5 bl'[σ j]?):∀ {p:cM}{y:aL T.El}{a6 b:List (Nat×Nat)}{d:FX T.El p}{v:Value},st σ b ρ ρ'->TZ p y=true->JX bl a6 p y=some (d,b)->ax T F w ρ bl y v->ax T F' w ρ' bl' (Bn σ g p d) v
 | .p p,y,a6,b,d,v,ap,_,h,a=>ahi c e ap h a
 | .a ps,y,a6,b,d,v,ap,hy,h,a=>by simp only[TZ]at hy;have:=OE c e ap h (pV a);simp only[Bn,ax];cases y<;>simp only[l_,reduceCtorEq]at hy;rename_i u;cases u<;>simp only[l_,reduceCtorEq]at hy;simp only[ax]at a;subst a;exact⟨_,rfl,this⟩;simp only[ax]at a;obtain⟨vs,rfl,_⟩:=a;exact⟨vs,rfl,this⟩
 | .f fn ps,y,a6,b,d,v,ap,_,h,a=>by simp only[JX]at h;split at h;split at h;rename_i ag;have ag:=bd ag;subst ag;simp only[ax]at a;obtain⟨vs,rfl,J⟩:=a;simp only[Bn,ax];exact⟨vs,rfl,OE c e ap h J⟩;cases h;cases h
end
section
variable{T:bU}{F F':Nat->Prop}{w:World}{ρ ρ':List Value}{bl bl':List (aH T.El)}{σ g:Nat->Nat}
theorem OC:∀ {ps:List cM}{ys:List (aL T.El)}{a6 a:List (Nat×Nat)}{d:dw T.El ps},mE bl a6 ps ys=some (d,a)->(∀q∈a6,q∈a)/\(j' a6->j' a)
 |[],[],a6,a,d,h=>by simp only[mE]at h;cases h;exact⟨λ q b=>b,λ h=>h⟩
 |p::r,y::ys,a6,a,d,h=>by simp only[mE]at h;split at h;rename_i k l m c;split at h;rename_i n o J;cases h;obtain⟨e,f⟩:=OC J;obtain⟨i,j⟩:=ayT c;exact⟨λ q b=>e q (i q b),λ aJ=>f (j aJ)⟩;cases h;cases h
 |[],y::ys,a6,a,d,h=>by simp[mE]at h
 |p::r,[],a6,a,d,h=>by simp[mE]at h
theorem ahb(c:∀k,F k->F' k)(e:∀j,g j=b5 bl'[σ j]?):∀ {ps:List cM}{ys:List (aL T.El)}{a6 a:List (Nat×Nat)}{d:dw T.El ps}{vs:List Value},st σ a ρ ρ'->mE bl a6 ps ys=some (d,a)->a_ T F w ρ bl ys vs->a_ T F' w ρ' bl' (gG σ g ps d) vs
 |[],[],a6,a,d,vs,ap,h,b=>by simp only[a_]at b;subst b;simp[gG,a_]
 |p::r,y::ys,a6,a,d,vs,ap,h,b=>by simp only[mE]at h;split at h;rename_i m n f i;split at h;rename_i o q J;cases h;simp only[a_]at b;obtain⟨u,us,rfl,l,ao⟩:=b;simp only[gG,a_];exact⟨u,us,rfl,ayS c e (ap.sub (OC J).1) f i l,ahb c e ap J ao⟩;cases h;cases h
 |[],y::ys,a6,a,d,vs,_,h,_=>by simp[mE]at h
 |p::r,[],a6,a,d,vs,_,h,_=>by simp[mE]at h
theorem OD{post:Bool}:∀ {p:bK}{B:aH T.El}{a6 a:List (Nat×Nat)}{d:ux T.El p},jh bl a6 post p B=some (d,a)->(∀q∈a6,q∈a)/\(j' a6->j' a)
 | .c ty ps,B,a6,a,d,h=>by simp only[jh]at h;split at h;split at h;exact JZ h;cases h;cases h
 | .r t same,B,a6,a,d,h=>by simp only[jh]at h;split at h;split at h;obtain⟨x,_,h⟩:=cA.1 h;cases h;exact⟨λ q b=>b,λ h=>h⟩;cases h;cases h
 | .m kt vt,B,a6,a,d,h=>by simp only[jh]at h;split at h;obtain⟨x,_,h⟩:=cA.1 h;cases h;exact⟨λ q b=>b,λ h=>h⟩;cases h
 | .d,B,a6,a,d,h=>by simp only[jh]at h;split at h<;>first |(cases h;exact⟨λ q b=>b,λ h=>h⟩)|cases h
theorem alR{t' t:Nat}{l:List (T.El t')}{l':List (T.El t)}(h:Dn l=some l'):∃e:t'=t,l'=e▸l:=by unfold Dn at h;split at h;rename_i e _;simp only[aF]at h;exact⟨e,h.symm⟩;cases h
theorem ayW(n:∀k,F k->F' k)(q:∀j,g j=b5 bl'[σ j]?){post:Bool}:∀ {p:bK}{B:aH T.El}{a6 f:List (Nat×Nat)}{d:ux T.El p}{h:Value},st σ f ρ ρ'->jh bl a6 post p B=some (d,f)->jF T F w ρ bl B h->jF T F' w ρ' bl' (dG σ g post p d) h/\∀u k,k∈bF (dG σ g post p d) u->k∈bF B u
 | .c ty ps,B,a6,f,d,h,ap,a,i=>by simp only[jh]at a;split at a;rename_i v cs;split at a;rename_i ag;have ag:=bd ag;subst ag;obtain⟨s,vs,m,ao,aW⟩:=i;exact⟨⟨s,vs,m,ao,OE n q ap a aW⟩,λ u k b=>b⟩;cases a;cases a
 | .r t same,B,a6,f,d,h,ap,a,i=>by simp only[jh]at a;split at a;rename_i t' g' k' l;split at a;obtain⟨x,o,a⟩:=cA.1 a;cases a;obtain⟨e,rfl⟩:=alR o;subst e;obtain⟨A,c,xs,m,ao,aW⟩:=i;exact⟨⟨A,c,xs,m,ao,po _ (λ k b=>⟨n k b,rfl⟩) aW⟩,λ u k b=>b⟩;cases a;cases a
 | .m kt vt,B,a6,f,d,h,ap,a,i=>by simp only[jh]at a;split at a;obtain⟨x,o,a⟩:=cA.1 a;cases a;obtain⟨r,m,ao⟩:=i;exact⟨⟨r,m,(aeR o ao).law (λ k b=>⟨n k b,rfl⟩) rfl⟩,λ u k b=>b⟩;cases a
 | .d,B,a6,f,d,h,ap,a,i=>⟨trivial,λ u k b=>by simp[dG,bF]at b⟩
theorem GJ{post:Bool}:∀ {ps:List bK}{a6 a:List (Nat×Nat)}{k:Nat}{d:cK T.El ps},o0 bl post a6 k ps=some (d,a)->(∀q∈a6,q∈a)/\(j' a6->j' a)
 |[],a6,a,k,d,h=>by simp only[o0]at h;cases h;exact⟨λ q b=>b,λ h=>h⟩
 |p::r,a6,a,k,d,h=>by simp only[o0]at h;split at h;split at h;split at h;rename_i l m c;split at h;rename_i n o J;cases h;obtain⟨e,f⟩:=GJ J;obtain⟨i,j⟩:=OD c;exact⟨λ q b=>e q (i q b),λ aJ=>f (j aJ)⟩;cases h;cases h;cases h;cases h
theorem nZ{post:Bool}:∀ {ps:List bK}{d:cK T.El ps},(bQ σ g post ps d).length=ps.length
 |[],d=>rfl
 |p::r,d=>by simp[bQ,nZ (ps:=r)]
theorem Wi(f:∀k,F k->F' k)(l:∀j,g j=b5 bl'[σ j]?){post:Bool}:∀ {ps:List bK}{a6 a:List (Nat×Nat)}{k:Nat}{d:cK T.El ps},o0 bl post a6 k ps=some (d,a)->st σ a ρ ρ'->∀(m:Nat)(B':aH T.El),(bQ σ g post ps d)[m]? =some B' ->
 ∃i B,(k+m,i)∈a/\bl[i]? =some B/\(∀h,jF T F w ρ bl B h->jF T F' w ρ' bl' B' h)/\∀u k,k∈bF B' u->k∈bF B u
 |[],a6,a,k,d,_,_,m,B',c=>by simp[bQ]at c
 |p::r,a6,a,k,d,h,ap,m,B',c=>by
  simp only[o0]at h;split at h
  ·rename_i i hi;split at h
   ·rename_i B n;split at h
    ·rename_i v x e;split at h
     ·rename_i y z J;cases h;have o:=(GJ J).1;have q:=(OD e).1;rw[dj]at n;cases m with
      |zero=>simp only[bQ,ee,aF]at c;subst c;exact⟨i,B,o _ (q _ (pc hi)),n,λ h ag=>(ayW f l (ap.sub o) e ag).1,ayt e⟩
      |succ m=>obtain⟨i',su,s,ao,aW⟩:=Wi f l J ap m B' (by simpa[bQ]using c);exact⟨i',su,by rw[show k+(m+1)=k+1+m by omega];exact s,ao,aW⟩
     ·cases h
    ·cases h
   ·cases h
  ·cases h
where
 ayt {post:Bool}:∀ {p:bK}{B:aH T.El}{a6 a:List (Nat×Nat)}{d:ux T.El p},jh bl a6 post p B=some (d,a)->∀u k,k∈bF (dG σ g post p d) u->k∈bF B u
  | .c ty ps,B,a6,a,d,h,u,k,b=>by simp only[jh]at h;split at h;exact b;cases h
  | .r t same,B,a6,a,d,h,u,k,b=>by simp only[jh]at h;split at h;exact b;cases h
  | .m kt vt,B,a6,a,d,h,u,k,b=>by simp only[jh]at h;split at h;exact b;cases h
  | .d,B,a6,a,d,h,u,k,b=>by simp[dG,bF]at b
end
structure ny {El:Nat->Type} (bl:List (aH El)) (ρ:List Value) (bl':List (aH El)) (ρ':List Value) (sel:List Nat):Prop where
 len:ρ'.length=bl'.length
 at_:∀(j:Nat)(B':aH El)(h':Value),bl'[j]? =some B'->ρ'[j]? =some h'->∃i B,sel[j]? =some i/\bl[i]? =some B/\ρ[i]? =some h'/\∀u k,k∈bF B' u->k∈bF B u
 inj:∀(j gN i:Nat),sel[j]? =some i->sel[gN]? =some i->j=gN
def sR{El:Nat->Type}:List (aH El)->List Value->List Nat
 |B::r,h::s=>bF B h++sR r s
 |_,_=>[]
theorem uU{El:Nat->Type}{k:Nat}:∀ {bl:List (aH El)}{ρ:List Value},k∈sR bl ρ↔q1 bl ρ k
 |[],ρ=>by simp[sR,q1]
 |B::r,[]=>by simp[sR,q1]
 |B::r,h::s=>by
  simp only[sR,cf,uU (bl:=r)];constructor;rintro(e |⟨i,C,u,a,J,b⟩);exact⟨0,B,h,rfl,rfl,e⟩;exact⟨i+1,C,u,by simpa using a,by simpa using J,b⟩
  ·rintro⟨i,C,u,a,J,b⟩;cases i with
   |zero=>simp only[ee,aF]at a J;subst a;subst J;exact .inl b
   |succ i=>exact .inr ⟨i,C,u,by simpa using a,by simpa using J,b⟩
section
variable{T:bU}{W w:World}{M0:List Nat}{X:Nat->Prop}{bl bl':List (aH T.El)}{ρ ρ':List Value}{sel:List Nat}
theorem ny.own(h:ny bl ρ bl' ρ' sel){k:Nat}(a:q1 bl' ρ' k):q1 bl ρ k:=by obtain⟨j,B',h',b,J,c⟩:=a;obtain⟨i,B,_,ao,aW,bR⟩:=h.at_ j B' h' b J;exact⟨i,B,h',ao,aW,bR _ _ c⟩
theorem ny.bC(h:ny bl ρ bl' ρ' sel)(f:Mem T W M0 X bl ρ w)(i j:Nat)(B C:aH T.El)(u v:Value)(g:bl'[i]? =some B)(J:ρ'[i]? =some u)(l:bl'[j]? =some C)(m:ρ'[j]? =some v)(n:i≠j):∀k∈bF B u,k∉bF C v:=λ k c d=>by obtain⟨a,jB,o,ao,aW,bR⟩:=h.at_ i B u g J;obtain⟨b,M',p,q,r,s⟩:=h.at_ j C v l m;have c:=bR _ _ c;have d:=s _ _ d;refine f.bC a b jB M' u v ao aW q r (λ e=>?_) k c d;subst e;exact n (h.inj i j a o p)
def kd(X:Nat->Prop)(bl:List (aH T.El))(ρ:List Value)(sel:List Nat)(k:Nat):Prop:=X k\/∃i B h,i∉sel/\bl[i]? =some B/\ρ[i]? =some h/\k∈bF B h
theorem ny.H2(h:ny bl ρ bl' ρ' sel){k:Nat}(a:bj X bl ρ w k):bj (kd X bl ρ sel) bl' ρ' w k:=
 ⟨λ b=>by
  rcases b with b |⟨i,B,u,_,c,J,d⟩;exact a.1 b
  ·exact a.2.1 ⟨i,B,u,c,J,d⟩,λ e=>a.2.1 (h.own e),a.2.2⟩
theorem ny.LR(h:ny bl ρ bl' ρ' sel){k:Nat}(a:bj X bl ρ w k):bj X bl' ρ' w k:=⟨a.1,λ b=>a.2.1 (h.own b),a.2.2⟩
theorem ny.enter(h:ny bl ρ bl' ρ' sel)(a:Mem T W M0 X bl ρ w)(g:∀(j:Nat)(B':aH T.El)(h':Value),bl'[j]? =some B'->ρ'[j]? =some h'->jF T (bj (kd X bl ρ sel) bl' ρ' w) w ρ' bl' B' h'):Mem T w (sR bl' ρ') (kd X bl ρ sel) bl' ρ' w:=by refine⟨br.refl _ _,h.len,λ k b=>?_,λ k b=>?_,h.bC a,g⟩;rcases b with c |⟨i,B,u,hi,d,J,f⟩;refine⟨eN (a.ij k c).1 a.bZ.size,λ e=>?_⟩;exact a.akz (h.own (uU.1 e)) c;refine⟨(a.lt k ⟨i,B,u,d,J,f⟩).1,λ e=>?_⟩;obtain⟨j,B',h',l,ao,aW⟩:=uU.1 e;obtain⟨i',jB,m,n,o,p⟩:=h.at_ j B' h' l ao;have aW:=p _ _ aW;refine a.bC i i' B jB u h' d J n o (λ e=>?_) k f aW;subst e;exact hi (bH m);exact⟨(a.lt k (h.own b)).1,.inl (uU.2 b)⟩
theorem ny.leave(h:ny bl ρ bl' ρ' sel)(a:Mem T W M0 X bl ρ w)(b:∀(j:Nat)(B':aH T.El)(h':Value),bl'[j]? =some B'->ρ'[j]? =some h'->jF T (bj X bl' ρ' w) w ρ' bl' B' h'):Mem T W M0 X bl' ρ' w:=⟨a.bZ,h.len,a.ij,λ k c=>a.lt k (h.own c),h.bC a,b⟩
end
def ck(post:Bool)(pbs:List bK)(j:Nat):Nat:=fo post (pbs[j]?)
def ha(ρ:List Value)(sel:List Nat):List Value:=sel.map λ i=>ρ.getD i undef
section
variable{T:bU}{W w:World}{M0:List Nat}{X:Nat->Prop}{bl bl':List (aH T.El)}{ρ ρ':List Value}{sel:List Nat}
theorem HU{σ g:Nat->Nat}{post:Bool}:∀ {ps:List bK}{d:cK T.El ps}{j:Nat},b5 (bQ σ g post ps d)[j]? =fo post ps[j]?
 |[],d,j=>by simp[bQ,b5,fo]
 |p::r,d,0=>by simp only[bQ,ee];cases p<;>rfl
 |p::r,d,j+1=>by simpa[bQ]using HU (ps:=r)
theorem XM{a6:List (Nat×Nat)}:∀ {n k:Nat}{sel:List Nat},KU a6 k n=some sel->sel.length=n/\∀j i,sel[j]? =some i->(k+j,i)∈a6
 |0,k,sel,h=>by simp only[KU,aF]at h;subst h;simp
 |n+1,k,sel,h=>by
  simp only[KU]at h;split at h
  ·rename_i i r a J;simp only[aF]at h;subst h;obtain⟨b,c⟩:=XM J;refine⟨by simp[b],λ j i' aA=>?_⟩;cases j with
   |zero=>simp only[ee,aF]at aA;subst aA;exact pc a
   |succ j=>rw[show k+(j+1)=k+1+j by omega];exact c j i' (by simpa using aA)
  ·cases h
theorem aeb{n:Nat}:∀ {a6:List (Nat×Nat)},Nu n a6=true->∀p∈a6,p.1<n
 |[],_,p,aD=>by simp at aD
 |q::r,h,p,aD=>by simp only[Nu,cd]at h;rcases cH.1 aD with rfl |aD;exact cJ h.1;exact aeb h.2 p aD
theorem u0(l:Mem T W M0 X bl ρ w){a6:List (Nat×Nat)}(aJ:j' a6){post:Bool}{pas:List cM}{pbs:List bK}{ys:List (aL T.El)}{da:dw T.El pas}{db:cK T.El pbs}(h:iQ bl a6 post pas pbs ys=some ((da,db),sel)) :
 ny bl ρ (bQ id (ck post pbs) post pbs db) (ha ρ sel) sel/\(∀p∈a6,sel[p.1]? =some p.2)/\
 ∀F':Nat->Prop,(∀k,bj X bl ρ w k->F' k)->(∀vs,a_ T (bj X bl ρ w) w ρ bl ys vs->a_ T F' w (ha ρ sel) (bQ id (ck post pbs) post pbs db) (gG id (ck post pbs) pas da) vs)/\
  ∀(j:Nat)(B':aH T.El)(h':Value),(bQ id (ck post pbs) post pbs db)[j]? =some B'->(ha ρ sel)[j]? =some h'->jF T F' w (ha ρ sel) (bQ id (ck post pbs) post pbs db) B' h':=by
 unfold iQ at h
 split at h
 ·rename_i V O s;split at h
  ·rename_i n t J;split at h
   ·rename_i b P Q;simp only[aF,cB]at h;obtain⟨⟨rfl,rfl⟩,rfl⟩:=h;obtain⟨A,H⟩:=OC s;obtain⟨v,I⟩:=GJ J;have K:=I (H aJ);obtain⟨l1,C⟩:=XM P;have L:=aeb Q
    have x:∀p∈t,b[p.1]? =some p.2:=λ p f=>by
     have D:p.1<b.length:=by rw[l1];exact L p f
     have e:=aN D;have:=C p.1 _ e;rw[jO]at this;have ao:b[p.1]=p.2:=K.fn _ this p f rfl;rw[e,ao]
    have c:(bQ id (ck post pbs) post pbs n).length=pbs.length:=nZ;have base:∀(j:Nat)(B':aH T.El),(bQ id (ck post pbs) post pbs n)[j]? =some B'->∃i B u,b[j]? =some i/\bl[i]? =some B/\ρ[i]? =some u/\(ha ρ b)[j]? =some u:=λ j B' aA=>by
     have y:∀j,ck post pbs j=b5 (bQ id (ck post pbs) post pbs n)[id j]? :=λ j=>HU.symm;have E:∀i,(j,i)∈t->∀B,bl[i]? =some B->∃i B u,b[j]? =some i/\bl[i]? =some B/\ρ[i]? =some u/\(ha ρ b)[j]? =some u:=λ i hi B o=>by obtain⟨u,M⟩:=l.tm o;have aj:=x _ hi;refine⟨i,B,u,aj,o,M,?_⟩;rw[ha,jv,aj];simp[List.getD_eq_getElem?_getD,M]
     obtain⟨i,B,a,ao⟩:=ahd J j B' aA;exact E i (by simpa using a) B ao
    have q:st id t ρ (ha ρ b):=⟨λ p f=>by
     have aj:=x p f;have D:p.1<(bQ id (ck post pbs) post pbs n).length:=by rw[c];exact L p f
     obtain⟨i,B,u,a,ao,aW,bR⟩:=base p.1 _ (aN D);rw[aj]at a;cases a;show(ha ρ b)[p.1]? =_
     rw[bR,aW]⟩
    have y:∀j,ck post pbs j=b5 (bQ id (ck post pbs) post pbs n)[id j]? :=λ j=>HU.symm;refine⟨⟨by rw[c];simp[ha,l1],λ j B' h' aA G=>?_,λ j gN i aA R=>?_⟩,λ p f=>x p (v p (A p f)),λ F' N=>⟨λ vs S=>ahb N y (q.sub v) s S,λ j B' h' aA G=>?_⟩⟩;obtain⟨i,B,a,ao,_,aW⟩:=Wi (F:=λ _=>False) (F':=λ _=>False) (w:=w) (λ _ h=>h) y J q j B' aA;rw[jO]at a;have aj:=x _ a;refine⟨i,B,aj,ao,?_,aW⟩;rw[<-q.at_ _ a];exact G;have a:=C j i aA;have ao:=C gN i R;have:=K.inj _ a _ ao rfl;simpa using this
    ·obtain⟨i,B,a,ao,aW,_⟩:=Wi N y J q j B' aA;rw[jO]at a;have U:ρ[i]? =some h':=by rw[<-q.at_ _ a];exact G
     exact aW h' (l.ok i B h' ao U)
   ·cases h
  ·cases h
 ·cases h
where
 ahd {post:Bool} {σ g:Nat->Nat}:∀ {ps:List bK}{a6 z:List (Nat×Nat)}{k:Nat}{d:cK T.El ps},o0 bl post a6 k ps=some (d,z)->∀(m:Nat)(B':aH T.El),(bQ σ g post ps d)[m]? =some B'->∃i B,(k+m,i)∈z/\bl[i]? =some B
  |[],a6,z,k,d,_,m,B',l=>by simp[bQ]at l
  |p::r,a6,z,k,d,h,m,B',l=>by
   simp only[o0]at h;split at h
   ·rename_i i hi;split at h
    ·rename_i B o;split at h
     ·rename_i H O s;split at h
      ·rename_i I t J;cases h;have v:=(GJ J).1;have A:=(OD s).1;rw[dj]at o;cases m with
       |zero=>exact⟨i,B,v _ (A _ (pc hi)),o⟩
       |succ m=>obtain⟨i',su,a,ao⟩:=ahd J m B' (by simpa[bQ]using l);exact⟨i',su,by rw[show k+(m+1)=k+1+m by omega];exact a,ao⟩
      ·cases h
     ·cases h
    ·cases h
   ·cases h
end
def gD{α:Type}:List α->List Nat->List α->List α
 |l,[],qs=>l++qs
 |l,i::r,q::qs=>gD (l.set i q) r qs
 |l,_::_,[]=>l
section
variable{α:Type}
theorem YI:∀ {sel:List Nat}{l qs:List α},sel.length<=qs.length->(gD l sel qs).length=l.length+(qs.length-sel.length)
 |[],l,qs,_=>by simp[gD]
 |i::r,l,q::qs,h=>by simp only[gD];rw[YI (by simpa using h)];simp
 |i::r,l,[],h=>by simp at h
theorem HA:∀ {sel:List Nat}{l qs:List α}{i:Nat},i∉sel->i<l.length->(gD l sel qs)[i]? =l[i]?
 |[],l,qs,i,_,hi=>by simp[gD,er hi]
 |j::r,l,q::qs,i,h,hi=>by simp only[cH,not_or]at h;simp only[gD];rw[HA h.2 (by simpa using hi),jx (Ne.symm h.1)]
 |j::r,l,[],i,_,_=>rfl
theorem P5:∀ {sel:List Nat}{l qs:List α}{j i:Nat},sel.length<=qs.length->sel.Nodup->(∀i∈sel,i<l.length)->sel[j]? =some i->(gD l sel qs)[i]? =qs[j]?
 |[],l,qs,j,i,_,_,_,h=>by simp at h
 |a::r,l,q::qs,0,i,b,d,c,h=>by simp only[ee,aF]at h;subst h;have e:=h4.1 d;simp only[gD];rw[HA e.1 (by simpa using c a (by simp)),gu (c a (by simp))];rfl
 |a::r,l,q::qs,j+1,i,b,d,c,h=>by have e:=h4.1 d;simp only[gD];rw[P5 (by simpa using b) e.2 (λ i hi=>by simpa using c i (d_ _ hi)) (by simpa using h)];rfl
 |a::r,l,[],j,i,b,_,_,_=>by simp at b
theorem P6:∀ {sel:List Nat}{l qs:List α}{m:Nat},sel.length<=qs.length->(gD l sel qs)[l.length+m]? =qs[sel.length+m]?
 |[],l,qs,m,_=>by simp[gD,eS]
 |a::r,l,q::qs,m,b=>by simp only[gD];have:=P6 (sel:=r) (l:=l.set a q) (qs:=qs) (m:=m) (by simpa using b);rw[hg]at this;rw[this,show(a::r).length+m=(r.length+m)+1 by simp;omega];rfl
 |a::r,l,[],m,b=>by simp at b
theorem aE_{sel:List Nat}{l qs:List α}(a:sel.length<=qs.length)(c:sel.Nodup)(d:∀i∈sel,i<l.length){i:Nat}{x:α}(h:(gD l sel qs)[i]? =some x) :
 (i∉sel/\i<l.length/\l[i]? =some x)\/∃j,qs[j]? =some x/\((j<sel.length/\sel[j]? =some i)\/(sel.length<=j/\i=l.length+(j-sel.length))):=by
 rcases gI i l.length with e |e
 ·by_cases hi:i∈sel;obtain⟨j,aA,rfl⟩:=iZ.1 hi;have b:=aN aA;rw[P5 a c d b]at h;exact .inr ⟨j,h,.inl ⟨aA,b⟩⟩;rw[HA hi e]at h;exact .inl ⟨hi,e,h⟩
 ·right;obtain⟨m,rfl⟩:∃m,i=l.length+m:=⟨i-l.length,by omega⟩
  rw[P6 a]at h;exact⟨sel.length+m,h,.inr ⟨by omega,by omega⟩⟩
end
def jq(sel:List Nat)(len j:Nat):Nat:=match nth sel j with
 |some i=>i
 |none=>len+(j-sel.length)
theorem H_{sel:List Nat}{len j i:Nat}(h:sel[j]? =some i):jq sel len j=i:=by rw[jq,dj,h]
theorem aa_{sel:List Nat}{len j:Nat}(h:sel.length<=j):jq sel len j=len+(j-sel.length):=by rw[jq,dj,gH h]
def hL{El:Nat->Type}:Option (aH El)->aH El->aH El
 |some (.r _ g k _),.r t g' k' l=>.r t (g+g') (k+k') l
 |some (.r _ g _ _),.no g'=>.no (g+g')
 |some (.no g),.no g'=>.no (g+g')
 |_,B=>B
def yF{El:Nat->Type}(bl:List (aH El)):List Nat->List (aH El)->List (aH El)
 |i::r,B::qs=>hL (nth bl i) B::yF bl r qs
 |_,qs=>qs
theorem ank{El:Nat->Type}{bl:List (aH El)}:∀ {sel:List Nat}{qs:List (aH El)},(yF bl sel qs).length=qs.length
 |[],qs=>rfl
 |i::r,B::qs=>by simp[yF,ank (sel:=r)]
 |i::r,[]=>rfl
theorem anj{El:Nat->Type}{bl:List (aH El)}:∀ {sel:List Nat}{qs:List (aH El)}{j:Nat},(yF bl sel qs)[j]? =(qs[j]?).map λ B=>(match sel[j]? with
 |some i=>hL (nth bl i) B
 |none=>B)
 |[],qs,j=>by simp[yF]
 |i::r,B::qs,0=>by simp[yF]
 |i::r,B::qs,j+1=>by simpa[yF]using anj (sel:=r) (qs:=qs) (j:=j)
 |i::r,[],j=>by simp[yF]
theorem Ms{El:Nat->Type}{o:Option (aH El)}{B:aH El}{u:Value}:bF (hL o B) u=bF B u:=by unfold hL;split<;>rfl
section
variable{T:bU}{F F':Nat->Prop}{w:World}{ρ ρ':List Value}{bl bl':List (aH T.El)}{σ g g':Nat->Nat}
theorem aeP(kn:∀j v,ρ[j]? =some v->ρ'[σ j]? =some v):∀ {eg:List Nat}{vs:List Value},a_ T F w ρ bl (eg.map λ j=>.b (id j) 0) vs->a_ T F' w ρ' bl' (eg.map λ j=>.b (σ j) 0) vs
 |[],vs,h=>by simpa only[ig,a_]using h
 |j::r,vs,h=>by simp only[ez,a_,ax]at h⊢;obtain⟨u,us,e,⟨a,b,ao⟩,aW⟩:=h;exact⟨u,us,e,⟨a,kn j _ b,ao⟩,aeP kn aW⟩
theorem alm(e:∀k,F k->F' k)(kn:∀j v,ρ[j]? =some v->ρ'[σ j]? =some v)(m:∀j,g j=b5 bl[j]?)(n:∀j v,ρ[j]? =some v->g' j=b5 bl'[σ j]?):∀ {p:jC}{d:y' T.El p}{v:Value},ax T F w ρ bl (g_ id g p d) v->ax T F' w ρ' bl' (g_ σ g' p d) v
 | .i k,d,v,h=>by simpa only[g_,ax]using h
 | .b,d,v,h=>by simpa only[g_,ax]using h
 | .s,d,v,h=>by simpa only[g_,ax]using h
 | .l t,d,v,h=>by simp only[g_,ax]at h⊢;exact(b7 (T.ty t)).law (λ k f=>⟨e k f,rfl⟩) h
 | .x t,d,v,h=>by simp only[g_,ax]at h⊢;obtain⟨a,q,cs,b,ao,aW,bR⟩:=h;exact⟨a,q,cs,b,e a ao,(T.ty t).law (λ k f=>⟨e k f,rfl⟩) aW,bR⟩
 | .n kt vt,d,v,h=>by simp only[g_,ax]at h⊢;obtain⟨r,b,ao,aW⟩:=h;exact⟨r,b,e r ao,aW.law (λ k f=>⟨e k f,rfl⟩) rfl⟩
 | .gZ,d,v,h=>by simpa only[g_,ax]using h
 | .B j,d,v,h=>by simp only[g_,ax,id]at h⊢;obtain⟨i,b,ao⟩:=h;exact⟨i,kn j _ b,ao⟩
 | .R j,d,v,h=>by simp only[g_,ax,id]at h⊢;obtain⟨s,l,b,ao,aW⟩:=h;exact⟨s,l,kn j _ b,by rw[n j _ b];exact cP _,λ _=>aW (m j)⟩
 | .M j,d,v,h=>by simp only[g_,ax,id]at h⊢;obtain⟨i,b,ao⟩:=h;exact⟨i,kn j _ b,ao⟩
 | .P j sz,d,v,h=>by simp only[g_,ax,id]at h⊢;obtain⟨A,c,b,ao,aW,bR⟩:=h;refine⟨A,c,b,ao,aW,λ u=>?_⟩;obtain⟨x,y,xs,z,B⟩:=bR u;exact⟨x,e _ y,xs,z.imp λ q v ⟨C,l,o,E,D⟩=>⟨C,l,kn j _ o,by rw[n j _ o];exact cP _,λ _=>D (m j)⟩,B⟩
 | .F g eg,d,v,h=>by simp only[g_,ax]at h⊢;obtain⟨vs,b,ao⟩:=h;exact⟨vs,b,aeP kn ao⟩
theorem QM(a:∀k,F k->F' k)(kn:∀j v,ρ[j]? =some v->ρ'[σ j]? =some v)(b:∀j,g j=b5 bl[j]?)(c:∀j v,ρ[j]? =some v->g' j=b5 bl'[σ j]?):∀ {ps:List jC}{d:wB T.El ps}{vs:List Value},a_ T F w ρ bl (tM id g ps d) vs->a_ T F' w ρ' bl' (tM σ g' ps d) vs
 |[],d,vs,h=>by simpa only[tM,a_]using h
 |p::r,d,vs,h=>by simp only[tM,a_]at h⊢;obtain⟨u,us,e,f,J⟩:=h;exact⟨u,us,e,alm a kn b c f,QM a kn b c J⟩
theorem aGB(a:∀k,F k->F' k)(kn:∀j v,ρ[j]? =some v->ρ'[σ j]? =some v)(b:∀j,g j=b5 bl[j]?)(c:∀j v,ρ[j]? =some v->g' j=b5 bl'[σ j]?):∀ {p:cM}{d:FX T.El p}{v:Value},ax T F w ρ bl (Bn id g p d) v->ax T F' w ρ' bl' (Bn σ g' p d) v
 | .p p,d,v,h=>alm a kn b c h
 | .a ps,d,v,h=>by simp only[Bn,ax]at h⊢;obtain⟨vs,e,f⟩:=h;exact⟨vs,e,QM a kn b c f⟩
 | .f fn ps,d,v,h=>by simp only[Bn,ax]at h⊢;obtain⟨vs,e,f⟩:=h;exact⟨vs,e,QM a kn b c f⟩
theorem alk(a:∀k,F k->F' k)(kn:∀j v,ρ[j]? =some v->ρ'[σ j]? =some v)(b:∀j,g j=b5 bl[j]?)(c:∀j v,ρ[j]? =some v->g' j=b5 bl'[σ j]?):∀ {ps:List cM}{d:dw T.El ps}{vs:List Value},a_ T F w ρ bl (gG id g ps d) vs->a_ T F' w ρ' bl' (gG σ g' ps d) vs
 |[],d,vs,h=>by simpa only[gG,a_]using h
 |p::r,d,vs,h=>by simp only[gG,a_]at h⊢;obtain⟨u,us,e,f,J⟩:=h;exact⟨u,us,e,aGB a kn b c f,alk a kn b c J⟩
theorem aGC(l:∀k,F k->F' k)(kn:∀j v,ρ[j]? =some v->ρ'[σ j]? =some v)(n:∀j,g j=b5 bl[j]?)(q:∀j v,ρ[j]? =some v->g' j=b5 bl'[σ j]?){post:Bool}{o:Option (aH T.El)}:∀ {p:bK}{d:ux T.El p}{h:Value},jF T F w ρ bl (dG id g post p d) h->jF T F' w ρ' bl' (hL o (dG σ g' post p d)) h
 | .c ty ps,d,h,a=>by
   have:hL o (dG σ g' post (.c ty ps) d)=dG σ g' post (.c ty ps) d:=by unfold hL;split<;>first |rfl |(rename_i e;cases e)
   rw[this];obtain⟨s,vs,b,ao,aW⟩:=a;exact⟨s,vs,b,ao,QM l kn n q aW⟩
 | .r t same,d,h,a=>by
   obtain⟨A,c,xs,b,ao,aW⟩:=a;have:∃f i,hL o (dG σ g' post (.r t same) d)= .r t f i d:=by unfold hL;split;rename_i e;cases e;exact⟨_,_,rfl⟩;rename_i e;cases e;rename_i e;cases e;exact⟨_,_,rfl⟩
   obtain⟨f,i,e⟩:=this;rw[e];exact⟨A,c,xs,b,ao,po _ (λ k m=>⟨l k m,rfl⟩) aW⟩
 | .m kt vt,d,h,a=>by
   have:hL o (dG σ g' post (.m kt vt) d)=dG σ g' post (.m kt vt) d:=by unfold hL;split<;>first |rfl |(rename_i e;cases e)
   rw[this];obtain⟨r,b,ao⟩:=a;exact⟨r,b,ao.law (λ k m=>⟨l k m,rfl⟩) rfl⟩
 | .d,d,h,a=>by
   have:∃f,hL o (dG σ g' post .d d)= .no f:=by unfold hL;split;rename_i e;cases e;exact⟨_,rfl⟩;exact⟨_,rfl⟩;exact⟨_,rfl⟩
   obtain⟨f,e⟩:=this;rw[e];trivial
end
def rF{El:Nat->Type}:bK->aH El->Prop
 | .c _ _,.c _ _=>True
 | .r t _,.r t' _ _ _=>t'=t
 | .m _ _,.m _ _ _=>True
 | .d,.c _ _=>True
 | .d,.r _ _ _ _=>True
 | .d,.m _ _ _=>True
 | .d,.no _=>True
 |_,_=>False
def AE:bK->bK->Bool
 | .c _ _,.c _ _=>true
 | .r t _,.r t' _=>cj t t'
 | .m _ _,.m _ _=>true
 | .c _ _,.d=>true
 | .r _ _,.d=>true
 | .m _ _,.d=>true
 |_,_=>false
def ky:List bK->List bK->Bool
 |[],_=>true
 |p::r,q::s=>AE p q&&ky r s
 |_::_,[]=>false
theorem L2:∀ {ps qs:List bK},ky ps qs=true->ps.length<=qs.length
 |[],_,_=>by simp
 |p::r,q::s,h=>by simp only[ky,cd]at h;have:=L2 h.2;simp;omega
 |p::r,[],h=>by cases h
theorem L1:∀ {ps qs:List bK}{j:Nat}{p q:bK},ky ps qs=true->ps[j]? =some p->qs[j]? =some q->AE p q=true
 |[],_,j,p,q,_,h,_=>by simp at h
 |a::r,b::s,0,p,q,c,h,h'=>by simp only[ee,aF]at h h';subst h;subst h';simp only[ky,cd]at c;exact c.1
 |a::r,b::s,j+1,p,q,c,h,h'=>by simp only[ky,cd]at c;exact L1 c.2 (by simpa using h) (by simpa using h')
 |a::r,[],j,p,q,c,_,_=>by cases c
def fH{El:Nat->Type}(bl:List (aH El))(sel:List Nat)(a:List bK)(j:Nat):Nat:=(match nth sel j with
 |some i=>u1 bl i
 |none=>0)+ck true a j
def wQ{El:Nat->Type}(bl:List (aH El))(sel:List Nat)(a:List bK)(b:cK El a):List (aH El):=yF bl sel (bQ (jq sel bl.length) (fH bl sel a) true a b)
def gJ{El:Nat->Type}(bl:List (aH El))(sel:List Nat)(a:List bK)(b:cK El a):List (aH El):=gD bl sel (wQ bl sel a b)
section
variable{T:bU}{W w w':World}{M0:List Nat}{X:Nat->Prop}{bl:List (aH T.El)}{ρ oB dT:List Value}{sel:List Nat}{pre cw:List bK}{dp:cK T.El pre}{eQ:cK T.El cw}{nF gq:Nat->Nat}
theorem QK{σ g:Nat->Nat}{post:Bool}:∀ {ps:List bK}{d:cK T.El ps}{j:Nat}{B:aH T.El},(bQ σ g post ps d)[j]? =some B->∃p a,ps[j]? =some p/\B=dG σ g post p a/\∀σ' g',(bQ σ' g' post ps d)[j]? =some (dG σ' g' post p a)
 |[],d,j,B,h=>by simp[bQ]at h
 |p::r,d,0,B,h=>by simp only[bQ,ee,aF]at h;subst h;exact⟨p,d.1,rfl,rfl,λ _ _=>rfl⟩
 |p::r,d,j+1,B,h=>by obtain⟨q,a,b,J,c⟩:=QK (ps:=r) (d:=d.2) (j:=j) (by simpa[bQ]using h);exact⟨q,a,by simpa using b,J,λ σ' g'=>by simpa[bQ]using c σ' g'⟩
theorem back(o:Mem T W M0 X bl ρ w)(aj:ny bl ρ (bQ id nF false pre dp) oB sel)(nH:sel.length=pre.length)(c:∀(j i:Nat)(B:aH T.El)(p:bK),sel[j]? =some i->bl[i]? =some B->pre[j]? =some p->rF p B)(b_:ky pre cw=true)
 (bD:∀i∈sel,i<bl.length)(aAq:∀j,gq j=ck true cw j)
 (r:Mem T w (sR (bQ id nF false pre dp) oB) (kd X bl ρ sel) (bQ id gq true cw eQ) dT w')(aG:To (kd X bl ρ sel) (bQ id nF false pre dp) (bQ id gq true cw eQ) oB dT w w') :
 Mem T W M0 X (gJ bl sel cw eQ) (gD ρ sel dT) w'/\To X bl (gJ bl sel cw eQ) ρ (gD ρ sel dT) w w'/\hC bl ρ w w' sel/\
  ∀pas (da:dw T.El pas) vs,a_ T (bj (kd X bl ρ sel) (bQ id gq true cw eQ) dT w') w' dT (bQ id gq true cw eQ) (gG id gq pas da) vs->a_ T (bj X (gJ bl sel cw eQ) (gD ρ sel dT) w') w' (gD ρ sel dT) (gJ bl sel cw eQ) (gG (jq sel bl.length) (fH bl sel cw) pas da) vs:=by
 have ah':(bQ id nF false pre dp).length=pre.length:=nZ
 have W2:(bQ id gq true cw eQ).length=cw.length:=nZ
 have aB4:dT.length=cw.length:=by rw[r.len,W2]
 have aPJ:oB.length=pre.length:=by rw[aj.len,ah']
 have ahB:=L2 b_
 have iR:sel.Nodup:=by refine i_.2 λ i j hi aA DT e=>?_;have:=aj.inj i j _ (aN hi) (by rw[e];exact aN aA);omega
 have aEk:(wQ bl sel cw eQ).length=cw.length:=by rw[wQ,ank,nZ]
 have s1:sel.length<=(wQ bl sel cw eQ).length:=by omega
 have s2:sel.length<=dT.length:=by omega
 have aAQ:∀i∈sel,i<ρ.length:=λ i hi=>by rw[o.len];exact bD i hi
 have l1:(gJ bl sel cw eQ).length=bl.length+(cw.length-sel.length):=by rw[gJ,YI s1,aEk]
 have cz:(gD ρ sel dT).length=bl.length+(cw.length-sel.length):=by rw[YI s2,o.len,aB4]
 have S6:∀(j:Nat)(v:Value),dT[j]? =some v->(gD ρ sel dT)[jq sel bl.length j]? =some v:=λ j v aA=>by rcases gI j sel.length with e |e;have d:=aN e;rw[H_ d,P5 s2 iR aAQ d];exact aA;rw[aa_ e,<-o.len,P6 s2,show sel.length+(j-sel.length)=j by omega];exact aA
 have F:∀(j:Nat),j<cw.length->(gJ bl sel cw eQ)[jq sel bl.length j]? =(wQ bl sel cw eQ)[j]? :=λ j aA=>by rcases gI j sel.length with e |e;have d:=aN e;rw[H_ d,gJ,P5 s1 iR bD d];rw[aa_ e,gJ,P6 s1,show sel.length+(j-sel.length)=j by omega]
 have G:∀(j:Nat),j<sel.length->∃i B h,sel[j]? =some i/\bl[i]? =some B/\ρ[i]? =some h/\oB[j]? =some h/\∃p,pre[j]? =some p/\rF p B:=λ j aA=>by
  have DU:j<(bQ id nF false pre dp).length:=by omega
  have xv:j<oB.length:=by omega
  obtain⟨i,B,d,ao,aW,_⟩:=aj.at_ j _ _ (aN DU) (aN xv);have H:j<pre.length:=by omega
  exact⟨i,B,_,d,ao,aW,aN xv,_,aN H,c j i B _ d ao (aN H)⟩
 have I:∀B:aH T.El,hL none B=B:=λ B=>by cases B<;>rfl
 have TC:∀(j:Nat)(B:aH T.El),(wQ bl sel cw eQ)[j]? =some B->∃q f,cw[j]? =some q/\(bQ id gq true cw eQ)[j]? =some (dG id gq true q f)/\B=hL ((sel[j]?).bind λ i=>nth bl i) (dG (jq sel bl.length) (fH bl sel cw) true q f):=λ j B y=>by
  rw[wQ,anj,cA]at y;obtain⟨jB,s,J⟩:=y;obtain⟨q,f,d,ao,aW⟩:=QK s;refine⟨q,f,d,aW _ _,?_⟩;subst ao;rw[<-J];cases aPA:sel[j]? with
  |none=>exact(I _).symm
  |some i=>rfl
 have K:∀(q:bK)(f:ux T.El q)(σ g σ' g':Nat->Nat)(u:Value),bF (dG σ g true q f) u=bF (dG σ' g' true q f) u:=λ q f σ g σ' g' u=>by cases q<;>rfl
 have cs:∀(i:Nat)(B:aH T.El)(h:Value),(gJ bl sel cw eQ)[i]? =some B->(gD ρ sel dT)[i]? =some h->(i∉sel/\bl[i]? =some B/\ρ[i]? =some h)\/
  ∃j q f,cw[j]? =some q/\dT[j]? =some h/\jq sel bl.length j=i/\(bQ id gq true cw eQ)[j]? =some (dG id gq true q f)/\B=hL ((sel[j]?).bind λ i=>nth bl i) (dG (jq sel bl.length) (fH bl sel cw) true q f):=λ i B h y L=>by
  rcases aE_ s1 iR bD y with⟨d,ao,aW⟩|⟨j,d,ao⟩
  ·left;rw[HA d (by rw[o.len];exact ao)]at L;exact⟨d,aW,L⟩
  ·right;obtain⟨q,f,m,n,l⟩:=TC j B d;have aA:j<cw.length:=(aR.1 m).1;have M:jq sel bl.length j=i:=by rcases ao with⟨_,ao⟩|⟨ao,aW⟩;exact H_ ao;rw[aa_ ao,aW]
   have N:=S6 j _ (aN (by omega:j<dT.length));rw[M,L]at N;simp only[aF]at N;exact⟨j,q,f,m,by rw[N];exact aN _,M,n,l⟩
 have Zk:∀k,q1 (gJ bl sel cw eQ) (gD ρ sel dT) k->(∃i B h,i∉sel/\bl[i]? =some B/\ρ[i]? =some h/\k∈bF B h)\/q1 (bQ id gq true cw eQ) dT k:=λ k c=>by obtain⟨i,B,h,s,J,t⟩:=c;rcases cs i B h s J with⟨d,ao,aW⟩|⟨j,q,f,d,ao,aW,bR,rfl⟩;exact .inl ⟨i,B,h,d,ao,aW,t⟩;rw[Ms,K q f _ _ id gq]at t;exact .inr ⟨j,_,h,bR,ao,t⟩
 have O:∀k,bj (kd X bl ρ sel) (bQ id gq true cw eQ) dT w' k->bj X (gJ bl sel cw eQ) (gD ρ sel dT) w' k:=λ k c=>⟨λ aa=>c.1 (.inl aa),λ P=>by
  rcases Zk k P with h |h;exact c.1 (.inr h)
  ·exact c.2.1 h,c.2.2⟩
 have Q:∀k,bj X bl ρ w k->bj X (gJ bl sel cw eQ) (gD ρ sel dT) w' k/\w'.heap[k]? =w.heap[k]? :=λ k c=>⟨⟨c.1,λ P=>by
  rcases Zk k P with⟨i,B,h,_,s,J,t⟩|h;exact c.2.1 ⟨i,B,h,s,J,t⟩
  ·rcases(r.lt k h).2 with e |e;exact c.2.1 (aj.own (uU.1 e))
   ·have:=c.2.2;omega,eN c.2.2 r.bZ.size⟩,r.bZ.block k c.2.2 λ e=>c.2.1 (aj.own (uU.1 e))⟩
 have R:∀j,gq j=b5 (bQ id gq true cw eQ)[j]? :=λ j=>by rw[HU];exact aAq j
 have k2:∀(j:Nat)(q:bK),cw[j]? =some q->j<sel.length->∃i B,sel[j]? =some i/\bl[i]? =some B/\rF q B:=λ j q aA al=>by obtain⟨i,B,h,d,ao,_,_,p,dx,eV⟩:=G j al;have:=L1 b_ dx aA;refine⟨i,B,d,ao,?_⟩;cases p<;>cases q<;>simp only[AE,hM]at this<;>cases B<;>simp only[rF]at eV⊢;rw[eV,bd this]
 have fT:∀j v,dT[j]? =some v->fH bl sel cw j=b5 (gJ bl sel cw eQ)[jq sel bl.length j]? :=λ j v aA=>by
  have kS:j<cw.length:=by have:=(aR.1 aA).1;omega
  rw[F j kS];have S:j<(wQ bl sel cw eQ).length:=by omega
  obtain⟨q,f,d,ao,aW⟩:=TC j _ (aN S);rw[aN S,aW];rw[fH,dj,ck,d];rcases gI j sel.length with al |al;obtain⟨i,B,m,n,l⟩:=k2 j q d al;rw[m];simp only[ae,dj,n,DE];cases q<;>cases B<;>simp only[rF]at l<;>simp[hL,dG,b5,fo];rw[gH al];simp only[Option.bind_none,I,jO];cases q<;>rfl
 have U:nu T ρ (gD ρ sel dT) bl (gJ bl sel cw eQ):=⟨λ i h hi=>by
  have bX:i<ρ.length:=(aR.1 hi).1;by_cases eC:i∈sel
  ·obtain⟨j,aA,rfl⟩:=iZ.1 eC;obtain⟨i,B,aE,d,ao,aW,bR,p,dx,eV⟩:=G j aA;have Uz:sel[j]=i:=by rw[aN aA]at d;exact eD d
   rw[Uz]at hi⊢;rw[hi]at aW;cases aW;obtain⟨h',bn,bi,ch,dh⟩:=aG.L.at_ j h bR;have kS:j<cw.length:=by omega
   have S:j<(wQ bl sel cw eQ).length:=by omega
   obtain⟨q,f,m,n,l⟩:=TC j _ (aN S);have y:=F j kS;rw[H_ d,aN S,l,d]at y;simp only[ae,dj,ao]at y;have av:=S6 j h' bn;rw[H_ d]at av;refine⟨h',av,bi,?_⟩;rw[y,ao];obtain⟨i2,su,m1,m2,m3⟩:=k2 j q m aA;rw[d]at m1;cases m1;rw[ao]at m2;cases m2;have z:b5 (bQ id nF false pre dp)[j]? =0:=by rw[HU,dx];cases p<;>rfl
   have A:b5 (bQ id gq true cw eQ)[j]? =fo true (some q):=by rw[HU,m]
   rw[z,A]at dh;cases q<;>cases B<;>simp only[rF]at m3;exact⟨cP _,λ _=>⟨(dh rfl).1,rfl,cP _,λ _=>rfl⟩⟩;subst m3;refine⟨by simp[hL,dG,b5],λ e=>⟨(dh (by simpa[hL,dG,b5]using e)).1,rfl,by simp[hL,dG,hs],λ e=>?_⟩⟩;simp[hL,dG,hs,BL]at e;exact⟨cP _,λ _=>⟨(dh rfl).1,rfl,cP _,λ _=>rfl⟩⟩;exact⟨gY _,λ e=>by simp[hL,dG,b5,fo]at e⟩;exact⟨by simp[hL,dG,b5],λ e=>by simp[hL,dG,b5,fo]at e⟩;exact⟨gY _,λ e=>by simp[hL,dG,b5,fo]at e⟩;exact⟨by simp[hL,dG,b5],λ e=>by simp[hL,dG,b5,fo]at e⟩
  ·have ag:(gJ bl sel cw eQ)[i]? =bl[i]? :=HA eC (by rw[<-o.len];exact bX);refine⟨h,by rw[HA eC bX];exact hi,λ _=>rfl,?_⟩;rw[ag]
   exact⟨cP _,λ _=>⟨rfl,rfl,cP _,λ _=>rfl⟩⟩⟩
 have V:∀(i:Nat)(B:aH T.El)(h:Value),i∉sel->bl[i]? =some B->ρ[i]? =some h->∀k∈bF B h,k<w.heap.size/\k∉sR (bQ id nF false pre dp) oB:=λ i B h hi s J k c=>by refine⟨(o.lt k ⟨i,B,h,s,J,c⟩).1,λ e=>?_⟩;obtain⟨j,C,u,m,n,l⟩:=uU.1 e;obtain⟨i',jB,z,A,Y,Z⟩:=aj.at_ j C u m n;have l:=Z _ _ l;refine o.bC i i' B jB h u s J A Y (λ e=>?_) k c l;subst e;exact hi (bH z)
 have auX:To X bl (gJ bl sel cw eQ) ρ (gD ρ sel dT) w w':=⟨Q,U,r.bZ.size,λ i B' h' hi L k c W3=>by
  rcases cs i B' h' hi L with⟨_,ao,aW⟩|⟨j,q,f,d,ao,aW,bR,rfl⟩;exact⟨B',h',ao,aW,c⟩
  ·rw[Ms,K q f _ _ id gq]at c;obtain⟨jB,aE,m,n,l⟩:=aG.oY j _ h' bR ao k c W3;obtain⟨i',B,z,A,Y,Z⟩:=aj.at_ j jB aE m n;rw[H_ z]at aW;subst aW
   exact⟨B,aE,A,Y,Z _ _ l⟩⟩
 refine⟨⟨o.bZ.trans r.bZ λ k c=>(o.lt k (aj.own (uU.1 c))).2,by rw[l1,cz],o.ij,λ k c=>?_,?_,?_⟩,auX,λ k c aB=>?_,λ pas da vs N=>alk O S6 R fT N⟩
 ·rcases Zk k c with⟨i,B,h,_,s,J,t⟩|h;have:=o.lt k ⟨i,B,h,s,J,t⟩;exact⟨eN this.1 r.bZ.size,this.2⟩;refine⟨(r.lt k h).1,?_⟩;rcases(r.lt k h).2 with e |e;exact(o.lt k (aj.own (uU.1 e))).2;exact .inr (hl o.bZ.size e)
 ·intro a b B C u v s J t a7 b3 k c E;have aej:∀(i:Nat)(D:aH T.El)(x:Value),i∉sel->bl[i]? =some D->ρ[i]? =some x->k∈bF D x->q1 (bQ id gq true cw eQ) dT k->False:=λ i D x hi d1 d2 d3 P=>by obtain⟨bq,bx⟩:=V i D x hi d1 d2 k d3;rcases(r.lt k P).2 with e |e;exact bx e;omega
  rcases cs a B u s J with⟨d,ao,aW⟩|⟨j,q,f,d,ao,aW,bR,rfl⟩;rcases cs b C v t a7 with⟨m,n,l⟩|⟨gN,EV,JB,m,n,l,f4,rfl⟩;exact o.bC a b B C u v ao aW n l b3 k c E;rw[Ms,K EV JB _ _ id gq]at E;exact aej a B u d ao aW c ⟨gN,_,v,f4,n,E⟩;rw[Ms,K q f _ _ id gq]at c;rcases cs b C v t a7 with⟨m,n,l⟩|⟨gN,EV,JB,m,n,l,f4,rfl⟩;exact aej b C v m n l E ⟨j,_,u,bR,ao,c⟩;rw[Ms,K EV JB _ _ id gq]at E;refine r.bC j gN _ _ u v bR ao f4 n (λ e=>?_) k c E;subst e;exact b3 (aW.symm.trans l)
 ·intro i B h s J;rcases cs i B h s J with⟨d,ao,aW⟩|⟨j,q,f,d,ao,aW,bR,rfl⟩;exact(o.ok i B h ao aW).later Q U λ k c=>by obtain⟨bq,bx⟩:=V i B h d ao aW k c;exact r.bZ.block k bq bx
  ·exact aGC O S6 R fT (r.ok j _ h bR ao)
 ·refine r.bZ.block k c λ e=>?_;obtain⟨j,C,u,m,n,l⟩:=uU.1 e;obtain⟨i',jB,z,A,Y,Z⟩:=aj.at_ j C u m n;have l:=Z _ _ l;exact aB i' (bH z) jB u A Y l
end
def o9:Nat->List (Nat×Nat)
 |0=>[]
 |n+1=>(n,n)::o9 n
theorem D'{n:Nat}{p:Nat×Nat}:p∈o9 n↔p.1<n/\p.2=p.1:=by
 induction n with
 |zero=>simp[o9]
 |succ n d=>simp only[o9,cH,d];constructor;rintro(rfl |⟨c,J⟩);exact⟨lM _,rfl⟩;exact⟨by omega,J⟩;rintro⟨c,J⟩;rcases gI p.1 n with e |e;exact .inr ⟨e,J⟩;left;obtain⟨a,b⟩:=p;simp only at c J e;simp only[cB];omega
theorem D_{n:Nat}:j' (o9 n):=⟨λ p a q b e=>by rw[(D'.1 a).2,(D'.1 b).2,e],λ p a q b e=>by rw[<-(D'.1 a).2,<-(D'.1 b).2,e]⟩
theorem uL:j' []:=⟨λ p a=>by simp at a,λ p a=>by simp at a⟩
def yE{El:Nat->Type}(n:Nat)(y:aL El):List (aL El):=match cj n 1 with
 |true=>[y]
 |false=>match y with
  | .u ys=>ys
  | .p (.tuple ⟨vs⟩)=>vs.map .p
  |y=>[y]
section
variable{T:bU}{W w w':World}{M0:List Nat}{X:Nat->Prop}{bl:List (aH T.El)}{ρ:List Value}
theorem Pz{El:Nat->Type}{pre c:List bK}(a:ky pre c=true){j:Nat}{p:bK}{B:aH El}(b:pre[j]? =some p)(h:p≠ .d->rF p B):rF p B:=h λ e=>by subst e;have aA:=(aR.1 b).1;have d:=L2 a;have:=L1 a b (aN (by omega));simp[AE]at this
theorem ayV{a6 b:List (Nat×Nat)}{post:Bool}:∀ {p:bK}{B:aH T.El}{d:ux T.El p},jh bl a6 post p B=some (d,b)->(p≠ .d->rF p B)/\(post=true->fo true (some p)=0 ->b5 (some B)=0)
 | .c ty ps,B,d,h=>by simp only[jh]at h;split at h;exact⟨λ _=>trivial,λ _ _=>rfl⟩;cases h
 | .r t same,B,d,h=>by
   simp only[jh]at h;split at h
   ·split at h
    ·rename_i ag;obtain⟨x,c,h⟩:=cA.1 h;obtain⟨e,_⟩:=alR c;refine⟨λ _=>e,λ f a=>?_⟩;subst f;cases same with
     |false=>simp[fo]at a
     |true=>simpa[b5]using bd (by simpa using ag)
    ·cases h
   ·cases h
 | .m kt vt,B,d,h=>by simp only[jh]at h;split at h;exact⟨λ _=>trivial,λ _ _=>rfl⟩;cases h
 | .d,B,d,h=>by simp only[jh]at h;split at h<;>first |exact⟨λ h=>absurd rfl h,λ _ a=>by simp[fo]at a⟩|cases h
theorem ahe{post:Bool}:∀ {ps:List bK}{a6 b:List (Nat×Nat)}{k:Nat}{d:cK T.El ps},o0 bl post a6 k ps=some (d,b)->∀(m:Nat)(p:bK),ps[m]? =some p->∃i B,(k+m,i)∈b/\bl[i]? =some B/\(p≠ .d->rF p B)/\(post=true->fo true (some p)=0 ->b5 (some B)=0)
 |[],a6,b,k,d,_,m,p,a=>by simp at a
 |q::r,a6,b,k,d,h,m,p,a=>by
  simp only[o0]at h;split at h
  ·rename_i i hi;split at h
   ·rename_i B c;split at h
    ·rename_i l n e;split at h
     ·rename_i o s J;cases h;have f:=(GJ J).1;have g:=(OD e).1;rw[dj]at c;cases m with
      |zero=>simp only[ee,aF]at a;subst a;exact⟨i,B,f _ (g _ (pc hi)),c,ayV e⟩
      |succ m=>obtain⟨i',su,j,ao,aW⟩:=ahe J m p (by simpa using a);exact⟨i',su,by rw[show k+(m+1)=k+1+m by omega];exact j,ao,aW⟩
     ·cases h
    ·cases h
   ·cases h
  ·cases h
theorem DC{a6:List (Nat×Nat)}(aJ:j' a6){post:Bool}{pas:List cM}{pbs:List bK}{ys:List (aL T.El)}{a:dw T.El pas×cK T.El pbs}{sel:List Nat}(h:iQ bl a6 post pas pbs ys=some (a,sel)) :
 sel.length=pbs.length/\∀(j i:Nat)(p:bK),sel[j]? =some i->pbs[j]? =some p->∃B,bl[i]? =some B/\(p≠ .d->rF p B)/\(post=true->fo true (some p)=0 ->b5 (some B)=0):=by
 unfold iQ at h
 split at h
 ·rename_i k l b;split at h;rename_i m n J;split at h;rename_i o c q;simp only[aF,cB]at h;obtain⟨rfl,rfl⟩:=h;have d:=(GJ J).2 ((OC b).2 aJ);obtain⟨l1,e⟩:=XM c;refine⟨l1,λ j i p aA f=>?_⟩;obtain⟨i',B,g,ao,aW⟩:=ahe J j p f;have:=d.fn _ g _ (e j i aA) rfl;simp only at this;subst this;exact⟨B,ao,aW⟩;cases h;cases h
 ·cases h
theorem Yt{pre a:List bK}{dp:cK T.El pre}{f:cK T.El a}{nF gq:Nat->Nat}{s C Cr:List Value}{t:List (aH T.El)}{sel:List Nat}(I:s.length=pre.length)(b:To X (bQ id nF false pre dp) t s Cr w w')(aj:ny t Cr (bQ id gq true a f) C sel)
 (u:∀j,j<pre.length->sel[j]? =some j)(Y:sel.length=a.length)(D:ky pre a=true)(g:∀(j i:Nat)(p:bK),sel[j]? =some i->a[j]? =some p->∃B,t[i]? =some B/\(p≠ .d->rF p B)/\(true=true->fo true (some p)=0 ->b5 (some B)=0)) :
 To X (bQ id nF false pre dp) (bQ id gq true a f) s C w w':=by
 have J:=L2 D
 refine⟨λ k g=>⟨aj.LR (b.F k g).1,(b.F k g).2⟩,⟨λ i h hi=>?_⟩,b.sz,λ i B' h' hi K k v L=>?_⟩
 ·have c:i<pre.length:=by have:=(aR.1 hi).1;omega
  obtain⟨h',M,N,Z,l⟩:=b.L.at_ i h hi;have m:i<(bQ id gq true a f).length:=by rw[nZ];omega
  obtain⟨i',B,n,ao,aW,bR⟩:=aj.at_ i _ _ (aN m) (aN (by rw[aj.len];exact m));rw[u i c]at n;cases n;rw[M]at aW;have aW:=eD aW;refine⟨h',by rw[aN (by rw[aj.len];exact m),aW],N,?_⟩;have E:i<pre.length:=c;have F:=aN E;have x:i<a.length:=by omega
  have y:=aN x;have kk:=L1 D F y;obtain⟨su,O,m2,o⟩:=g i i _ (u i c) y;obtain⟨P,z⟩:∃B,(bQ id nF false pre dp)[i]? =some B:=⟨_,aN (by rw[nZ];exact E)⟩
  obtain⟨Q,G⟩:∃B,(bQ id gq true a f)[i]? =some B:=⟨_,aN m⟩
  obtain⟨pp,dU,q,r,_⟩:=QK z;obtain⟨R,JB,H,S,_⟩:=QK G;rw[F]at q;rw[y]at H;subst r;subst S;have A:=eD q;have d:=eD H;rw[A,d]at kk;rw[d]at o;rw[z,G];rw[z,O]at l;cases pp<;>cases R<;>simp only[AE,hM]at kk;exact⟨cP _,λ _=>⟨(l (o rfl rfl)).1,rfl,cP _,λ _=>rfl⟩⟩;exact⟨gY _,λ e=>by simp[dG,b5,fo]at e⟩;have:=bd kk;subst this;refine⟨by simp[dG,b5,fo],λ e=>⟨(l ?_).1,rfl,by simp[dG,hs,BL],λ e=>by simp[dG,hs,BL]at e⟩⟩;have:=o rfl (by simpa[dG,b5,fo]using e);simpa[dG,b5,fo]using this;exact⟨by simp[dG,b5,fo],λ e=>by simp[dG,b5,fo]at e⟩;exact⟨cP _,λ _=>⟨(l (o rfl rfl)).1,rfl,cP _,λ _=>rfl⟩⟩;exact⟨gY _,λ e=>by simp[dG,b5,fo]at e⟩
 ·obtain⟨i',B,n,ao,aW,bR⟩:=aj.at_ i B' h' hi K;have v:=bR _ _ v;obtain⟨jB,U,q,r,V⟩:=b.oY i' B h' ao aW k v L;have c:i'<pre.length:=by have:=(aR.1 r).1;omega
  have:=aj.inj i i' i' n (u i' c);subst this;exact⟨jB,U,q,r,V⟩
end
section
variable{El:Nat->Type}
def JN(pbs:List bK)(p:jC)(bl:List (aH El))(y:aL El):List (aH El)×aL El:=match p with
 | .l _=>gK bl y
 | .R j=>match y,nth pbs j with
   | .p (.slice none 0 0),some (.r t _)=>(bl++[.r t 0 0 []],.r bl.length 0)
   | .v i g (.ofNat 0) hi,_=>match nth bl i with
     |some (.r t a _ l)=>match cj g a with
      |true=>(bl.set i (.r t (a+1) 0 (l.take hi.toNat)),.r i (a+1))
      |false=>(bl,y)
     |_=>(bl,y)
   |_,_=>(bl,y)
 |_=>(bl,y)
def rl(pbs:List bK):List jC->List (aH El)->List (aL El)->List (aH El)×List (aL El)
 |p::r,bl,y::ys=>match JN pbs p bl y with
  |(bO,a)=>match rl pbs r bO ys with
   |(b,c)=>(b,a::c)
 |_,bl,ys=>(bl,ys)
def JL(pbs:List bK)(p:cM)(bl:List (aH El))(y:aL El):List (aH El)×aL El:=match p with
 | .p p=>JN pbs p bl y
 | .a ps=>match l_ y with
   |true=>match rl pbs ps bl (cellsOf y)with
    |(bO,ys)=>(bO,.a ys)
   |false=>(bl,y)
 | .f _ ps=>match y with
   | .f g cs=>match rl pbs ps bl cs with
     |(bO,ys)=>(bO,.f g ys)
   |_=>(bl,y)
def oT(pbs:List bK):List cM->List (aH El)->List (aL El)->List (aH El)×List (aL El)
 |p::r,bl,y::ys=>match JL pbs p bl y with
  |(bO,a)=>match oT pbs r bO ys with
   |(b,c)=>(b,a::c)
 |_,bl,ys=>(bl,ys)
def w4(pbs:List bK):List (Nat×Nat)->Nat->List bK->List (aH El)->List (aH El)
 |a6,k,.c ty ps::r,bl=>match cI a6 k with
  |some i=>match nth bl i with
   |some (.c _ cs)=>match rl pbs ps bl cs with
    |(bO,a)=>match nth bO i with
     |some (.c b _)=>match o1 (bO.set i (.c b a)) a6 ps a with
      |some (_,c)=>w4 pbs c (k+1) r (bO.set i (.c b a))
      |none=>bO.set i (.c b a)
     |_=>bl
   |_=>bl
  |none=>bl
 |a6,k,_::r,bl=>w4 pbs a6 (k+1) r bl
 |_,_,[],bl=>bl
def gW(a6:List (Nat×Nat))(pas:List cM)(pbs:List bK)(bl:List (aH El))(ys:List (aL El)):List (aH El)×List (aL El):=match oT pbs pas bl ys with
 |(bO,a)=>match mE bO a6 pas a with
  |some (_,b)=>(w4 pbs b 0 pbs bO,a)
  |none=>(bO,a)
end
section
variable{T:bU}{W w:World}{M0:List Nat}{X:Nat->Prop}{bl bl':List (aH T.El)}{ρ:List Value}{pbs:List bK}
theorem Mem.awb(a:Mem T W M0 X bl ρ w){i t g k:Nat}{l:List (T.El t)}{A:Option Addr}{c q:Nat}(hi:bl[i]? =some (.r t g k l))(b:ρ[i]? =some (.slice A l.length c))(d:q<=l.length) :
 Mem T W M0 X (bl.set i (.r t (g+1) 0 (l.take q))) (ρ.set i (.slice A q c)) w/\To X bl (bl.set i (.r t (g+1) 0 (l.take q))) ρ (ρ.set i (.slice A q c)) w w:=by
 obtain⟨cu,n,xs,j,ao,aW⟩:=a.ok i _ _ hi b
 simp only[Value.slice.injEq,true_and]at j
 obtain⟨rfl,rfl⟩:=j
 have ad:∀k'∈bF (aH.r (El:=T.El) t (g+1) 0 (l.take q)) (.slice A q c),k'∈bF (aH.r t g k l) (.slice A l.length c)\/(w.heap.size<=k'/\k'<w.heap.size):=λ k' m=>by left;revert m;cases A<;>cases c<;>simp[bF,ag]
 have f:=a.E5 (B':=aH.r t (g+1) 0 (l.take q)) (h':=.slice A q c) (w':=w) hi b (br.refl _ _) ad ⟨λ h=>absurd trivial h,Nat.le_succ _,λ e=>by simp[b5]at e⟩
 refine⟨a.dD hi b (br.refl _ _) ad f ⟨A,c,xs.take (q*(T.ty t).size),by rw[gl,l2 d],?_,?_⟩,f⟩
 ·rw[gl,l2 d];exact ao.short d
 ·have:=vN 0 q (po _ f.F aW);simpa using this
theorem agS(a:Mem T W M0 X bl ρ w){p:jC}{y e3:aL T.El}{v:Value}(h:JN pbs p bl y=(bl',e3))(b:ax T (bj X bl ρ w) w ρ bl y v):∃ρ',Mem T W M0 X bl' ρ' w/\To X bl bl' ρ ρ' w w/\ax T (bj X bl' ρ' w) w ρ' bl' e3 v:=by
 have same:(bl,y)=(bl',e3)->∃ρ',Mem T W M0 X bl' ρ' w/\To X bl bl' ρ ρ' w w/\ax T (bj X bl' ρ' w) w ρ' bl' e3 v:=λ h=>by simp only[cB]at h;obtain⟨rfl,rfl⟩:=h;exact⟨ρ,a,.refl,b⟩
 unfold JN at h;split at h;obtain⟨s,J,x⟩:=ag4 a h b;exact⟨ρ,s,J,x⟩
 ·split at h
  ·rename_i t _ _;simp only[cB]at h;obtain⟨rfl,rfl⟩:=h;simp only[ax]at b;subst b;have ad:∀k∈bF (aH.r (El:=T.El) t 0 0 []) (.slice none 0 0),w.heap.size<=k/\k<w.heap.size:=λ k z=>by simp[bF,ag]at z
   have C:=a.push (B:=aH.r t 0 0 []) (h:=.slice none 0 0) (br.refl _ _) ad ⟨none,0,[],rfl,.inr ⟨rfl,rfl,none,rfl⟩,rfl⟩;refine⟨_,C,a.BJ (br.refl _ _) ad,?_⟩;simp only[ax];refine⟨trivial,.slice none 0 0,by rw[<-a.len];simp,gY _,λ _=>rfl⟩
  ·rename_i i g hi;split at h
   ·rename_i t H k l d;rw[dj]at d;split at h
    ·rename_i ag;simp only[cB]at h;obtain⟨rfl,rfl⟩:=h;simp only[ax]at b;obtain⟨_,u,e,I,o⟩:=b;rw[d]at o;obtain⟨A,n,c,B,r,K,L,D,f,f6,M⟩:=o (bd ag);obtain⟨cu,N,xs,j,E,O⟩:=a.ok i _ _ d e;rw[r]at j;simp only[Value.slice.injEq]at j;obtain⟨rfl,rfl,rfl⟩:=j;rw[r]at e;have m:=f6 rfl;subst m;have f:v= .slice B hi.toNat c:=by simpa using f
     subst f;obtain⟨F,G⟩:=a.awb d e (q:=hi.toNat) (by have:hi<=(l.length:Int):=D;omega);refine⟨_,F,G,?_⟩;simp only[ax];refine⟨trivial,_,gu (aR.1 e).1,?_,λ _=>rfl⟩;rw[gu (aR.1 d).1];exact cP _
    ·exact same h
   ·exact same h
  ·exact same h
 ·exact same h
theorem Og:∀ {ps:List jC}{ys b:List (aL T.El)}{bl bl':List (aH T.El)}{ρ:List Value}{vs:List Value},Mem T W M0 X bl ρ w->rl pbs ps bl ys=(bl',b)->a_ T (bj X bl ρ w) w ρ bl ys vs->∃ρ',Mem T W M0 X bl' ρ' w/\To X bl bl' ρ ρ' w w/\a_ T (bj X bl' ρ' w) w ρ' bl' b vs
 |[],ys,b,bl,bl',ρ,vs,c,h,a=>by simp only[rl,cB]at h;obtain⟨rfl,rfl⟩:=h;exact⟨ρ,c,.refl,a⟩
 |_::_,[],b,bl,bl',ρ,vs,c,h,a=>by simp only[rl,cB]at h;obtain⟨rfl,rfl⟩:=h;exact⟨ρ,c,.refl,a⟩
 |p::r,y::ys,b,bl,bl',ρ,vs,c,h,a=>by
  simp only[a_]at a;obtain⟨u,us,rfl,g,i⟩:=a;simp only[rl]at h;cases d:JN pbs p bl y with
  |mk bO n=>
   rw[d]at h;cases J:rl pbs r bO ys with
   |mk o q=>rw[J]at h;simp only[cB]at h;obtain⟨rfl,rfl⟩:=h;obtain⟨s,j,e,v1⟩:=agS c d g;obtain⟨k,l,f,m⟩:=Og j J (e.vs i);refine⟨k,l,e.trans f,?_⟩;simp only[a_];exact⟨u,us,rfl,f.v v1,m⟩
theorem ayj(c:Mem T W M0 X bl ρ w){p:cM}{y e3:aL T.El}{v:Value}(h:JL pbs p bl y=(bl',e3))(a:ax T (bj X bl ρ w) w ρ bl y v):∃ρ',Mem T W M0 X bl' ρ' w/\To X bl bl' ρ ρ' w w/\ax T (bj X bl' ρ' w) w ρ' bl' e3 v:=by
 have same:(bl,y)=(bl',e3)->∃ρ',Mem T W M0 X bl' ρ' w/\To X bl bl' ρ ρ' w w/\ax T (bj X bl' ρ' w) w ρ' bl' e3 v:=λ h=>by simp only[cB]at h;obtain⟨rfl,rfl⟩:=h;exact⟨ρ,c,.refl,a⟩
 unfold JL at h;split at h;exact agS c h a
 ·rename_i ps;split at h
  ·rename_i ap;cases b:rl pbs ps bl (cellsOf y)with
   |mk bO ys=>rw[b]at h;simp only[cB]at h;obtain⟨rfl,rfl⟩:=h;obtain⟨d,e,f,v1⟩:=Og c b (pV a);refine⟨d,e,f,?_⟩;rw[KX (E:=⟨default,T,[],true,[],0,λ _=>[]⟩) ap a];simp only[ax];exact⟨_,rfl,v1⟩
  ·exact same h
 ·rename_i i ps;split at h
  ·rename_i g cs;cases b:rl pbs ps bl cs with
   |mk bO ys=>rw[b]at h;simp only[cB]at h;obtain⟨rfl,rfl⟩:=h;simp only[ax]at a;obtain⟨vs,rfl,a⟩:=a;obtain⟨d,e,f,v1⟩:=Og c b a;refine⟨d,e,f,?_⟩;simp only[ax];exact⟨_,rfl,v1⟩
  ·exact same h
theorem agR:∀ {ps:List cM}{ys b:List (aL T.El)}{bl bl':List (aH T.El)}{ρ:List Value}{vs:List Value},Mem T W M0 X bl ρ w->oT pbs ps bl ys=(bl',b)->a_ T (bj X bl ρ w) w ρ bl ys vs->∃ρ',Mem T W M0 X bl' ρ' w/\To X bl bl' ρ ρ' w w/\a_ T (bj X bl' ρ' w) w ρ' bl' b vs
 |[],ys,b,bl,bl',ρ,vs,c,h,a=>by simp only[oT,cB]at h;obtain⟨rfl,rfl⟩:=h;exact⟨ρ,c,.refl,a⟩
 |_::_,[],b,bl,bl',ρ,vs,c,h,a=>by simp only[oT,cB]at h;obtain⟨rfl,rfl⟩:=h;exact⟨ρ,c,.refl,a⟩
 |p::r,y::ys,b,bl,bl',ρ,vs,c,h,a=>by
  simp only[a_]at a;obtain⟨u,us,rfl,g,i⟩:=a;simp only[oT]at h;cases d:JL pbs p bl y with
  |mk bO n=>
   rw[d]at h;cases J:oT pbs r bO ys with
   |mk o q=>rw[J]at h;simp only[cB]at h;obtain⟨rfl,rfl⟩:=h;obtain⟨s,j,e,v1⟩:=ayj c d g;obtain⟨k,l,f,m⟩:=agR j J (e.vs i);refine⟨k,l,e.trans f,?_⟩;simp only[a_];exact⟨u,us,rfl,f.v v1,m⟩
theorem Mem.aJa(e:Mem T W M0 X bl ρ w){i g ty:Nat}{cs a:List (aL T.El)}{vs:List Value}(hi:bl[i]? =some (.c ty cs))(c:ρ[i]? =some (.pointer (some ⟨g,0,none⟩)))(hc:w.heap[g]? =some (.cells ⟨vs⟩ ty (0,0)))(h:a_ T (bj X bl ρ w) w ρ bl a vs):Mem T W M0 X (bl.set i (.c ty a)) ρ w/\To X bl (bl.set i (.c ty a)) ρ ρ w w:=by have b:=e.E5 (B':=aH.c ty a) (h':=.pointer (some ⟨g,0,none⟩)) (w':=w) hi c (br.refl _ _) (λ q d=>.inl d) ⟨λ _=>rfl,cP _,λ _=>⟨rfl,rfl,cP _,λ _=>rfl⟩⟩;have f:=e.dD (B':=aH.c ty a) (h':=.pointer (some ⟨g,0,none⟩)) (w':=w) hi c (br.refl _ _) (λ q d=>.inl d) b ⟨g,vs,rfl,hc,b.vs h⟩;rw[H9 c]at f b;exact⟨f,b⟩
theorem JM:∀ {ps:List bK}{a6:List (Nat×Nat)}{k:Nat}{bl:List (aH T.El)}{ρ:List Value},Mem T W M0 X bl ρ w->∃ρ',Mem T W M0 X (w4 pbs a6 k ps bl) ρ' w/\To X bl (w4 pbs a6 k ps bl) ρ ρ' w w
 |[],a6,k,bl,ρ,a=>⟨ρ,a,.refl⟩
 | .r _ _::r,a6,k,bl,ρ,a=>by simp only[w4];exact JM a
 | .m _ _::r,a6,k,bl,ρ,a=>by simp only[w4];exact JM a
 | .d::r,a6,k,bl,ρ,a=>by simp only[w4];exact JM a
 | .c ty ps::r,a6,k,bl,ρ,a=>by
   simp only[w4];split
   ·rename_i i hi;split
    ·rename_i t0 cs b;rw[dj]at b;cases o:rl pbs ps bl cs with
     |mk bO v=>simp only;split;rename_i x y c;rw[dj]at c;obtain⟨u,h⟩:=a.tm b;obtain⟨g,vs,rfl,hc,p⟩:=a.ok i _ u b h;obtain⟨q,j,d,v1⟩:=Og a o p;obtain⟨z,e,s,_⟩:=d.L.at_ i _ h;rw[s (by simp[lv])]at e;obtain⟨g',A,l,ao,_⟩:=j.ok i _ _ c e;simp only[Value.pointer.injEq,aF,Addr.mk.injEq,and_true]at l;subst l;rw[hc]at ao;simp only[aF,Obj.cells.injEq,Array.mk.injEq,and_true]at ao;obtain⟨rfl,rfl⟩:=ao;obtain⟨m,n⟩:=j.aJa c e hc v1;split;obtain⟨f,t,t3⟩:=JM m (ps:=r);exact⟨f,t,(d.trans n).trans t3⟩;exact⟨q,m,d.trans n⟩;exact⟨ρ,a,.refl⟩
    ·exact⟨ρ,a,.refl⟩
   ·exact⟨ρ,a,.refl⟩
theorem w5(f:Mem T W M0 X bl ρ w){a6:List (Nat×Nat)}{pas:List cM}{ys a:List (aL T.El)}{vs:List Value}(h:gW a6 pas pbs bl ys=(bl',a))(g:a_ T (bj X bl ρ w) w ρ bl ys vs):∃ρ',Mem T W M0 X bl' ρ' w/\To X bl bl' ρ ρ' w w/\a_ T (bj X bl' ρ' w) w ρ' bl' a vs:=by
 unfold gW at h;cases b:oT pbs pas bl ys with
 |mk bO l=>rw[b]at h;obtain⟨i,c,d,v1⟩:=agR f b g;simp only at h;split at h;simp only[cB]at h;obtain⟨rfl,rfl⟩:=h;obtain⟨j,k,e⟩:=JM c (pbs:=pbs) (ps:=pbs);exact⟨j,k,d.trans e,e.vs v1⟩;simp only[cB]at h;obtain⟨rfl,rfl⟩:=h;exact⟨i,c,d,v1⟩
end
structure eA (T:bU) where
 pas:List cM
 pbs:List bK
 eJ:List cM
 du:List bK
 fn:dw T.El pas×cK T.El pbs->Option (dw T.El eJ×cK T.El du)
def eA.run(E:Env)(c:eA E.T)(ys:List (aL E.T.El))(bl:List (aH E.T.El)):D (fE E.T.El):=match gW [] c.pas c.pbs bl ys with
 |(bO,a)=>match ky c.pbs c.du,iQ bO [] false c.pas c.pbs a with
  |true,some (d,sel)=>.op (c.fn d) λ r=>.ok ⟨.ret (rU (gG (jq sel bO.length) (fH bO sel c.du) c.eJ r.1)),gJ bO sel c.du r.2,sel⟩
  |_,_=>.no
def eA.fin{T:bU}(c:eA T)(r:fE T.El):Option (dw T.El c.eJ×cK T.El c.du):=match r.e with
 | .ret y=>match gW (o9 c.pbs.length) c.eJ c.du r.bl (yE c.eJ.length y)with
   |(bO,a)=>match iQ bO (o9 c.pbs.length) true c.eJ c.du a with
    |some (d,_)=>some d
    |none=>none
 | .Bk _=>none
def eA.Eq(E:Env)(bw:fz E)(LE:lP E)(f:Nat)(c:eA E.T):Prop:=∀(da:dw E.T.El c.pas)(db:cK E.T.El c.pbs),(oV E bw LE f (gG id (ck false c.pbs) c.pas da) (bQ id (ck false c.pbs) false c.pbs db)).run c.fin=c.fn (da,db)
section
variable{T:bU}{F:Nat->Prop}{w:World}{ρ:List Value}{bl:List (aH T.El)}
theorem Wh:∀ {ps:List cM}{ys:List (aL T.El)}{a6 a:List (Nat×Nat)}{d:dw T.El ps},mE bl a6 ps ys=some (d,a)->ys.length=ps.length
 |[],[],a6,a,d,h=>rfl
 |p::r,y::ys,a6,a,d,h=>by simp only[mE]at h;split at h;split at h;rename_i J;simp[Wh J];cases h;cases h
 |[],y::ys,a6,a,d,h=>by simp[mE]at h
 |p::r,[],a6,a,d,h=>by simp[mE]at h
theorem akV:∀ {vs:List Value},vs.length≠1 ->pack vs= .tuple ⟨vs⟩
 |[],_=>rfl
 |[v],h=>by simp at h
 |v::u::r,_=>rfl
theorem anh{n:Nat}{y:aL T.El}{v:Value}(a:(yE n y).length=n)(h:ax T F w ρ bl y v):∃vs,a_ T F w ρ bl (yE n y) vs/\pack vs=v:=by
 unfold yE at a⊢;split at a;refine⟨[v],?_,rfl⟩;simp only[a_];exact⟨v,[],rfl,h,rfl⟩
 ·rename_i ag;have b:n≠1:=λ e=>by subst e;simp at ag
  split at a;simp only[ax]at h;obtain⟨vs,rfl,J⟩:=h;exact⟨vs,J,akV (by rw[J.len,a];exact b)⟩;simp only[ax]at h;subst h;rename_i vs;exact⟨vs,Q6 (E:=⟨default,T,[],true,[],0,λ _=>[]⟩) vs,akV (by simpa using(by simpa using a:vs.length=n)▸b)⟩;simp at a;exact absurd a.symm b
end
section
variable{E:Env}{bw:fz E}{LE:lP E}{f:Nat}
theorem agQ{pbs:List bK}:∀ {ps:List cM}{ys a:List (aL E.T.El)}{bl bl':List (aH E.T.El)},oT pbs ps bl ys=(bl',a)->a.length=ys.length
 |[],ys,a,bl,bl',h=>by simp only[oT,cB]at h;rw[h.2]
 |_::_,[],a,bl,bl',h=>by simp only[oT,cB]at h;rw[<-h.2]
 |p::r,y::ys,a,bl,bl',h=>by
  simp only[oT]at h;cases b:JL pbs p bl y with
  |mk bO c=>
   rw[b]at h;cases J:oT pbs r bO ys with
   |mk d e=>rw[J]at h;simp only[cB]at h;rw[<-h.2,di,agQ J,di]
theorem agT{a6:List (Nat×Nat)}{pas:List cM}{pbs:List bK}{ys a:List (aL E.T.El)}{bl bl':List (aH E.T.El)}(h:gW a6 pas pbs bl ys=(bl',a)):a.length=ys.length:=by
 unfold gW at h;cases b:oT pbs pas bl ys with
 |mk bO c=>rw[b]at h;simp only at h;split at h<;>(simp only[cB]at h;rw[<-h.2];exact agQ b)
def eA.Tu(E:Env)(bw:fz E)(LE:lP E)(f:Nat)(c:eA E.T):Prop:=∀(da:dw E.T.El c.pas)(db:cK E.T.El c.pbs)(F:Nat->Prop)(w:World)(ρ:List Value)(bl:List (aH E.T.El))(vs:List Value),a_ E.T F w ρ bl (gG id (ck false c.pbs) c.pas da) vs ->
 ∃ys,a_ E.T F w ρ bl ys vs/\∀r,c.fn (da,db)=some r->(oV E bw LE f ys (bQ id (ck false c.pbs) false c.pbs db)).run c.fin=some r
theorem eA.Eq.v{c:eA E.T}(h:c.Eq E bw LE f):c.Tu E bw LE f:=λ da db _ _ _ _ _ a=>⟨_,a,λ _ b=>(h da db).trans b⟩
def eA.oF(E:Env)(bw:fz E)(LE:lP E)(f:Nat)(c:eA E.T):Prop:=∀(da:dw E.T.El c.pas)(db:cK E.T.El c.pbs) r,c.fn (da,db)=some r->(oV E bw LE f (gG id (ck false c.pbs) c.pas da) (bQ id (ck false c.pbs) false c.pbs db)).run c.fin=some r
theorem eA.oF.v{c:eA E.T}(h:c.oF E bw LE f):c.Tu E bw LE f:=λ da db _ _ _ _ _ a=>⟨_,a,λ r b=>h da db r b⟩
def eA.Cu(E:Env)(f:Nat)(c:eA E.T):Prop:=∀(da:dw E.T.El c.pas)(db:cK E.T.El c.pbs) fa,c.fn (da,db)=some fa->∀(W:World)(M0:List Nat)(X:Nat->Prop)(ρ:List Value)(w:World)(vs:List Value),Mem E.T W M0 X (bQ id (ck false c.pbs) false c.pbs db) ρ w->a_ E.T (bj X (bQ id (ck false c.pbs) false c.pbs db) ρ w) w ρ (bQ id (ck false c.pbs) false c.pbs db) (gG id (ck false c.pbs) c.pas da) vs ->
 ∃a,c.fin a=some fa/\Calls E.P f ⟨vs⟩ w λ e w'=>∃ρ',Mem E.T W M0 X a.bl ρ' w'/\To X (bQ id (ck false c.pbs) false c.pbs db) a.bl ρ ρ' w w'/\hC (bQ id (ck false c.pbs) false c.pbs db) ρ w w' a.ws/\Dd E X a.bl ρ' w' a.e e
theorem NR{c:eA E.T}(M:c.Cu E f):kH E f (c.run E):=by
 intro ys N r b W M0 X ρ0 w vs O _ cc;unfold eA.run at b;cases F:gW [] c.pas c.pbs N ys with
 |mk bl cO=>
 rw[F]at b;obtain⟨ρ,o,iW,P⟩:=w5 O F cc;simp only at b;split at b
 ·rename_i d sel q G;obtain⟨da,db⟩:=d;obtain⟨fa,Q,J⟩:=b;obtain⟨H,I⟩:=fa;have J:(⟨.ret (rU (gG (jq sel bl.length) (fH bl sel c.du) c.eJ H)),gJ bl sel c.du I,sel⟩:fE E.T.El)=r:=J;subst J;obtain⟨aj,_,R⟩:=u0 o uL G;obtain⟨S,g⟩:=DC uL G;obtain⟨ev,T⟩:=R (bj (kd X bl ρ sel) (bQ id (ck false c.pbs) false c.pbs db) (ha ρ sel) w) λ k g=>aj.H2 g;have U:=aj.enter o T;obtain⟨s,a,hc⟩:=M da db _ Q _ _ _ _ _ vs U (ev vs P);refine hc.mono λ e w' V=>?_;obtain⟨t,Y,u,lG,qv⟩:=V;unfold eA.fin at a;cases K:s.e with
  |Bk y=>rw[K]at a;cases a
  |ret y=>
   rw[K]at a qv;simp only at a;cases e with
   |returned v=>
    have qv:ax E.T _ w' t s.bl y v:=qv;cases x:gW (o9 c.pbs.length) c.eJ c.du s.bl (yE c.eJ.length y)with
    |mk Js k_=>
    rw[x]at a;simp only at a;split at a
    ·rename_i zR z m;have a:=eD a;subst a;have n:(yE c.eJ.length y).length=c.eJ.length:=by rw[<-agT x];unfold iQ at m;split at m;rename_i Z;exact Wh Z;cases m
     obtain⟨us,A,nd⟩:=anh n qv;obtain⟨Cr,hp,C,A⟩:=w5 Y x A;have Mn:=u.trans C;obtain⟨D,s8,KH⟩:=u0 hp D_ m;obtain⟨Ag,Ku⟩:=DC D_ m;obtain⟨D6,sV⟩:=KH (bj (kd X bl ρ sel) (bQ id (ck true c.du) true c.du I) (ha Cr z) w') λ k g=>D.LR g;have W8:=D.leave hp sV;have Xu:=Yt (by rw[aj.len,nZ]) Mn D (λ j aA=>s8 (j,j) (D'.2 ⟨aA,rfl⟩)) Ag q λ j i p h h'=>by obtain⟨B,l,ao,aW⟩:=Ku j i p h h';exact⟨B,l,ao,aW⟩
     obtain⟨bO,dF,e5,ff⟩:=back (gq:=ck true c.du) o aj S (λ j i B p h h' L=>by obtain⟨B',l,ao,_⟩:=g j i p h L;rw[h']at l;cases l;exact Pz q L ao) q (λ i hi=>by obtain⟨j,aA,rfl⟩:=iZ.1 hi;obtain⟨B,l,_⟩:=g j _ _ (aN aA) (aN (by omega:j<c.pbs.length));exact(aR.1 l).1) (λ j=>rfl) W8 Xu;refine⟨_,bO,iW.trans dF,?_,?_⟩;have:=hC.nil.bI iW e5;rwa [hv]at this
     ·show ax E.T _ w' _ _ (rU _) v
      rw[<-nd];exact Zl (ff c.eJ H us (D6 us A))
    ·cases a
   |panicked zO=>exact qv.elim
   |outgrown=>exact qv.elim
 ·exact b.elim
theorem Gt(a8:dl E)(b:lO E bw)(d:wD E LE)(e:E.cY=[]){c:eA E.T}(h:c.Tu E bw LE f):kH E f (c.run E):=NR λ da db fa i W M0 X ρ w vs j k=>by
 obtain⟨l,m,heq⟩:=h da db _ _ _ _ _ k;obtain⟨n,o,p⟩:=D.tT (heq _ i);have q:∀ {r bl' ρ' w'},I3 E r bl' ρ' w':=λ{_ _ _ _} g y a=>by rw[e]at a;simp[cI]at a
 exact⟨n,p,((Oi a8 b d).ok _ _ _ _ o).2 _ _ _ _ _ vs j q m⟩
theorem Ul(a8:dl E)(a:lO E bw)(b:wD E LE)(d:E.cY=[]){c:eA E.T}(e:c.Eq E bw LE f):kH E f (c.run E):=Gt a8 a b d e.v
end
structure nw where
 eJ:List cM
 du:List bK
@[reducible] def FZ(El:Nat->Type)(w:nw):Type:=dw El w.eJ×cK El w.du
@[reducible] def za(El:Nat->Type):List nw->Type
  |[]=>Empty
  |[w]=>FZ El w
  |w::v::r=>FZ El w⊕za El (v::r)
structure lc (T:bU) where
 pas:List cM
 pbs:List bK
 ws:List nw
 fn:dw T.El pas×cK T.El pbs->Option (za T.El ws)
def LW(E:Env)(bl:List (aH E.T.El))(sel:List Nat)(w:nw)(r:FZ E.T.El w):D (fE E.T.El):=.ok ⟨.ret (rU (gG (jq sel bl.length) (fH bl sel w.du) w.eJ r.1)),gJ bl sel w.du r.2,sel⟩
def H4(E:Env)(bl:List (aH E.T.El))(sel:List Nat):(ws:List nw)->Option (za E.T.El ws)->D (fE E.T.El)
 |[],_=>.no
 |[w],o=>.op o λ d=>LW E bl sel w d
 |w::v::r,o=>.vT o (λ d=>LW E bl sel w d) (λ q=>H4 E bl sel (v::r) (some q))
def Lu(pbs:List bK):List nw->Bool
 |[]=>true
 |w::r=>ky pbs w.du&&Lu pbs r
def lc.run(E:Env)(c:lc E.T)(ys:List (aL E.T.El))(bl:List (aH E.T.El)):D (fE E.T.El):=match gW [] c.pas c.pbs bl ys with
 |(bO,a)=>match Lu c.pbs c.ws,iQ bO [] false c.pas c.pbs a with
  |true,some (d,sel)=>H4 E bO sel c.ws (c.fn d)
  |_,_=>.no
def QY{El:Nat->Type}(gZ:Nat)(y:aL El)(bl:List (aH El))(w:nw):Option (FZ El w):=match gW (o9 gZ) w.eJ w.du bl (yE w.eJ.length y)with
 |(bO,a)=>match iQ bO (o9 gZ) true w.eJ w.du a with
  |some (d,_)=>some d
  |none=>none
def Rg{El:Nat->Type}(gZ:Nat)(y:aL El)(bl:List (aH El)):(ws:List nw)->Option (za El ws)
 |[]=>none
 |[w]=>QY gZ y bl w
 |w::v::r=>match QY gZ y bl w with
  |some d=>some (.inl d)
  |none=>match Rg gZ y bl (v::r)with
   |some q=>some (.inr q)
   |none=>none
def lc.fin{T:bU}(c:lc T)(r:fE T.El):Option (za T.El c.ws):=match r.e with
 | .ret y=>Rg c.pbs.length y r.bl c.ws
 | .Bk _=>none
def lc.Eq(E:Env)(bw:fz E)(LE:lP E)(f:Nat)(c:lc E.T):Prop:=∀(da:dw E.T.El c.pas)(db:cK E.T.El c.pbs),(oV E bw LE f (gG id (ck false c.pbs) c.pas da) (bQ id (ck false c.pbs) false c.pbs db)).run c.fin=c.fn (da,db)
section
variable{E:Env}{bw:fz E}{LE:lP E}{f:Nat}
theorem akG{pbs:List bK}:∀ {ws:List nw}{w:nw},Lu pbs ws=true->w∈ws->ky pbs w.du=true
 |[],w,_,h=>by simp at h
 |v::r,w,h,hm=>by simp only[Lu,cd]at h;rcases cH.1 hm with rfl |hm;exact h.1;exact akG h.2 hm
theorem amm{gZ:Nat}{y:aL E.T.El}{bl:List (aH E.T.El)}:∀ {ws:List nw}{r:za E.T.El ws},Rg gZ y bl ws=some r->∃(w:nw)(d:FZ E.T.El w),w∈ws/\QY gZ y bl w=some d/\∀bl' sel t,(H4 E bl' sel ws (some r)).out t->(LW E bl' sel w d).out t
 |[],r,h=>by cases h
 |[w],r,h=>⟨w,r,by simp,h,λ bl' sel t b=>by obtain⟨d,a,ao⟩:=b;simp only[aF]at a;subst a;exact ao⟩
 |w::v::ws,r,h=>by simp only[Rg]at h;split at h;rename_i d aJ;simp only[aF]at h;subst h;refine⟨w,d,by simp,aJ,λ bl' sel t b=>?_⟩;rcases b with⟨d',a,ao⟩|⟨d',a,ao⟩;simp only[aF,Sum.inl.injEq]at a;subst a;exact ao;simp at a;split at h;rename_i q c;simp only[aF]at h;subst h;obtain⟨w',d,e,J,g⟩:=amm c;refine⟨w',d,d_ _ e,J,λ bl' sel t b=>?_⟩;rcases b with⟨d',a,ao⟩|⟨d',a,ao⟩;simp at a;simp only[aF,Sum.inr.injEq]at a;subst a;exact g bl' sel t ao;cases h
theorem aI'{bl:List (aH E.T.El)}{sel:List Nat}:∀ {ws:List nw}{o:Option (za E.T.El ws)}{t:fE E.T.El},(H4 E bl sel ws o).out t->∃r,o=some r/\(H4 E bl sel ws (some r)).out t
 |[],o,t,h=>h.elim
 |[w],o,t,h=>by obtain⟨d,a,ao⟩:=h;exact⟨d,a,d,rfl,ao⟩
 |w::v::r,o,t,h=>by rcases h with⟨d,a,ao⟩|⟨d,a,ao⟩;exact⟨_,a,.inl ⟨d,rfl,ao⟩⟩;exact⟨_,a,.inr ⟨d,rfl,ao⟩⟩
def lc.oF(E:Env)(bw:fz E)(LE:lP E)(f:Nat)(c:lc E.T):Prop:=∀(da:dw E.T.El c.pas)(db:cK E.T.El c.pbs) r,c.fn (da,db)=some r->(oV E bw LE f (gG id (ck false c.pbs) c.pas da) (bQ id (ck false c.pbs) false c.pbs db)).run c.fin=some r
theorem lc.Eq.one{c:lc E.T}(h:c.Eq E bw LE f):c.oF E bw LE f:=λ da db _ a=>(h da db).trans a
theorem afg(a8:dl E)(T:lO E bw)(U:wD E LE)(V:E.cY=[]){c:lc E.T}(Y:c.oF E bw LE f):kH E f (c.run E):=by
 intro ys Z r b W M0 X ρ0 w vs dP _ cc;unfold lc.run at b;cases M:gW [] c.pas c.pbs Z ys with
 |mk bl cO=>
 rw[M]at b;obtain⟨ρ,s,iW,af⟩:=w5 dP M cc;simp only at b;split at b
 ·rename_i d sel t N;obtain⟨da,db⟩:=d;obtain⟨fa,h1,J⟩:=aI' b;obtain⟨aj,_,l5⟩:=u0 s uL N;obtain⟨nH,l⟩:=DC uL N;obtain⟨ev,bN⟩:=l5 (bj (kd X bl ρ sel) (bQ id (ck false c.pbs) false c.pbs db) (ha ρ sel) w) λ k l=>aj.H2 l;have jj:=aj.enter s bN;have xC:=ev vs af;obtain⟨u,dz,a⟩:=D.tT (Y da db _ h1);have rz:∀ {lQ bl' ρ' w'},I3 E lQ bl' ρ' w':=λ{_ _ _ _} g y O=>by rw[V]at O;simp[cI]at O
  have hc:=((Oi a8 T U).ok _ _ _ _ dz).2 _ _ _ _ _ vs jj rz xC;unfold lc.fin at a;cases x:u.e with
  |Bk y=>rw[x]at a;cases a
  |ret y=>
   rw[x]at a;simp only at a;obtain⟨jg,P,hw,m,z⟩:=amm a;have A:=akG t hw;have J:=z _ _ _ J;obtain⟨Q,R⟩:=P;have J:(⟨.ret (rU (gG (jq sel bl.length) (fH bl sel jg.du) jg.eJ Q)),gJ bl sel jg.du R,sel⟩:fE E.T.El)=r:=J;subst J;refine hc.mono λ e w' av=>?_;obtain⟨C,YC,F,lG,qv⟩:=av;rw[x]at qv;cases e with
   |returned v=>
    have qv:ax E.T _ w' C u.bl y v:=qv;unfold QY at m;cases G:gW (o9 c.pbs.length) jg.eJ jg.du u.bl (yE jg.eJ.length y)with
    |mk Js k_=>
    rw[G]at m;simp only at m;split at m
    ·rename_i P H o;have a:=eD m;subst a;have q:(yE jg.eJ.length y).length=jg.eJ.length:=by rw[<-agT G];unfold iQ at o;split at o;rename_i WK;exact Wh WK;cases o
     obtain⟨us,I,nd⟩:=anh q qv;obtain⟨Cr,hp,K,I⟩:=w5 YC G I;have Mn:=F.trans K;obtain⟨L,s8,KH⟩:=u0 hp D_ o;obtain⟨Ag,Ku⟩:=DC D_ o;obtain⟨D6,sV⟩:=KH (bj (kd X bl ρ sel) (bQ id (ck true jg.du) true jg.du R) (ha Cr H) w') λ k l=>L.LR l;have W8:=L.leave hp sV;have Xu:=Yt (by rw[aj.len,nZ]) Mn L (λ j aA=>s8 (j,j) (D'.2 ⟨aA,rfl⟩)) Ag A λ j i p h h'=>by obtain⟨B,n,ao,aW⟩:=Ku j i p h h';exact⟨B,n,ao,aW⟩
     obtain⟨bO,dF,e5,ff⟩:=back (gq:=ck true jg.du) s aj nH (λ j i B p h h' S=>by obtain⟨B',n,ao,_⟩:=l j i p h S;rw[h']at n;cases n;exact Pz A S ao) A (λ i hi=>by obtain⟨j,aA,rfl⟩:=iZ.1 hi;obtain⟨B,n,_⟩:=l j _ _ (aN aA) (aN (by omega:j<c.pbs.length));exact(aR.1 n).1) (λ j=>rfl) W8 Xu;refine⟨_,bO,iW.trans dF,?_,?_⟩;have:=hC.nil.bI iW e5;rwa [hv]at this
     ·show ax E.T _ w' _ _ (rU _) v
      rw[<-nd];exact Zl (ff jg.eJ Q us (D6 us I))
    ·cases m
   |panicked zO=>exact qv.elim
   |outgrown=>exact qv.elim
 ·exact b.elim
end
def wx{α:Type}:List Nat->List α->List (Nat×α)
 |s::r,y::ys=>(s,y)::wx r ys
 |_,_=>[]
def tJ:List bK->List bK->Bool
 | .r _ s::r,.r _ s'::a=>(s|| !s')&&tJ r a
 |_::r,_::a=>tJ r a
 |_,_=>true
def H0(E:Env)(gZ:Nat)(bl:List (aH E.T.El))(f:cD E.T.El)(ss:List Nat)(pas:List cM)(pbs:List bK):Option (dw E.T.El pas×cK E.T.El pbs):=match qm E bl f [] (ss.map .tmp)with
 |some ys=>match gW (o9 gZ) pas pbs bl ys with
  |(bO,a)=>match iQ bO (o9 gZ) true pas pbs a with
   |some (d,_)=>some d
   |none=>none
 |none=>none
section
variable{T:bU}{F:Nat->Prop}{w w':World}{ρ:List Value}{bl:List (aH T.El)}
theorem ayU{a6:List (Nat×Nat)}{p:bK}{B:aH T.El}{r:ux T.El p×List (Nat×Nat)}(h:jh bl a6 true p B=some r):jh bl a6 false p B=some r:=by
 cases p with
 |c ty ps=>exact h
 |m kt vt=>exact h
 |d=>exact h
 |r t same=>simp only[jh]at h⊢;split at h;split at h;simpa using h;cases h;cases h
theorem ahc:∀ {ps:List bK}{a6:List (Nat×Nat)}{k:Nat}{r:cK T.El ps×List (Nat×Nat)},o0 bl true a6 k ps=some r->o0 bl false a6 k ps=some r
 |[],a6,k,r,h=>h
 |p::ps,a6,k,r,h=>by simp only[o0]at h⊢;split at h;split at h;split at h;rename_i d b a;rw[ayU a];simp only;split at h;rename_i c e J;rw[ahc J];exact h;cases h;cases h;cases h;cases h
theorem ayX{a6:List (Nat×Nat)}{pas:List cM}{pbs:List bK}{ys:List (aL T.El)}{r:(dw T.El pas×cK T.El pbs)×List Nat}(h:iQ bl a6 true pas pbs ys=some r):iQ bl a6 false pas pbs ys=some r:=by unfold iQ at h⊢;split at h;split at h;rename_i J;rw[ahc J];exact h;cases h;cases h
theorem S4{t:Nat}{y:aL T.El}{a:Act}:∀ {ss:List Nat}{ys:List (aL T.El)},a_ T F w ρ bl ys ((ss.map Operand.tmp).map a.eval)->cI (wx ss ys) t=some y->ax T F w ρ bl y (a.tmps.getD t undef)
 |[],ys,_,h=>by simp[wx,cI]at h
 |s::r,[],_,h=>by simp[wx,cI]at h
 |s::r,z::ys,b,h=>by simp only[ez,a_]at b;obtain⟨u,us,e,c,J⟩:=b;simp only[hU]at e;obtain⟨rfl,rfl⟩:=e;simp only[wx,cI]at h;split at h;rename_i ag;simp only[aF]at h;subst h;rw[<-bd ag];exact c;exact S4 J h
theorem QL{σ g σ' g':Nat->Nat}{post post':Bool}:∀ {ps:List bK}{d:cK T.El ps}{j:Nat}{B:aH T.El},(bQ σ g post ps d)[j]? =some B->∃B',(bQ σ' g' post' ps d)[j]? =some B'/\∀u,bF B' u=bF B u
 |[],d,j,B,h=>by simp[bQ]at h
 |p::r,d,0,B,h=>by simp only[bQ,ee,aF]at h;subst h;refine⟨dG σ' g' post' p d.1,rfl,λ u=>?_⟩;cases p<;>rfl
 |p::r,d,j+1,B,h=>by obtain⟨B',a,J⟩:=QL (σ':=σ') (g':=g') (post':=post') (ps:=r) (d:=d.2) (j:=j) (by simpa[bQ]using h);exact⟨B',by simpa[bQ]using a,J⟩
theorem alZ{X:Nat->Prop}{σ g σ' g':Nat->Nat}{post post':Bool}{ps:List bK}{d:cK T.El ps}{k:Nat}(h:bj X (bQ σ g post ps d) ρ w k):bj X (bQ σ' g' post' ps d) ρ w k:=⟨h.1,λ⟨j,B,u,a,J,b⟩=>by obtain⟨B',c,ao⟩:=QL (σ':=σ) (g':=g) (post':=post) a;exact h.2.1 ⟨j,B',u,c,J,by rw[ao];exact b⟩,h.2.2⟩
theorem akH:∀ {ps qs:List bK}{j:Nat}{p q:bK},tJ ps qs=true->ps[j]? =some p->qs[j]? =some q->AE p q=true->fo true (some q)=0 ->fo true (some p)=0
 |[],_,j,p,q,_,h,_,_,_=>by simp at h
 |a::r,[],j,p,q,_,_,h,_,_=>by simp at h
 |a::r,b::s,0,p,q,c,h,h',e,d=>by
  simp only[ee,aF]at h h';subst h;subst h';cases a<;>cases b<;>simp only[AE,hM]at e<;>try first |rfl |(simp[fo]at d;done)
  simp only[tJ,cd,h3,hh]at c;rename_i i f k g;cases f<;>cases g<;>simp[fo]at c d⊢
 |a::r,b::s,j+1,p,q,c,h,h',e,d=>by refine akH (ps:=r) (qs:=s) (j:=j) ?_ (by simpa using h) (by simpa using h') e d;cases a<;>cases b<;>simp only[tJ,cd]at c<;>first |exact c.2 |exact c
variable{X:Nat->Prop}{pre cw:List bK}{d0 d1:cK T.El pre}{d2:cK T.El cw}{ρ0 eK mx:List Value}{w0 dR c0:World}
theorem LG{σ g:Nat->Nat}{post:Bool}:∀ {ps:List bK}{d:cK T.El ps}{j:Nat},j<ps.length->∃p a,ps[j]? =some p/\∀σ' g' post',(bQ σ' g' post' ps d)[j]? =some (dG σ' g' post' p a)
 |[],d,j,h=>by simp at h
 |p::r,d,0,h=>⟨p,d.1,rfl,λ _ _ _=>rfl⟩
 |p::r,d,j+1,h=>by obtain⟨q,a,b,J⟩:=LG (σ:=σ) (g:=g) (post:=post) (ps:=r) (d:=d.2) (j:=j) (by simpa using h);exact⟨q,a,by simpa using b,λ σ' g' post'=>by simpa[bQ]using J σ' g' post'⟩
theorem aKi:To X (bQ id (ck false pre) false pre d0) (bQ id (ck true pre) true pre d0) ρ0 ρ0 w w:=by
 refine⟨λ k a=>⟨alZ a,rfl⟩,⟨λ i h hi=>⟨h,hi,λ _=>rfl,?_⟩⟩,cP _,λ i B' h' hi f k a _=>?_⟩
 ·rcases gI i pre.length with al |al
  ·obtain⟨p,j,b,ao⟩:=LG (σ:=id) (g:=id) (post:=true) (d:=d0) al;rw[ao,ao];cases p with
   |c ty ps=>exact⟨cP _,λ _=>⟨rfl,rfl,cP _,λ _=>rfl⟩⟩
   |r t s=>exact⟨by simp[dG,b5,fo],λ _=>⟨rfl,rfl,by simp[dG,hs,BL],λ e=>by simp[dG,hs,BL]at e⟩⟩
   |m kt vt=>exact⟨cP _,λ _=>⟨rfl,rfl,cP _,λ _=>rfl⟩⟩
   |d=>exact⟨by simp[dG,b5,fo],λ e=>by simp[dG,b5,fo]at e⟩
  ·rw[gH (by rw[nZ];exact al),gH (by rw[nZ];exact al)];exact⟨cP _,λ _=>⟨rfl,rfl,cP _,λ _=>rfl⟩⟩
 ·obtain⟨B,b,ao⟩:=QL (σ':=id) (g':=ck false pre) (post':=false) hi;exact⟨B,h',b,f,by rw[ao];exact a⟩
theorem am4(m:ky pre cw=true)(x:tJ pre cw=true)(kT:ρ0.length=pre.length)(h:To X (bQ id (ck false pre) false pre d0) (bQ id (ck true pre) true pre d1) ρ0 eK w0 dR)(k:To X (bQ id (ck false pre) false pre d1) (bQ id (ck true cw) true cw d2) eK mx dR c0) :
 To X (bQ id (ck false pre) false pre d0) (bQ id (ck true cw) true cw d2) ρ0 mx w0 c0:=by
 have y:=L2 m
 refine⟨λ q j=>?_,⟨λ i u hi=>?_⟩,hl h.sz k.sz,λ i B' h' hi z q j n=>?_⟩
 ·obtain⟨a,ao⟩:=h.F q j;obtain⟨aW,bR⟩:=k.F q (alZ a);exact⟨aW,bR.trans ao⟩
 ·have o:i<pre.length:=by have:=(aR.1 hi).1;omega
  obtain⟨p,I,a,ao⟩:=LG (σ:=id) (g:=id) (post:=true) (d:=d0) o;obtain⟨J,K,b,c⟩:=LG (σ:=id) (g:=id) (post:=true) (d:=d1) o;obtain⟨q,A,r,s⟩:=LG (σ:=id) (g:=id) (post:=true) (d:=d2) (show i<cw.length by omega);rw[a]at b;cases b;have l:=L1 m a r;have ec:=akH x a r l;obtain⟨C,D,E,a3,a4⟩:=h.L.at_ i u hi;obtain⟨G,bO,H,e5,f⟩:=k.L.at_ i C D;rw[ao,c]at a4;rw[c,s]at f;refine⟨G,bO,λ aj=>?_,?_⟩;have e:=E aj;rw[H (by rw[e];exact aj),e];rw[ao,s];cases p<;>cases q<;>simp only[AE,hM]at l;exact⟨cP _,λ _=>⟨(f rfl).1.trans (a4 rfl).1,rfl,cP _,λ _=>rfl⟩⟩;exact⟨gY _,λ e=>by simp[dG,b5,fo]at e⟩;have:=bd l;subst this;rename_i t v;refine⟨by cases t<;>cases v<;>simp[dG,b5,fo],λ e=>⟨(f ?_).1.trans (a4 ?_).1,rfl,by simp[dG,hs,BL],λ e=>by simp[dG,hs,BL]at e⟩⟩<;>cases t<;>cases v<;>simp[dG,b5,fo]at e ec⊢;exact⟨by simp[dG,b5,fo],λ e=>by simp[dG,b5,fo]at e⟩;exact⟨cP _,λ _=>⟨(f rfl).1.trans (a4 rfl).1,rfl,cP _,λ _=>rfl⟩⟩;exact⟨gY _,λ e=>by simp[dG,b5,fo]at e⟩
 ·obtain⟨B,u,a,ao,aW⟩:=k.oY i B' h' hi z q j (eN n h.sz);obtain⟨Cs,b,c⟩:=QL (σ':=id) (g':=ck true pre) (post':=true) a;exact h.oY i Cs u b ao q (by rw[c];exact aW) n
end
section
variable{E:Env}{W w w':World}{M0:List Nat}{X:Nat->Prop}{n:cG}{f:cD E.T.El}{bl:List (aH E.T.El)}{ρ oB:List Value}{a:Act}{pre pbs:List bK}{pas:List cM}{dp:cK E.T.El pre}{da:dw E.T.El pas}{db:cK E.T.El pbs}{ss:List Nat}
def Told(E:Env)(W:World)(M0:List Nat)(X:Nat->Prop)(ss:List Nat)(pas:List cM)(pbs:List bK)(da:dw E.T.El pas)(db:cK E.T.El pbs)(ρ:List Value)(a:Act)(w:World)(post:Bool):Prop:=Mem E.T W M0 X (bQ id (ck post pbs) post pbs db) ρ w/\a_ E.T (bj X (bQ id (ck post pbs) post pbs db) ρ w) w ρ (bQ id (ck post pbs) post pbs db) (gG id (ck post pbs) pas da) ((ss.map Operand.tmp).map a.eval)
theorem aaL(h:R E W M0 X n f bl ρ a w')(v:oB.length=pre.length)(x:ky pre pbs=true)(y:To X (bQ id (ck false pre) false pre dp) bl oB ρ w w')(b:H0 E pre.length bl f ss pas pbs=some (da,db)) :
 ∃s,(∀post,Told E W M0 X ss pas pbs da db s a w' post)/\To X (bQ id (ck false pre) false pre dp) (bQ id (ck true pbs) true pbs db) oB s w w':=by
 unfold H0 at b
 split at b
 ·rename_i ys z;have A:=Bg h (cur:=[]) trivial z;cases t:gW (o9 pre.length) pas pbs bl ys with
  |mk bO J=>
  rw[t]at b;simp only at b;split at b
  ·rename_i d sel e;simp only[aF]at b;subst b;obtain⟨g,c,C,v1⟩:=w5 h.mem t A;obtain⟨l,D,F⟩:=u0 c D_ e;obtain⟨u,_,m⟩:=u0 c D_ (ayX e);obtain⟨G,H⟩:=DC D_ e;refine⟨ha g sel,λ post=>?_,Yt v (y.trans C) l (λ j aA=>D (j,j) (D'.2 ⟨aA,rfl⟩)) G x λ j i p h h'=>?_⟩
   ·cases post with
    |true=>obtain⟨o,q⟩:=F (bj X (bQ id (ck true pbs) true pbs db) (ha g sel) w') λ k r=>l.LR r;exact⟨l.leave c q,o _ v1⟩
    |false=>obtain⟨o,q⟩:=m (bj X (bQ id (ck false pbs) false pbs db) (ha g sel) w') λ k r=>u.LR r;exact⟨u.leave c q,o _ v1⟩
   ·obtain⟨B,I,ao,aW⟩:=H j i p h h';exact⟨B,I,ao,aW⟩
  ·cases b
 ·cases b
end
inductive zF
 |nm
 |ex (id:Nat)
 |rt
structure kK where
 x:zF
 ss:List Nat
 eJ:List cM
 du:List bK
def SH:zF->zF->Bool
 | .nm,.nm=>true
 | .ex i,.ex j=>cj i j
 | .rt,.rt=>true
 |_,_=>false
theorem ap8{x y:zF}(h:SH x y=true):x=y:=by
 cases x<;>cases y<;>simp only[SH,hM]at h<;>try rfl
 rw[bd h]
def IQ{El:Nat->Type}:zF->Nr El
 | .nm=>.nm
 | .ex i=>.ex i
 | .rt=>.rt
@[reducible] def zb(El:Nat->Type)(w:kK):Type:=dw El w.eJ×cK El w.du
@[reducible] def zc(El:Nat->Type):List kK->Type
  |[]=>Empty
  |[w]=>zb El w
  |w::v::r=>zb El w⊕zc El (v::r)
structure fO (T:bU) where
 ss:List Nat
 pas:List cM
 pbs:List bK
 ws:List kK
 fn:Nat->dw T.El pas×cK T.El pbs->Option (zc T.El ws)
def E'(E:Env)(gZ:Nat)(x:zF)(bl:List (aH E.T.El))(f:cD E.T.El):(ws:List kK)->Option (zc E.T.El ws)
 |[]=>none
 |[w]=>match SH w.x x with
  |true=>H0 E gZ bl f w.ss w.eJ w.du
  |false=>none
 |w::v::r=>match(match SH w.x x with
   |true=>H0 E gZ bl f w.ss w.eJ w.du
   |false=>none)with
  |some d=>some (.inl d)
  |none=>match E' E gZ x bl f (v::r)with
   |some q=>some (.inr q)
   |none=>none
def QN(E:Env)(bl:List (aH E.T.El))(sel ws:List Nat)(w:kK)(d:zb E.T.El w):D (ca E.T.El):=.ok ⟨IQ w.x,⟨⟨wx w.ss (gG (jq sel bl.length) (fH bl sel w.du) w.eJ d.1),[],[]⟩,gJ bl sel w.du d.2,sel++ws⟩⟩
def HW(E:Env)(bl:List (aH E.T.El))(sel us:List Nat):(ws:List kK)->Option (zc E.T.El ws)->D (ca E.T.El)
 |[],_=>.no
 |[w],o=>.op o λ d=>QN E bl sel us w d
 |w::v::r,o=>.vT o (λ d=>QN E bl sel us w d) (λ q=>HW E bl sel us (v::r) (some q))
def HH(pbs:List bK):List kK->Bool
 |[]=>true
 |w::r=>ky pbs w.du&&tJ pbs w.du&&HH pbs r
def fO.run(E:Env)(F:Nat)(c:fO E.T)(s:eU E.T.El):D (ca E.T.El):=match qm E s.bl s.f [] (c.ss.map .tmp)with
 |some ys=>match gW [] c.pas c.pbs s.bl ys with
  |(bO,a)=>match HH c.pbs c.ws&&(ky c.pbs c.pbs&&tJ c.pbs c.pbs),iQ bO [] false c.pas c.pbs a with
   |true,some (d,sel)=>HW E bO sel s.ws c.ws (c.fn F d)
   |_,_=>.no
 |none=>.no
def agI(id i:Nat):zF:=match cj i id with
 |true=>.nm
 |false=>.ex i
def fO.fin(E:Env)(c:fO E.T)(id k:Nat)(t:ca E.T.El):Option (zc E.T.El c.ws):=match t.x with
 | .nm=>match H0 E c.pbs.length t.s.bl t.s.f c.ss c.pas c.pbs with
   |some d=>c.fn k d
   |none=>none
 | .ex i=>E' E c.pbs.length (agI id i) t.s.bl t.s.f c.ws
 | .rt=>E' E c.pbs.length .rt t.s.bl t.s.f c.ws
 | .im _=>none
def Al(E:Env)(c:fO E.T)(da:dw E.T.El c.pas)(db:cK E.T.El c.pbs):eU E.T.El:=⟨⟨wx c.ss (gG id (ck false c.pbs) c.pas da),[],[]⟩,bQ id (ck false c.pbs) false c.pbs db,[]⟩
structure fO.Eq (E:Env) (bw:fz E) (LE:oE E) (n id:Nat) (body:Code) (c:fO E.T):Prop where
 zero:∀d,c.fn 0 d=none
 succ:∀k (da:dw E.T.El c.pas)(db:cK E.T.El c.pbs),(den E bw LE n body (Al E c da db)).run (c.fin E id k)=c.fn (k+1) (da,db)
structure fO.oF (E:Env) (bw:fz E) (LE:oE E) (n id:Nat) (body:Code) (c:fO E.T):Prop where
 zero:∀d,c.fn 0 d=none
 succ:∀k (da:dw E.T.El c.pas)(db:cK E.T.El c.pbs) r,c.fn (k+1) (da,db)=some r->(den E bw LE n body (Al E c da db)).run (c.fin E id k)=some r
theorem fO.Eq.one{E:Env}{bw:fz E}{LE:oE E}{n id:Nat}{body:Code}{c:fO E.T}(h:c.Eq E bw LE n id body):c.oF E bw LE n id body:=⟨h.zero,λ k da db _ a=>(h.succ k da db).trans a⟩
section
variable{E:Env}{bw:fz E}{LE:oE E}
theorem anC{gZ:Nat}{x:zF}{bl:List (aH E.T.El)}{f:cD E.T.El}:∀ {ws:List kK}{r:zc E.T.El ws},E' E gZ x bl f ws=some r ->
 ∃(w:kK)(da:dw E.T.El w.eJ)(db:cK E.T.El w.du),w∈ws/\w.x=x/\H0 E gZ bl f w.ss w.eJ w.du=some (da,db)/\∀bl' sel us t,(HW E bl' sel us ws (some r)).out t->⟨IQ w.x,⟨⟨wx w.ss (gG (jq sel bl'.length) (fH bl' sel w.du) w.eJ da),[],[]⟩,gJ bl' sel w.du db,sel++us⟩⟩=t
 |[],r,h=>by cases h
 |[w],r,h=>by simp only[E']at h;split at h;rename_i c;refine⟨w,r.1,r.2,by simp,ap8 c,h,λ bl' sel us t b=>?_⟩;obtain⟨d,a,ao⟩:=b;simp only[aF]at a;subst a;exact ao;cases h
 |w::v::ws,r,h=>by simp only[E']at h;split at h;rename_i d aJ;simp only[aF]at h;subst h;split at aJ;rename_i c;refine⟨w,d.1,d.2,by simp,ap8 c,aJ,λ bl' sel us t b=>?_⟩;rcases b with⟨d',a,ao⟩|⟨d',a,ao⟩;simp only[aF,Sum.inl.injEq]at a;subst a;exact ao;simp at a;cases aJ;split at h;rename_i q e;simp only[aF]at h;subst h;obtain⟨w',da,db,g,J,i,j⟩:=anC e;refine⟨w',da,db,d_ _ g,J,i,λ bl' sel us t b=>?_⟩;rcases b with⟨d',a,ao⟩|⟨d',a,ao⟩;simp at a;simp only[aF,Sum.inr.injEq]at a;subst a;exact j bl' sel us t ao;cases h
theorem alp{bl:List (aH E.T.El)}{sel us:List Nat}:∀ {ws:List kK}{o:Option (zc E.T.El ws)}{t:ca E.T.El},(HW E bl sel us ws o).out t->∃r,o=some r/\(HW E bl sel us ws (some r)).out t
 |[],o,t,h=>h.elim
 |[w],o,t,h=>by obtain⟨d,a,ao⟩:=h;exact⟨d,a,d,rfl,ao⟩
 |w::v::r,o,t,h=>by rcases h with⟨d,a,ao⟩|⟨d,a,ao⟩;exact⟨_,a,.inl ⟨d,rfl,ao⟩⟩;exact⟨_,a,.inr ⟨d,rfl,ao⟩⟩
theorem Qx{pbs:List bK}:∀ {ws:List kK}{w:kK},HH pbs ws=true->w∈ws->ky pbs w.du=true/\tJ pbs w.du=true
 |[],w,_,h=>by simp at h
 |v::r,w,h,hm=>by simp only[HH,cd]at h;rcases cH.1 hm with rfl |hm;exact h.1;exact Qx h.2 hm
theorem aEF(a8:dl E)(aC:lO E bw)(eb:E.cY=[]){n:cG}{h0:Nat}{body:Code}(al:kJ E LE n body){c:fO E.T}(he:c.oF E bw LE n.n h0 body)(F:Nat):Cw E n (c.run E F) (.block h0 (.loop body)):=by
 intro s t r W M0 X b0 ρ0 w0 ρ a w Q h k;have rz:∀ {lQ:Nat->Prop}{bl':List (aH E.T.El)}{ρ':List Value}{w':World},∀g y,cI E.cY g=some y->ax E.T (bj lQ bl' ρ' w') w' ρ' bl' y (.pointer (some ⟨g,0,none⟩)):=λ{_ _ _ _} g y az=>by rw[eb]at az;simp[cI]at az
 unfold fO.run at r;split at r
 ·rename_i ys D9;cases f_:gW [] c.pas c.pbs s.bl ys with
  |mk bl cO=>
  rw[f_]at r;simp only at r;obtain⟨f,S,iW,af⟩:=w5 h.r.mem f_ (Bg h.r (cur:=[]) trivial D9);split at r
  ·rename_i d sel KI eX;simp only[cd]at KI;obtain⟨Ay,Wo,T⟩:=KI;obtain⟨da,db⟩:=d;obtain⟨fa,iD,J⟩:=alp r;obtain⟨aj,_,l5⟩:=u0 S uL eX;obtain⟨nH,N⟩:=DC uL eX;obtain⟨ev,bN⟩:=l5 (bj (kd X bl f sel) (bQ id (ck false c.pbs) false c.pbs db) (ha f sel) w) λ k N=>aj.H2 N;have jj:=aj.enter S bN;have xC:=ev _ af;have u:(ha f sel).length=c.pbs.length:=by rw[aj.len,nZ]
   have leave:∀(b:kK),b∈c.ws->∀(G:dw E.T.El b.eJ)(H:cK E.T.El b.du)(l:List Value)(o:Act)(w':World),o.tmps.size=n.n->o.defers=n.ds ->
    Told E w (sR (bQ id (ck false c.pbs) false c.pbs db) (ha f sel)) (kd X bl f sel) b.ss b.eJ b.du G H l o w' true ->
    To (kd X bl f sel) (bQ id (ck false c.pbs) false c.pbs db) (bQ id (ck true b.du) true b.du H) (ha f sel) l w w' ->
    t=⟨IQ b.x,⟨⟨wx b.ss (gG (jq sel bl.length) (fH bl sel b.du) b.eJ G),[],[]⟩,gJ bl sel b.du H,sel++s.ws⟩⟩ ->
    Dh E X t.s.bl (gD f sel l) Q o w' (IQ b.x):=λ b U G H l o w' V Y I O aG=>by
    obtain⟨M,dO⟩:=Qx Ay U
    obtain⟨bO,dF,e5,ff⟩:=back (gq:=ck true b.du) S aj nH (λ j i B p h h' rn=>by obtain⟨B',P,ao,_⟩:=N j i p h rn;rw[h']at P;cases P;exact Pz M rn ao) M (λ i hi=>by obtain⟨j,aA,rfl⟩:=iZ.1 hi;obtain⟨B,P,_⟩:=N j _ _ (aN aA) (aN (by omega:j<c.pbs.length));exact(aR.1 P).1) (λ j=>rfl) I.1 O
    have Hg:=ff b.eJ G _ I.2
    have p9:hC s.bl ρ w w' sel:=by have:=hC.nil.bI iW e5;rwa [hv]at this
    have:=k (gD f sel l) o w' (by subst aG;exact⟨⟨bO,⟨⟨V,Y,λ t y hy=>S4 Hg hy⟩,λ p z=>by simp at z,λ p z=>by simp at z⟩,rz⟩,h.to.trans (iW.trans dF),h.wr.bI h.to p9⟩)
    rw[aG]at this⊢
    exact this
   refine wp_block (wp_loop_ghost (λ m o w'=>∃(K:dw E.T.El c.pas)(A:cK E.T.El c.pbs)(ρ':List Value),o.tmps.size=n.n/\o.defers=n.ds/\Told E w (sR (bQ id (ck false c.pbs) false c.pbs db) (ha f sel)) (kd X bl f sel) c.ss c.pas c.pbs K A ρ' o w' false/\
    To (kd X bl f sel) (bQ id (ck false c.pbs) false c.pbs db) (bQ id (ck true c.pbs) true c.pbs A) (ha f sel) ρ' w w'/\c.fn m (K,A)=some fa) F ⟨da,db,ha f sel,h.r.ea.eu.size,h.r.ea.eu.defers,⟨jj,xC⟩,aKi,iD⟩ λ m o w' ki=>?_)
   obtain⟨K,A,ρ',V,Y,I,O,Z⟩:=ki;cases m with
   |zero=>rw[he.zero]at Z;cases Z
   |succ m=>
    obtain⟨t1,dz,q⟩:=D.tT (he.succ _ _ _ _ Z);have p6:ρ'.length=c.pbs.length:=by rw[I.1.len,nZ]
    have ek:R E w (sR (bQ id (ck false c.pbs) false c.pbs db) (ha f sel)) (kd X bl f sel) n (Al E c K A).f (Al E c K A).bl ρ' o w':=⟨I.1,⟨⟨V,Y,λ t y hy=>S4 I.2 hy⟩,λ p z=>by simp[Al]at z,λ p z=>by simp[Al]at z⟩,rz⟩
    refine oO (b0:=(Al E c K A).bl) (ρ0:=ρ') (w0:=w') a8 aC body al dz ⟨ek,.refl,.nil⟩ λ Cr TV lG v=>?_;have out:∀x,E' E c.pbs.length x t1.s.bl t1.s.f c.ws=some fa->∃(b:kK)(l:List Value),Dh E X t.s.bl (gD f sel l) Q TV lG (IQ b.x)/\b.x=x:=λ x L=>by obtain⟨b,G,H,bq,bx,bT,fL⟩:=anC L;obtain⟨M,dO⟩:=Qx Ay bq;obtain⟨l,c9,eT⟩:=aaL v.r p6 M v.to bT;have J:=fL _ _ _ _ J;exact⟨b,l,leave b bq G H l TV lG v.r.ea.eu.size v.r.ea.eu.defers (c9 true) (am4 M dO u O eT) J.symm,bx⟩
    unfold fO.fin at q;cases L:t1.x with
    |nm=>rw[L]at q;simp only at q;split at q;rename_i zR az_;obtain⟨l,c9,eT⟩:=aaL v.r p6 Wo v.to az_;exact⟨m,lM m,zR.1,zR.2,l,v.r.ea.eu.size,v.r.ea.eu.defers,c9 false,am4 Wo T u O eT,q⟩;cases q
    |ex i=>
     rw[L]at q;obtain⟨b,l,C,J⟩:=out _ q;show Exit.inBlock h0 Q (.exit i) TV lG
     unfold agI at J;split at J;rename_i ag;rw[bd ag];simp only[Exit.inBlock,if_true];rw[J]at C;exact C
     ·rename_i ag;have b3:i≠h0:=λ e=>by subst e;simp at ag
      simp only[Exit.inBlock,nc b3];rw[J]at C;exact C
    |rt=>rw[L]at q;obtain⟨b,l,C,J⟩:=out _ q;rw[J]at C;exact C
    |im y=>rw[L]at q;cases q
  ·exact r.elim
 ·exact r.elim
end
def fG(i:Nat):Code->Option Code
 | .seq x y=>match fG i x with
   |some b=>some b
   |none=>fG i y
 | .cond _ x y=>match fG i x with
   |some b=>some b
   |none=>fG i y
 | .block id c=>match cj id i with
   |true=>match c with
    | .loop b=>some b
    |_=>none
   |false=>fG i c
 | .loop c=>fG i c
 | .scope c=>fG i c
 |_=>none
def iN(i:Nat):Code->Nat
 | .seq x y=>iN i x+iN i y
 | .cond _ x y=>iN i x+iN i y
 | .block id c=>match cj id i with
   |true=>iN i c+1
   |false=>iN i c
 | .loop c=>iN i c
 | .scope c=>iN i c
 |_=>0
def uA(E:Env)(i:Nat)(g:eU E.T.El->D (ca E.T.El))(n:cG):Code->Prop
 | .seq x y=>uA E i g n x/\uA E i g n y
 | .cond _ x y=>uA E i g n x/\uA E i g n y
 | .block id c=>(id=i->Cw E n g (.block id c))/\uA E i g n c
 | .loop c=>uA E i g n c
 | .scope c=>uA E i g n c
 |_=>True
section
variable{E:Env}{LE:oE E}{n:cG}{i:Nat}{g:eU E.T.El->D (ca E.T.El)}
theorem rL:∀ {c:Code},iN i c=0 ->uA E i g n c
 | .seq x y,h=>by simp only[iN]at h;exact⟨rL (by omega),rL (by omega)⟩
 | .cond _ x y,h=>by simp only[iN]at h;exact⟨rL (by omega),rL (by omega)⟩
 | .block id c,h=>by simp only[iN]at h;split at h;omega;rename_i ag;exact⟨λ e=>by subst e;simp at ag,rL h⟩
 | .loop c,h=>rL (c:=c) h
 | .scope c,h=>rL (c:=c) h
 | .skip,_ | .region _ _ _,_ | .rangeFunc _ _ _ _,_ | .exit _,_ | .label _,_ | .goto _,_ | .ret,_ | .refuse _,_=>trivial
theorem sQ:∀ {c b:Code},fG i c=some b->0<iN i c
 | .seq x y,b,h=>by simp only[fG]at h;simp only[iN];split at h;rename_i a;have:=sQ a;omega;have:=sQ h;omega
 | .cond _ x y,b,h=>by simp only[fG]at h;simp only[iN];split at h;rename_i a;have:=sQ a;omega;have:=sQ h;omega
 | .block id c,b,h=>by simp only[fG]at h;simp only[iN];split at h;omega;exact sQ h
 | .loop c,b,h=>by simp only[iN];exact sQ (c:=c) h
 | .scope c,b,h=>by simp only[iN];exact sQ (c:=c) h
 | .skip,_,h | .region _ _ _,_,h | .rangeFunc _ _ _ _,_,h | .exit _,_,h | .label _,_,h | .goto _,_,h | .ret,_,h | .refuse _,_,h=>by simp[fG]at h
theorem AJ{b:Code}(a:Cw E n g (.block i (.loop b))):∀ {c:Code},iN i c<=1 ->fG i c=some b->uA E i g n c
 | .seq x y,h,ad=>by simp only[iN]at h;simp only[fG]at ad;split at ad;rename_i d;have:=sQ d;simp only[aF]at ad;subst ad;exact⟨AJ a (by omega) d,rL (by omega)⟩;have:=sQ ad;exact⟨rL (by omega),AJ a (by omega) ad⟩
 | .cond _ x y,h,ad=>by simp only[iN]at h;simp only[fG]at ad;split at ad;rename_i d;have:=sQ d;simp only[aF]at ad;subst ad;exact⟨AJ a (by omega) d,rL (by omega)⟩;have:=sQ ad;exact⟨rL (by omega),AJ a (by omega) ad⟩
 | .block id c,h,ad=>by simp only[iN]at h;simp only[fG]at ad;split at ad;rename_i ag;rw[ag]at h;have e:=bd ag;subst e;split at ad;simp only[aF]at ad;subst ad;exact⟨λ _=>a,rL (by simp only at h;omega)⟩;cases ad;rename_i ag;rw[ag]at h;exact⟨λ e=>by subst e;simp at ag,AJ a h ad⟩
 | .loop c,h,ad=>AJ (c:=c) a h ad
 | .scope c,h,ad=>AJ (c:=c) a h ad
 | .skip,_,h | .region _ _ _,_,h | .rangeFunc _ _ _ _,_,h | .exit _,_,h | .label _,_,h | .goto _,_,h | .ret,_,h | .refuse _,_,h=>by simp[fG]at h
theorem AG{d:oE E}(hi:i<1000000)(a:∀j h,d j=some h->(j=i/\h=g)\/LE j=some h):∀ {c:Code},kJ E LE n c->uA E i g n c->kJ E d n c
 | .seq x y,h,h'=>⟨(λ q r rest b e=>by
   unfold Ly at b;split at b;rename_i id _;rcases a _ q b with⟨f,_⟩|ao;omega;exact h.1 q r rest ao e
   ·cases b),AG hi a h.2.1 h'.1,AG hi a h.2.2 h'.2⟩
 | .cond _ x y,h,h'=>⟨AG hi a h.1 h'.1,AG hi a h.2 h'.2⟩
 | .block id c,h,h'=>⟨λ q b=>by
   rcases a id q b with⟨f,ao⟩|e;rw[ao];exact h'.1 f
   ·exact h.1 q e,AG hi a h.2 h'.2⟩
 | .loop c,h,h'=>AG (c:=c) hi a h h'
 | .scope c,h,h'=>AG (c:=c) hi a h h'
 | .skip,_,_ | .region _ _ _,_,_ | .rangeFunc _ _ _ _,_,_ | .exit _,_,_ | .label _,_,_ | .goto _,_,_ | .ret,_,_ | .refuse _,_,_=>trivial
def lB:Code->List (Nat×Code×Code)
 | .seq x y=>(match x,y with
   | .seq (.region a b c) (.block id d),.seq r _=>[(id,.seq (.region a b c) (.block id d),r)]
   |_,_=>[])++lB x++lB y
 | .cond _ x y=>lB x++lB y
 | .block _ c=>lB c
 | .loop c=>lB c
 | .scope c=>lB c
 |_=>[]
def rE:Code->Bool
 | .seq x y=>rE x&&rE y
 | .cond _ x y=>rE x&&rE y
 | .block id c=>fg id 1000000&&rE c
 | .loop c=>rE c
 | .scope c=>rE c
 |_=>true
theorem AH{p:oE E}(m:∀j h,p j=some h->(j=1000000+i/\h=g)\/LE j=some h):∀ {c:Code},(∀x r,(i,x,r)∈lB c->zl E n g x r)->rE c=true->kJ E LE n c->kJ E p n c
 | .seq x y,l,ag,h=>by
   simp only[rE,cd]at ag;refine⟨λ q r rest o e=>?_,AH m (λ e2 f k=>l e2 f (by simp only[lB];simp[k])) ag.1 h.2.1,AH m (λ e2 f k=>l e2 f (by simp only[lB];simp[k])) ag.2 h.2.2⟩;unfold Ly at o;split at o
   ·rename_i a b c id d;rcases m _ q o with⟨s,ao⟩|ao
    ·have:id=i:=by omega
     subst this;subst e;rw[ao];exact l _ _ (by simp only[lB];simp)
    ·exact h.1 q r rest ao e
   ·cases o
 | .cond _ x y,l,ag,h=>by simp only[rE,cd]at ag;exact⟨AH m (λ e2 f k=>l e2 f (by simp only[lB];simp[k])) ag.1 h.1,AH m (λ e2 f k=>l e2 f (by simp only[lB];simp[k])) ag.2 h.2⟩
 | .block id c,l,ag,h=>by simp only[rE,cd]at ag;refine⟨λ q o=>?_,AH m (λ e2 f k=>l e2 f (by simpa only[lB]using k)) ag.2 h.2⟩;rcases m id q o with⟨s,_⟩|e;have:=cJ ag.1;omega;exact h.1 q e
 | .loop c,l,ag,h=>AH (c:=c) m (λ e2 f k=>l e2 f (by simpa only[lB]using k)) ag h
 | .scope c,l,ag,h=>AH (c:=c) m (λ e2 f k=>l e2 f (by simpa only[lB]using k)) ag h
 | .skip,_,_,_ | .region _ _ _,_,_,_ | .rangeFunc _ _ _ _,_,_,_ | .exit _,_,_,_ | .label _,_,_,_ | .goto _,_,_,_ | .ret,_,_,_ | .refuse _,_,_,_=>trivial
theorem AI:∀ {c b:Code},kJ E LE n c->fG i c=some b->kJ E LE n b
 | .seq x y,b,h,ad=>by simp only[fG]at ad;split at ad;rename_i a;simp only[aF]at ad;subst ad;exact AI h.2.1 a;exact AI h.2.2 ad
 | .cond _ x y,b,h,ad=>by simp only[fG]at ad;split at ad;rename_i a;simp only[aF]at ad;subst ad;exact AI h.1 a;exact AI h.2 ad
 | .block id c,b,h,ad=>by simp only[fG]at ad;split at ad;split at ad;simp only[aF]at ad;subst ad;exact h.2;cases ad;exact AI h.2 ad
 | .loop c,b,h,ad=>AI (c:=c) h ad
 | .scope c,b,h,ad=>AI (c:=c) h ad
 | .skip,_,_,h | .region _ _ _,_,_,h | .rangeFunc _ _ _ _,_,_,h | .exit _,_,_,h | .label _,_,_,h | .goto _,_,_,h | .ret,_,_,h | .refuse _,_,_,h=>by simp[fG]at h
end
structure cW (E:Env) where
 ce:List (Nat×(List (aL E.T.El)->List (aH E.T.El)->D (fE E.T.El)))
 le:List (Nat×Nat×(eU E.T.El->D (ca E.T.El)))
def Hu{E:Env}:List (Nat×Nat×(eU E.T.El->D (ca E.T.El)))->lP E
 |[],_,_=>none
 |p::r,g,i=>match cj p.1 g&&cj p.2.1 i with
  |true=>some p.2.2
  |false=>Hu r g i
def Yx{E:Env}:List (Nat×(List (aL E.T.El)->List (aH E.T.El)->D (fE E.T.El)))->I1 E
 |[],_=>none
 |p::r,g=>match cj p.1 g with
  |true=>some p.2
  |false=>Yx r g
def cW.la{E:Env}(t:cW E):I1 E:=Yx t.ce
def cW.LE{E:Env}(t:cW E):lP E:=Hu t.le
def cW.bw{E:Env}(t:cW E):fz E:=GG E t.la t.LE 100
def cW.f{E:Env}(t:cW E)(g:Nat)(h:List (aL E.T.El)->List (aH E.T.El)->D (fE E.T.El)):cW E:=⟨(g,h)::t.ce,t.le⟩
def cW.l{E:Env}(t:cW E)(g i:Nat)(h:eU E.T.El->D (ca E.T.El)):cW E:=⟨t.ce,(g,i,h)::t.le⟩
structure cW.Ok {E:Env} (t:cW E):Prop where
 ce:Nc E t.la
 le:wD E t.LE
def eA.fit(E:Env)(c:eA E.T)(ys:List (aL E.T.El))(bl:List (aH E.T.El)):Bool:=match gW [] c.pas c.pbs bl ys with
 |(bO,a)=>match iQ bO [] false c.pas c.pbs a with
  |some _=>true
  |none=>false
def fO.fit(E:Env)(c:fO E.T)(s:eU E.T.El):Bool:=match qm E s.bl s.f [] (c.ss.map .tmp)with
 |some ys=>match gW [] c.pas c.pbs s.bl ys with
  |(bO,a)=>match iQ bO [] false c.pas c.pbs a with
   |some _=>true
   |none=>false
 |none=>false
def cW.GF{E:Env}(t:cW E)(g:Nat)(c:eA E.T):cW E:=t.f g λ ys bl=>match c.fit E ys bl with
 |true=>c.run E ys bl
 |false=>t.bw g ys bl
def cW.PN{E:Env}(t:cW E)(g i:Nat)(c:fO E.T)(F:Nat):cW E:=t.l g i λ s=>match c.fit E s with
 |true=>c.run E F s
 |false=>match t.LE g i with
  |some h=>h s
  |none=>.no
def rh(P:Program)(g:Nat):Code:=match P.funcs[g]? with
 |some fn=>match fn.body with
  |some c=>c
  |none=>.skip
 |none=>.skip
def hT(P:Program)(g i:Nat):Code:=match fG i (rh P g)with
 |some b=>b
 |none=>.skip
def fJ(P:Program)(g:Nat):Nat:=match P.funcs[g]? with
 |some fn=>fn.ntmps
 |none=>0
def ph(P:Program)(g i:Nat):Bool:=match fG i (rh P g)with
 |some _=>jw (iN i (rh P g)) 1&&fg i 1000000
 |none=>false
section
variable{E:Env}{t:cW E}
theorem cW.Ok.pT(h:t.Ok){f:Nat}{r:List (aL E.T.El)->List (aH E.T.El)->D (fE E.T.El)}(ad:fp E.cm f=true)(hc:kH E f r):(t.f f r).Ok:=by
 have key:∀g q,(t.f f r).la g=some q->(g=f/\q=r)\/t.la g=some q:=λ g q a=>by simp only[cW.la,cW.f,Yx]at a;split at a;rename_i ag;simp only[aF]at a;exact .inl ⟨(bd ag).symm,a.symm⟩;exact .inr a
 refine⟨⟨λ g q a=>?_,λ g q a=>?_⟩,h.le⟩;rcases key g q a with⟨rfl,_⟩|e;exact th ad;exact h.ce.cm g q e;rcases key g q a with⟨rfl,rfl⟩|e;exact hc;exact h.ce.ok g q e
theorem cW.Ok.fn(a8:dl E)(a:E.cY=[])(h:t.Ok){f:Nat}(ad:fp E.cm f=true){c:eA E.T}(b:c.Eq E t.bw t.LE f):(t.f f (c.run E)).Ok:=h.pT ad (Ul a8 (lV a8 h.ce h.le 100) h.le a b)
theorem cW.Ok.Ns(a8:dl E)(h:t.Ok){g i:Nat}(c:ph E.P g i=true){r:eU E.T.El->D (ca E.T.El)}(ec:g∈E.cm->Cw E ⟨fJ E.P g,[]⟩ r (.block i (.loop (hT E.P g i)))):(t.l g i r).Ok:=by
 refine⟨h.ce,λ g' fn k l f m=>?_⟩;have a:=h.le g' fn k l f m;by_cases e:g'=g
 ·subst e;have o:rh E.P g'=k:=by unfold rh;rw[f];simp only;rw[m]
  have p:fJ E.P g'=fn.ntmps:=by unfold fJ;rw[f]
  have ec:=ec l;unfold ph at c;unfold hT at ec;rw[o]at c ec;rw[p]at ec;split at c;rename_i b ag;rw[ag]at ec;simp only at ec;simp only[cd]at c;refine AG (i:=i) (cJ c.2) (λ j q d=>?_) a (AJ ec (cJ c.1) ag);simp only[cW.LE,cW.l,Hu]at d;split at d;rename_i n;simp only[cd]at n;simp only[aF]at d;exact .inl ⟨(bd n.2).symm,d.symm⟩;exact .inr d;cases c
 ·have same:∀j,(t.l g i r).LE g' j=t.LE g' j:=λ j=>by
   simp only[cW.LE,cW.l,Hu];have:cj g g'=false:=by rw[gQ];intro ag;exact e (bd ag).symm
   rw[this];rfl
  have:(t.l g i r).LE g'=t.LE g':=funext same;rw[this];exact a
def ET(P:Program)(g i:Nat):Option (Code×Code):=match(lB (rh P g)).filter (λ p=>cj p.1 i),rE (rh P g)with
 |[p],true=>some p.2
 |_,_=>none
theorem cW.Ok.au0(h:t.Ok){g i:Nat}{x y:Code}(b:ET E.P g i=some (x,y)){r:eU E.T.El->D (ca E.T.El)}(ec:g∈E.cm->zl E ⟨fJ E.P g,[]⟩ r x y):(t.l g (1000000+i) r).Ok:=by
 refine⟨h.ce,λ g' fn d k f l=>?_⟩;have a:=h.le g' fn d k f l;by_cases e:g'=g
 ·subst e;have o:rh E.P g'=d:=by unfold rh;rw[f];simp only;rw[l]
  have s:fJ E.P g'=fn.ntmps:=by unfold fJ;rw[f]
  have ec:=ec k;unfold ET at b;rw[o]at b;rw[s]at ec;split at b;rename_i p u v;simp only[aF]at b;refine AH (i:=i) (g:=r) (λ j q c=>?_) (λ e2 w z=>?_) v a;simp only[cW.LE,cW.l,Hu]at c;split at c;rename_i m;simp only[cd]at m;simp only[aF]at c;exact .inl ⟨(bd m.2).symm,c.symm⟩;exact .inr c;have n:(i,e2,w)∈(lB d).filter (λ p=>cj p.1 i):=jt.2 ⟨z,by simp⟩;rw[u]at n;have:=dV.1 n;rw[<-this]at b;cases b;exact ec;cases b
 ·have same:∀j,(t.l g (1000000+i) r).LE g' j=t.LE g' j:=λ j=>by
   simp only[cW.LE,cW.l,Hu];have:cj g g'=false:=by rw[gQ];intro ag;exact e (bd ag).symm
   rw[this];rfl
  have:(t.l g (1000000+i) r).LE g'=t.LE g':=funext same;rw[this];exact a
theorem cW.Ok.OG(a8:dl E)(j:E.cY=[])(h:t.Ok){g i:Nat}(d:ph E.P g i=true){c:fO E.T}(e:c.oF E t.bw (t.LE g) (fJ E.P g) i (hT E.P g i))(F:Nat):g∈E.cm->Cw E ⟨fJ E.P g,[]⟩ (c.run E F) (.block i (.loop (hT E.P g i))):=λ k=>by
 unfold ph at d;split at d
 ·rename_i b ag;have Kd:hT E.P g i=b:=by unfold hT;rw[ag]
  rw[Kd]at e⊢;unfold rh at ag;split at ag
  ·rename_i fn f;split at ag
   ·rename_i l m;have a:=h.le g fn l k f m;have o:fJ E.P g=fn.ntmps:=by unfold fJ;rw[f]
    rw[o]at e⊢;exact aEF (n:=⟨fn.ntmps,[]⟩) a8 (lV a8 h.ce h.le 100) j (AI a ag) e F
   ·simp[fG]at ag
  ·simp[fG]at ag
 ·cases d
theorem cW.Ok.gx(a8:dl E)(b:E.cY=[])(h:t.Ok){g i:Nat}(a:ph E.P g i=true){c:fO E.T}(d:c.Eq E t.bw (t.LE g) (fJ E.P g) i (hT E.P g i))(F:Nat):(t.l g i (c.run E F)).Ok:=h.Ns a8 a (h.OG a8 b a d.one F)
theorem x3{LE:oE E}{n:cG}{i:Nat}{q:eU E.T.El->D (ca E.T.El)}(a:LE i=some q):∀ {c b:Code},kJ E LE n c->fG i c=some b->Cw E n q (.block i (.loop b))
 | .seq x y,b,h,ad=>by simp only[fG]at ad;split at ad;rename_i d;simp only[aF]at ad;subst ad;exact x3 a h.2.1 d;exact x3 a h.2.2 ad
 | .cond _ x y,b,h,ad=>by simp only[fG]at ad;split at ad;rename_i d;simp only[aF]at ad;subst ad;exact x3 a h.1 d;exact x3 a h.2 ad
 | .block id c,b,h,ad=>by simp only[fG]at ad;split at ad;rename_i ag;have e:=bd ag;subst e;split at ad;simp only[aF]at ad;subst ad;exact h.1 q a;cases ad;exact x3 a h.2 ad
 | .loop c,b,h,ad=>x3 (c:=c) a h ad
 | .scope c,b,h,ad=>x3 (c:=c) a h ad
 | .skip,_,_,h | .region _ _ _,_,_,h | .rangeFunc _ _ _ _,_,_,h | .exit _,_,_,h | .label _,_,_,h | .goto _,_,_,h | .ret,_,_,h | .refuse _,_,_,h=>by simp[fG]at h
theorem cW.Ok.aEG(a8:dl E)(k:E.cY=[])(h:t.Ok){g i:Nat}(a:ph E.P g i=true){c:fO E.T}(l:c.Eq E t.bw (t.LE g) (fJ E.P g) i (hT E.P g i))(F:Nat):(t.PN g i c F).Ok:=by
 refine h.Ns a8 a λ f s r d=>?_;split at d;exact h.OG a8 k a l.one F f s r d
 ·split at d
  ·rename_i q m;have u:=a;unfold ph at a;split at a
   ·rename_i b ag;have Kd:hT E.P g i=b:=by unfold hT;rw[ag]
    rw[Kd];unfold rh at ag;split at ag
    ·rename_i fn j;split at ag
     ·rename_i n o;have e:=h.le g fn n f j o;have p:fJ E.P g=fn.ntmps:=by unfold fJ;rw[j]
      rw[p];exact x3 m e ag s r d
     ·simp[fG]at ag
    ·simp[fG]at ag
   ·cases a
  ·exact d.elim
theorem cW.Ok.jg(a8:dl E)(a:E.cY=[])(h:t.Ok){f:Nat}(ad:fp E.cm f=true){c:lc E.T}(b:c.Eq E t.bw t.LE f):(t.f f (c.run E)).Ok:=h.pT ad (afg a8 (lV a8 h.ce h.le 100) h.le a b.one)
theorem cW.Ok.ays(a8:dl E)(b:E.cY=[])(h:t.Ok){f:Nat}(ad:fp E.cm f=true){c:eA E.T}(d:c.Eq E t.bw t.LE f):(t.GF f c).Ok:=by refine h.pT ad λ ys bl r a=>?_;split at a;exact Ul a8 (lV a8 h.ce h.le 100) h.le b d ys bl r a;exact((lV a8 h.ce h.le 100).ok f ys bl r a).2
end
end ba
