/- Part 3 of the proof that is ended in the last text: small logic, what the functions compute, walks, plain laws. -/
import Derived.Test.YtifhjkbiiekamaaDoorVl2
open Array renaming getD_eq_getD_getElem?->dP,getElem?_eq_getElem->iy,getElem?_eq_none->hI,getElem?_eq_some_iff->eL,getElem?_setIfInBounds->eb,getElem?_toList->g0,setIfInBounds_comm->iv
open Bool renaming and_eq_true->bL,eq_false_iff->hA,false_eq_true->ie,not_eq_true'->gI,or_eq_false_iff->kc,or_eq_true->hZ
open List renaming all_eq_true->jK,append_assoc->iV,append_nil->iW,cons.injEq->hN,getElem?_append_left->eQ,getElem?_append_right->eX,getElem?_cons_zero->dX,getElem?_drop->ja,getElem?_eq_getElem->bu,getElem?_eq_none->gV,getElem?_eq_some_iff->bb,getElem?_map->j4,getElem?_set_ne->ix,getElem?_set_self->gk,getElem?_take->hG,length_cons->df,length_set->lI,length_take->gf,map_cons->fA,map_nil->ib,mem_append->de,mem_cons->dc,mem_cons_of_mem->fg,mem_iff_getElem->je,mem_of_getElem?->cU,mem_singleton->fG,nodup_cons->jr,not_mem_nil->hx,pairwise_iff_getElem->jq
open Nat renaming beq->bT,ble->hX,blt->eM,decEq->kO,eq_of_beq_eq_true->aZ,le_of_ble_eq_true->bW,le_refl->da,le_trans->fo,lt_of_lt_of_le->dY,lt_or_ge->gE,lt_succ_self->ky,min_eq_left->lB,zero_add->jw,zero_le->hh
open Option renaming bind_some->ae,getD_some->ia,map_eq_some_iff->c9,some.inj->eR,some.injEq->aK
open Prod renaming mk.injEq->cY
noncomputable section
namespace a8
open Go Go.RowKit aA ad
inductive N7 (El:Nat->Type):Type
 |ret (y:aD El)
 |sX (y:aD El)
structure eO (El:Nat->Type) where
 e:N7 El
 bl:List (ay El)
 ws:List Nat
abbrev dN(E:Env):=Nat->List (aD E.T.El)->List (ay E.T.El)->D (eO E.T.El)
structure c1 (El:Nat->Type) where
 f:b5 El
 bl:List (ay El)
 ws:List Nat
inductive yS (El:Nat->Type):Type
 |nm
 |ex (id:Nat)
 |rt
 |eI (y:aD El)
structure bS (El:Nat->Type) where
 x:yS El
 s:c1 El
def ew{El:Nat->Type}(bl:List (ay El))(ρ:List Value)(w w':World)(ws:List Nat):Prop:=∀k,k<w.heap.size->(∀i∈ws,∀B h,bl[i]? =some B->ρ[i]? =some h->k∉a6 B h)->w'.heap[k]? =w.heap[k]?
section
variable{T:bA}{X:Nat->Prop}{bl bl' pG:List (ay T.El)}{ρ ρ' ya:List Value}{w w' w'':World}{s s':List Nat}
theorem ew.nil:ew bl ρ w w []:=λ _ _ _=>rfl
theorem ew.b2(h:ew bl ρ w w' s)(b:To X bl bl' ρ ρ' w w')(k:ew bl' ρ' w' w'' s'):ew bl ρ w w'' (s'++s):=λ q a c=>(k q (dY a b.sz) λ i hi B h ag d e=>by obtain⟨hj,f,g,al,aL⟩:=b.kH i B h ag d q e a;exact c i (de.2 (.inl hi)) hj f g al aL).trans (h q a λ i hi=>c i (de.2 (.inr hi)))
theorem ew.same(h:ew bl ρ w w' s)(e:∀q:Nat,w''.heap[q]? =w'.heap[q]?):ew bl ρ w w'' s:=λ q a b=>(e q).trans (h q a b)
end
def rD(E:Env)(X:Nat->Prop)(bl:List (ay E.T.El))(ρ:List Value)(w:World):N7 E.T.El->Ending->Prop
 | .ret y,.returned v=>aq E.T (aW X bl ρ w) w ρ bl y v
 | .sX y,.panicked c=>∃v,c=[{ v,recovered:=false }]/\aq E.T (aW X bl ρ w) w ρ bl y v
 |_,_=>False
def il(E:Env)(X:Nat->Prop)(bl:List (ay E.T.El))(ρ:List Value)(w:World):Prop:=∀g y,c6 E.dW g=some y->aq E.T (aW X bl ρ w) w ρ bl y (.pointer (some ⟨g,0,none⟩))
def ik(E:Env):Prop:=∀g y,c6 E.dW g=some y->∃t d o,y= .x t d o
theorem il.enter{E:Env}{X b:Nat->Prop}{bl bl':List (ay E.T.El)}{ρ ρ':List Value}{w:World}(f:ik E)(h:il E X bl ρ w)(c:∀k,aW X bl ρ w k->aW b bl' ρ' w k):il E b bl' ρ' w:=λ g y e=>by obtain⟨t,d,o,rfl⟩:=f g y e;have:=h g _ e;simp only[aq]at this⊢;obtain⟨a,q,cs,I,J,i,j⟩:=this;exact⟨a,q,cs,I,c a J,(E.T.ty t).law (λ k l=>⟨c k l,rfl⟩) i,j⟩
theorem il.to{E:Env}{X:Nat->Prop}{bl bl':List (ay E.T.El)}{ρ ρ':List Value}{w w':World}(h:il E X bl ρ w)(a:To X bl bl' ρ ρ' w w'):il E X bl' ρ' w':=λ g y b=>a.v (h g y b)
structure gA (E:Env) (a0:dN E):Prop where
 ok:∀f ys bl r,(a0 f ys bl).out r->(∀args w,(callFunc f args).run E.P w= .ok (.enter f args) w)/\
  ∀(W:World)(ar:List Nat)(X:Nat->Prop)(ρ:List Value)(w:World)(vs:List Value),Mem E.T W ar X bl ρ w->il E X bl ρ w->aR E.T (aW X bl ρ w) w ρ bl ys vs ->
   Calls E.P f ⟨vs⟩ w λ e w'=>∃ρ',Mem E.T W ar X r.bl ρ' w'/\To X bl r.bl ρ ρ' w w'/\ew bl ρ w w' r.ws/\rD E X r.bl ρ' w' r.e e
structure lh (El:Nat->Type) where
 f:b5 El
 aE:Option (Option Nat)
def LI(E:Env)(bl:List (ay E.T.El))(f:b5 E.T.El)(d:Nat)(op:Op):D (lh E.T.El):=(wD E bl f [] op).bind λ y=>.ok ⟨f.put d y,mJ E bl f [] op⟩
def ES(E:Env)(bl:List (ay E.T.El))(f:b5 E.T.El)(d:Nat)(want c:Bool)(op:Op):D (lh E.T.El):=match wh c want with
 |true=>LI E bl f d op
 |false=>.ok ⟨f.put d (.p undef),none⟩
def b5.know{El:Nat->Type}(f:b5 El)(j:Nat)(b:Bool):b5 El:=⟨f.aQ,f.gs,(j,b)::f.dh⟩
def Vf(E:Env)(ops:Array Oper)(d:Nat):List Oper->Bool
 |[]=>false
 |o::r=>(match o.guard with
  |some (j,_)=>match zl ops j,(match o.op with
   | .indexAddr _ _ _=>Cm.e
   | .index _ _ _=>Cm.e
   | .slice _ _ _ _ _=>Cm.e
   |op=>uT E.P op)with
    |_,.q=>false
    |some d',_=>bT d' d
    |none,_=>false
  |none=>false)||Vf E ops d r
def AX(E:Env)(ops:Array Oper)(n:Nat)(bl:List (ay E.T.El))(f:b5 E.T.El)(o:Oper):D (lh E.T.El):=match o.dst with
 |none=>.no
 |some d=>match eM d n with
  |false=>.no
  |true=>match zh E ops f n o.guard with
   | .run=>LI E bl f d o.op
   | .skip=>.ok ⟨f.put d (.p undef),none⟩
   | .maybe a3 want b=>match wD E bl f [(a3,want)] o.op,bT a3 d||Vf E ops d ops.toList with
     | .ok y,false=>.ok ⟨f.mS d a3 want y,mJ E bl f [(a3,want)] o.op⟩
     |_,_=>.ma b (ES E bl (f.know a3 true) d want true o.op) (ES E bl (f.know a3 false) d want false o.op)
   | .cond a3 want=>match wD E bl f [(a3,want)] o.op,bT a3 d with
     | .ok y,false=>.ok ⟨f.mS d a3 want y,mJ E bl f [(a3,want)] o.op⟩
     |_,_=>.no
   | .no=>.no
section
variable{E:Env}{W w w':World}{ar:List Nat}{X:Nat->Prop}{n:b'}{f:b5 E.T.El}{bl:List (ay E.T.El)}{ρ:List Value}{a:Act}{ops:Array Oper}{o:Oper}
theorem R.mS{d j:Nat}{b:Bool}{y:aD E.T.El}{v:Value}(h:R E W ar X n f bl ρ a w)(aE:eM d n.n=true)(c:bT j d=false)(e:a.tmps.getD j undef= .bool b->aq E.T (aW X bl ρ w) w ρ bl y v):R E W ar X n (f.mS d j b y) bl ρ (a.put (some d) v) w:=⟨h.mem,h.cV.mS aE c e,h.dW⟩
theorem R.know{j:Nat}{b:Bool}(h:R E W ar X n f bl ρ a w)(c:a.tmps.getD j undef= .bool b):R E W ar X n (f.know j b) bl ρ a w:=⟨h.mem,⟨h.cV.dO,h.cV.gs,λ p az=>by
 rcases dc.1 az with rfl |az;exact c
 ·exact h.cV.dh p az⟩,h.dW⟩
def yn(E:Env)(W:World)(ar:List Nat)(X:Nat->Prop)(n:b')(bl:List (ay E.T.El))(ρ:List Value)(a:Act)(w:World)(ops:Array Oper)(o:Oper)(d:Nat)(r:lh E.T.El):Prop:=∃u,R E W ar X n r.f bl ρ (a.put (some d) u) w/\((Region.wanted o (yielded ops a.tmps)=true/\rF E.P o a X bl ρ w u r.aE)\/(Region.wanted o (yielded ops a.tmps)=false/\u=undef))
theorem Uq(b:cv E)(h:R E W ar X n f bl ρ a w){d:Nat}(aE:eM d n.n=true)(c:Region.wanted o (yielded ops a.tmps)=true){r:lh E.T.El}(e:(LI E bl f d o.op).out r):yn E W ar X n bl ρ a w ops o d r:=by obtain⟨y,I,J⟩:=D.e1 e;have J:(⟨f.put d y,mJ E bl f [] o.op⟩:lh E.T.El)=r:=J;subst J;obtain⟨u,g,i⟩:=Q2 b h (cur:=[]) trivial rfl I;exact⟨u,h.put aE g,.inl ⟨c,i⟩⟩
theorem Us(h:R E W ar X n f bl ρ a w){d:Nat}(aE:eM d n.n=true)(b:Region.wanted o (yielded ops a.tmps)=false):yn E W ar X n bl ρ a w ops o d ⟨f.put d (.p undef),none⟩:=⟨undef,h.put aE (by simp only[aq]),.inr ⟨b,rfl⟩⟩
theorem Ur(i:cv E)(h:R E W ar X n f bl ρ a w){d a3:Nat}{want c:Bool}(aE:eM d n.n=true)(e:a.tmps.getD a3 undef= .bool c)(g:Region.wanted o (yielded ops a.tmps)=true↔a.tmps.getD a3 undef= .bool want){r:lh E.T.El}(b:(ES E bl f d want c o.op).out r):yn E W ar X n bl ρ a w ops o d r:=by unfold ES at b;split at b;rename_i ag;rw[rG]at ag;subst ag;exact Uq i h aE (g.2 e) b;rename_i ag;have b:(⟨f.put d (.p undef),none⟩:lh E.T.El)=r:=b;subst b;refine Us h aE ((hA).2 λ j=>?_);have:=g.1 j;rw[e]at this;injection this with this;rw[rG.2 this]at ag;cases ag
theorem Up(g:cv E)(h:R E W ar X n f bl ρ a w){d a3:Nat}{want:Bool}(aE:eM d n.n=true)(c:bT a3 d=false)(e:Region.wanted o (yielded ops a.tmps)=true↔a.tmps.getD a3 undef= .bool want){y:aD E.T.El}(i:wD E bl f [(a3,want)] o.op= .ok y):yn E W ar X n bl ρ a w ops o d ⟨f.mS d a3 want y,mJ E bl f [(a3,want)] o.op⟩:=by by_cases ag:a.tmps.getD a3 undef= .bool want;obtain⟨u,j,k⟩:=Q2 g h (cur:=[(a3,want)]) (o:=o) (z:=y) ⟨ag,trivial⟩ rfl (by rw[i];rfl);exact⟨u,h.mS aE c λ _=>j,.inl ⟨e.2 ag,k⟩⟩;exact⟨undef,h.mS aE c λ b=>absurd b ag,.inr ⟨(hA).2 λ b=>ag (e.1 b),rfl⟩⟩
theorem LJ(i:cv E)(h:R E W ar X n f bl ρ a w){r:lh E.T.El}(c:(AX E ops n.n bl f o).out r):∃d,o.dst=some d/\yn E W ar X n bl ρ a w ops o d r:=by have e:=Rp (ops:=ops) (o:=o) h;unfold AX at c;split at c;exact c.elim;rename_i d l;refine⟨d,l,?_⟩;split at c;exact c.elim;rename_i aE;split at c;rename_i g;rw[g]at e;exact Uq i h aE e c;rename_i g;rw[g]at e;have c:(⟨f.put d (.p undef),none⟩:lh E.T.El)=r:=c;subst c;exact Us h aE e;rename_i a3 want b g;rw[g]at e;obtain⟨m,k,j⟩:=e;split at c;rename_i y I J;have c:(⟨f.mS d a3 want y,mJ E bl f [(a3,want)] o.op⟩:lh E.T.El)=r:=c;subst c;exact Up i h aE (kc.1 J).1 j I;rcases c with⟨rfl,c⟩|⟨rfl,c⟩;exact Ur i (h.know k) aE k j c;exact Ur i (h.know k) aE k j c;rename_i a3 want g;rw[g]at e;obtain⟨m,j⟩:=e;split at c;rename_i y I J;have c:(⟨f.mS d a3 want y,mJ E bl f [(a3,want)] o.op⟩:lh E.T.El)=r:=c;subst c;exact Up i h aE J j I;exact c.elim;exact c.elim
end
def xO{T:bA}(n:Nat)(f:b5 T.El)(y:aD T.El):Option Nat->Option (b5 T.El)
 |none=>some f
 |some d=>match eM d n with
  |true=>some (f.put d y)
  |false=>none
def G'(E:Env)(n:Nat)(bl:List (ay E.T.El))(f:b5 E.T.El)(o:Oper):D (bS E.T.El):=(y_ E bl f [] o.op).bind λ e=>match xO n f (e.y.getD (.p undef)) o.dst with
 |some a=>.ok ⟨.nm,a,e.bl,e.ws⟩
 |none=>.no
def H0{El:Nat->Type}:aD El->Option (Nat×List (aD El)×List (aD El))
 | .p (.func (.func g) ⟨us⟩ ⟨cs⟩)=>some (g,us.map .p,cs.map .p)
 | .f (.func g) cs=>some (g,[],cs)
 | .h (.func g) us=>some (g,us,[])
 |_=>none
def GI(E:Env)(a0:dN E)(n:Nat)(bl:List (ay E.T.El))(f:b5 E.T.El)(a:Option Nat):Op->D (bS E.T.El)
 | .call ⟨.value b,⟨xs⟩,_⟩=>match cd E bl f [] b,lT E bl f [] xs with
   |some c,some ys=>match H0 c with
    |some (g,us,cs)=>(a0 g (us++ys++cs) bl).bind λ r=>match r.e with
     | .ret y=>match xO n f y a with
       |some d=>.ok ⟨.nm,d,r.bl,r.ws⟩
       |none=>.no
     | .sX y=>.ok ⟨.eI y,f,r.bl,r.ws⟩
    |none=>.no
   |_,_=>.no
 | .panic x=>match cd E bl f [] x with
   |some (.i t y)=>.ok ⟨.eI (.i t y),f,bl,[]⟩
   |_=>.no
 |_=>.no
def BZ(E:Env)(a0:dN E)(n:Nat)(bl:List (ay E.T.El))(f:b5 E.T.El)(o:Oper):D (bS E.T.El):=match uT E.P o.op with
 | .e=>G' E n bl f o
 | .c=>GI E a0 n bl f o.dst o.op
 |_=>.no
def FL{T:bA}(n:Nat)(bl:List (ay T.El))(f:b5 T.El)(o:Oper):D (bS T.El):=match xO n f (.p undef) o.dst with
 |some a=>.ok ⟨.nm,a,bl,[]⟩
 |none=>.no
def FK(E:Env)(a0:dN E)(n:Nat)(bl:List (ay E.T.El))(f:b5 E.T.El)(want c:Bool)(o:Oper):D (bS E.T.El):=match wh c want with
 |true=>BZ E a0 n bl f o
 |false=>FL n bl f o
def pk(E:Env)(a0:dN E)(ops:Array Oper)(n:Nat)(bl:List (ay E.T.El))(f:b5 E.T.El)(o:Oper):D (bS E.T.El):=match zh E ops f n o.guard with
 | .run=>BZ E a0 n bl f o
 | .skip=>FL n bl f o
 | .maybe a3 want b=>.ma b (FK E a0 n bl (f.know a3 true) want true o) (FK E a0 n bl (f.know a3 false) want false o)
 |_=>.no
structure dl (E:Env) (W:World) (ar:List Nat) (X:Nat->Prop) (n:b') (b0:List (ay E.T.El)) (ρ0:List Value) (w0:World) (s:c1 E.T.El) (ρ:List Value) (a:Act) (w:World):Prop where
 r:R E W ar X n s.f s.bl ρ a w
 to:To X b0 s.bl ρ0 ρ w0 w
 wr:ew b0 ρ0 w0 w s.ws
def l9(E:Env)(X:Nat->Prop)(bl:List (ay E.T.El))(ρ:List Value)(Q:Exit->Act->World->Prop)(a:Act)(w:World):yS E.T.El->Prop
 | .nm=>Q .normal a w
 | .ex id=>Q (.exit id) a w
 | .rt=>Q .ret a w
 | .eI y=>∀v,aq E.T (aW X bl ρ w) w ρ bl y v->Q (.panic [{ v,recovered:=false }]) a w
section
variable{E:Env}{a0:dN E}{W w w':World}{ar:List Nat}{X:Nat->Prop}{n:b'}{f:b5 E.T.El}{bl:List (ay E.T.El)}{ρ:List Value}{a:Act}{ops:Array Oper}{o:Oper}
theorem R.set{d:b5 E.T.El}{y:aD E.T.El}{v:Value}{c:Option Nat}(h:R E W ar X n f bl ρ a w)(b:xO n.n f y c=some d)(e:aq E.T (aW X bl ρ w) w ρ bl y v):R E W ar X n d bl ρ (a.put c v) w:=by unfold xO at b;split at b;simp only[aK]at b;subst b;exact h;split at b;rename_i aE;simp only[aK]at b;subst b;exact h.put aE e;cases b
def rm(l:List Nat)(a a':Act):Prop:=a'.defers=a.defers/\a'.tmps.size=a.tmps.size/\∀t,t∉l->a'.tmps.getD t undef=a.tmps.getD t undef
theorem rm.refl{l:List Nat}{a:Act}:rm l a a:=⟨rfl,rfl,λ _ _=>rfl⟩
def CP:Option Nat->List Nat
 |none=>[]
 |some d=>[d]
theorem yU{d:Option Nat}{a:Act}{v:Value}:rm (CP d) a (a.put d v):=by
 cases d with
 |none=>exact .refl
 |some d=>refine⟨rfl,by simp[Act.put],λ t b=>?_⟩;have:d≠t:=λ e=>b (by rw[e];exact fG.2 rfl);simp only[Act.put,dP,eb,lW this]
def wb(E:Env)(W:World)(ar:List Nat)(X:Nat->Prop)(n:b')(bl:List (ay E.T.El))(ρ:List Value)(a:Act)(w:World)(ops:Array Oper)(o:Oper)(r:bS E.T.El):Prop:=
 ∀(K:Act->World->Prop)(Q:Exit->Act->World->Prop),
  (∀ρ' a' w',R E W ar X n r.s.f r.s.bl ρ' a' w'->To X bl r.s.bl ρ ρ' w w'->ew bl ρ w w' r.s.ws->rm (CP o.dst) a a'->l9 E X r.s.bl ρ' (Exit.then K Q) a' w' r.x) ->
  if Region.wanted o (yielded ops a.tmps)then o.wp E.P a w K Q else K (a.put o.dst undef) w
theorem aaG(j:cv E)(h:R E W ar X n f bl ρ a w)(l:Region.wanted o (yielded ops a.tmps)=true){r:bS E.T.El}(m:(G' E n.n bl f o).out r):wb E W ar X n bl ρ a w ops o r:=by obtain⟨e,I,J⟩:=D.e1 m;obtain⟨w',ρ',p,c,g,hy⟩:=abk j h (cur:=[]) (o:=o) trivial rfl I;intro K Q k;rw[lX l];split at J;rename_i q b;have J:(⟨.nm,q,e.bl,e.ws⟩:bS E.T.El)=r:=J;subst J;have i:=h.to c p;unfold Oper.wp;split at hy;rename_i y d;obtain⟨v,s,t⟩:=hy;rw[show(execOp a.eval o).run E.P w=_ from s];rw[d]at b;exact k ρ' _ w' (i.set b t) c g yU;rename_i d;rw[show(execOp a.eval o).run E.P w=_ from hy];rw[d]at b;exact k ρ' _ w' (i.set (y:=.p undef) b (by simp only[aq])) c g yU;exact J.elim
theorem E1{F:Nat->Prop}:∀(l:List Value),aR E.T F w ρ bl (l.map .p) l
 |[]=>by simp[aR]
 |v::r=>by simp only[fA,aR];exact⟨v,r,rfl,rfl,E1 r⟩
theorem abN{F:Nat->Prop}{y:aD E.T.El}{v:Value}{g:Nat}{us cs:List (aD E.T.El)}(h:H0 y=some (g,us,cs))(b:aq E.T F w ρ bl y v):∃u c,v= .func (.func g) ⟨u⟩ ⟨c⟩/\aR E.T F w ρ bl us u/\aR E.T F w ρ bl cs c:=by unfold H0 at h;split at h;simp only[aK,cY]at h;obtain⟨rfl,rfl,rfl⟩:=h;simp only[aq]at b;exact⟨_,_,b,E1 _,E1 _⟩;simp only[aK,cY]at h;obtain⟨rfl,rfl,rfl⟩:=h;simp only[aq]at b;obtain⟨vs,I,J⟩:=b;exact⟨[],vs,I,by simp[aR],J⟩;simp only[aK,cY]at h;obtain⟨rfl,rfl,rfl⟩:=h;simp only[aq]at b;obtain⟨vs,I,J⟩:=b;exact⟨vs,[],I,J,by simp[aR]⟩;cases h
theorem Y_(F:gA E a0)(h:R E W ar X n f bl ρ a w)(s:Region.wanted o (yielded ops a.tmps)=true){op:Op}(z:o.op=op){r:bS E.T.El}(b:(GI E a0 n.n bl f o.dst op).out r):wb E W ar X n bl ρ a w ops o r:=by
 unfold GI at b;split at b
 ·rename_i U xs e4;split at b
  ·rename_i V ys I J;split at b
   ·rename_i g us cs G;obtain⟨j,H,d⟩:=D.e1 b;obtain⟨u,c,l,al,aL⟩:=abN G (cn h (cur:=[]) trivial I);have bB:=xp h (cur:=[]) trivial J;obtain⟨L,m⟩:=F.ok _ _ _ _ H;have hc:=m W ar X ρ w (u++xs.map a.eval++c) h.mem h.dW ((al.b2 bB).b2 aL);intro K Q k;rw[lX s];unfold Oper.wp;have p:(execOp a.eval o).run E.P w= .ok (.enter g ⟨u++xs.map a.eval++c⟩) w:=by simp only[execOp,z,resolve,l];simp[Deferred.ofValue,invoke,L]
    rw[p];refine hc.mono λ e w' M=>?_;obtain⟨ρ',N,q,A,i⟩:=M;have B:=h.to q N;split at d
    ·rename_i y hy;rw[hy]at i;split at d
     ·rename_i O P;have d:(⟨.nm,O,j.bl,j.ws⟩:bS E.T.El)=r:=d;subst d;cases e with
      |returned v=>exact k ρ' _ w' (B.set P i) q A yU
      |panicked c=>exact i.elim
      |outgrown=>exact i.elim
     ·exact d.elim
    ·rename_i y hy;rw[hy]at i;have d:(⟨.eI y,f,j.bl,j.ws⟩:bS E.T.El)=r:=d;subst d;cases e with
     |returned v=>exact i.elim
     |panicked c=>obtain⟨v,rfl,S⟩:=i;exact k ρ' a w' B q A .refl v S
     |outgrown=>exact i.elim
   ·exact b.elim
  ·exact b.elim
 ·rename_i x;split at b
  ·rename_i t y I;have b:(⟨.eI (.i t y),f,bl,[]⟩:bS E.T.El)=r:=b;subst b;have l:=cn h (cur:=[]) trivial I;have C:=l;simp only[aq]at C;obtain⟨u,al,aL⟩:=C;intro K Q k;rw[lX s];unfold Oper.wp;have p:(execOp a.eval o).run E.P w= .halt (.panic (.iface t u)) w:=by simp only[execOp,z,al,Sem.run_bind,run_panic_iface];rfl
   rw[p];exact k ρ a w h .refl .nil .refl _ (by rw[<-al];exact l)
  ·exact b.elim
 ·exact b.elim
theorem WG(d:cv E)(e:gA E a0)(h:R E W ar X n f bl ρ a w)(c:Region.wanted o (yielded ops a.tmps)=true){r:bS E.T.El}(b:(BZ E a0 n.n bl f o).out r):wb E W ar X n bl ρ a w ops o r:=by unfold BZ at b;split at b;exact aaG d h c b;exact Y_ e h c rfl b;exact b.elim
theorem WI(h:R E W ar X n f bl ρ a w)(c:Region.wanted o (yielded ops a.tmps)=false){r:bS E.T.El}(b:(FL n.n bl f o).out r):wb E W ar X n bl ρ a w ops o r:=by unfold FL at b;split at b;rename_i d e;have b:(⟨.nm,d,bl,[]⟩:bS E.T.El)=r:=b;subst b;intro K Q k;rw[lW (by simp[c])];exact k ρ _ w (h.set e (by simp only[aq])) .refl .nil yU;exact b.elim
theorem WH(g:cv E)(i:gA E a0)(h:R E W ar X n f bl ρ a w){a3:Nat}{want c:Bool}(d:a.tmps.getD a3 undef= .bool c)(e:Region.wanted o (yielded ops a.tmps)=true↔a.tmps.getD a3 undef= .bool want){r:bS E.T.El}(b:(FK E a0 n.n bl f want c o).out r):wb E W ar X n bl ρ a w ops o r:=by unfold FK at b;split at b;rename_i ag;rw[rG]at ag;subst ag;exact WG g i h (e.2 d) b;rename_i ag;refine WI h ((hA).2 λ j=>?_) b;have:=e.1 j;rw[d]at this;injection this with this;rw[rG.2 this]at ag;cases ag
theorem NI(i:cv E)(j:gA E a0)(h:R E W ar X n f bl ρ a w){r:bS E.T.El}(c:(pk E a0 ops n.n bl f o).out r):wb E W ar X n bl ρ a w ops o r:=by have d:=Rp (ops:=ops) (o:=o) h;unfold pk at c;split at c;rename_i e;rw[e]at d;exact WG i j h d c;rename_i e;rw[e]at d;exact WI h d c;rename_i a3 want b e;rw[e]at d;obtain⟨l,g,k⟩:=d;rcases c with⟨rfl,c⟩|⟨rfl,c⟩;exact WH i j (h.know g) g k c;exact WH i j (h.know g) g k c;exact c.elim
end
def opsL(E:Env)(a0:dN E)(ops:Array Oper)(n:Nat):List Oper->c1 E.T.El->D (bS E.T.El)
 |[],s=>.ok ⟨.nm,s⟩
 |o::r,s=>match uT E.P o.op with
  | .q=>(AX E ops n s.bl s.f o).bind λ q=>o5 E q.f λ f=>opsL E a0 ops n r ⟨f,s.bl,s.ws⟩
  | .no=>.no
  |_=>(pk E a0 ops n s.bl s.f o).bind λ t=>match t.x with
   | .nm=>o5 E t.s.f λ f=>sS E t.s.ws s.bl.length t.s.bl λ bl=>opsL E a0 ops n r ⟨f,bl,t.s.ws++s.ws⟩
   |x=>.ok ⟨x,t.s.f,t.s.bl,t.s.ws++s.ws⟩
def Fin(E:Env)(W:World)(ar:List Nat)(X:Nat->Prop)(n:b')(b0:List (ay E.T.El))(ρ0:List Value)(w0:World)(t:bS E.T.El)(Q:Exit->Act->World->Prop):Prop:=∀ρ a w,dl E W ar X n b0 ρ0 w0 t.s ρ a w->l9 E X t.s.bl ρ Q a w t.x
section
variable{E:Env}{a0:dN E}{W:World}{ar:List Nat}{X:Nat->Prop}{n:b'}{b0:List (ay E.T.El)}{ρ0:List Value}{w0:World}{ops:Array Oper}{Q:Exit->Act->World->Prop}
theorem dl.next{s s':c1 E.T.El}{ρ ρ':List Value}{a a':Act}{w w':World}(h:dl E W ar X n b0 ρ0 w0 s ρ a w)(b:R E W ar X n s'.f s'.bl ρ' a' w')(c:To X s.bl s'.bl ρ ρ' w w')(d:ew s.bl ρ w w' s'.ws):dl E W ar X n b0 ρ0 w0 ⟨s'.f,s'.bl,s'.ws++s.ws⟩ ρ' a' w':=⟨b,h.to.trans c,h.wr.b2 h.to d⟩
theorem xt(g:cv E)(l:gA E a0):∀(os:List Oper){s:c1 E.T.El}{t:bS E.T.El}{ρ:List Value}{a:Act}{w:World},(opsL E a0 ops n.n os s).out t->dl E W ar X n b0 ρ0 w0 s ρ a w->Fin E W ar X n b0 ρ0 w0 t Q->wpList E.P ops Q os a w
 |[],s,t,ρ,a,w,c,h,k=>by have c:(⟨.nm,s⟩:bS E.T.El)=t:=c;subst c;exact k ρ a w h
 |o::r,s,t,ρ,a,w,c,h,k=>by
  simp only[opsL]at c;split at c
  ·obtain⟨q,I,J⟩:=D.e1 c;rw[mQ]at J;obtain⟨d,aE,u,m,hy⟩:=LJ (ops:=ops) g h.r I;have next:=xt g l r J (ρ:=ρ) (a:=a.put (some d) u) (w:=w) ⟨m,h.to,h.wr⟩ k
   refine wpList_step λ K p=>?_;rcases hy with⟨e,hy⟩|⟨e,hy⟩
   ·rw[lX e];unfold Oper.wp;rw[show(execOp a.eval o).run E.P w=_ from hy.now];show K (a.put o.dst u) w
    rw[aE];exact p _ _ next
   ·rw[lW (by simp[e]),aE,<-hy];exact p _ _ next
  ·exact c.elim
  ·obtain⟨b,I,J⟩:=D.e1 c;have f:=NI g l h.r I
   have f:=f (wpList E.P ops Q r) Q λ ρ' a' w' m v e _=>by
    have i:=h.next m v e;cases j:b.x with
    |nm=>rw[j]at J;simp only[mQ,vf]at J;exact xt g l r J i k
    |ex id=>rw[j]at J;have J:(⟨.ex id,b.s.f,b.s.bl,b.s.ws++s.ws⟩:bS E.T.El)=t:=J;subst J;exact k ρ' a' w' i
    |rt=>rw[j]at J;have J:(⟨.rt,b.s.f,b.s.bl,b.s.ws++s.ws⟩:bS E.T.El)=t:=J;subst J;exact k ρ' a' w' i
    |eI y=>rw[j]at J;have J:(⟨.eI y,b.s.f,b.s.bl,b.s.ws++s.ws⟩:bS E.T.El)=t:=J;subst J;exact k ρ' a' w' i
   unfold wpList;split;rename_i e;rw[lX e]at f;exact .inl f;rename_i e;rw[lW e]at f;exact f
end
section
variable{P:Program}{ops:Array Oper}{Q:Exit->Act->World->Prop}
def ij(H:List (List Nat×(World->Prop)))(bO:Array Bool)(w:World):Prop:=∀h∈H,(∀v∈h.1,bO.getD v false=false)->h.2 w
def hF(P:Program)(ops:Array Oper)(Q:Exit->Act->World->Prop)(H:List (List Nat×(World->Prop))):Nat->Array Bool->Act->World->Prop
 |0,bO,a,w=>Region.ready .any ops bO=[]/\Q .normal a w
 |bq+1,bO,a,w=>(Region.ready .any ops bO=[]->Q .normal a w)/\∀i∈Region.ready .any ops bO,wpOp P ops Q i (λ a' w'=>ij H (bO.setIfInBounds i true) w'/\hF P ops Q H bq (bO.setIfInBounds i true) a' w') a w
theorem V1{H:List (List Nat×(World->Prop))}:∀(bq:Nat)(bO:Array Bool)(a:Act)(w:World),hF P ops Q H bq bO a w->Go.wpAny P .any ops Q bq bO a w
 |0,_,_,_,h=>h
 |bq+1,_,_,_,h=>⟨h.1,λ i hi=>wpOp_mono (λ a' w' h'=>V1 bq _ a' w' h'.2) (h.2 i hi)⟩
theorem Nf{H b:List (List Nat×(World->Prop))}(c:∀bO w,ij H bO w->ij b bO w):∀(bq:Nat)(bO:Array Bool)(a:Act)(w:World),hF P ops Q H bq bO a w->hF P ops Q b bq bO a w
 |0,_,_,_,h=>h
 |bq+1,_,_,_,h=>⟨h.1,λ i hi=>wpOp_mono (λ a' w' h'=>⟨c _ _ h'.1,Nf c bq _ a' w' h'.2⟩) (h.2 i hi)⟩
theorem zj{bO:Array Bool}{i v:Nat}(h:i≠v):(bO.setIfInBounds i true).getD v false=bO.getD v false:=getD_set_ne false h
theorem akC{bO:Array Bool}{i v:Nat}(h:(bO.setIfInBounds i true).getD v false=false):bO.getD v false=false:=by by_cases e:i=v;subst e;rcases gE i bO.size with h' |h';simp[h']at h;simp[hI h'];rwa [zj e]at h
theorem V3{H:List (List Nat×(World->Prop))}{i:Nat}{cf:Oper}{v:Value}{S:World->Prop}{U V:List Nat}(hi:ops[i]? =some cf)(C:∀(j:Nat)(o:Oper) cs b,ops[j]? =some o->o.op≠ .select cs b)
 (R:∀c a w,Q (.panic c) (a.put cf.dst v) w->Q (.panic c) a w)(T:vT ops i U)(X:∀v∈V,v∈U)(Y:i∉V)(Z:∀h∈H,i∉h.1) :
 ∀(q:Nat)(bO:Array Bool)(a:Act)(w:World),
  (∀j d,ops[j]? =some d->j≠i->bO.getD j true=false->(∀e∈d.after,Region.binds .any e=true->e.on≠i)->cf.apart ops d=true) ->
  (∀u∈U,bO.getD u false=false)->i∈Region.ready .any ops bO->ij H bO w->S w->YieldsIf P ops S cf v a ->
  hF P ops Q ((V,S)::H) q (bO.setIfInBounds i true) (a.put cf.dst v) w->hF P ops Q H (q+1) bO a w:=by
 have mono:∀(bO:Array Bool)(w:World),ij ((V,S)::H) bO w->ij H bO w:=λ bO w h p l=>h p (fg _ l)
 have put:∀ {bO:Array Bool}{w:World},ij H bO w->ij H (bO.setIfInBounds i true) w:=λ{bO w} h p l m=>h p l λ v f=>akC (m v f)
 intro q
 induction q with
 |zero=>intro bO a w _ _ g z A hy W;refine⟨λ h=>(by rw[h]at g;cases g),λ j s=>?_⟩;by_cases e6:j=i;subst e6;exact hy.wpOp hi A ⟨put z,W⟩;have:=ready_mono s e6;rw[W.1]at this;cases this
 |succ q bi=>
  intro bO a w D n g z A hy W;refine⟨λ h=>(by rw[h]at g;cases g),λ j s=>?_⟩;by_cases e6:j=i;subst e6;exact hy.wpOp hi A ⟨put z,Nf mono _ _ _ _ W⟩
  ·have I:=W.2 j (ready_mono s e6);obtain⟨E,d,t,F⟩:=mem_ready.1 s;have G:∀e∈d.after,Region.binds .any e=true->e.on≠i:=λ e x ag heq=>by have I:=F e x ag;have K:=(mem_ready.1 g).1;rw[heq]at I;rcases gE i bO.size with h' |h';simp[h']at K I;rw[K]at I;cases I;simp[hI h']at I
   have L:j∉U:=λ zN=>by obtain⟨cI,B,e,x,ag,J⟩:=T j zN;rw[t]at B;simp only[aK]at B;subst B;rcases J with J |J;exact G e x ag J;have y:=F e x ag;rw[n _ J]at y;cases y
   have JR:∀u∈U,(bO.setIfInBounds j true).getD u false=false:=λ u m=>by have r:j≠u:=λ e=>L (e▸m);rw[zj r];exact n u m
   have J:=wpOp_putIf t (D j d t e6 E G) (λ cs b=>C i cf cs b hi) (λ cs b=>C j d cs b t) R hy I
   have zz:∀k ok,ops[k]? =some ok->k≠i->(bO.setIfInBounds j true).getD k true=false ->
    (∀e∈ok.after,Region.binds .any e=true->e.on≠i)->cf.apart ops ok=true:=λ k ok aj zQ n i_=>by
    refine D k ok aj zQ ?_ i_
    by_cases M:j=k
    ·subst M;exact E
    ·rw[getD_set_ne true M]at n;exact n
   refine wpOp_mono (λ a' w' y=>?_) J;obtain⟨rc,lk,h6⟩:=y;have Dr:S w':=lk (V,S) (by simp) λ v f=>by have N:=X v f;have r:j≠v:=λ e=>L (e▸N);have Jz:i≠v:=λ e=>Y (e▸f);rw[zj r,zj Jz];exact n v N
   have O:ij H (bO.setIfInBounds j true) w':=λ p l m=>lk p (fg _ l) λ v f=>by have r:i≠v:=λ e=>Z p l (e▸f);rw[iv _ _ (Ne.symm e6),zj r];exact m v f
   refine⟨O,bi (bO.setIfInBounds j true) a' w' zz JR (ready_mono g (Ne.symm e6)) O Dr rc ?_⟩;rw[iv _ _ e6];exact h6
theorem alp{H:List (List Nat×(World->Prop))}{i:Nat}{cf:Oper}{v:Value}(hi:ops[i]? =some cf)(k:∀(j:Nat)(o:Oper) cs b,ops[j]? =some o->o.op≠ .select cs b)
 (l:∀c a w,Q (.panic c) (a.put cf.dst v) w->Q (.panic c) a w)(m:∀h∈H,i∉h.1){f:Nat}{bO:Array Bool}{a:Act}{w:World}
 (n:∀j g,ops[j]? =some g->j≠i->bO.getD j true=false->(∀e∈g.after,Region.binds .any e=true->e.on≠i)->cf.apart ops g=true)
 (q:i∈Region.ready .any ops bO)(r:ij H bO w)(hy:YieldsIf P ops (λ _=>True) cf v a)(h:hF P ops Q H f (bO.setIfInBounds i true) (a.put cf.dst v) w):hF P ops Q H (f+1) bO a w:=
 V3 (S:=λ _=>True) (U:=[]) (V:=[]) hi k l (λ u d=>by simp at d) (λ v s=>by simp at s) (by simp) m f bO a w n (λ u d=>by simp at d) q r trivial hy
  (Nf (λ bO w h p az d=>by
   rcases dc.1 az with rfl |az;trivial
   ·exact h p az d) _ _ _ _ h)
end
def J7:Op->Bool
 | .select _ _=>true
 |_=>false
def rP(o:Oper)(i:Nat):Bool:=o.after.toList.any λ e=>Region.binds .any e&&bT e.on i
def PA(o:Oper)(d:Nat):Bool:=match o.dst with
 |some d'=>bT d' d
 |none=>false
def BF(ops:Array Oper)(x:Oper)(i:Nat)(d:Nat):Nat->List Oper->Bool
 |_,[]=>true
 |j,y::r=>(bT i j||(rP x j||(!PA y d&&(!ev (y.looksAt ops) d||rP y i))))&&BF ops x i d (j+1) r
def m1(ops:Array Oper)(all:List Oper):Nat->List Oper->Bool
 |_,[]=>true
 |i,x::r=>(!J7 x.op&&(match x.dst with
  |none=>true
  |some d=>BF ops x i d 0 all))&&m1 ops all (i+1) r
section
variable{ops:Array Oper}
theorem Af{l:List Nat}{j:Nat}:ev l j=true↔j∈l:=by
 refine⟨lE,λ h=>?_⟩;induction l with
 |nil=>simp at h
 |cons i r a=>simp only[ev,hZ];rcases dc.1 h with rfl |h;exact .inl (by simp);exact .inr (a h)
theorem Nd{x:Oper}{i d:Nat}:∀ {l:List Oper}{k:Nat},BF ops x i d k l=true->∀(m:Nat)(y:Oper),l[m]? =some y->i≠k+m->rP x (k+m)=true\/(y.dst≠some d/\(d∈y.looksAt ops->rP y i=true))
 |[],_,_,m,y,a,_=>by simp at a
 |z::r,k,h,m,y,a,b=>by
  simp only[BF,bL,hZ,gI]at h;cases m with
  |zero=>simp only[dX,aK]at a;subst a;rcases h.1 with e |e |⟨c,al⟩;exact absurd (aZ e) (by simpa using b);exact .inl (by simpa using e);refine .inr ⟨λ e=>?_,λ f=>?_⟩;simp[PA,e]at c;rcases al with al |al;rw[Af.2 f]at al;cases al;exact al
  |succ m=>have:=Nd h.2 m y (by simpa using a) (by omega);rwa [show k+1+m=k+(m+1) by omega]at this
theorem FB{all:List Oper}:∀ {l:List Oper}{k:Nat},m1 ops all k l=true->∀(m:Nat)(x:Oper),l[m]? =some x->J7 x.op=false/\∀d,x.dst=some d->BF ops x (k+m) d 0 all=true
 |[],_,_,m,x,a=>by simp at a
 |z::r,k,h,m,x,a=>by
  simp only[m1,bL,gI]at h;cases m with
  |zero=>simp only[dX,aK]at a;subst a;refine⟨h.1.1,λ d aE=>?_⟩;have:=h.1.2;rw[aE]at this;exact this
  |succ m=>have:=FB h.2 m x (by simpa using a);rwa [show k+1+m=k+(m+1) by omega]at this
theorem Ha{o:Oper}{i:Nat}(h:rP o i=true):∃e∈o.after,Region.binds .any e=true/\e.on=i:=by simp only[rP,List.any_eq_true,bL]at h;obtain⟨e,I,J,a⟩:=h;exact⟨e,by simpa using I,J,aZ a⟩
theorem VX(h:m1 ops ops.toList 0 ops.toList=true)(j:Nat)(o:Oper)(cs:_)(b:Bool)(a:ops[j]? =some o):o.op≠ .select cs b:=λ e=>by have:=(FB h j o (by rw[g0];exact a)).1;rw[e]at this;simp[J7]at this
theorem VW(h:m1 ops ops.toList 0 ops.toList=true){bO:Array Bool}(q:bO.size=ops.size){i:Nat}{cf:Oper}(hi:ops[i]? =some cf)(r:i∈Region.ready .any ops bO) :
 ∀j a,ops[j]? =some a->j≠i->bO.getD j true=false->(∀e∈a.after,Region.binds .any e=true->e.on≠i)->cf.apart ops a=true:=λ j a g w c k=>by
 have l:ops.toList[i]? =some cf:=by rw[g0];exact hi
 have m:ops.toList[j]? =some a:=by rw[g0];exact g
 have n:=(FB h i cf l).2
 have o:=(FB h j a m).2
 simp only[jw]at n o
 have done:rP cf j=true->False:=λ hc=>by
  obtain⟨e,b,al,aL⟩:=Ha hc;obtain⟨_,x,p,s⟩:=mem_ready.1 r;rw[hi]at p;cases p;have:=s e b al;rw[aL]at this;have t:j<bO.size:=by rw[q];exact(eL.1 g).1
  simp[t]at this c;rw[this]at c;cases c
 unfold Oper.apart
 rw[bL]
 constructor
 ·cases aE:cf.dst with
  |none=>rfl
  |some d=>rcases Nd (n d aE) j a m (by omega)with hc |⟨u,f⟩;exact(done (by simpa using hc)).elim;simp only[bL,gI,bne_iff_ne,ne_eq];refine⟨?_,u⟩;rw[hA];intro hc;obtain⟨e,b,al,aL⟩:=Ha (f (by simpa using hc));exact k e b al aL
 ·cases aE:a.dst with
  |none=>rfl
  |some d=>simp only[gI];rw[hA];intro hc;rcases Nd (o d aE) i cf l (by omega)with v |⟨_,f⟩;obtain⟨e,b,al,aL⟩:=Ha (by simpa using v:rP a i=true);exact k e b al aL;exact done (f (by simpa using hc))
end
inductive fT (El:Nat->Type):Type
 |ro
 |pF (i:Nat)
 |dA (i o:Nat) (y:aD El)
def CQ{El:Nat->Type}(bl:List (ay El)):aD El->Bool
 | .b _ _=>true
 | .m _=>true
 | .r i g=>bT g (oA bl i)
 |_=>false
def MG{El:Nat->Type}:aD El->aD El->Bool
 | .b i o,.b j p=>bT i j&&bT o p
 | .m i,.m j=>bT i j
 | .r i g,.r j h=>bT i j&&bT g h
 |_,_=>false
def GL(E:Env)(bl:List (ay E.T.El))(f:b5 E.T.El):Op->Option (Nat×Nat×aD E.T.El)
 | .load t x=>match cd E bl f [] x with
   |some (.b i o)=>match nth bl i,lay E.P t with
    |some (.c _ cs),some (false,_)=>match nth cs o with
     |some y=>match CQ bl y with
      |true=>some (i,o,y)
      |false=>none
     |none=>none
    |_,_=>none
   |_=>none
 |_=>none
def mB(P:Program)(o:Oper):Bool:=match uT P o.op with
 | .q=>true
 |_=>false
def uc(P:Program)(ops:Array Oper):List Nat->List Nat
 |[]=>[]
 |v::r=>match nth ops.toList v with
  |some o=>match mB P o with
   |true=>uc P ops r
   |false=>v::uc P ops r
  |none=>uc P ops r
def ends(P:Program)(ops:Array Oper)(i:Nat):List Nat:=uc P ops (kz ops.toList 0 i [])
def R9(E:Env)(bl:List (ay E.T.El))(f:b5 E.T.El)(op:Op)(b:Nat):fT E.T.El:=match GL E bl f op with
 |some (i,o,y)=>.dA i o y
 |none=>.pF b
def yT(E:Env)(ops:Array Oper)(bl:List (ay E.T.El))(f:b5 E.T.El)(i:Nat)(op:Op)(a:List (List Nat×fT E.T.El)):Option (Option Nat)->List (List Nat×fT E.T.El)
 |none=>a
 |some none=>(ends E.P ops i,.ro)::a
 |some (some b)=>(ends E.P ops i,R9 E bl f op b)::a
def Dw{El:Nat->Type}(ws:List Nat)(bl':List (ay El)):fT El->Bool
 | .ro=>true
 | .pF i=>!ev ws i
 | .dA i o y=>!ev ws i||match nth bl' i with
   |some (.c _ cs)=>match nth cs o with
    |some a=>MG y a&&CQ bl' y
    |none=>false
   |_=>false
def oR{El:Nat->Type}(e:Nat)(ws:List Nat)(bl':List (ay El)):List (List Nat×fT El)->Option (List (List Nat×fT El))
 |[]=>some []
 |(V,h)::r=>match oR e ws bl' r with
  |none=>none
  |some a=>match ev V e with
   |true=>some a
   |false=>match Dw ws bl' h with
    |true=>some ((V,h)::a)
    |false=>none
section
variable{T:bA}{W w w':World}{ar:List Nat}{X:Nat->Prop}{bl bl':List (ay T.El)}{ρ ρ':List Value}
def m8(bl:List (ay T.El))(ρ:List Value)(q i:Nat):Prop:=∀j B h,bl[j]? =some B->ρ[j]? =some h->q∈a6 B h->j=i
def Ck(X:Nat->Prop)(bl:List (ay T.El))(ρ:List Value)(w:World)(S:World->Prop):fT T.El->Prop
 | .ro=>∃q,aW X bl ρ w q/\∀w':World,w'.heap[q]? =w.heap[q]? ->S w'
 | .pF i=>∃q,q<w.heap.size/\¬X q/\m8 bl ρ q i/\∀w':World,w'.heap[q]? =w.heap[q]? ->S w'
 | .dA i o y=>∃g u,ρ[i]? =some (.pointer (some ⟨g,0,none⟩))/\g<w.heap.size/\¬X g/\m8 bl ρ g i/\aq T (aW X bl ρ w) w ρ bl y u/\w.cell? ⟨g,o,none⟩=some u/\∀w':World,w'.cell? ⟨g,o,none⟩=some u->S w'
def pv(X:Nat->Prop)(bl:List (ay T.El))(ρ:List Value)(w:World)(S:World->Prop)(h:fT T.El):Prop:=(∀w',S w')\/Ck X bl ρ w S h
theorem pv.now{S:World->Prop}{h:fT T.El}(k:pv X bl ρ w S h):S w:=by
 rcases k with k |k;exact k w
 ·cases h with
  |ro=>obtain⟨q,_,k⟩:=k;exact k w rfl
  |pF i=>obtain⟨q,_,_,_,k⟩:=k;exact k w rfl
  |dA i o y=>obtain⟨g,u,_,_,_,_,_,hc,k⟩:=k;exact k w hc
theorem m8.to(a:To X bl bl' ρ ρ' w w'){q i:Nat}(b:q<w.heap.size)(h:m8 bl ρ q i):m8 bl' ρ' q i:=λ j B g c d e=>by obtain⟨hj,f,k,al,aL⟩:=a.kH j B g c d q e b;exact h j hj f k al aL
theorem m8.V6{s:List Nat}(a:ew bl ρ w w' s){q i:Nat}(b:q<w.heap.size)(h:m8 bl ρ q i)(hi:i∉s):w'.heap[q]? =w.heap[q]? :=a q b λ j c B g ag d e=>hi (h j B g ag d e▸c)
theorem ZM(f:Mem T W ar X bl ρ w){y:aD T.El}{u v:Value}(aE:CQ bl y=true)(a:aq T (aW X bl ρ w) w ρ bl y u)(b:aq T (aW X bl ρ w) w ρ bl y v):u=v:=by cases y<;>simp only[CQ,ie]at aE;simp only[aq]at a b;obtain⟨g,I,rfl⟩:=a;obtain⟨g',J,rfl⟩:=b;rw[I]at J;simp only[aK,Value.pointer.injEq,Addr.mk.injEq]at J;rw[J.1];rename_i i g;simp only[aq]at a b;have e:=aZ aE;rw[uj]at e;obtain⟨_,h,I,_,J⟩:=a;obtain⟨_,h',c,_,d⟩:=b;rw[I]at c;cases c;rw[J e,d e];simp only[aq]at a b;obtain⟨g,I,rfl⟩:=a;obtain⟨g',J,rfl⟩:=b;rw[I]at J;simp only[aK,Value.map.injEq]at J;rw[J]
theorem akw{y z:aD T.El}(h:MG y z=true):y=z:=by unfold MG at h;split at h;simp only[bL]at h;rw[aZ h.1,aZ h.2];rw[aZ h];simp only[bL]at h;rw[aZ h.1,aZ h.2];cases h
theorem pv.ep(j:Mem T W ar X bl' ρ' w')(b:To X bl bl' ρ ρ' w w'){ws:List Nat}(l:ew bl ρ w w' ws){S:World->Prop}{h:fT T.El}(k:pv X bl ρ w S h)(aj:Dw ws bl' h=true):pv X bl' ρ' w' S h:=by
 rcases k with k |k;exact .inl k;refine .inr ?_;cases h with
 |ro=>obtain⟨q,I,J⟩:=k;have:=b.F q I;exact⟨q,this.1,λ w'' e=>J w'' (e.trans this.2)⟩
 |pF i=>
  obtain⟨q,I,f,J,c⟩:=k;simp only[Dw,gI]at aj;have hi:i∉ws:=λ e=>by rw[Af.2 e]at aj;cases aj
  exact⟨q,dY I b.sz,f,J.to b I,λ w'' e=>c w'' (e.trans (J.V6 l I hi))⟩
 |dA i o y=>
  obtain⟨g,u,I,J,f,c,p,r,s⟩:=k;obtain⟨C,m,al,_⟩:=b.L.at_ i _ I;have aL:=al (by simp[kX]);subst aL;have n:=b.v p;refine⟨g,u,m,dY J b.sz,f,c.to b J,n,?_,s⟩;simp only[Dw,hZ,gI]at aj;rcases aj with aj |aj
  ·have hi:i∉ws:=λ e=>by rw[Af.2 e]at aj;cases aj
   rw[<-r];exact World.cell?_of_block (a:=⟨g,o,none⟩) (c.V6 l J hi)
  ·split at aj;rename_i t cs ag;split at aj;rename_i D hy;simp only[bL]at aj;have:=akw aj.1;subst this;rw[cr]at ag hy;obtain⟨g',vs,d,x,z⟩:=j.ok i _ _ ag m;simp only[Value.pointer.injEq,aK,Addr.mk.injEq]at d;have d:=d.1;subst d;obtain⟨v,A,B⟩:=z.at_ hy;rw[ZM j aj.2 n B];have:=rI (g:=g) (t:=t) (cs:=vs) (w:=w') (by simpa[aU.c8]using x) A;simpa using this;cases aj;cases aj
def dq(P:Program)(ops:Array Oper)(X:Nat->Prop)(bl:List (ay T.El))(ρ:List Value)(w:World):List (List Nat×fT T.El)->List (List Nat×(World->Prop))->Prop
 |[],H=>H=[]
 |p::r,H=>∃S a,H=(p.1,S)::a/\(∀v∈p.1,∃o,ops[v]? =some o/\mB P o=false)/\pv X bl ρ w S p.2/\dq P ops X bl ρ w r a
theorem dq.oq{P:Program}{ops:Array Oper}:∀ {a:List (List Nat×fT T.El)}{H:List (List Nat×(World->Prop))},dq P ops X bl ρ w a H->∀bO,ij H bO w
 |[],H,h,bO=>by simp only[dq]at h;subst h;intro p b;simp at b
 |p::r,H,h,bO=>by simp only[dq]at h;obtain⟨S,e,rfl,_,J,c⟩:=h;intro q aH d;rcases dc.1 aH with rfl |aH;exact J.now;exact dq.oq c bO q aH d
theorem dq.TR{P:Program}{ops:Array Oper}:∀ {a:List (List Nat×fT T.El)}{H:List (List Nat×(World->Prop))},dq P ops X bl ρ w a H->∀h∈H,∀v∈h.1,∃o,ops[v]? =some o/\mB P o=false
 |[],H,h,p,b=>by simp only[dq]at h;subst h;simp at b
 |p::r,H,h,q,aH=>by simp only[dq]at h;obtain⟨S,d,rfl,I,_,c⟩:=h;rcases dc.1 aH with rfl |aH;exact I;exact dq.TR c q aH
theorem dq.ep{P:Program}{ops:Array Oper}(i:Mem T W ar X bl' ρ' w')(j:To X bl bl' ρ ρ' w w'){ws:List Nat}(k:ew bl ρ w w' ws){e:Nat}:∀ {l c:List (List Nat×fT T.El)}{H:List (List Nat×(World->Prop))},dq P ops X bl ρ w l H->oR e ws bl' l=some c ->
 ∃m,dq P ops X bl' ρ' w' c m/\∀bO w,bO.getD e false=true->ij m bO w->ij H bO w
 |[],c,H,h,a=>by simp only[oR,aK]at a;subst a;exact⟨H,h,λ _ _ _ h=>h⟩
 |(V,aE)::r,c,H,h,a=>by simp only[dq]at h;obtain⟨S,s,rfl,I,J,t⟩:=h;simp only[oR]at a;split at a;cases a;rename_i y u;obtain⟨f,n,o⟩:=dq.ep i j k t u;split at a;rename_i v;simp only[aK]at a;subst a;refine⟨f,n,λ bO w d hc p az b=>?_⟩;rcases dc.1 az with rfl |az;have:=b e (lE v);rw[d]at this;cases this;exact o bO w d hc p az b;split at a;rename_i g;simp only[aK]at a;subst a;refine⟨(V,S)::f,?_,λ bO w d hc p az b=>?_⟩;simp only[dq];exact⟨S,f,rfl,I,J.ep i j k g,n⟩;rcases dc.1 az with rfl |az;exact hc _ (by simp) b;exact o bO w d (λ q x=>hc q (fg _ x)) p az b;cases a
end
section
variable{E:Env}{W w w':World}{ar:List Nat}{X:Nat->Prop}{n:b'}{f:b5 E.T.El}{bl:List (ay E.T.El)}{ρ:List Value}{a:Act}{ops:Array Oper}{o:Oper}
theorem T4(b:Mem E.T W ar X bl ρ w){i:Nat}{B:ay E.T.El}{h:Value}(hi:bl[i]? =some B)(c:ρ[i]? =some h){q:Nat}(d:q∈a6 B h):q<w.heap.size/\m8 bl ρ q i:=by refine⟨(b.lt q ⟨i,B,h,hi,c,d⟩).1,λ j C g k l m=>?_⟩;by_cases e:j=i;exact e;exact absurd m (b.a3 i j B C h g hi c k l (Ne.symm e) q d)
theorem Zr(h:R E W ar X n f bl ρ a w){i p:Nat}{y:aD E.T.El}(b:GL E bl f o.op=some (i,p,y)):∃S,Ck X bl ρ w S (.dA i p y)/\∃u,∀w',S w'->aS E.P o a w' u w':=by unfold GL at b;split at b;rename_i t x l;split at b;rename_i j m r;split at b;rename_i t' cs G c s;split at b;rename_i H hy;split at b;simp only[aK,cY]at b;obtain⟨rfl,rfl,rfl⟩:=b;have k:=cn h (cur:=[]) trivial r;simp only[aq]at k;obtain⟨g,d,al⟩:=k;rw[cr]at c hy;obtain⟨g',vs,e,z,A⟩:=h.mem.ok j _ _ c d;simp only[Value.pointer.injEq,aK,Addr.mk.injEq]at e;have e:=e.1;subst e;obtain⟨v,B,C⟩:=A.at_ hy;obtain⟨hb,D⟩:=T4 h.mem c d (q:=g) (by simp[a6,ag]);have hc:=rI (g:=g) (t:=t') (cs:=vs) (w:=w) (by simpa[aU.c8]using z) B;exact⟨λ w'=>w'.cell? ⟨g,m,none⟩=some v,⟨g,v,d,hb,h.mem.xm ⟨j,_,_,c,d,by simp[a6,ag]⟩,D,C,by simpa using hc,λ _ h=>h⟩,v,λ w' F=>NM (Aq s).1 l al F⟩;cases b;cases b;cases b;cases b;cases b
end
section
variable{T:bA}{W w w':World}{ar:List Nat}{X:Nat->Prop}{bl:List (ay T.El)}{ρ:List Value}{B C:ay T.El}{h g:Value}
theorem xU(c:ρ.length=bl.length){j:Nat}{D:ay T.El}{u:Value}(a:(bl++[B,C])[j]? =some D)(b:(ρ++[h,g])[j]? =some u) :
 (j<bl.length/\bl[j]? =some D/\ρ[j]? =some u)\/(j=bl.length/\D=B/\u=h)\/(j=bl.length+1/\D=C/\u=g):=by
 rcases gE j bl.length with e |e
 ·rw[eQ e]at a;rw[eQ (by rw[c];exact e)]at b;exact .inl ⟨e,a,b⟩
 ·rw[eX e]at a;rw[eX (by rw[c];exact e),c]at b;right;cases aE:j-bl.length with
  |zero=>rw[aE]at a b;simp only[dX,aK]at a b;exact .inl ⟨by omega,a.symm,b.symm⟩
  |succ q=>
   cases q with
   |zero=>rw[aE]at a b;simp only[List.getElem?_cons_succ,dX,aK]at a b;exact .inr ⟨by omega,a.symm,b.symm⟩
   |succ q=>rw[aE]at a;simp at a
theorem Mem.MZ(c:Mem T W ar X bl ρ w)(d:aY [] w w')(m:∀k∈a6 B h,w.heap.size<=k/\k<w'.heap.size)(n:∀k∈a6 C g,w.heap.size<=k/\k<w'.heap.size):To X bl (bl++[B,C]) ρ (ρ++[h,g]) w w':=by
 refine⟨λ k a=>⟨⟨a.1,?_,dY a.2.2 d.size⟩,d.block k a.2.2 (by simp)⟩,⟨λ j u b=>?_⟩,d.size,λ j D u b f k a o=>?_⟩;rintro⟨j,D,u,b,f,i⟩;have:=a.2.2;rcases xU c.len b f with⟨_,l,al⟩|⟨_,rfl,rfl⟩|⟨_,rfl,rfl⟩;exact a.2.1 ⟨j,D,u,l,al,i⟩;have:=(m k i).1;omega;have:=(n k i).1;omega
 ·have e:=(bb.1 b).1;have e':j<bl.length:=by rw[<-c.len];exact e
  refine⟨u,by rw[eQ e];exact b,λ _=>rfl,?_⟩;rw[eQ e'];exact⟨da _,λ _=>⟨rfl,rfl,da _,λ _=>rfl⟩⟩
 ·rcases xU c.len b f with⟨_,l,al⟩|⟨_,rfl,rfl⟩|⟨_,rfl,rfl⟩;exact⟨D,u,l,al,a⟩;have:=(m k a).1;omega;have:=(n k a).1;omega
theorem Mem.Ui(d:Mem T W ar X bl ρ w)(o:aY [] w w')(i:∀k∈a6 B h,w.heap.size<=k/\k<w'.heap.size)(l:∀k∈a6 C g,w.heap.size<=k/\k<w'.heap.size)(aE:∀k∈a6 B h,k∉a6 C g)
 (x:g4 T (aW X (bl++[B,C]) (ρ++[h,g]) w') w' (ρ++[h,g]) (bl++[B,C]) B h)(y:g4 T (aW X (bl++[B,C]) (ρ++[h,g]) w') w' (ρ++[h,g]) (bl++[B,C]) C g):Mem T W ar X (bl++[B,C]) (ρ++[h,g]) w':=by
 have t:=d.MZ o i l
 have m:∀ {j:Nat}{D:ay T.El}{u:Value}{k:Nat},bl[j]? =some D->ρ[j]? =some u->k∈a6 D u->k<w.heap.size:=λ{j D u k} I J z=>(d.lt k ⟨j,D,u,I,J,z⟩).1
 refine⟨d.bM.trans o (by simp),by simp[d.len],d.fy,?_,?_,?_⟩
 ·rintro k ⟨j,D,u,p,n,c⟩;rcases xU d.len p n with⟨_,e,al⟩|⟨_,rfl,rfl⟩|⟨_,rfl,rfl⟩;have:=d.lt k ⟨j,D,u,e,al,c⟩;exact⟨dY this.1 o.size,this.2⟩;exact⟨(i k c).2,.inr (fo d.bM.size (i k c).1)⟩;exact⟨(l k c).2,.inr (fo d.bM.size (l k c).1)⟩
 ·intro a b D G u v A n E fl q k c f;rcases xU d.len A n with⟨_,e,al⟩|⟨F,rfl,rfl⟩|⟨F,rfl,rfl⟩<;>rcases xU d.len E fl with⟨_,r,s⟩|⟨H,rfl,rfl⟩|⟨H,rfl,rfl⟩;exact d.a3 _ _ _ _ _ _ e al r s q k c f;have:=m e al c;have:=(i k f).1;omega;have:=m e al c;have:=(l k f).1;omega;have:=m r s f;have:=(i k c).1;omega;exact q (by omega);exact aE k c f;have:=m r s f;have:=(l k c).1;omega;exact aE k f c;exact q (by omega)
 ·intro j D u p n;rcases xU d.len p n with⟨_,e,al⟩|⟨_,rfl,rfl⟩|⟨_,rfl,rfl⟩;exact(d.ok j D u e al).later t.F t.L λ k c=>o.block k (m e al c) (by simp);exact x;exact y
theorem Ck.bM(b:aY [] w w'){S:World->Prop}{d:fT T.El}(k:pv X bl ρ w S d):S w':=by
 rcases k with k |k;exact k w'
 ·cases d with
  |ro=>obtain⟨q,I,k⟩:=k;exact k w' (b.block q I.2.2 (by simp))
  |pF i=>obtain⟨q,I,_,_,k⟩:=k;exact k w' (b.block q I (by simp))
  |dA i o y=>obtain⟨g,u,_,J,_,_,_,hc,k⟩:=k;refine k w' ?_;rw[<-hc];exact World.cell?_of_block (a:=⟨g,o,none⟩) (b.block g J (by simp))
theorem dq.bM{P:Program}{ops:Array Oper}(a:aY [] w w'):∀ {b:List (List Nat×fT T.El)}{H:List (List Nat×(World->Prop))},dq P ops X bl ρ w b H->∀bO,ij H bO w'
 |[],H,h,bO=>by simp only[dq]at h;subst h;intro p c;simp at c
 |p::r,H,h,bO=>by simp only[dq]at h;obtain⟨S,f,rfl,_,J,d⟩:=h;intro q aH e;rcases dc.1 aH with rfl |aH;exact Ck.bM a J;exact dq.bM a d bO q aH e
end
def two(E:Env)(n:Nat)(bl:List (ay E.T.El))(f:b5 E.T.El)(cf a:Oper):Option (b5 E.T.El×List (ay E.T.El)):=match cf.op,a.op,cf.guard,a.guard,cf.dst,a.dst with
 | .alloc ti,.alloc c,none,none,some b,some a3=>match n7 E.P ti,n7 E.P c,eM b n&&(eM a3 n&& !bT b a3)with
   |some d,some e,true=>some ((f.put b (.b bl.length 0)).put a3 (.b (bl.length+1) 0),bl++[.c ti (d.map .p),.c c (e.map .p)])
   |_,_,_=>none
 |_,_,_,_,_,_=>none
section
variable{E:Env}{W w:World}{ar:List Nat}{X:Nat->Prop}{n:b'}{f f2:b5 E.T.El}{bl rH:List (ay E.T.El)}{ρ:List Value}{a:Act}{cf bP:Oper}
abbrev gX(g:Nat):Value:=.pointer (some ⟨g,0,none⟩)
theorem ak1(h:R E W ar X n f bl ρ a w)(i:two E n.n bl f cf bP=some (f2,rH)):∃m a3 ti o j l,cf.dst=some m/\bP.dst=some a3/\m≠a3/\cf.guard=none/\bP.guard=none/\
 (∀a w,aS E.P cf a w (gX w.heap.size) (w.alloc (.cells ⟨j⟩ ti)))/\(∀a w,aS E.P bP a w (gX w.heap.size) (w.alloc (.cells ⟨l⟩ o)))/\
 ∀d g b,aY [] w b->w.heap.size<=d->d<b.heap.size->w.heap.size<=g->g<b.heap.size->d≠g->b.heap[d]? =some (.cells ⟨j⟩ ti (0,0))->b.heap[g]? =some (.cells ⟨l⟩ o (0,0)) ->
  ∃r,R E W ar X n f2 rH r ((a.put (some m) (gX d)).put (some a3) (gX g)) b/\To X bl rH ρ r w b/\ew bl ρ w b []:=by
 unfold two at i
 split at i
 ·rename_i ti o m a3 I J x y z A;split at i
  ·rename_i j l B al aL;simp only[bL,gI]at aL;obtain⟨p,C,D⟩:=aL;simp only[aK,cY]at i;obtain⟨rfl,rfl⟩:=i;obtain⟨U,F,G⟩:=x_ B;obtain⟨H,l1,K⟩:=x_ al;refine⟨m,a3,ti,o,j,l,z,A,λ e=>by subst e;simp at D,x,y,λ a w=>rf F G I,λ a w=>rf l1 K J,λ d g b q L M sc N O P Q=>?_⟩;have s:∀k∈a6 (ay.c (El:=E.T.El) ti (j.map .p)) (gX d),w.heap.size<=k/\k<b.heap.size:=λ k c=>by simp only[a6,ag,fG]at c;subst c;exact⟨L,M⟩
   have t:∀k∈a6 (ay.c (El:=E.T.El) o (l.map .p)) (gX g),w.heap.size<=k/\k<b.heap.size:=λ k c=>by simp only[a6,ag,fG]at c;subst c;exact⟨sc,N⟩
   have u:=h.mem.MZ q s t;have S:=h.mem.Ui q s t (λ k c v=>by simp only[a6,ag,fG]at c v;exact O (c.symm.trans v)) ⟨d,j,rfl,P,mW j⟩ ⟨g,l,rfl,Q,mW l⟩;refine⟨_,((h.to u S).put p ?_).put C ?_,u,λ k c _=>q.block k c (by simp)⟩;simp only[aq];exact⟨d,by rw[<-h.mem.len];simp,rfl⟩;simp only[aq];exact⟨g,by rw[<-h.mem.len];simp,rfl⟩
  ·cases i
 ·cases i
end
def gD{El:Nat->Type}:List (ay El)->List Value->List Nat
 |B::r,h::s=>a6 B h++gD r s
 |_,_=>[]
theorem j0{El:Nat->Type}{k:Nat}:∀ {bl:List (ay El)}{ρ:List Value},k∈gD bl ρ↔lg bl ρ k
 |[],ρ=>by simp[gD,lg]
 |B::r,[]=>by simp[gD,lg]
 |B::r,h::s=>by
  simp only[gD,de,j0 (bl:=r)];constructor;rintro(e |⟨i,C,u,I,J,a⟩);exact⟨0,B,h,rfl,rfl,e⟩;exact⟨i+1,C,u,by simpa using I,by simpa using J,a⟩
  ·rintro⟨i,C,u,I,J,a⟩;cases i with
   |zero=>simp only[dX,aK]at I J;subst I;subst J;exact .inl a
   |succ i=>exact .inr ⟨i,C,u,by simpa using I,by simpa using J,a⟩
def gi(X:Nat->Prop)(g k:Nat):Prop:=X k\/k=g
section
variable{T:bA}{W w bV w':World}{ar:List Nat}{X:Nat->Prop}{bl bl':List (ay T.El)}{ρ ρ':List Value}{g:Nat}{B:ay T.El}{h:Value}
theorem vg(c:ρ.length=bl.length){j:Nat}{D:ay T.El}{u:Value}(a:(bl++[B])[j]? =some D)(b:(ρ++[h])[j]? =some u) :
 (j<bl.length/\bl[j]? =some D/\ρ[j]? =some u)\/(j=bl.length/\D=B/\u=h):=by
 rcases gE j bl.length with e |e
 ·rw[eQ e]at a;rw[eQ (by rw[c];exact e)]at b;exact .inl ⟨e,a,b⟩
 ·rw[eX e]at a;rw[eX (by rw[c];exact e),c]at b;cases aE:j-bl.length with
  |zero=>rw[aE]at a b;simp only[dX,aK]at a b;exact .inr ⟨by omega,a.symm,b.symm⟩
  |succ q=>rw[aE]at a;simp at a
theorem Ap(b:ρ.length=bl.length):jS T ρ (ρ++[h]) bl (bl++[B]):=⟨λ j u a=>by have e:=(bb.1 a).1;refine⟨u,by rw[eQ e];exact a,λ _=>rfl,?_⟩;rw[eQ (by rw[<-b];exact e)];exact⟨da _,λ _=>⟨rfl,rfl,da _,λ _=>rfl⟩⟩⟩
theorem Mem.o7(b:Mem T W ar X bl ρ w)(c:aY [] w bV)(j:w.heap.size<=g)(I:g<bV.heap.size):Mem T bV (gD bl ρ) (gi X g) bl ρ bV:=by
 have f:∀k,aW X bl ρ w k->aW (gi X g) bl ρ bV k/\bV.heap[k]? =w.heap[k]? :=λ k a=>⟨⟨λ aa=>by
  rcases aa with aa |aa;exact a.1 aa
  ·have:=a.2.2;omega,a.2.1,dY a.2.2 c.size⟩,c.block k a.2.2 (by simp)⟩
 refine⟨aY.refl _ _,b.len,λ k a=>?_,λ k a=>⟨dY (b.lt k a).1 c.size,.inl (j0.2 a)⟩,b.a3,λ i B h hi d=>(b.ok i B h hi d).later f .refl λ k a=>c.block k (b.lt k ⟨i,B,h,hi,d,a⟩).1 (by simp)⟩;rcases a with a |rfl;exact⟨dY (b.fy k a).1 (fo b.bM.size c.size),λ e=>b.xm (j0.1 e) a⟩;exact⟨I,λ e=>by have:=(b.lt k (j0.1 e)).1;omega⟩
theorem Mem.T_(a:Mem T W ar X bl ρ w)(b:aY [] w bV)(c:Mem T bV (gD bl ρ) (gi X g) bl' ρ' w'):aY ar W w':=(a.bM.trans b (by simp)).trans c.bM λ x d=>(a.lt x (j0.1 d)).2
theorem Mem.T'(a:Mem T W ar X bl ρ w)(d:aY [] w bV)(b:Mem T bV (gD bl ρ) (gi X g) bl' ρ' w')(k:Nat)(c:lg bl' ρ' k):k<w'.heap.size/\(k∈ar\/W.heap.size<=k):=by refine⟨(b.lt k c).1,?_⟩;rcases(b.lt k c).2 with e |e;exact(a.lt k (j0.1 e)).2;exact .inr (fo (fo a.bM.size d.size) e)
theorem Mem.Bw(b:Mem T W ar X bl ρ w)(c:aY [] w bV)(a:Mem T bV (gD bl ρ) (gi X g) bl' ρ' w'):Mem T W ar X bl' ρ' w':=⟨b.T_ c a,a.len,b.fy,b.T' c a,a.a3,λ i B h hi e=>(a.ok i B h hi e).later (λ k d=>⟨⟨λ f=>d.1 (.inl f),d.2⟩,rfl⟩) .refl λ _ _=>rfl⟩
theorem A5(b:ρ'.length=bl'.length)(c:∀k∈a6 B h,k=g){k:Nat}(a:aW (gi X g) bl' ρ' w' k):aW X (bl'++[B]) (ρ'++[h]) w' k:=⟨λ d=>a.1 (.inl d),λ⟨j,D,u,e,f,DA⟩=>by
 rcases vg b e f with⟨_,i,al⟩|⟨_,rfl,rfl⟩;exact a.2.1 ⟨j,D,u,i,al,DA⟩
 ·exact a.1 (.inr (c k DA)),a.2.2⟩
theorem Mem.tq(i:Mem T W ar X bl ρ w)(o:aY [] w bV)(t:w.heap.size<=g)(I:g<bV.heap.size)(c:Mem T bV (gD bl ρ) (gi X g) bl' ρ' w')(l:∀k∈a6 B h,k=g)
 (x:g4 T (aW X (bl'++[B]) (ρ'++[h]) w') w' (ρ'++[h]) (bl'++[B]) B h):Mem T W ar X (bl'++[B]) (ρ'++[h]) w':=by
 have y:g<w'.heap.size:=dY I c.bM.size
 have p:∀ {j:Nat}{D:ay T.El}{u:Value},bl'[j]? =some D->ρ'[j]? =some u->g∉a6 D u:=λ{j D u} e al d=>c.xm ⟨j,D,u,e,al,d⟩ (.inr rfl)
 refine⟨i.T_ o c,by simp[c.len],i.fy,?_,?_,?_⟩
 ·rintro k ⟨j,D,u,n,f,d⟩;rcases vg c.len n f with⟨_,e,al⟩|⟨_,rfl,rfl⟩;exact i.T' o c k ⟨j,D,u,e,al,d⟩;rw[l k d];exact⟨y,.inr (fo i.bM.size t)⟩
 ·intro a b D G u v z f A fl q k d m;rcases vg c.len z f with⟨_,e,al⟩|⟨C,rfl,rfl⟩<;>rcases vg c.len A fl with⟨_,r,s⟩|⟨E,rfl,rfl⟩;exact c.a3 _ _ _ _ _ _ e al r s q k d m;rw[l k m]at d;exact p e al d;rw[l k d]at m;exact p r s m;exact q (by omega)
 ·intro j D u n f;rcases vg c.len n f with⟨_,e,al⟩|⟨_,rfl,rfl⟩;exact(c.ok j D u e al).later (λ k d=>⟨A5 c.len l d,rfl⟩) (Ap c.len) λ _ _=>rfl;exact x
theorem xF(b:aY [] w bV)(c:w.heap.size<=g){k:Nat}(a:aW X bl ρ w k):aW (gi X g) bl ρ bV k:=⟨λ aa=>by
 rcases aa with aa |aa;exact a.1 aa
 ·have:=a.2.2;omega,a.2.1,dY a.2.2 b.size⟩
theorem To.Bw(a:aY [] w bV)(e:w.heap.size<=g)(b:To (gi X g) bl bl' ρ ρ' bV w'):To X bl bl' ρ ρ' w w':=⟨λ k c=>by obtain⟨d,al⟩:=b.F k (xF a e c);exact⟨⟨λ f=>d.1 (.inl f),d.2⟩,al.trans (a.block k c.2.2 (by simp))⟩,b.L,fo a.size b.sz,λ i D u hi j k c l=>b.kH i D u hi j k c (dY l a.size)⟩
theorem To.tq(d:ρ'.length=bl'.length)(f:∀k∈a6 B h,k=g)(b:aY [] w bV)(j:w.heap.size<=g)(c:To (gi X g) bl bl' ρ ρ' bV w'):To X bl (bl'++[B]) ρ (ρ'++[h]) w w':=
 ⟨λ k a=>by
  obtain⟨e,al⟩:=c.F k (xF b j a);exact⟨A5 d f e,al.trans (b.block k a.2.2 (by simp))⟩,c.L.trans (Ap d),fo b.size c.sz,λ i D u hi l k a m=>by
  rcases vg d hi l with⟨_,e,al⟩|⟨_,rfl,rfl⟩;exact c.kH i D u e al k a (dY m b.size)
  ·have:=f k a;omega⟩
theorem ew.o7{ws:List Nat}(a:aY [] w bV)(c:ew bl ρ bV w' ws):ew bl ρ w w' ws:=λ q b d=>(c q (dY b a.size) d).trans (a.block q b (by simp))
theorem dq.o7{P:Program}{ops:Array Oper}(b:aY [] w bV)(f:w.heap.size<=g):∀ {n:List (List Nat×fT T.El)}{H:List (List Nat×(World->Prop))},dq P ops X bl ρ w n H->dq P ops (gi X g) bl ρ bV n H
 |[],H,h=>h
 |p::r,H,h=>by
  simp only[dq]at h⊢;obtain⟨S,t,rfl,I,J,v⟩:=h;refine⟨S,t,rfl,I,?_,dq.o7 b f v⟩;rcases J with J |J;exact .inl J;refine .inr ?_;cases j:p.2 with
  |ro=>rw[j]at J;obtain⟨q,c,d⟩:=J;exact⟨q,xF b f c,λ w'' e=>d w'' (e.trans (b.block q c.2.2 (by simp)))⟩
  |pF i=>
   rw[j]at J;obtain⟨q,c,l,d,m⟩:=J;exact⟨q,dY c b.size,λ aa=>by
    rcases aa with aa |aa;exact l aa
    ·omega,d,λ w'' e=>m w'' (e.trans (b.block q c (by simp)))⟩
  |dA i o y=>rw[j]at J;obtain⟨q,u,c,d,l,m,x,z,oO⟩:=J;refine⟨q,u,c,dY d b.size,λ aa=>?_,m,aq.later (λ k s=>⟨xF b f s,b.block k s.2.2 (by simp)⟩) .refl _ x,?_,oO⟩;rcases aa with aa |aa;exact l aa;omega;rw[<-z];exact World.cell?_of_block (a:=⟨q,o,none⟩) (b.block q d (by simp))
theorem dq.tq{P:Program}{ops:Array Oper}(d:ρ.length=bl.length)(e:∀k∈a6 B h,k=g):∀ {t:List (List Nat×fT T.El)}{H:List (List Nat×(World->Prop))},dq P ops (gi X g) bl ρ w t H->dq P ops X (bl++[B]) (ρ++[h]) w t H
 |[],H,f=>f
 |p::r,H,f=>by
  simp only[dq]at f⊢;obtain⟨S,v,rfl,I,J,x⟩:=f;refine⟨S,v,rfl,I,?_,dq.tq d e x⟩;have one:∀ {q i:Nat},¬gi X g q->m8 bl ρ q i->m8 (bl++[B]) (ρ++[h]) q i:=λ{q i} a b j D u z A l=>by rcases vg d z A with⟨_,C,al⟩|⟨_,rfl,rfl⟩;exact b j D u C al l;exact absurd (.inr (e q l)) a
  rcases J with J |J;exact .inl J;refine .inr ?_;cases m:p.2 with
  |ro=>rw[m]at J;obtain⟨q,c,b⟩:=J;exact⟨q,A5 d e c,b⟩
  |pF i=>rw[m]at J;obtain⟨q,c,a,b,n⟩:=J;exact⟨q,c,λ s=>a (.inl s),one a b,n⟩
  |dA i o y=>rw[m]at J;obtain⟨q,u,c,b,a,n,E,F,oO⟩:=J;refine⟨q,u,?_,b,λ s=>a (.inl s),one a n,aq.later (λ k l=>⟨A5 d e l,rfl⟩) (Ap d) _ E,F,oO⟩;rw[eQ (bb.1 c).1];exact c
end
section
variable{E:Env}{W:World}{ar:List Nat}{X:Nat->Prop}{n:b'}{b0:List (ay E.T.El)}{ρ0:List Value}{w0:World}{s1 s:c1 E.T.El}{cl ρ:List Value}{b1 a:Act}{bV w:World}
theorem dl.o7(h:dl E W ar X n b0 ρ0 w0 s1 cl b1 bV){v:World}(b:aY [] bV v){g:Nat}(d:bV.heap.size<=g)(I:g<v.heap.size):dl E v (gD s1.bl cl) (gi X g) n s1.bl cl v ⟨s1.f,s1.bl,[]⟩ cl b1 v:=⟨⟨h.r.mem.o7 b d I,h.r.cV.later (λ k c=>⟨xF b d c,b.block k c.2.2 (by simp)⟩) .refl,λ q y e=>aq.later (λ k c=>⟨xF b d c,b.block k c.2.2 (by simp)⟩) .refl y (h.r.dW q y e)⟩,.refl,.nil⟩
theorem dl.Bw(h:dl E W ar X n b0 ρ0 w0 s1 cl b1 bV){v:World}(c:aY [] bV v){g:Nat}(f:bV.heap.size<=g){ws:List Nat}(b:dl E v (gD s1.bl cl) (gi X g) n s1.bl cl v ⟨s.f,s.bl,ws⟩ ρ a w):dl E W ar X n b0 ρ0 w0 ⟨s.f,s.bl,ws++s1.ws⟩ ρ a w:=by
 have d:∀k,aW (gi X g) s.bl ρ w k->aW X s.bl ρ w k/\w.heap[k]? =w.heap[k]? :=λ k e=>⟨⟨λ i=>e.1 (.inl i),e.2⟩,rfl⟩
 have j:=To.Bw c f b.to;exact⟨⟨h.r.mem.Bw c b.r.mem,b.r.cV.later d .refl,λ q y l=>aq.later d .refl y (b.r.dW q y l)⟩,h.to.trans j,h.wr.b2 h.to (b.wr.o7 c)⟩
theorem aiy{a:Act}{d:Nat}{v:Value}(h:a.tmps.getD d undef=v):a.put (some d) v=a:=by
 have:a.tmps.setIfInBounds d v=a.tmps:=by apply Array.ext_getElem?;intro i;rw[eb];split;rename_i e;subst e;split;rename_i b;rw[iy b,<-h];simp[Array.getD,b];rename_i b;rw[hI (by omega)];rfl
 show({ a with tmps:=a.tmps.setIfInBounds d v }:Act)=a
 rw[this]
theorem dl.tq(h:dl E W ar X n b0 ρ0 w0 s1 cl b1 bV){v:World}(e:aY [] bV v){g:Nat}(j:bV.heap.size<=g)(I:g<v.heap.size){ws:List Nat}(b:dl E v (gD s1.bl cl) (gi X g) n s1.bl cl v ⟨s.f,s.bl,ws⟩ ρ a w)
 {d t:Nat}{z:List Value}(aE:eM d n.n=true)(o:a.tmps.getD d undef=gX g)(ag:w.heap[g]? =some (.cells ⟨z⟩ t (0,0))):dl E W ar X n b0 ρ0 w0 ⟨s.f.put d (.b s.bl.length 0),s.bl++[.c t (z.map .p)],ws++s1.ws⟩ (ρ++[gX g]) a w:=by
 have f:∀k∈a6 (ay.c (El:=E.T.El) t (z.map .p)) (gX g),k=g:=λ k i=>by simpa only[a6,a8.ag,fG]using i
 have c:ρ.length=s.bl.length:=b.r.mem.len
 have l:∀k,aW (gi X g) s.bl ρ w k->aW X (s.bl++[.c t (z.map .p)]) (ρ++[gX g]) w k/\w.heap[k]? =w.heap[k]? :=λ k i=>⟨A5 c f i,rfl⟩
 have p:=h.r.mem.tq e j I b.r.mem f ⟨g,z,rfl,ag,mW z⟩
 have r:=To.tq c f e j b.to
 have u:R E W ar X n s.f (s.bl++[.c t (z.map .p)]) (ρ++[gX g]) a w:=⟨p,b.r.cV.later l (Ap c),λ q y x=>aq.later l (Ap c) y (b.r.dW q y x)⟩
 have m:=u.put (y:=.b s.bl.length 0) (v:=gX g) aE (by simp only[aq];exact⟨g,by rw[<-c];simp,rfl⟩)
 rw[aiy o]at m
 exact⟨m,h.to.trans r,h.wr.b2 h.to (b.wr.o7 e)⟩
end
def h2(ds:List Nat)(o:Oper):Bool:=o.after.toList.all λ e=>!Region.binds .any e||ev ds e.on
def AU(P:Program)(ds:List Nat):List (Nat×Oper)->Option (Nat×Oper)
 |[]=>none
 |(i,o)::r=>match mB P o&&h2 ds o with
  |true=>some (i,o)
  |false=>AU P ds r
def fc(ds:List Nat):List (Nat×Oper)->List (Nat×Oper)
 |[]=>[]
 |(i,o)::r=>match h2 ds o with
  |true=>(i,o)::fc ds r
  |false=>fc ds r
def gH(i:Nat):List (Nat×Oper)->List (Nat×Oper)
 |[]=>[]
 |(j,o)::r=>match bT j i with
  |true=>gH i r
  |false=>(j,o)::gH i r
def xn:Nat->List Oper->List (Nat×Oper)
 |_,[]=>[]
 |i,o::r=>(i,o)::xn (i+1) r
def fW:List Oper->List Nat
 |[]=>[]
 |o::r=>match o.dst with
  |some d=>d::fW r
  |none=>fW r
def hR{α:Type}(l:List Nat):List (Nat×α)->List (Nat×α)
 |[]=>[]
 |p::r=>match ev l p.1 with
  |true=>hR l r
  |false=>p::hR l r
def yV(P:Program)(n:Nat)(o:Oper):Option Nat:=match o.op,o.guard,o.dst with
 | .alloc t,none,some d=>match n7 P t,eM d n with
   |some _,true=>some d
   |_,_=>none
 |_,_,_=>none
def Lv:Option Nat->Nat->Bool
 |none,_=>true
 |some p,q=>bT p q
def T9(a:Option Nat)(i:Nat):Option Nat:=match a with
 |some p=>match bT p i with
  |true=>none
  |false=>some p
 |none=>none
def Gy(P:Program)(n:Nat)(ds:List Nat)(rem:List (Nat×Oper))(a:Option Nat)(i:Nat)(cf:Oper)(j:Nat)(b:Oper):Option (Nat×Oper×Nat×Nat):=
 match yV P n b,fc (j::ds) (gH j rem)with
 |some a3,[(c,_)]=>match bT c i&&Lv a j with
  |true=>some (i,cf,j,a3)
  |false=>none
 |_,_=>match yV P n cf,fc (i::ds) (gH i rem)with
  |some d,[(gr,_)]=>match bT gr j&&Lv a i with
   |true=>some (j,b,i,d)
   |false=>none
  |_,_=>none
def ks(E:Env)(a0:dN E)(ops:Array Oper)(n:Nat):Nat->Option Nat->List (Nat×Oper)->List Nat->List (List Nat×fT E.T.El)->c1 E.T.El->D (bS E.T.El)
 |0,_,rem,ds,_,s=>match fc ds rem with
  |[]=>.ok ⟨.nm,s⟩
  |_=>.no
 |bq+1,a,rem,ds,b,s=>match AU E.P ds rem with
  |some (i,o)=>(AX E ops n s.bl s.f o).bind λ q=>o5 E q.f λ f=>ks E a0 ops n bq a (gH i rem) (i::ds) (yT E ops s.bl s.f i o.op b q.aE) ⟨f,s.bl,s.ws⟩
  |none=>match fc ds rem with
   |[]=>.ok ⟨.nm,s⟩
   |[(i,o)]=>(pk E a0 ops n s.bl s.f o).bind λ t=>match t.x with
    | .nm=>match oR i t.s.ws t.s.bl b with
      |some d=>o5 E t.s.f λ f=>sS E t.s.ws s.bl.length t.s.bl λ bl=>ks E a0 ops n bq (T9 a i) (gH i rem) (i::ds) d ⟨f,bl,t.s.ws++s.ws⟩
      |none=>.no
    |x=>.ok ⟨x,⟨hR (fW ops.toList) t.s.f.aQ,[],[]⟩,t.s.bl,t.s.ws++s.ws⟩
   |[(i,cf),(j,g)]=>match two E n s.bl s.f cf g with
    |some (h,e)=>match a,fc (i::ds) (gH i rem),fc (j::ds) (gH j rem)with
     |none,[(gr,_)],[(k,_)]=>match bT gr j&&bT k i,oR i [] e b with
      |true,some I=>match oR j [] e I,bq with
       |some J,bq+1=>o5 E h λ f=>sS E [] s.bl.length e λ bl=>ks E a0 ops n bq none (gH j (gH i rem)) (j::i::ds) J ⟨f,bl,s.ws⟩
       |_,_=>.no
      |_,_=>.no
     |_,_,_=>.no
    |none=>match Gy E.P n ds rem a i cf j g,eM 0 bq with
     |some (c,l,q,m),true=>(pk E a0 ops n s.bl ⟨hR [m] s.f.aQ,[],[]⟩ l).bind λ t=>match t.x with
      | .nm=>match oR c t.s.ws t.s.bl b with
        |some d=>o5 E t.s.f λ f=>sS E t.s.ws s.bl.length t.s.bl λ bl=>ks E a0 ops n bq (some q) (gH c rem) (c::ds) d ⟨f,bl,t.s.ws++s.ws⟩
        |none=>.no
      |x=>.ok ⟨x,⟨hR (fW ops.toList) t.s.f.aQ,[],[]⟩,t.s.bl,t.s.ws++s.ws⟩
     |_,_=>.no
   |_=>.no
structure jT (ops:Array Oper) (rem:List (Nat×Oper)) (ds:List Nat):Prop where
 mem:∀i o,(i,o)∈rem↔ops[i]? =some o/\i∉ds
 lt:∀i∈ds,i<ops.size
 dA:∀i∈ds,∀o,ops[i]? =some o->h2 ds o=true
section
variable{ops:Array Oper}{rem:List (Nat×Oper)}{ds:List Nat}
theorem AB{n:Nat}:∀ {ds:List Nat},(cq n ds).size=n
 |[]=>by simp[cq]
 |i::r=>by simp[cq,AB (ds:=r)]
theorem qM{n j:Nat}{b:Bool}:∀ {ds:List Nat},j∈ds->j<n->(cq n ds).getD j b=true
 |i::r,h,a=>by simp only[cq,dP,eb];by_cases e:i=j;subst e;simp[AB,a];rw[lW e];rcases dc.1 h with rfl |h;exact absurd rfl e;have:=qM (b:=b) h a;simpa[dP]using this
theorem Ec{n j:Nat}:∀ {ds:List Nat},j∉ds->(cq n ds).getD j false=false
 |[],_=>by simp only[cq,dP,Array.getElem?_replicate];split<;>rfl
 |i::r,h=>by simp only[dc,not_or]at h;have:=Ec (n:=n) h.2;simp only[cq,dP,eb,lW (Ne.symm h.1)]at this⊢;exact this
theorem TB{n j:Nat}(a:j<n)(h:j∉ds):(cq n ds).getD j true=false:=by
 have I:=Ec (n:=n) h;have b:j<(cq n ds).size:=by rw[AB];exact a
 simp only[dP,iy b,ia]at I⊢;exact I
theorem s5{o:Oper}:h2 ds o=true↔∀e∈o.after,Region.binds .any e=true->e.on∈ds:=by
 simp only[h2,jK,hZ,gI];constructor;intro h e a ag;rcases h e (by simpa using a)with h |h;rw[ag]at h;cases h;exact lE h
 ·intro h e a;cases ag:Region.binds .any e with
  |false=>exact .inl rfl
  |true=>exact .inr (Af.2 (h e (by simpa using a) ag))
theorem lZ(b:jT ops rem ds){i:Nat}:i∈Region.ready .any ops (cq ops.size ds)↔∃o,(i,o)∈rem/\h2 ds o=true:=by rw[mem_ready];constructor;rintro⟨I,o,J,a⟩;have d:=(eL.1 J).1;refine⟨o,(b.mem i o).2 ⟨J,λ e=>?_⟩,s5.2 λ e c ag=>?_⟩;rw[qM e d]at I;cases I;by_cases aE:e.on∈ds;exact aE;have:=a e c ag;rw[Ec aE]at this;cases this;rintro⟨o,I,J⟩;obtain⟨a,f⟩:=(b.mem i o).1 I;refine⟨TB (eL.1 a).1 f,o,a,λ e c ag=>?_⟩;have:=s5.1 J e c ag;exact qM this (b.lt _ this)
theorem qX{i j:Nat}{o:Oper}:∀ {rem:List (Nat×Oper)},(j,o)∈gH i rem↔(j,o)∈rem/\j≠i
 |[]=>by simp[gH]
 |(k,p)::r=>by
  simp only[gH];cases ag:bT k i with
  |true=>have:=aZ ag;subst this;rw[qX (rem:=r)];simp only[dc,cY];constructor;rintro⟨I,J⟩;exact⟨.inr I,J⟩;rintro⟨I,J⟩;rcases I with⟨I,_⟩|I;exact absurd I J;exact⟨I,J⟩
  |false=>
   have a:k≠i:=λ e=>by subst e;simp at ag
   simp only[dc,cY,qX (rem:=r)];constructor;rintro(⟨rfl,rfl⟩|⟨I,J⟩);exact⟨.inl ⟨rfl,rfl⟩,a⟩;exact⟨.inr I,J⟩;rintro⟨I |I,J⟩;exact .inl I;exact .inr ⟨I,J⟩
theorem jT.next(f:jT ops rem ds){i:Nat}{o:Oper}(hi:(i,o)∈rem)(g:h2 ds o=true):jT ops (gH i rem) (i::ds):=by obtain⟨I,J⟩:=(f.mem i o).1 hi;have up:∀ {p:Oper},h2 ds p=true->h2 (i::ds) p=true:=λ{p} d=>s5.2 λ e h ag=>fg _ (s5.1 d e h ag);refine⟨λ j p=>?_,λ j aB=>?_,λ j aB p d=>?_⟩;rw[qX,f.mem];simp only[dc,not_or];exact⟨λ⟨⟨a,b⟩,c⟩=>⟨a,c,b⟩,λ⟨a,c,b⟩=>⟨⟨a,b⟩,c⟩⟩;rcases dc.1 aB with rfl |aB;exact(eL.1 I).1;exact f.lt j aB;rcases dc.1 aB with rfl |aB;rw[I]at d;cases d;exact up g;exact up (f.dA j aB p d)
theorem EH{P:Program}{i:Nat}{o:Oper}:∀ {rem:List (Nat×Oper)},AU P ds rem=some (i,o)->(i,o)∈rem/\mB P o=true/\h2 ds o=true
 |[],h=>by simp[AU]at h
 |(k,p)::r,h=>by simp only[AU]at h;split at h;rename_i ag;simp only[aK,cY]at h;obtain⟨rfl,rfl⟩:=h;rw[bL]at ag;exact⟨by simp,ag⟩;obtain⟨I,J⟩:=EH h;exact⟨fg _ I,J⟩
theorem gY{i:Nat}{o:Oper}:∀ {rem:List (Nat×Oper)},(i,o)∈fc ds rem↔(i,o)∈rem/\h2 ds o=true
 |[]=>by simp[fc]
 |(k,p)::r=>by simp only[fc];split;rename_i ag;simp only[dc,cY,gY (rem:=r)];constructor;rintro(⟨rfl,rfl⟩|⟨I,J⟩);exact⟨.inl ⟨rfl,rfl⟩,ag⟩;exact⟨.inr I,J⟩;rintro⟨I |I,J⟩;exact .inl I;exact .inr ⟨I,J⟩;rename_i ag;simp only[dc,cY,gY (rem:=r)];constructor;rintro⟨I,J⟩;exact⟨.inr I,J⟩;rintro⟨⟨rfl,rfl⟩|I,J⟩;rw[J]at ag;cases ag;exact⟨I,J⟩
theorem UU(a:jT ops rem ds)(h:fc ds rem=[]):Region.ready .any ops (cq ops.size ds)=[]:=by refine List.eq_nil_iff_forall_not_mem.2 λ i hi=>?_;obtain⟨o,I,J⟩:=(lZ a).1 hi;have:=(gY (ds:=ds)).2 ⟨I,J⟩;rw[h]at this;simp at this
theorem TS{i:Nat}{o:Oper}:∀ {l:List Oper}{k:Nat},(i,o)∈xn k l↔k<=i/\l[i-k]? =some o
 |[],k=>by simp[xn]
 |p::r,k=>by simp only[xn,dc,cY,TS (l:=r)];constructor;rintro(⟨rfl,rfl⟩|⟨I,J⟩);exact⟨da _,by simp⟩;refine⟨by omega,?_⟩;rw[show i-k=(i- (k+1))+1 by omega];simpa using J;rintro⟨I,J⟩;rcases Nat.eq_or_lt_of_le I with rfl |I;left;simpa using J.symm;right;refine⟨I,?_⟩;rw[show i-k=(i- (k+1))+1 by omega]at J;simpa using J
theorem aj7:jT ops (xn 0 ops.toList) []:=⟨λ i o=>by rw[TS];simp,λ i hi=>by simp at hi,λ i hi=>by simp at hi⟩
theorem Px(a:jT ops rem ds){i:Nat}(hi:i∉ds):∀ {l:List Oper}{k:Nat}{acc:List Nat},(∀m o,l[m]? =some o->ops[k+m]? =some o)->(∀u∈acc,u∉ds)->∀u∈kz l k i acc,u∉ds
 |[],_,_,_,h=>h
 |o::r,k,acc,b,h=>by rw[kz];refine Px a hi (λ m c d=>by have:=b (m+1) c (by simpa using d);rwa [show k+(m+1)=k+1+m by omega]at this) ?_;split;rename_i ag;intro u hu;rcases dc.1 hu with rfl |hu;intro f;simp only[List.any_eq_true,bL,hZ]at ag;obtain⟨e,g,I,J⟩:=ag;have:=s5.1 (a.dA u f o (by simpa using b 0 o rfl)) e (by simpa using g) I;rcases J with J |J;rw[aZ J]at this;exact hi this;exact h _ (lE J) this;exact h u hu;exact h
theorem y7{P:Program}{v:Nat}:∀ {l:List Nat},v∈uc P ops l->v∈l/\∃o,ops[v]? =some o/\mB P o=false
 |[],h=>by simp[uc]at h
 |k::r,h=>by simp only[uc]at h;split at h;rename_i o a;rw[cr,g0]at a;split at h;obtain⟨I,J⟩:=y7 h;exact⟨fg _ I,J⟩;rename_i b;rcases dc.1 h with rfl |h;exact⟨by simp,o,a,b⟩;obtain⟨I,J⟩:=y7 h;exact⟨fg _ I,J⟩;obtain⟨I,J⟩:=y7 h;exact⟨fg _ I,J⟩
end
theorem PC{o:Oper}{d:Nat}:∀ {l:List Oper},o∈l->o.dst=some d->d∈fW l
 |[],h,_=>by simp at h
 |p::r,h,aE=>by rcases dc.1 h with rfl |h;simp[fW,aE];have:=PC h aE;simp only[fW];split;exact fg _ this;exact this
theorem G1{α:Type}{l:List Nat}{t:Nat}{y:α}:∀ {f:List (Nat×α)},c6 (hR l f) t=some y->t∉l/\c6 f t=some y
 |[],h=>by simp[hR,c6]at h
 |p::r,h=>by simp only[hR]at h;split at h;rename_i ag;obtain⟨I,J⟩:=G1 h;refine⟨I,?_⟩;simp only[c6];split;rename_i e;have:=aZ e;rw[this]at ag;exact absurd (lE ag) I;exact J;rename_i ag;simp only[c6]at h⊢;split at h;rename_i e;have:=aZ e;subst this;exact⟨λ a=>(by rw[Af.2 a]at ag;cases ag),h⟩;exact G1 h
def hL(l:List Nat)(Q:Exit->Act->World->Prop):Exit->Act->World->Prop
 | .panic c,a,w=>∀a',rm l a a'->Q (.panic c) a' w
 |e,a,w=>Q e a w
theorem hL.imp{l:List Nat}{Q:Exit->Act->World->Prop}:∀(e:Exit)(a:Act)(w:World),hL l Q e a w->Q e a w:=λ e a w h=>by cases e<;>first |exact h |exact h a .refl
theorem hL.put{l:List Nat}{Q:Exit->Act->World->Prop}{d:Option Nat}{v:Value}(aE:∀t,d=some t->t∈l)(c:List PanicEntry)(a:Act)(w:World)(h:hL l Q (.panic c) (a.put d v) w):hL l Q (.panic c) a w:=λ a' b=>h a' (by
 cases d with
 |none=>exact b
 |some d=>refine⟨b.1,b.2.1.trans (by simp[Act.put]),λ t f=>(b.2.2 t f).trans ?_⟩;have:d≠t:=λ e=>f (e▸aE d rfl);simp only[Act.put,dP,eb,lW this])
section
variable{E:Env}{a0:dN E}{W:World}{ar:List Nat}{X:Nat->Prop}{n:b'}{b0:List (ay E.T.El)}{ρ0:List Value}{w0:World}{ops:Array Oper}{Q:Exit->Act->World->Prop}
theorem dl.drop{l:List Nat}{s:c1 E.T.El}{ρ:List Value}{a a':Act}{w:World}(h:dl E W ar X n b0 ρ0 w0 s ρ a w)(b:rm l a a'):dl E W ar X n b0 ρ0 w0 ⟨⟨hR l s.f.aQ,[],[]⟩,s.bl,s.ws⟩ ρ a' w:=⟨⟨h.r.mem,⟨⟨b.2.1.trans h.r.cV.dO.size,b.1.trans h.r.cV.dO.defers,λ t y d=>by obtain⟨I,J⟩:=G1 d;rw[b.2.2 t I];exact h.r.cV.dO.get t y J⟩,λ p c=>by simp at c,λ p c=>by simp at c⟩,h.r.dW⟩,h.to,h.wr⟩
theorem vG{P:Program}{H b:List (List Nat×(World->Prop))}{i:Nat}(c:∀(bO:Array Bool) w,bO.getD i false=true->ij H bO w->ij b bO w):∀(bq:Nat)(bO:Array Bool)(a:Act)(w:World),bO.getD i false=true->hF P ops Q H bq bO a w->hF P ops Q b bq bO a w
 |0,_,_,_,_,h=>h
 |bq+1,_,_,_,d,h=>⟨h.1,λ j e=>wpOp_mono (λ a' w' h'=>⟨c _ _ (getD_set_true d) h'.1,vG c bq _ a' w' (getD_set_true d) h'.2⟩) (h.2 j e)⟩
theorem R_{i:Nat}{o:Oper}(h:ops[i]? =some o)(t:Nat)(a:o.dst=some t):t∈fW ops.toList:=PC (List.mem_iff_getElem?.2 ⟨i,by rw[g0];exact h⟩) a
theorem Ed{m i:Nat}{ds:List Nat}:(cq m ds).setIfInBounds i true=cq m (i::ds):=rfl
theorem Uv(aP:cv E)(y:m1 ops ops.toList 0 ops.toList=true){rem:List (Nat×Oper)}{ds:List Nat}(r:jT ops rem ds){i:Nat}{o:Oper}(z:(i,o)∈rem)(O:mB E.P o=true)(P:h2 ds o=true){s:c1 E.T.El}{ρ:List Value}{a:Act}{w:World}(dg:R E W ar X n s.f s.bl ρ a w)
 {q:lh E.T.El}(I:(AX E ops n.n s.bl s.f o).out q){g:List (List Nat×fT E.T.El)}{H:List (List Nat×(World->Prop))}(t:dq E.P ops X s.bl ρ w g H){k:Nat}
 (U:∀d u V,o.dst=some d->R E W ar X n q.f s.bl ρ (a.put (some d) u) w->dq E.P ops X s.bl ρ w (yT E ops s.bl s.f i o.op g q.aE) V->hF E.P ops (hL (fW ops.toList) Q) V k (cq ops.size (i::ds)) (a.put (some d) u) w) :
 hF E.P ops (hL (fW ops.toList) Q) H (k+1) (cq ops.size ds) a w:=by
 obtain⟨e,sW⟩:=(r.mem i o).1 z
 obtain⟨d,aE,u,Y,hy⟩:=LJ (ops:=ops) aP dg I
 have mz:=r.next z P
 have A:=(lZ r).2 ⟨o,z,P⟩
 have Z:=VW y (AB (ds:=ds)) e A
 have wS:=t.oq (cq ops.size ds)
 have So:∀h∈H,i∉h.1:=λ p az hi=>by obtain⟨C,c,al⟩:=t.TR p az i hi;rw[e]at c;cases c;rw[O]at al;cases al
 have mr:∀v∈ends E.P ops i,v∈kz ops.toList 0 i []:=λ v D=>(y7 D).1
 have RX:∀v∈ends E.P ops i,∃o,ops[v]? =some o/\mB E.P o=false:=λ v D=>(y7 D).2
 have Jf:i∉ends E.P ops i:=λ hi=>by obtain⟨C,c,al⟩:=RX i hi;rw[e]at c;cases c;rw[O]at al;cases al
 have zt:vT ops i (kz ops.toList 0 i []):=G0 (λ m o F=>by simpa using F) (λ u f=>by simp at f)
 have G:∀u∈kz ops.toList 0 i [],(cq ops.size ds).getD u false=false:=λ u f=>Ec (Px r sW (λ m o F=>by simpa using F) (λ u f=>by simp at f) u f)
 have one:∀(J:fT E.T.El)(S:World->Prop),yT E ops s.bl s.f i o.op g q.aE=(ends E.P ops i,J)::g->pv X s.bl ρ w S J->YieldsIf E.P ops S o u a->hF E.P ops (hL (fW ops.toList) Q) H (k+1) (cq ops.size ds) a w:=λ J S K c al=>by
  have next:=U d u ((ends E.P ops i,S)::H) aE Y (by rw[K];simp only[dq];exact⟨S,H,rfl,RX,c,t⟩)
  refine V3 e (VX y) (hL.put (R_ e)) zt mr Jf So k _ a w Z G A wS c.now al ?_;rw[aE];exact next
 have free:yT E ops s.bl s.f i o.op g q.aE=g->YieldsIf E.P ops (λ _=>True) o u a->hF E.P ops (hL (fW ops.toList) Q) H (k+1) (cq ops.size ds) a w:=λ K al=>by
  have next:=U d u H aE Y (by rw[K];exact t)
  refine alp e (VX y) (hL.put (R_ e)) So Z A wS al ?_;rw[aE];exact next
 rcases hy with⟨j,hy⟩|⟨j,hy⟩
 ·cases l:q.aE with
  |none=>rw[l]at hy free;exact free rfl (.inl ⟨j,λ w' _=>hy w'⟩)
  |some b=>
   rw[l]at hy one;obtain⟨x,S,cx,l5,rc,L⟩:=hy;cases b with
   |none=>exact one .ro S rfl (.inr ⟨x,cx,rc⟩) (.inl ⟨j,L⟩)
   |some b=>
    obtain⟨B,bJ,vO,B7,W3⟩:=cx;obtain⟨hb,cm⟩:=T4 dg.mem vO B7 W3;have M: ¬X x:=dg.mem.xm ⟨_,_,_,vO,B7,W3⟩;simp only[yT,R9]at one;split at one
    ·rename_i cp C fS h_;obtain⟨v',aT,eC,aV⟩:=Zr (o:=o) dg h_;have c:pv X s.bl ρ w v' (.dA cp C fS):=.inr aT;have al:=aV w c.now;have aL:=L w l5;have f:eC=u:=by have:=(show(execOp a.eval o).run E.P w=_ from al).symm.trans (show(execOp a.eval o).run E.P w=_ from aL);injection this with this;injection this
     subst f;exact one _ v' rfl c (.inl ⟨j,aV⟩)
    ·exact one (.pF b) S rfl (.inr ⟨x,hb,M,(cm:m8 s.bl ρ x b),rc⟩) (.inl ⟨j,L⟩)
 ·have N:YieldsIf E.P ops (λ _=>True) o u a:=.inr ⟨j,hy⟩;cases l:q.aE with
  |none=>rw[l]at free;exact free rfl N
  |some b=>
   rw[l]at one;cases b with
   |none=>exact one _ _ rfl (.inl λ _=>trivial) N
   |some b=>exact one _ _ rfl (.inl λ _=>trivial) N
theorem Hb(g:cv E)(h:gA E a0){i:Nat}{o:Oper}(j:ops[i]? =some o){f:b5 E.T.El}{bl:List (ay E.T.El)}{ρ:List Value}{a:Act}{w:World}(dg:R E W ar X n f bl ρ a w)
 {b:bS E.T.El}(I:(pk E a0 ops n.n bl f o).out b){K:Act->World->Prop}{d:Exit->Act->World->Prop}
 (k:∀ρ' a' w',R E W ar X n b.s.f b.s.bl ρ' a' w'->To X bl b.s.bl ρ ρ' w w'->ew bl ρ w w' b.s.ws->rm (CP o.dst) a a'->l9 E X b.s.bl ρ' (Exit.then K d) a' w' b.x):wpOp E.P ops d i K a w:=by
 have c:=NI g h dg I K d k
 unfold wpOp
 simp only[j]
 split
 ·rename_i e;rw[lX e]at c;exact .inl c
 ·rename_i e;rw[lW e]at c;exact c
theorem T1{rem:List (Nat×Oper)}{ds:List Nat}(b:jT ops rem ds){c:Nat}{a:Oper}(h:fc ds rem=[(c,a)]):c∈Region.ready .any ops (cq ops.size ds)/\∀j∈Region.ready .any ops (cq ops.size ds),j=c:=by
 have hc:(c,a)∈fc ds rem:=by rw[h];simp
 obtain⟨d,e⟩:=gY.1 hc;refine⟨(lZ b).2 ⟨a,d,e⟩,λ j f=>?_⟩;obtain⟨i,g,al⟩:=(lZ b).1 f;have:=gY.2 ⟨g,al⟩;rw[h]at this;simp only[fG,cY]at this;exact this.1
theorem YO{x y:Oper}{d:Nat}(h:x.apart ops y=true)(a:x.dst=some d):y.dst≠some d:=by unfold Oper.apart at h;rw[a]at h;simp only[bL,gI,bne_iff_ne,ne_eq]at h;exact h.1.2
theorem PB(h:m1 ops ops.toList 0 ops.toList=true){rem:List (Nat×Oper)}{ds:List Nat}(f:jT ops rem ds){c j d:Nat}{a b:Oper}(hc:(c,a)∈rem)(i:h2 ds a=true)(k:(j,b)∈rem)(l:h2 ds b=true)(m:c≠j)(aE:a.dst=some d):b.dst≠some d:=by obtain⟨o,p⟩:=(f.mem c a).1 hc;obtain⟨g,q⟩:=(f.mem j b).1 k;exact YO (VW h (AB (ds:=ds)) o ((lZ f).2 ⟨a,hc,i⟩) j b g (Ne.symm m) (TB (eL.1 g).1 q) λ e r ag s=>p (s▸s5.1 l e r ag)) aE
theorem E0{ds:List Nat}{i:Nat}{p:Oper}(a:h2 ds p=true):h2 (i::ds) p=true:=s5.2 λ e b ag=>fg _ (s5.1 a e b ag)
theorem TC{m i j:Nat}{ds:List Nat}(h:i≠j):cq m (i::j::ds)=cq m (j::i::ds):=by
 show((cq m ds).setIfInBounds j true).setIfInBounds i true=((cq m ds).setIfInBounds i true).setIfInBounds j true
 exact iv _ _ (Ne.symm h)
theorem amK{b:Nat->Prop}{bl:List (ay E.T.El)}{ρ:List Value}{a:Act}{w:World}{c:Exit->Act->World->Prop}{x:yS E.T.El}(d:∀k,aW b bl ρ w k->aW X bl ρ w k)(h:l9 E X bl ρ c a w x):l9 E b bl ρ c a w x:=by
 cases x with
 |nm=>exact h
 |ex id=>exact h
 |rt=>exact h
 |eI y=>exact λ v e=>h v (e.later (λ k f=>⟨d k f,rfl⟩) .refl)
theorem Ov{P:Program}{m:Nat}{ds:List Nat}{rem:List (Nat×Oper)}{f:Option Nat}{i j c q g:Nat}{cf b d:Oper}(h:Gy P m ds rem f i cf j b=some (c,d,q,g)):∃e,(((c,d)=(i,cf)/\(q,e)=(j,b))\/((c,d)=(j,b)/\(q,e)=(i,cf)))/\yV P m e=some g/\(∃a,fc (q::ds) (gH q rem)=[(c,a)])/\Lv f q=true:=by unfold Gy at h;split at h;rename_i a3 k a I J;split at h;rename_i ag;simp only[bL]at ag;have:=aZ ag.1;subst this;simp only[aK,cY]at h;obtain⟨rfl,rfl,rfl,rfl⟩:=h;exact⟨b,.inl ⟨rfl,rfl⟩,I,⟨a,J⟩,ag.2⟩;cases h;split at h;rename_i a3 k a I J;split at h;rename_i ag;simp only[bL]at ag;have:=aZ ag.1;subst this;simp only[aK,cY]at h;obtain⟨rfl,rfl,rfl,rfl⟩:=h;exact⟨cf,.inr ⟨rfl,rfl⟩,I,⟨a,J⟩,ag.2⟩;cases h;cases h
theorem Hf{a t:bS E.T.El}{ws:List Nat}{e:D (bS E.T.El)}(J:(match a.x with
 | .nm=>e
 |x=>.ok ⟨x,⟨hR (fW ops.toList) a.s.f.aQ,[],[]⟩,a.s.bl,a.s.ws++ws⟩:D (bS E.T.El)).out t)(k:Fin E W ar X n b0 ρ0 w0 t Q){ρ':List Value}{a':Act}{w':World}{K:Act->World->Prop}
 (d:dl E W ar X n b0 ρ0 w0 ⟨a.s.f,a.s.bl,a.s.ws++ws⟩ ρ' a' w')(nm:a.x= .nm->e.out t->K a' w'):l9 E X a.s.bl ρ' (Exit.then K (hL (fW ops.toList) Q)) a' w' a.x:=by
 cases c:a.x with
 |nm=>rw[c]at J;exact nm c J
 |ex id=>rw[c]at J;have J:(⟨.ex id,⟨hR (fW ops.toList) a.s.f.aQ,[],[]⟩,a.s.bl,a.s.ws++ws⟩:bS E.T.El)=t:=J;subst J;exact k ρ' a' w' (d.drop .refl)
 |rt=>rw[c]at J;have J:(⟨.rt,⟨hR (fW ops.toList) a.s.f.aQ,[],[]⟩,a.s.bl,a.s.ws++ws⟩:bS E.T.El)=t:=J;subst J;exact k ρ' a' w' (d.drop .refl)
 |eI y=>rw[c]at J;have J:(⟨.eI y,⟨hR (fW ops.toList) a.s.f.aQ,[],[]⟩,a.s.bl,a.s.ws++ws⟩:bS E.T.El)=t:=J;subst J;exact λ v f b ag=>k ρ' b w' (d.drop ag) v f
def yd(E:Env)(a0:dN E)(ops:Array Oper)(n:b')(W:World)(ar:List Nat)(X:Nat->Prop)(b0:List (ay E.T.El))(ρ0:List Value)(w0:World)(Q:Exit->Act->World->Prop)(t:bS E.T.El)(b:Nat):Prop:=∀(d:Option Nat)(rem:List (Nat×Oper))(ds:List Nat)(c:List (List Nat×fT E.T.El))(H:List (List Nat×(World->Prop)))(s:c1 E.T.El)(ρ:List Value)(a:Act)(w:World),(ks E a0 ops n.n b d rem ds c s).out t->dl E W ar X n b0 ρ0 w0 s ρ a w->jT ops rem ds->dq E.P ops X s.bl ρ w c H->hF E.P ops (hL (fW ops.toList) Q) H b (cq ops.size ds) a w
theorem Ow{P:Program}{m:Nat}{o:Oper}{d:Nat}(h:yV P m o=some d):∃t z,o.op= .alloc t/\o.guard=none/\o.dst=some d/\n7 P t=some z/\eM d m=true:=by unfold yV at h;split at h;rename_i t d' I J a;split at h;rename_i z b c;cases h;exact⟨t,z,I,J,a,b,c⟩;cases h;cases h
theorem YJ{o:Oper}{d t:Nat}{z:List Value}(I:o.op= .alloc t)(J:o.guard=none)(a:o.dst=some d)(b:n7 E.P t=some z){m:Nat}(c:eM d m=true)(bl:List (ay E.T.El))(f:b5 E.T.El) :
 pk E a0 ops m bl f o= .ok ⟨.nm,f.put d (.b bl.length 0),bl++[.c t (z.map .p)],[]⟩:=by
 simp only[pk,J,zh,BZ,uT,I,G',y_,b,D.bind,a,xO,c,Option.getD]
def N4(E:Env)(a0:dN E)(ops:Array Oper)(n:b')(X:Nat->Prop)(Q:Exit->Act->World->Prop)(t:bS E.T.El)(j a3:Nat)(c:Oper)(b:c1 E.T.El)(d:List Value)(v:World)(g:Nat)(e:Nat):Prop:=
 ∀(rem:List (Nat×Oper))(ds:List Nat)(f:List (List Nat×fT E.T.El))(H:List (List Nat×(World->Prop)))(s:c1 E.T.El)(ρ:List Value)(a:Act)(w:World)(ws:List Nat),(ks E a0 ops n.n (e+1) (some j) rem ds f s).out t ->
  dl E v (gD b.bl d) (gi X g) n b.bl d v ⟨s.f,s.bl,ws⟩ ρ a w->s.ws=ws++b.ws->a.tmps.getD a3 undef=gX g->jT ops rem ds->(j,c)∈rem->h2 ds c=true->dq E.P ops (gi X g) s.bl ρ w f H->hF E.P ops (hL (fW ops.toList) Q) H e (cq ops.size (j::ds)) a w
section
variable{t:bS E.T.El}{j a3 ih g:Nat}{ii:List Value}{bP:Oper}{s1:c1 E.T.El}{cl:List Value}{b1:Act}{bV v:World}
theorem O'(Y:cv E)(Z:gA E a0)(hW:m1 ops ops.toList 0 ops.toList=true)(p6:bP.dst=some a3)(cH:dl E W ar X n b0 ρ0 w0 s1 cl b1 bV)(ai:aY [] bV v)(aJ:bV.heap.size<=g)(k:Fin E W ar X n b0 ρ0 w0 t Q){m:Nat}(zu:N4 E a0 ops n X Q t j a3 bP s1 cl v g m)
 {rem:List (Nat×Oper)}{ds:List Nat}{B:List (List Nat×fT E.T.El)}{H:List (List Nat×(World->Prop))}{s:c1 E.T.El}{ρ:List Value}{a:Act}{w:World}{ws:List Nat}{c:Nat}{h:Oper}{f:b5 E.T.El}(o:jT ops rem ds)(hc:(c,h)∈rem)(C:h2 ds h=true)(y:(j,bP)∈rem)(z:h2 ds bP=true)(A:c≠j)
 {cI:Oper}(p_:fc (j::ds) (gH j rem)=[(c,cI)])(p:dl E v (gD s1.bl cl) (gi X g) n s1.bl cl v ⟨f,s.bl,ws⟩ ρ a w)(F:s.ws=ws++s1.ws)(a2:a.tmps.getD a3 undef=gX g)(aX:dq E.P ops (gi X g) s.bl ρ w B H)
 {b:bS E.T.El}(I:(pk E a0 ops n.n s.bl f h).out b)(J:(match b.x with
  | .nm=>match oR c b.s.ws b.s.bl B with
    |some G=>o5 E b.s.f λ f=>sS E b.s.ws s.bl.length b.s.bl λ bl=>ks E a0 ops n.n (m+1) (some j) (gH c rem) (c::ds) G ⟨f,bl,b.s.ws++s.ws⟩
    |none=>.no
  |x=>.ok ⟨x,⟨hR (fW ops.toList) b.s.f.aQ,[],[]⟩,b.s.bl,b.s.ws++s.ws⟩:D (bS E.T.El)).out t):hF E.P ops (hL (fW ops.toList) Q) H (m+1) (cq ops.size (j::ds)) a w:=by
 have JK:=o.next y z
 obtain⟨K,hV⟩:=T1 JK p_
 obtain⟨L,sW⟩:=(o.mem c h).1 hc
 have bh:=(eL.1 L).1
 have I5:∀t,h.dst=some t->t≠a3:=λ t q e=>PB hW o hc C y z A q (by rw[p6,e])
 refine⟨λ e=>by rw[e]at K;simp at K,λ i hi=>?_⟩
 have:=hV i hi
 subst this
 refine Hb Y Z L p.r I λ ρ' a' w' M q N j5=>?_
 have O:dl E v (gD s1.bl cl) (gi X g) n s1.bl cl v ⟨b.s.f,b.s.bl,b.s.ws++ws⟩ ρ' a' w':=⟨M,p.to.trans q,p.wr.b2 p.to N⟩
 have P:=cH.Bw (s:=⟨b.s.f,b.s.bl,b.s.ws++ws⟩) ai aJ O
 rw[iV,<-F]at P
 refine amK (λ k r=>⟨λ R=>r.1 (.inl R),r.2⟩) (Hf J k P λ R u=>?_)
 split at u
 ·rename_i G r;simp only[mQ,vf]at u;obtain⟨fE,S,U⟩:=aX.ep M.mem q N r;have V:(cq ops.size (i::j::ds)).getD i false=true:=qM (ds:=i::j::ds) (by simp) bh;refine⟨U _ _ V (S.oq _),vG U m _ a' w' V ?_⟩;rw[Ed,TC A];refine zu _ _ _ _ _ _ _ _ (b.s.ws++ws) u O (by rw[F,iV]) ?_ (o.next hc C) (qX.2 ⟨y,Ne.symm A⟩) (E0 z) S;rw[j5.2.2 a3 (λ l=>?_)];exact a2;unfold CP at l;split at l;simp at l;rename_i d aE;simp only[fG]at l;exact I5 d aE l.symm
 ·exact u.elim
theorem YM(aP:cv E)(aG:gA E a0)(V:m1 ops ops.toList 0 ops.toList=true)(Y:bP.op= .alloc ih)(p5:bP.guard=none)(P:bP.dst=some a3)(Z:n7 E.P ih=some ii)(Si:eM a3 n.n=true)(cH:dl E W ar X n b0 ρ0 w0 s1 cl b1 bV)(ai:aY [] bV v)(aJ:bV.heap.size<=g)(I:g<v.heap.size)(ac4:v.heap[g]? =some (.cells ⟨ii⟩ ih (0,0)))(k:Fin E W ar X n b0 ρ0 w0 t Q) :
 ∀(y:Nat),(∀m,m<=y->yd E a0 ops n W ar X b0 ρ0 w0 Q t m)->N4 E a0 ops n X Q t j a3 bP s1 cl v g y:=λ y=>by
 induction y with
 |zero=>
  intro K rem ds R H s ρ a w ws b z C F l p r G;have A:(j,bP)∈fc ds rem:=gY.2 ⟨p,r⟩;have Jp:mB E.P bP=false:=by simp[mB,uT,Y]
  simp only[ks]at b;split at b
  ·rename_i i o JG;obtain⟨L,M,S⟩:=EH JG;have N:i≠j:=λ e=>by subst e;have:=((l.mem i o).1 L).1.symm.trans ((l.mem i bP).1 p).1;cases this;rw[Jp]at M;cases M
   obtain⟨q,r0,J⟩:=D.e1 b;rw[mQ]at J;have O:(j,bP)∈fc (i::ds) (gH i rem):=gY.2 ⟨qX.2 ⟨p,Ne.symm N⟩,E0 r⟩;split at J;rename_i e;rw[e]at O;simp at O;exact J.elim
  ·split at b;rename_i e;rw[e]at A;simp at A;rename_i i o e;rw[e]at A;simp only[fG,cY]at A;obtain⟨rfl,rfl⟩:=A;exact told K b z C F l p r G
   ·split at b;first |exact b.elim |(split at b<;>first |exact b.elim |(rename_i e _ _;cases e))
    ·split at b;rename_i e;simp at e;exact b.elim
   ·exact b.elim
 |succ y U=>
  intro K rem ds R H s ρ a w ws b z C F l p r G;have A:(j,bP)∈fc ds rem:=gY.2 ⟨p,r⟩;have Jp:mB E.P bP=false:=by simp[mB,uT,Y]
  have JK:=l.next p r;have U:=U λ m O=>K m (Nat.le_succ_of_le O);rw[ks]at b;split at b
  ·rename_i i o JG;obtain⟨L,M,S⟩:=EH JG;have N:i≠j:=λ e=>by subst e;have:=((l.mem i o).1 L).1.symm.trans ((l.mem i bP).1 p).1;cases this;rw[Jp]at M;cases M
   obtain⟨q,r0,J⟩:=D.e1 b;rw[mQ]at J;refine Uv aP V JK (qX.2 ⟨L,N⟩) M (E0 S) z.r r0 G λ d u fE aE zq zH=>?_;rw[TC N];refine U _ _ _ _ _ _ _ _ ws J ⟨zq,z.to,z.wr⟩ C ?_ (l.next L S) (qX.2 ⟨p,Ne.symm N⟩) (E0 r) zH;have bE:d≠a3:=λ e=>PB V l L S p r N aE (by rw[P,e]);simp only[Act.put,dP,eb,lW bE];simpa only[dP]using F
  ·split at b;rename_i e;rw[e]at A;simp at A;rename_i i o e;rw[e]at A;simp only[fG,cY]at A;obtain⟨rfl,rfl⟩:=A;exact told K b z C F l p r G
   ·rename_i i cf w9 aoa e;split at b;first |exact b.elim |(split at b<;>first |exact b.elim |(rename_i e _ _;cases e))
    ·split at b
     ·rename_i c fN q cN IX ur;obtain⟨k3,DG,oL,⟨cI,kQ⟩,Sv⟩:=Ov IX;have aes:j=q:=aZ Sv;subst aes;have jA:(c,fN)∈fc ds rem/\(j,k3)∈fc ds rem:=by rw[e];rcases DG with⟨ak,al⟩|⟨ak,al⟩<;>(cases ak;cases al;simp)
      obtain⟨dm,cD⟩:=gY.1 jA.1;obtain⟨a7,br⟩:=gY.1 jA.2;have aa6:k3=bP:=by have:=((l.mem j k3).1 a7).1.symm.trans ((l.mem j bP).1 p).1;exact eR this
      subst aa6;have adf:c≠j:=λ CT=>by
       subst CT;have O:(c,cI)∈fc (c::ds) (gH c rem):=by rw[kQ];simp
       exact(qX.1 (gY.1 O).1).2 rfl
      obtain⟨Fp,F5,_,_,wT,_,_⟩:=Ow oL;have adp:cN=a3:=by rw[P]at wT;exact(eR wT).symm
      subst adp;obtain⟨t1,l3,l4⟩:=D.e1 b;exact O' (s:=s) (ws:=ws) (f:=⟨hR [cN] s.f.aQ,[],[]⟩) aP aG V P cH ai aJ k U l dm cD p r adf kQ (z.drop (a':=a) .refl) C F G l3 l4
     ·exact b.elim
   ·exact b.elim
where
 told {y:Nat} (K:∀m,m<=y->yd E a0 ops n W ar X b0 ρ0 w0 Q t m) {rem:List (Nat×Oper)} {ds:List Nat} {R:List (List Nat×fT E.T.El)} {H:List (List Nat×(World->Prop))} {s:c1 E.T.El} {ρ:List Value} {a:Act} {w:World} {ws:List Nat}
  (b:((pk E a0 ops n.n s.bl s.f bP).bind λ t=>match t.x with
   | .nm=>match oR j t.s.ws t.s.bl R with
     |some c3=>o5 E t.s.f λ f=>sS E t.s.ws s.bl.length t.s.bl λ bl=>ks E a0 ops n.n y (T9 (some j) j) (gH j rem) (j::ds) c3 ⟨f,bl,t.s.ws++s.ws⟩
     |none=>.no
   |x=>.ok ⟨x,⟨hR (fW ops.toList) t.s.f.aQ,[],[]⟩,t.s.bl,t.s.ws++s.ws⟩:D (bS E.T.El)).out t)
  (z:dl E v (gD s1.bl cl) (gi X g) n s1.bl cl v ⟨s.f,s.bl,ws⟩ ρ a w) (C:s.ws=ws++s1.ws) (F:a.tmps.getD a3 undef=gX g) (l:jT ops rem ds) (p:(j,bP)∈rem) (r:h2 ds bP=true) (G:dq E.P ops (gi X g) s.bl ρ w R H):hF E.P ops (hL (fW ops.toList) Q) H y (cq ops.size (j::ds)) a w:=by
  rw[YJ Y p5 P Z Si]at b
  simp only[D.bind]at b
  split at b
  ·rename_i c3 aj;simp only[mQ,vf]at b;have wW:g∉gD s1.bl cl:=((cH.r.mem.o7 ai aJ I).fy g (.inr rfl)).2;have gR:w.heap[g]? =some (.cells ⟨ii⟩ ih (0,0)):=(z.r.mem.bM.block g I wW).trans ac4;have eB:=cH.tq (s:=⟨s.f,s.bl,ws⟩) ai aJ I z Si F gR;have af:∀k∈a6 (ay.c (El:=E.T.El) ih (ii.map .p)) (gX g),k=g:=λ k aj=>by simpa only[a6,a8.ag,fG]using aj
   have adD:=dq.tq (B:=ay.c (El:=E.T.El) ih (ii.map .p)) (h:=gX g) z.r.mem.len af G;obtain⟨fE,aT,aV⟩:=adD.ep eB.r.mem .refl .nil aj;have bh:=(eL.1 ((l.mem j bP).1 p).1).1;have au:(cq ops.size (j::ds)).getD j false=true:=qM (ds:=j::ds) (by simp) bh;refine vG aV y _ a w au (K y (da _) _ _ _ _ _ _ _ _ _ b ?_ (l.next p r) aT);rw[<-C]at eB;exact eB
  ·exact b.elim
end
theorem Ox(Y:cv E)(aG:gA E a0)(hW:m1 ops ops.toList 0 ops.toList=true){t:bS E.T.El}(k:Fin E W ar X n b0 ρ0 w0 t Q):∀(bq:Nat),(∀m,m<bq->yd E a0 ops n W ar X b0 ρ0 w0 Q t m)->yd E a0 ops n W ar X b0 ρ0 w0 Q t bq
 |0,_,h1,rem,ds,ao,H,s,ρ,a,w,g,h,l,B=>by simp only[ks]at g;split at g;rename_i aI;have g:(⟨.nm,s⟩:bS E.T.El)=t:=g;subst g;exact⟨UU l aI,k ρ a w h⟩;exact g.elim
 |bq+1,Z,h1,rem,ds,ao,H,s,ρ,a,w,g,h,l,B=>by
  rw[ks]at g;split at g;rename_i i o az;obtain⟨c',fP,gb⟩:=EH az;obtain⟨q,I,J⟩:=D.e1 g;rw[mQ]at J;exact Uv Y hW l c' fP gb h.r I B λ d u fE aE zq zH=>Z bq (by omega) h1 _ _ _ _ _ _ _ _ J ⟨zq,h.to,h.wr⟩ (l.next c' gb) zH
  ·split at g;rename_i aI;have g:(⟨.nm,s⟩:bS E.T.El)=t:=g;subst g;exact⟨λ _=>k ρ a w h,by rw[UU l aI];simp⟩
   ·rename_i i o p_;obtain⟨G,hV⟩:=T1 l p_;have adP:(i,o)∈fc ds rem:=by rw[p_];simp
    obtain⟨c',gb⟩:=gY.1 adP;obtain⟨hd,sW⟩:=(l.mem i o).1 c';have bh:=(eL.1 hd).1;obtain⟨t1,I,J⟩:=D.e1 g;refine⟨λ e=>by rw[e]at G;simp at G,λ j aB=>?_⟩;have:=hV j aB;subst this;refine Hb Y aG hd h.r I λ ρ' a' w' L M y _=>Hf J k (h.next L M y) λ aa C=>?_;split at C;rename_i c3 aj;simp only[mQ,vf]at C;obtain⟨fE,N,F⟩:=B.ep L.mem M y aj;have au:(cq ops.size (j::ds)).getD j false=true:=qM (ds:=j::ds) (by simp) bh;exact⟨F _ _ au (N.oq _),vG F bq _ a' w' au (Z bq (by omega) _ _ _ _ _ _ _ _ _ C (h.next L M y) (l.next c' gb) N)⟩;exact C.elim
   ·rename_i i cf j bP ly;split at g
    ·rename_i f2 dG aeP;split at g
     ·rename_i gr Ex r TV cB dE;split at g
      ·rename_i I x al;split at g
       ·rename_i J bq aL;simp only[mQ,vf]at g;simp only[bL]at x;have Hd:=aZ x.1;have Hc:=aZ x.2;subst Hd;subst Hc;obtain⟨ln,a3,ti,ih,l6,ii,d1,d2,bE,RB,RC,W1,W2,fin⟩:=ak1 h.r aeP;obtain⟨Lw,Ua⟩:=gY.1 (show(r,cf)∈fc ds rem by rw[ly];simp);obtain⟨Uc,aio⟩:=gY.1 (show(gr,bP)∈fc ds rem by rw[ly];simp);obtain⟨EG,aoe⟩:=(l.mem r cf).1 Lw;obtain⟨R,aof⟩:=(l.mem gr bP).1 Uc;have adO:r≠gr:=λ e=>by subst e;rw[EG]at R;cases R;rw[d1]at d2;exact bE (eR d2)
        have G:=l.next Lw Ua;have Sx:=l.next Uc aio;obtain⟨Mi,Ut⟩:=gY.1 (show(gr,Ex)∈fc (r::ds) (gH r rem) by rw[cB];simp);have aaJ:Ex=bP:=by have:=((G.mem gr Ex).1 Mi).1;rw[R]at this;exact(eR this).symm
        subst aaJ;have qa:=G.next Mi Ut;have li:=(eL.1 EG).1;have agV:=(eL.1 R).1;have step:∀ {q:Nat}{o:Oper}{d t:Nat}{z:List Value}{b:Act}{v:World}{K:Act->World->Prop},ops[q]? =some o->o.guard=none->o.dst=some d->aS E.P o b v (gX v.heap.size) (v.alloc (.cells ⟨z⟩ t))->K (b.put (some d) (gX v.heap.size)) (v.alloc (.cells ⟨z⟩ t))->wpOp E.P ops (hL (fW ops.toList) Q) q K b v:=by
         intro q o d t z b v K aH ax aE hy bX;have y:Region.wanted o (yielded ops b.tmps)=true:=xW ax;unfold wpOp;simp only[aH,y,if_true];left;unfold Oper.wp;rw[show(execOp b.eval o).run E.P v=_ from hy];show K (b.put o.dst _) _
         rw[aE];exact bX
        have Q8:∀O P db A,db=(a.put (some ln) (gX O)).put (some a3) (gX P)->aY [] w A->w.heap.size<=O->O<A.heap.size->w.heap.size<=P->P<A.heap.size->O≠P->A.heap[O]? =some (.cells ⟨l6⟩ ti (0,0))->A.heap[P]? =some (.cells ⟨ii⟩ ih (0,0)) ->
         ij H (cq ops.size (gr::r::ds)) A/\hF E.P ops (hL (fW ops.toList) Q) H bq (cq ops.size (gr::r::ds)) db A:=λ O P db A a2 ai i1 i2 sc w9 ax a7 br=>by
         obtain⟨gy,s1,s2,nY⟩:=fin O P A ai i1 i2 sc w9 ax a7 br
         subst a2
         have eB:=h.next (s':=⟨f2,dG,[]⟩) s1 s2 nY
         obtain⟨H1,N,F⟩:=B.ep s1.mem s2 nY al
         obtain⟨anx,bN,cw⟩:=N.ep s1.mem .refl .nil aL
         have next:=Z bq (by omega) none _ _ _ _ _ _ _ _ g eB qa bN
         have t1:(cq ops.size (gr::r::ds)).getD gr false=true:=qM (by simp) agV
         have t2:(cq ops.size (gr::r::ds)).getD r false=true:=qM (by simp) li
         exact⟨F _ _ t2 (cw _ _ t1 (bN.oq _)),vG F bq _ _ A t2 (vG cw bq _ _ A t1 next)⟩
        have UT:=(lZ l).2 ⟨cf,Lw,Ua⟩;have sz:∀(v:World)(o:Obj),(v.alloc o).heap.size=v.heap.size+1:=λ v o=>by simp
        refine⟨λ e=>by rw[e]at UT;simp at UT,λ q aH=>?_⟩;have kQ:q=r\/q=gr:=by obtain⟨cI,x,al⟩:=(lZ l).1 aH;have:=gY.2 ⟨x,al⟩;rw[ly]at this;simp only[dc,cY,hx,or_false]at this;rcases this with⟨e,_⟩|⟨e,_⟩;exact .inl e;exact .inr e
        rcases kQ with rfl |rfl
        ·refine step EG RB d1 (W1 _ _) ⟨dq.bM (aY.alloc _ _ _) B _,?_⟩;have A7:=(lZ G).2 ⟨Ex,Mi,Ut⟩;refine⟨λ e=>by rw[Ed]at e;rw[e]at A7;simp at A7,λ q aH=>?_⟩;have:q=gr:=by obtain⟨cI,x,al⟩:=(lZ G).1 aH;have:=gY.2 ⟨x,al⟩;rw[cB]at this;simp only[fG,cY]at this;exact this.1
         subst this;refine step R RC d2 (W2 _ _) ?_
         exact Q8 w.heap.size (w.heap.size+1) _ _ (by simp) ((aY.alloc [] w _).trans (aY.alloc [] _ _) (by simp)) (da _) (by rw[sz,sz];omega) (Nat.le_succ _) (by rw[sz,sz];omega) (by omega)
          (by rw[Below.heap_alloc _ _ _ (by rw[sz];omega)];exact heap_alloc_new w _) (by have:=heap_alloc_new (w.alloc (.cells ⟨l6⟩ ti)) (.cells ⟨ii⟩ ih);rwa [sz]at this)
        ·refine step R RC d2 (W2 _ _) ⟨dq.bM (aY.alloc _ _ _) B _,?_⟩;obtain⟨aiO,aiP⟩:=gY.1 (show(r,TV)∈fc (q::ds) (gH q rem) by rw[dE];simp);have A7:=(lZ Sx).2 ⟨TV,aiO,aiP⟩;refine⟨λ e=>by rw[Ed]at e;rw[e]at A7;simp at A7,λ p az=>?_⟩;have:p=r:=by obtain⟨cI,x,al⟩:=(lZ Sx).1 az;have:=gY.2 ⟨x,al⟩;rw[dE]at this;simp only[fG,cY]at this;exact this.1
         subst this;refine step EG RB d1 (W1 _ _) ?_;have ad0:(cq ops.size (q::ds)).setIfInBounds p true=cq ops.size (q::p::ds):=by
          show((cq ops.size ds).setIfInBounds q true).setIfInBounds p true=((cq ops.size ds).setIfInBounds p true).setIfInBounds q true
          exact iv _ _ (Ne.symm adO)
         rw[Ed,ad0];exact Q8 (w.heap.size+1) w.heap.size _ _ (by
          simp only[Act.put,sz];rw[iv _ _ (Ne.symm bE)]) ((aY.alloc [] w _).trans (aY.alloc [] _ _) (by simp)) (Nat.le_succ _) (by rw[sz,sz];omega) (da _) (by rw[sz,sz];omega) (by omega)
          (by have:=heap_alloc_new (w.alloc (.cells ⟨ii⟩ ih)) (.cells ⟨l6⟩ ti);rwa [sz]at this) (by rw[Below.heap_alloc _ _ _ (by rw[sz];omega)];exact heap_alloc_new w _)
       ·exact g.elim
      ·exact g.elim
     ·exact g.elim
    ·split at g
     ·rename_i c fN q S IX ur;obtain⟨U,DG,oL,⟨cI,kQ⟩,Sv⟩:=Ov IX;have jA:(c,fN)∈fc ds rem/\(q,U)∈fc ds rem:=by rw[ly];rcases DG with⟨x,al⟩|⟨x,al⟩<;>(cases x;cases al;simp)
      obtain⟨dm,cD⟩:=gY.1 jA.1;obtain⟨a7,br⟩:=gY.1 jA.2;obtain⟨hd,sW⟩:=(l.mem c fN).1 dm;obtain⟨ait,aog⟩:=(l.mem q U).1 a7;have bh:=(eL.1 hd).1;have adg:c≠q:=λ CT=>by
       subst CT;have V:(c,cI)∈fc (c::ds) (gH c rem):=by rw[kQ];simp
       exact(qX.1 (gY.1 V).1).2 rfl
      obtain⟨Fp,F5,R4,Dv,wT,R5,R6⟩:=Ow oL;obtain⟨t1,l3,l4⟩:=D.e1 g;have I9:dl E W ar X n b0 ρ0 w0 ⟨⟨hR [S] s.f.aQ,[],[]⟩,s.bl,s.ws⟩ ρ a w:=h.drop .refl;have z2:=(lZ l).2 ⟨fN,dm,cD⟩;refine⟨λ e=>by rw[e]at z2;simp at z2,λ r cA=>?_⟩;have adI:r=c\/r=q:=by obtain⟨cm,x,al⟩:=(lZ l).1 cA;have V:=gY.2 ⟨x,al⟩;rw[ly]at V;simp only[dc,cY,hx,or_false]at V;rcases DG with⟨aL,bB⟩|⟨aL,bB⟩<;>(cases aL;cases bB;rcases V with⟨e,_⟩|⟨e,_⟩<;>simp[e])
      rcases adI with rfl |rfl;refine Hb Y aG hd I9.r l3 λ ρ' a' w' L M y _=>Hf l4 k (I9.next L M y) λ aa C=>?_;split at C;rename_i c3 aj;simp only[mQ,vf]at C;obtain⟨fE,N,F⟩:=B.ep L.mem M y aj;have au:(cq ops.size (r::ds)).getD r false=true:=qM (ds:=r::ds) (by simp) bh;exact⟨F _ _ au (N.oq _),vG F bq _ a' w' au (Z bq (by omega) _ _ _ _ _ _ _ _ _ C (I9.next L M y) (l.next dm cD) N)⟩;exact C.elim
      ·obtain⟨dy,vO,B7⟩:=x_ R5;have hy:aS E.P U a w (gX w.heap.size) (w.alloc (.cells ⟨F5⟩ Fp)):=rf vO B7 R4;have y:Region.wanted U (yielded ops a.tmps)=true:=xW Dv;unfold wpOp;simp only[ait,y,if_true];left;unfold Oper.wp;rw[show(execOp a.eval U).run E.P w=_ from hy];show ij H _ _/\hF _ _ _ H bq _ (a.put U.dst _) _
       rw[wT];have nt:aY [] w (w.alloc (.cells ⟨F5⟩ Fp)):=aY.alloc _ _ _;refine⟨dq.bM nt B _,?_⟩;have Sb:=bW ur;obtain⟨js,rfl⟩:∃js,bq=js+1:=⟨bq-1,by omega⟩
       have dt:w.heap.size<(w.alloc (.cells ⟨F5⟩ Fp)).heap.size:=by simp
       have JM:dl E W ar X n b0 ρ0 w0 ⟨⟨hR [S] s.f.aQ,[],[]⟩,s.bl,s.ws⟩ ρ (a.put (some S) (gX w.heap.size)) w:=h.drop (yU (d:=some S));have JH:=JM.o7 nt (da _) dt;have zu:=YM (j:=r) Y aG hW R4 Dv wT R5 R6 JM nt (da _) dt (heap_alloc_new w _) k js λ m V=>Z m (by omega);refine O' (s:=s) (ws:=[]) (f:=⟨hR [S] s.f.aQ,[],[]⟩) Y aG hW wT JM nt (da _) k zu l dm cD a7 br adg kQ JH (by simp) ?_ (dq.o7 nt (da _) B) l3 l4;have ad2:S<a.tmps.size:=by rw[h.r.cV.dO.size];exact bW R6
       simp only[Act.put,dP,eb];simp[ad2]
     ·exact g.elim
   ·exact g.elim
theorem YL(d:cv E)(e:gA E a0)(f:m1 ops ops.toList 0 ops.toList=true)(b:Nat){g:Option Nat}{rem:List (Nat×Oper)}{ds:List Nat}{c:List (List Nat×fT E.T.El)}{H:List (List Nat×(World->Prop))}{s:c1 E.T.El}{t:bS E.T.El}{ρ:List Value}{a:Act}{w:World}
 (i:(ks E a0 ops n.n b g rem ds c s).out t)(h:dl E W ar X n b0 ρ0 w0 s ρ a w)(j:jT ops rem ds)(l:dq E.P ops X s.bl ρ w c H)(k:Fin E W ar X n b0 ρ0 w0 t Q):hF E.P ops (hL (fW ops.toList) Q) H b (cq ops.size ds) a w:=by
 have all:∀b,∀m,m<=b->yd E a0 ops n W ar X b0 ρ0 w0 Q t m:=λ b=>by
  induction b with
  |zero=>intro m o;exact Ox d e f k m λ q p=>by omega
  |succ b r=>intro m o;exact Ox d e f k m λ q p=>r q (by omega)
 exact all b b (da _) g rem ds c H s ρ a w i h j l
end
abbrev jl(E:Env):=Nat->Option (c1 E.T.El->D (bS E.T.El))
def D_{El:Nat->Type}(g:c1 El->D (bS El)):Nat->c1 El->D (bS El)
 |0,_=>.no
 |k+1,s=>(g s).bind λ t=>match t.x with
  | .nm=>D_ g k t.s
  |_=>.ok t
def T3{El:Nat->Type}(id:Nat)(t:bS El):D (bS El):=match t.x with
 | .ex i=>match bT i id with
   |true=>.ok ⟨.nm,t.s⟩
   |false=>.ok t
 |_=>.ok t
def S8{El:Nat->Type}(f:b5 El):Operand->Option Bool
 | .tmp t=>c6 f.dh t
 |_=>none
def c1.Kh{El:Nat->Type}(s:c1 El)(b:Bool):Operand->c1 El
 | .tmp t=>⟨s.f.know t b,s.bl,s.ws⟩
 |_=>s
def AR{E:Env}(LE:jl E):Code->Option (c1 E.T.El->D (bS E.T.El))
 | .seq (.region _ _ _) (.block id _)=>LE (1000000+id)
 |_=>none
def den(E:Env)(a0:dN E)(LE:jl E)(n:Nat):Code->c1 E.T.El->D (bS E.T.El)
 | .skip,s=>.ok ⟨.nm,s⟩
 | .label _,s=>.ok ⟨.nm,s⟩
 | .exit id,s=>.ok ⟨.ex id,s⟩
 | .ret,s=>.ok ⟨.rt,s⟩
 | .region _ ops false,s=>opsL E a0 ops n ops.toList s
 | .region _ ops true,s=>match m1 ops ops.toList 0 ops.toList with
   |true=>ks E a0 ops n ops.size none (xn 0 ops.toList) [] [] s
   |false=>.no
 | .seq x y,s=>match AR LE x with
   |none=>(den E a0 LE n x s).bind λ t=>match t.x with
    | .nm=>den E a0 LE n y t.s
    |_=>.ok t
   |some g=>match y with
    | .seq _ a=>(g s).bind λ t=>match t.x with
      | .nm=>den E a0 LE n a t.s
      |_=>.ok t
    |_=>.no
 | .cond c x y,s=>match cd E s.bl s.f [] c with
   |some (.p (.bool b))=>match E.dA with
    |true=>match b with
     |true=>den E a0 LE n x s
     |false=>den E a0 LE n y s
    |false=>match S8 s.f c with
     |some true=>den E a0 LE n x s
     |some false=>den E a0 LE n y s
     |none=>.ma b (den E a0 LE n x (s.Kh true c)) (den E a0 LE n y (s.Kh false c))
   |_=>.no
 | .block id c,s=>match LE id with
   |some g=>g s
   |none=>(den E a0 LE n c s).bind (T3 id)
 | .loop c,s=>D_ (den E a0 LE n c) 1000000 s
 | .scope c,s=>den E a0 LE n c s
 |_,_=>.no
def vX(E:Env)(n:b')(g:c1 E.T.El->D (bS E.T.El))(c:Code):Prop:=∀s t,(g s).out t->∀(W:World)(ar:List Nat)(X:Nat->Prop)(b0:List (ay E.T.El))(ρ0:List Value)(w0:World)(ρ:List Value)(a:Act)(w:World)(Q:Exit->Act->World->Prop),dl E W ar X n b0 ρ0 w0 s ρ a w->Fin E W ar X n b0 ρ0 w0 t Q->c.wp E.P Q a w
def Cq(E:Env)(n:b')(g:c1 E.T.El->D (bS E.T.El))(x r:Code):Prop:=∀b s t,(g s).out t->∀(W:World)(ar:List Nat)(X:Nat->Prop)(b0:List (ay E.T.El))(ρ0:List Value)(w0:World)(ρ:List Value)(a:Act)(w:World)(Q:Exit->Act->World->Prop),dl E W ar X n b0 ρ0 w0 s ρ a w->Fin E W ar X n b0 ρ0 w0 t (Exit.then (b.wp E.P Q) Q)->(Code.seq x (.seq r b)).wp E.P Q a w
def hJ(E:Env)(LE:jl E)(n:b'):Code->Prop
 | .seq x y=>(∀g r a,AR LE x=some g->y= .seq r a->Cq E n g x r)/\hJ E LE n x/\hJ E LE n y
 | .cond _ x y=>hJ E LE n x/\hJ E LE n y
 | .block id c=>(∀g,LE id=some g->vX E n g (.block id c))/\hJ E LE n c
 | .loop c=>hJ E LE n c
 | .scope c=>hJ E LE n c
 |_=>True
section
variable{E:Env}{a0:dN E}{LE:jl E}{W:World}{ar:List Nat}{X:Nat->Prop}{n:b'}{b0:List (ay E.T.El)}{ρ0:List Value}{w0:World}
theorem nE(h:∀id,LE id=none):∀c,hJ E LE n c
 | .seq x y=>⟨(λ g r b a=>by
  unfold AR at a;split at a;rw[h]at a;cases a
  ·cases a),nE h x,nE h y⟩
 | .cond _ x y=>⟨nE h x,nE h y⟩
 | .block id c=>⟨(λ g a=>by rw[h id]at a;cases a),nE h c⟩
 | .loop c=>nE h c
 | .scope c=>nE h c
 | .skip | .region _ _ _ | .rangeFunc _ _ _ _ | .exit _ | .label _ | .goto _ | .ret | .refuse _=>trivial
theorem R.drew{f:b5 E.T.El}{bl:List (ay E.T.El)}{ρ:List Value}{a:Act}{w w':World}(h:R E W ar X n f bl ρ a w)(b:aY [] w w'):R E W ar X n f bl ρ a w':=h.to (Mem.Bv b) (h.mem.ep b)
theorem dl.drew{s:c1 E.T.El}{ρ:List Value}{a:Act}{w w':World}(h:dl E W ar X n b0 ρ0 w0 s ρ a w)(b:aY [] w w'):dl E W ar X n b0 ρ0 w0 s ρ a w':=⟨h.r.drew b,h.to.trans (Mem.Bv b),by have:=h.wr.b2 h.to (s':=[]) (w'':=w') (bl':=s.bl) (ρ':=ρ) λ q c _=>b.block q c (by simp);simpa using this⟩
theorem FO{K:Act->World->Prop}{Q:Exit->Act->World->Prop}{bl:List (ay E.T.El)}{ρ:List Value}{a:Act}{w:World}{x:yS E.T.El}(b:x= .nm->K a w)(h:x≠ .nm->l9 E X bl ρ Q a w x):l9 E X bl ρ (Exit.then K Q) a w x:=by
 cases x with
 |nm=>exact b rfl
 |ex id=>exact h (by simp)
 |rt=>exact h (by simp)
 |eI y=>exact h (by simp)
theorem iS(p:cv E)(q:gA E a0):∀(c:Code){s:c1 E.T.El}{t:bS E.T.El}{ρ:List Value}{a:Act}{w:World}{Q:Exit->Act->World->Prop},hJ E LE n c->(den E a0 LE n.n c s).out t->dl E W ar X n b0 ρ0 w0 s ρ a w->Fin E W ar X n b0 ρ0 w0 t Q->c.wp E.P Q a w
 | .skip,s,t,ρ,a,w,Q,_,d,h,k=>by have d:(⟨.nm,s⟩:bS E.T.El)=t:=d;subst d;exact wp_skip (k ρ a w h)
 | .label l,s,t,ρ,a,w,Q,_,d,h,k=>by have d:(⟨.nm,s⟩:bS E.T.El)=t:=d;subst d;exact wp_label (k ρ a w h)
 | .exit id,s,t,ρ,a,w,Q,_,d,h,k=>by have d:(⟨.ex id,s⟩:bS E.T.El)=t:=d;subst d;exact wp_exit (k ρ a w h)
 | .ret,s,t,ρ,a,w,Q,_,d,h,k=>by have d:(⟨.rt,s⟩:bS E.T.El)=t:=d;subst d;exact wp_ret (k ρ a w h)
 | .region id ops false,s,t,ρ,a,w,Q,_,d,h,k=>by simp only[den]at d;exact wp_region_list (xt p q ops.toList d h k)
 | .region id ops true,s,t,ρ,a,w,Q,_,d,h,k=>by simp only[den]at d;split at d;rename_i L;have aE:dl E W ar X n b0 ρ0 w0 s ρ a w.drew:=h.drew (aY.drew [] w);have:=YL p q L ops.size d aE aj7 (H:=[]) (by simp[dq]) k;exact Code.wp_mono hL.imp (wp_region_any p.ahp (V1 _ _ _ _ this));exact d.elim
 | .seq x y,s,t,ρ,a,w,Q,j,d,h,k=>by
   have B:∀ {z:Code}{f:bS E.T.El}(_:hJ E LE n z),(match f.x with| .nm=>den E a0 LE n.n z f.s |_=>.ok f:D (bS E.T.El)).out t->(∀ {s':c1 E.T.El}{ρ':List Value}{a':Act}{w':World},(den E a0 LE n.n z s').out t->dl E W ar X n b0 ρ0 w0 s' ρ' a' w'->z.wp E.P Q a' w')->∀ρ' a' w',dl E W ar X n b0 ρ0 w0 f.s ρ' a' w'->l9 E X f.s.bl ρ' (Exit.then (z.wp E.P Q) Q) a' w' f.x:=λ{z f} M J aE ρ' a' w' u=>FO (λ o=>by
    rw[o]at J;exact aE J u) λ o=>by
    have J:f=t:=by
     revert J;cases F:f.x with
     |nm=>exact absurd F o
     |_=>exact λ h=>h
    subst J;exact k ρ' a' w' u
   simp only[den]at d;split at d;obtain⟨f,I,J⟩:=D.e1 d;exact wp_seq (iS p q x j.2.1 I h (B j.2.2 J λ aE G=>iS p q y j.2.2 aE G k));rename_i g K;split at d;rename_i r v;obtain⟨f,I,J⟩:=D.e1 d;exact j.1 g r v K rfl v s f I _ _ _ _ _ _ _ _ _ _ h (B j.2.2.2.2 J λ aE G=>iS p q v j.2.2.2.2 aE G k);exact d.elim
 | .cond c x y,s,t,ρ,a,w,Q,j,d,h,k=>by
   simp only[den]at d;split at d
   ·rename_i b hc;have A:=cn h.r (cur:=[]) trivial hc;simp only[aq]at A;split at d;split at d;exact wp_cond_split A (λ _=>iS p q x j.1 d h k) (λ e=>by cases e);exact wp_cond_split A (λ e=>by cases e) (λ _=>iS p q y j.2 d h k)
    ·have dh:∀C,S8 s.f c=some C->a.eval c= .bool C:=λ C ag=>by
      cases c with
      |tmp t=>exact h.r.cV.dh _ (jE ag)
      |_=>cases ag
     have kw:∀C,a.eval c= .bool C->dl E W ar X n b0 ρ0 w0 (s.Kh C c) ρ a w:=λ C ag=>by
      cases c with
      |tmp t=>exact⟨h.r.know ag,h.to,h.wr⟩
      |_=>exact h
     split at d
     ·rename_i ag;have:=dh _ ag;rw[A]at this;cases this;exact wp_cond_split A (λ _=>iS p q x j.1 d h k) (λ e=>by cases e)
     ·rename_i ag;have:=dh _ ag;rw[A]at this;cases this;exact wp_cond_split A (λ e=>by cases e) (λ _=>iS p q y j.2 d h k)
     ·rcases d with⟨rfl,d⟩|⟨rfl,d⟩;exact wp_cond_split A (λ _=>iS p q x j.1 d (kw _ A) k) (λ e=>by cases e);exact wp_cond_split A (λ e=>by cases e) (λ _=>iS p q y j.2 d (kw _ A) k)
   ·exact d.elim
 | .block id c,s,t,ρ,a,w,Q,j,d,h,k=>by
   simp only[den]at d;split at d;rename_i g K;exact j.1 g K s t d _ _ _ _ _ _ _ _ _ _ h k
   ·obtain⟨f,I,J⟩:=D.e1 d;refine wp_block (iS p q c j.2 I h λ ρ' a' w' u=>?_);unfold T3 at J;cases o:f.x with
    |nm=>rw[o]at J;have J:f=t:=J;subst J;have:=k ρ' a' w' u;rw[o]at this;exact this
    |ex i=>
     rw[o]at J;simp only at J;show Exit.inBlock id Q (.exit i) a' w'
     split at J;rename_i ag;have J:(⟨.nm,f.s⟩:bS E.T.El)=t:=J;subst J;rw[aZ ag];simp only[Exit.inBlock,if_true];exact k ρ' a' w' u
     ·rename_i ag;have J:f=t:=J;subst J;have N:i≠id:=λ e=>by subst e;simp at ag
      simp only[Exit.inBlock,lW N];have:=k ρ' a' w' u;rw[o]at this;exact this
    |rt=>rw[o]at J;have J:f=t:=J;subst J;have:=k ρ' a' w' u;rw[o]at this;exact this
    |eI y=>rw[o]at J;have J:f=t:=J;subst J;have:=k ρ' a' w' u;rw[o]at this;exact this
 | .loop c,s,t,ρ,a,w,Q,j,d,h,k=>by
   simp only[den]at d;refine wp_loop_ghost (λ m a w=>∃s ρ,dl E W ar X n b0 ρ0 w0 s ρ a w/\(D_ (den E a0 LE n.n c) m s).out t) 1000000 ⟨s,ρ,h,d⟩ λ m a w O=>?_;obtain⟨s,ρ,h,d⟩:=O;cases m with
   |zero=>exact d.elim
   |succ m=>
    simp only[D_]at d;obtain⟨f,I,J⟩:=D.e1 d;refine iS p q c j I h λ ρ' a' w' u=>FO (λ o=>?_) λ o=>?_;rw[o]at J;exact⟨m,ky m,_,_,u,J⟩
    ·have J:f=t:=by
      revert J;cases F:f.x with
      |nm=>exact absurd F o
      |_=>exact λ h=>h
     subst J;exact k ρ' a' w' u
 | .scope c,s,t,ρ,a,w,Q,j,d,h,k=>by
   simp only[den]at d;refine wp_scope_straight (iS p q c j d h λ ρ' a' w' u=>?_);have:=k ρ' a' w' u;revert this;cases t.x with
   |nm=>exact λ h=>h
   |ex i=>exact λ h=>h
   |rt=>exact λ h=>h
   |eI y=>exact λ h=>h
 | .rangeFunc _ _ _ _,s,t,ρ,a,w,Q,_,d,_,_=>by simp only[den]at d;exact d.elim
 | .goto _,s,t,ρ,a,w,Q,_,d,_,_=>by simp only[den]at d;exact d.elim
 | .refuse _,s,t,ρ,a,w,Q,_,d,_,_=>by simp only[den]at d;exact d.elim
end
def ow{El:Nat->Type}:Nat->List (aD El)->List (Nat×aD El)
 |_,[]=>[]
 |k,y::r=>(k,y)::ow (k+1) r
def Mx(E:Env)(s:c1 E.T.El):ResultVar->Option (aD E.T.El)
 | .tmp t=>cd E s.bl s.f [] (.tmp t)
 | .cell dr ty=>match cd E s.bl s.f [] (.tmp dr),lay E.P ty with
   |some (.b i o),some a=>match nth s.bl i with
    |some (.c _ cs)=>jX cs o a
    |_=>none
   |_,_=>none
def qW(E:Env)(s:c1 E.T.El):List ResultVar->Option (List (aD E.T.El))
 |[]=>some []
 |r::rs=>match Mx E s r,qW E s rs with
  |some y,some ys=>some (y::ys)
  |_,_=>none
def jM{El:Nat->Type}:List (aD El)->aD El
 |[y]=>y
 |ys=>.u ys
def Qf(E:Env)(rs:List ResultVar)(t:bS E.T.El):D (eO E.T.El):=match t.x with
 | .ex _=>.no
 | .eI y=>.ok ⟨.sX y,t.s.bl,t.s.ws⟩
 |_=>match qW E t.s rs with
  |some ys=>.ok ⟨.ret (jM ys),t.s.bl,t.s.ws⟩
  |none=>.no
abbrev h7(E:Env):=Nat->jl E
def kE(E:Env)(a0:dN E)(LE:h7 E):dN E:=λ g ys bl=>match ev E.bU g,E.P.funcs[g]? with
 |true,some fn=>match fn.body,hX ys.length fn.ntmps with
  |some c,true=>(den E a0 (LE g) fn.ntmps c ⟨⟨ow 0 ys,[],[]⟩,bl,[]⟩).bind (Qf E fn.results.toList)
  |_,_=>.no
 |_,_=>.no
abbrev vR(E:Env):=Nat->Option (List (aD E.T.El)->List (ay E.T.El)->D (eO E.T.El))
def ui(E:Env)(iH:vR E)(LE:h7 E):Nat->dN E
 |0=>λ _ _ _=>.no
 |k+1=>λ g ys bl=>match iH g with
  |some h=>h ys bl
  |none=>kE E (ui E iH LE k) LE g ys bl
def iI(E:Env)(g:Nat)(h:List (aD E.T.El)->List (ay E.T.El)->D (eO E.T.El)):Prop:=∀ys bl r,(h ys bl).out r ->
 ∀(W:World)(ar:List Nat)(X:Nat->Prop)(ρ:List Value)(w:World)(vs:List Value),Mem E.T W ar X bl ρ w->il E X bl ρ w->aR E.T (aW X bl ρ w) w ρ bl ys vs ->
  Calls E.P g ⟨vs⟩ w λ e w'=>∃ρ',Mem E.T W ar X r.bl ρ' w'/\To X bl r.bl ρ ρ' w w'/\ew bl ρ w w' r.ws/\rD E X r.bl ρ' w' r.e e
structure Ch (E:Env) (iH:vR E):Prop where
 bU:∀g h,iH g=some h->g∈E.bU
 ok:∀g h,iH g=some h->iI E g h
def og(E:Env)(LE:h7 E):Prop:=∀g fn c,g∈E.bU->E.P.funcs[g]? =some fn->fn.body=some c->hJ E (LE g) ⟨fn.ntmps,[]⟩ c
section
variable{E:Env}{a0:dN E}{LE:h7 E}{iH:vR E}{W:World}{ar:List Nat}{X:Nat->Prop}{bl:List (ay E.T.El)}{ρ:List Value}{a:Act}{w:World}
theorem D7{F:Nat->Prop}{t:Nat}{y:aD E.T.El}:∀ {ys:List (aD E.T.El)}{vs:List Value}{k:Nat},aR E.T F w ρ bl ys vs->c6 (ow k ys) t=some y->∃v,dp (mi k vs) t=some v/\aq E.T F w ρ bl y v
 |[],vs,k,_,h=>by simp[ow,c6]at h
 |z::r,vs,k,b,h=>by
  simp only[aR]at b;obtain⟨u,us,rfl,I,J⟩:=b;simp only[ow,c6]at h;simp only[mi,dp];cases ag:bT k t with
  |true=>rw[ag]at h;simp only[aK]at h;subst h;exact⟨u,rfl,I⟩
  |false=>rw[ag]at h;exact D7 J h
theorem aj8{n:b'}{s:c1 E.T.El}(h:R E W ar X n s.f s.bl ρ a w){r:ResultVar}{y:aD E.T.El}(c:Mx E s r=some y):∃v,Mz E.P a w r v/\aq E.T (aW X s.bl ρ w) w ρ s.bl y v:=by
 unfold Mx at c;split at c;exact⟨_,rfl,cn h (cur:=[]) trivial c⟩
 ·rename_i dr ty;split at c
  ·rename_i i o x I J;split at c
   ·rename_i t cs l;have p:=cn h (cur:=[]) trivial I;simp only[aq]at p;obtain⟨g,z,al⟩:=p;rw[cr]at l;obtain⟨g',vs,e,A,f⟩:=h.mem.ok i _ _ l z;simp only[Value.pointer.injEq,aK,Addr.mk.injEq]at e;have e:=e.1;subst e;have k:=Aq J;have hc:eg w ⟨g,0,none⟩ vs:=λ j u d=>by simpa using rI (g:=g) (t:=t) (cs:=vs) (w:=w) (by simpa[aU.c8]using A) d
    obtain⟨b,m⟩:=x;cases b with
    |false=>simp only[jX]at c;rw[cr]at c;obtain⟨v,B,C⟩:=f.at_ c;exact⟨v,⟨g,o,al,.inr ⟨k.1,by simpa using hc o v B⟩⟩,C⟩
    |true=>
     simp only[jX]at c;split at c
     ·rename_i ag;simp only[aK]at c;subst c;have D:=bW ag;have q:=f.len;refine⟨.agg ⟨(vs.drop o).take m⟩,⟨g,o,al,.inl ⟨(vs.drop o).take m,k.1,?_,λ j u d=>?_,rfl⟩⟩,?_⟩
      ·have:((vs.drop o).take m).length=m:=by simp;omega
       rw[this];exact k.2
      ·rw[hG]at d;split at d;rw[ja]at d;simpa using hc (o+j) u d;cases d
      ·simp only[aq];exact⟨_,rfl,aR.take m (aR.drop o f)⟩
     ·cases c
   ·cases c
  ·cases c
theorem My{n:b'}{s:c1 E.T.El}(h:R E W ar X n s.f s.bl ρ a w):∀ {rs:List ResultVar}{ys:List (aD E.T.El)},qW E s rs=some ys->∃vs,E5 E.P a w rs vs/\aR E.T (aW X s.bl ρ w) w ρ s.bl ys vs
 |[],ys,b=>by simp only[qW,aK]at b;subst b;exact⟨[],trivial,by simp[aR]⟩
 |r::rs,ys,b=>by simp only[qW]at b;split at b;rename_i y g I J;simp only[aK]at b;subst b;obtain⟨v,c,d⟩:=aj8 h I;obtain⟨vs,e,f⟩:=My h J;refine⟨v::vs,⟨c,e⟩,?_⟩;simp only[aR];exact⟨v,vs,rfl,d,f⟩;cases b
theorem EE{F:Nat->Prop}:∀ {ys:List (aD E.T.El)}{vs:List Value},aR E.T F w ρ bl ys vs->aq E.T F w ρ bl (jM ys) (pack vs)
 |[],vs,h=>by simp only[aR]at h;subst h;simp only[jM,pack,aq];exact⟨[],rfl,by simp[aR]⟩
 |[y],vs,h=>by simp only[aR]at h;obtain⟨u,us,rfl,I,rfl⟩:=h;exact I
 |y::z::r,vs,h=>by have h':=h;simp only[aR]at h;obtain⟨u,us,rfl,I,c,b,rfl,J,d⟩:=h;simp only[jM,pack,aq];exact⟨_,rfl,h'⟩
theorem C9(q:cv E)(z:gA E a0)(A:og E LE):gA E (kE E a0 LE):=by
 refine⟨λ g ys bl r d=>?_⟩;unfold kE at d;split at d
 ·rename_i fn B s;have u:=lE B;refine⟨q.call g u,λ W ar X ρ w vs C F x=>?_⟩;split at d
  ·rename_i c hc G;obtain⟨t,I,J⟩:=D.e1 d;have f:=x.len;refine enter s hc rfl (by rw[f];exact G) λ a m=>?_;have dg:R E W ar X ⟨fn.ntmps,[]⟩ ⟨ow 0 ys,[],[]⟩ bl ρ a w:=⟨C,⟨⟨m.size,m.defers,λ t y H=>by obtain⟨v,K,al⟩:=D7 x H;rw[m.get t v K];exact al⟩,λ p o=>by simp at o,λ p o=>by simp at o⟩,F⟩
   refine iS (n:=⟨fn.ntmps,[]⟩) (b0:=bl) (ρ0:=ρ) (w0:=w) q z c (A g fn c u s hc) I ⟨dg,.refl,.nil⟩ λ ρ' a' w' b=>?_;have aQ:Fr ⟨fn.ntmps,[]⟩ [] a':=⟨b.r.cV.dO.size,b.r.cV.dO.defers,λ t v h=>by simp[dp]at h⟩
   have fin:∀ {j},qW E t.s fn.results.toList=some j->(⟨.ret (jM j),t.s.bl,t.s.ws⟩:eO E.T.El)=r->bodyPost E.P fn (λ e w'=>∃ρ',Mem E.T W ar X r.bl ρ' w'/\To X bl r.bl ρ ρ' w w'/\ew bl ρ w w' r.ws/\rD E X r.bl ρ' w' r.e e) .ret a' w':=λ{j} k L=>by subst L;obtain⟨us,M,N⟩:=My b.r k;exact Mq (rs:=fn.results.toList) (by simp) aQ M ⟨ρ',b.r.mem,b.to,b.wr,EE N⟩
   unfold Qf at J;cases l:t.x with
   |nm=>rw[l]at J;simp only at J;split at J;rename_i j k;exact fin k J;exact J.elim
   |rt=>rw[l]at J;simp only at J;split at J;rename_i j k;exact fin k J;exact J.elim
   |ex i=>rw[l]at J;exact J.elim
   |eI y=>rw[l]at J;have J:(⟨.sX y,t.s.bl,t.s.ws⟩:eO E.T.El)=r:=J;subst J;intro v O;exact⟨b.r.cV.dO.defers,ρ',b.r.mem,b.to,b.wr,v,rfl,O⟩
  ·exact d.elim
 ·exact d.elim
theorem kF(c:cv E)(d:Ch E iH)(e:og E LE):∀k,gA E (ui E iH LE k)
 |0=>⟨λ f ys bl r b=>b.elim⟩
 |k+1=>⟨λ f ys bl r b=>by
  simp only[ui]at b;split at b;rename_i h g;exact⟨c.call f (d.bU f h g),d.ok f h g ys bl r b⟩
  ·exact(C9 c (kF c d e k) e).ok f ys bl r b⟩
end
inductive g3
 |i (k:IntKind)
 |b
 |s
 |y
 |l (t:Nat)
section
variable(El:Nat->Type)
@[reducible] def LT:g3->Type
  | .i _=>Int
  | .b=>Bool
  | .s=>List UInt8
  | .y=>UInt8
  | .l t=>List (El t)
@[reducible] def jR:List g3->Type
  |[]=>Unit
  |f::r=>LT El f×jR r
end
section
variable{El:Nat->Type}
def ww:(f:g3)->LT El f->aD El
 | .i k,d=>.p (.int k d)
 | .b,d=>.p (.bool d)
 | .s,d=>.p (bQ d)
 | .y,d=>.p (.int .u8 ((d:UInt8).toNat:Int))
 | .l t,d=>.s t d
def mh:(ls:List g3)->jR El ls->List (aD El)
 |[],_=>[]
 |f::r,d=>ww f d.1::mh r d.2
def tY{t' t:Nat}(l:List (El t')):Option (List (El t)):=match kO t' t with
 |isTrue h=>some (h▸l)
 |isFalse _=>none
def DT(k:IntKind):aD El->Option Int
 | .p (.int j m)=>match j' j k with
   |true=>some m
   |false=>none
 |_=>none
def DS:aD El->Option Bool
 | .p (.bool d)=>some d
 |_=>none
def DU:aD El->Option (List UInt8)
 | .p (.string ⟨⟨d⟩⟩)=>some d
 |_=>none
def J4:aD El->Option UInt8
 | .p (.int .u8 (.ofNat m))=>match eM m 256 with
   |true=>some (UInt8.ofNat m)
   |false=>none
 |_=>none
def DV(t:Nat):aD El->Option (List (El t))
 | .s _ l=>tY l
 | .q _ l=>tY l
 | .p (.slice none 0 0)=>some []
 |_=>none
def SR:(f:g3)->aD El->Option (LT El f)
 | .i k,y=>DT k y
 | .b,y=>DS y
 | .s,y=>DU y
 | .y,y=>J4 y
 | .l t,y=>DV t y
def uN:(ls:List g3)->List (aD El)->Option (jR El ls)
 |[],[]=>some ()
 |f::r,y::ys=>match SR f y,uN r ys with
  |some d,some ds=>some (d,ds)
  |_,_=>none
 |_,_=>none
def A3(ty:(t:Nat)->cE (El t))(F:Nat->Prop)(w:World):(f:g3)->Value->LT El f->Prop
 | .i k,v,d=>v= .int k d
 | .b,v,d=>v= .bool d
 | .s,v,d=>v=bQ d
 | .y,v,d=>v= .int .u8 ((d:UInt8).toNat:Int)
 | .l t,v,d=>(cM (ty t)).rd F w [v] d
def fb(ty:(t:Nat)->cE (El t))(F:Nat->Prop)(w:World):(ls:List g3)->List Value->jR El ls->Prop
 |[],xs,_=>xs=[]
 |f::r,xs,d=>∃v vs,xs=v::vs/\A3 ty F w f v d.1/\fb ty F w r vs d.2
theorem UM{ty:(t:Nat)->cE (El t)}{F:Nat->Prop}{w:World}:∀ {ls:List g3}{xs:List Value}{d:jR El ls},fb ty F w ls xs d->xs.length=ls.length
 |[],xs,d,h=>by simp only[fb]at h;subst h;rfl
 |f::r,xs,d,h=>by obtain⟨v,vs,rfl,_,J⟩:=h;simp[UM J]
theorem ajM{ty:(t:Nat)->cE (El t)}{F:Nat->Prop}{w:World}{f:g3}{v:Value}{d:LT El f}(h:A3 ty F w f v d):v.oneCell'=true:=by
 cases f with
 |l t=>exact(cM (ty t)).one h v (by simp)
 |_=>simp only[A3]at h;subst h;rfl
theorem UN{ty:(t:Nat)->cE (El t)}{F:Nat->Prop}{w:World}:∀ {ls:List g3}{xs:List Value}{d:jR El ls},fb ty F w ls xs d->∀v∈xs,v.oneCell'=true
 |[],xs,d,h=>by simp only[fb]at h;subst h;simp
 |f::r,xs,d,h=>by obtain⟨v,vs,rfl,I,J⟩:=h;intro u hu;rcases dc.1 hu with rfl |hu;exact ajM I;exact UN J u hu
theorem UL{ty:(t:Nat)->cE (El t)}{F F':Nat->Prop}{w w':World}(a:∀k,F k->F' k/\w'.heap[k]? =w.heap[k]?):∀ {ls:List g3}{xs:List Value}{d:jR El ls},fb ty F w ls xs d->fb ty F' w' ls xs d
 |[],xs,d,h=>h
 |f::r,xs,d,h=>by
  obtain⟨v,vs,e,I,J⟩:=h;refine⟨v,vs,e,?_,UL a J⟩;cases f with
  |l t=>exact(cM (ty t)).law a I
  |_=>exact I
def ak4{α:Type}(ty:(t:Nat)->cE (El t))(ls:List g3)(aQ:α->jR El ls):cE α where
 size:=ls.length
 rd F w xs d:=fb ty F w ls xs (aQ d)
 len h:=UM h
 one h:=UN h
 law a h:=UL a h
def dM(es:List (Σ t,bz El t)){t:Nat}(agg:Bool)(ls:List g3)(aQ:El t->jR El ls)(to:jR El ls->El t)(eq:Option (El t->El t->Bool))(key:Option (gB (El t))):bz El t:=⟨ak4 (λ t=>(gm es t).ty) ls aQ,agg,λ d=>mh ls (aQ d),λ l=>(uN ls l).map to,eq,key,none⟩
end
structure c7 (T:bA) (t:Nat) (e:bz T.El t):Prop where
 cs:∀d F w xs,e.ty.rd F w xs d->aR T F w [] [] (e.cs d) xs
 fx:∀l d,e.fx l=some d->∀F w ρ bl xs,aR T F w ρ bl l xs->e.ty.rd F w xs d
 key:∀K,e.key=some K->∀F w xs k,e.ty.rd F w xs k->sT e.agg xs= @iJ.enc _ K.dec K.mE k
 one:e.agg=false->∀d,(e.cs d).length=1
 tU:∀s f,e.tU=some ⟨s,f⟩->∀d F w xs,e.ty.rd F w xs d->cS (T.ty s) F w xs (f d)
def Hp(T:bA):List (Σ t,bz T.El t)->Prop
 |[]=>True
 |p::r=>c7 T p.1 p.2/\Hp T r
theorem akL{T:bA}{t:Nat}:c7 T t bz.no:=⟨λ d F w xs h=>h.elim,(λ l d h=>by cases h),(λ K h=>by cases h),(λ h=>by cases h),(λ s f h=>by cases h)⟩
theorem xT{T:bA}{t:Nat}:∀ {es:List (Σ t,bz T.El t)},Hp T es->c7 T t (gm es t)
 |[],_=>akL
 |p::r,h=>by simp only[gm];split;rename_i e _;subst e;exact h.1;exact xT h.2
theorem akJ{T:bA}(h:Hp T T.es):pz T:=⟨λ t=>(xT h (t:=t)).cs,λ t=>(xT h (t:=t)).fx,λ t=>(xT h (t:=t)).key,λ t=>(xT h (t:=t)).one,λ t=>(xT h (t:=t)).tU⟩
def qK(T:bA)(ty:(t:Nat)->cE (T.El t)):List g3->Prop
 |[]=>True
 | .l t::r=>ty t=T.ty t/\qK T ty r
 |_::r=>qK T ty r
section
variable{T:bA}{F:Nat->Prop}{w:World}{ρ:List Value}{bl:List (ay T.El)}
theorem wx{ty:(t:Nat)->cE (T.El t)}:∀ {ls:List g3}{xs:List Value}{d:jR T.El ls},qK T ty ls->fb ty F w ls xs d->aR T F w ρ bl (mh ls d) xs
 |[],xs,d,_,h=>by simp only[fb]at h;subst h;simp[mh,aR]
 |f::r,xs,d,c,h=>by
  obtain⟨v,vs,rfl,I,J⟩:=h;cases f with
  |l t=>have a:=wx c.2 J;simp only[mh,aR];refine⟨v,vs,rfl,?_,a⟩;simp only[ww,aq];simp only[A3,c.1]at I;exact I
  |i k=>have a:=wx (ty:=ty) (ls:=r) c J;simp only[mh,aR];exact⟨v,vs,rfl,by simp only[ww,aq];exact I,a⟩
  |b=>have a:=wx (ty:=ty) (ls:=r) c J;simp only[mh,aR];exact⟨v,vs,rfl,by simp only[ww,aq];exact I,a⟩
  |s=>have a:=wx (ty:=ty) (ls:=r) c J;simp only[mh,aR];exact⟨v,vs,rfl,by simp only[ww,aq];exact I,a⟩
  |y=>have a:=wx (ty:=ty) (ls:=r) c J;simp only[mh,aR];exact⟨v,vs,rfl,by simp only[ww,aq];exact I,a⟩
theorem Pd{t' t:Nat}{l:List (T.El t')}{l':List (T.El t)}(h:tY l=some l'){xs:List Value}(a:(cM (T.ty t')).rd F w xs l):(cM (T.ty t)).rd F w xs l':=by unfold tY at h;split at h;rename_i e _;subst e;simp only[aK]at h;subst h;exact a;cases h
theorem SS{k:IntKind}{y:aD T.El}{d:Int}{v:Value}(h:DT k y=some d)(a:aq T F w ρ bl y v):v= .int k d:=by unfold DT at h;split at h;split at h;rename_i b;have:=lG b;subst this;simp only[aK]at h;subst h;simpa only[aq]using a;cases h;cases h
theorem SQ{y:aD T.El}{d:Bool}{v:Value}(h:DS y=some d)(a:aq T F w ρ bl y v):v= .bool d:=by unfold DS at h;split at h;simp only[aK]at h;subst h;simpa only[aq]using a;cases h
theorem SV{y:aD T.El}{d:List UInt8}{v:Value}(h:DU y=some d)(a:aq T F w ρ bl y v):v=bQ d:=by unfold DU at h;split at h;simp only[aK]at h;subst h;simpa only[aq]using a;cases h
theorem afs{y:aD T.El}{d:UInt8}{v:Value}(h:J4 y=some d)(a:aq T F w ρ bl y v):v= .int .u8 (d.toNat:Int):=by
 unfold J4 at h;split at h
 ·rename_i m;split at h
  ·rename_i ag;simp only[aK]at h;subst h;have b:m<256:=bW ag;simp only[aq]at a;have:(UInt8.ofNat m).toNat=m:=by simp;omega
   rw[a,this];rfl
  ·cases h
 ·cases h
theorem SW{t:Nat}{y:aD T.El}{d:List (T.El t)}{v:Value}(h:DV t y=some d)(a:aq T F w ρ bl y v):(cM (T.ty t)).rd F w [v] d:=by unfold DV at h;split at h;simp only[aq]at a;exact Pd h a;simp only[aq]at a;exact Pd h a.1;simp only[aK]at h;subst h;simp only[aq]at a;subst a;exact⟨none,0,rfl,da _,hh _,λ _=>rfl,λ h=>absurd rfl h⟩;cases h
theorem afr{ty:(t:Nat)->cE (T.El t)}{f:g3}{y:aD T.El}{d:LT T.El f}{v:Value}(c:qK T ty [f])(h:SR f y=some d)(a:aq T F w ρ bl y v):A3 ty F w f v d:=by
 cases f with
 |i k=>exact SS h a
 |b=>exact SQ h a
 |s=>exact SV h a
 |y=>exact afs h a
 |l t=>
  have:=SW h a;show(cM (ty t)).rd F w [v] d
  rw[c.1];exact this
theorem ag2{ty:(t:Nat)->cE (T.El t)}{f:g3}{r:List g3}(h:qK T ty (f::r)):qK T ty [f]/\qK T ty r:=by
 cases f with
 |l t=>exact⟨⟨h.1,trivial⟩,h.2⟩
 |_=>exact⟨trivial,h⟩
theorem SU{ty:(t:Nat)->cE (T.El t)}:∀ {ls:List g3}{ys:List (aD T.El)}{d:jR T.El ls}{xs:List Value},qK T ty ls->uN ls ys=some d->aR T F w ρ bl ys xs->fb ty F w ls xs d
 |[],[],d,xs,_,_,a=>by simp only[aR]at a;simp only[fb];exact a
 |f::r,y::ys,d,xs,b,h,a=>by simp only[uN]at h;split at h;rename_i e es I J;have h:=eR h;subst h;simp only[aR]at a;obtain⟨u,us,rfl,c,g⟩:=a;obtain⟨l1,i⟩:=ag2 b;exact⟨u,us,rfl,afr l1 I c,SU i J g⟩;cases h
 |[],y::ys,d,xs,_,h,_=>by simp[uN]at h
 |f::r,[],d,xs,_,h,_=>by simp[uN]at h
theorem Pr:∀ {ls:List g3}{d:jR T.El ls},(mh ls d).length=ls.length
 |[],d=>rfl
 |f::r,d=>by simp[mh,Pr (ls:=r)]
theorem dR{es:List (Σ t,bz T.El t)}{t:Nat}{agg:Bool}{ls:List g3}{aQ:T.El t->jR T.El ls}{to:jR T.El ls->T.El t}{eq:Option (T.El t->T.El t->Bool)}{key:Option (gB (T.El t))}
 (a:qK T (λ t=>(gm es t).ty) ls)(b:∀p,aQ (to p)=p)(c:agg=false->ls.length=1)(e:∀K,key=some K->∀F w xs k,fb (λ t=>(gm es t).ty) F w ls xs (aQ k)->sT agg xs= @iJ.enc _ K.dec K.mE k):c7 T t (dM es agg ls aQ to eq key):=by
 refine⟨λ d F w xs h=>wx a h,λ l d h F w ρ bl xs g=>?_,e,λ h d=>by
  show(mh ls (aQ d)).length=1
  rw[Pr];exact c h,(λ s f h=>by cases h)⟩
 obtain⟨p,I,J⟩:=c9.1 (show(uN ls l).map to=some d from h)
 subst J
 show fb _ F w ls xs (aQ (to p))
 rw[b]
 exact SU a I g
end
def Qc:List (Nat×Type)->Nat->Type
 |[],_=>Empty
 |p::r,t=>match kO p.1 t with
  |isTrue _=>p.2
  |isFalse _=>Qc r t
def sf:gB Int:=⟨inferInstance,afU⟩
def Aj:gB (List UInt8):=⟨inferInstance,ka⟩
inductive hl
 |i (k:IntKind)
 |b
 |s
 |l (t:Nat)
 |x (t:Nat)
 |n (kt vt:Nat)
 |ga
 |B (j:Nat)
 |R (j:Nat)
 |M (j:Nat)
 |P (j sz:Nat)
 |F (g:Nat) (dw:List Nat)
inductive cG
 |p (p:hl)
 |a (ps:List hl)
 |f (g:Nat) (ps:List hl)
@[reducible] def mw : hl:= .i .i64
@[reducible] def l7 : cG:= .p (.i .i64)
@[reducible] def mb : cG:= .p (.l 3)
@[reducible] def me : cG:= .p (.b)
inductive bx
 |c (ty:Nat) (ps:List hl)
 |r (t:Nat) (same:Bool)
 |m (kt vt:Nat)
 |d
section
variable(El:Nat->Type)
@[reducible] def rn:hl->Type
  | .i _=>Int
  | .b=>Bool
  | .s=>List UInt8
  | .l t=>List (El t)
  | .x t=>El t
  | .n kt vt=>List (El kt×El vt)
  | .P _ _=>List Int
  |_=>Unit
@[reducible] def pt:List hl->Type
  |[]=>Unit
  |p::r=>rn El p×pt r
@[reducible] def vS:cG->Type
  | .p p=>rn El p
  | .a ps=>pt El ps
  | .f _ ps=>pt El ps
@[reducible] def cQ:List cG->Type
  |[]=>Unit
  |p::r=>vS El p×cQ r
@[reducible] def n_:bx->Type
  | .c _ ps=>pt El ps
  | .r t _=>List (El t)
  | .m kt vt=>List (El kt×El vt)
  | .d=>Unit
@[reducible] def cg:List bx->Type
  |[]=>Unit
  |p::r=>n_ El p×cg r
end
def ef(post:Bool):Option bx->Nat
 |some (.r _ same)=>match post,same with
  |true,false=>1
  |_,_=>0
 |some .d=>match post with
  |true=>1
  |false=>0
 |_=>0
def ts(post:Bool):Nat:=match post with
 |true=>1
 |false=>0
section
variable{El:Nat->Type}
def fq(σ g:Nat->Nat):(p:hl)->rn El p->aD El
 | .i k,d=>.p (.int k d)
 | .b,d=>.p (.bool d)
 | .s,d=>.p (bQ d)
 | .l t,d=>.s t d
 | .x t,d=>.x t d 0
 | .n kt vt,d=>.n kt vt d
 | .ga,_=>.p (.pointer none)
 | .B j,_=>.b (σ j) 0
 | .R j,_=>.r (σ j) (g j)
 | .M j,_=>.m (σ j)
 | .P j sz,d=>.pp (σ j) (g j) sz d
 | .F fn dw,_=>.f (.func fn) (dw.map λ j=>.b (σ j) 0)
def nT(σ g:Nat->Nat):(ps:List hl)->pt El ps->List (aD El)
 |[],_=>[]
 |p::r,d=>fq σ g p d.1::nT σ g r d.2
def sY(σ g:Nat->Nat):(p:cG)->vS El p->aD El
 | .p p,d=>fq σ g p d
 | .a ps,d=>.a (nT σ g ps d)
 | .f fn ps,d=>.f (.func fn) (nT σ g ps d)
def fa(σ g:Nat->Nat):(ps:List cG)->cQ El ps->List (aD El)
 |[],_=>[]
 |p::r,d=>sY σ g p d.1::fa σ g r d.2
def cK(σ g:Nat->Nat)(post:Bool):(p:bx)->n_ El p->ay El
 | .c ty ps,d=>.c ty (nT σ g ps d)
 | .r t same,d=>.r t (ef post (some (.r t same))) (ts post) d
 | .m kt vt,d=>.m kt vt d
 | .d,_=>.no (ef post (some .d))
def bw(σ g:Nat->Nat)(post:Bool):(ps:List bx)->cg El ps->List (ay El)
 |[],_=>[]
 |p::r,d=>cK σ g post p d.1::bw σ g post r d.2
def Cz:List (Nat×Nat)->Nat->Bool
 |[],_=>true
 |p::r,i=>!bT p.2 i&&Cz r i
def pC(aM:List (Nat×Nat))(j i:Nat):Option (List (Nat×Nat)):=match c6 aM j with
 |some a=>match bT a i with
  |true=>some aM
  |false=>none
 |none=>match Cz aM i with
  |true=>some ((j,i)::aM)
  |false=>none
def GJ{t' t:Nat}(d:El t'):Option (El t):=match kO t' t with
 |isTrue h=>some (h▸d)
 |isFalse _=>none
def CJ{k' a k v:Nat}(d:List (El k'×El a)):Option (List (El k×El v)):=match kO k' k,kO a v with
 |isTrue h,isTrue h'=>some (h▸h'▸d)
 |_,_=>none
def RA(t:Nat):aD El->Option (El t)
 | .x _ d 0=>GJ d
 |_=>none
def Rz(kt vt:Nat):aD El->Option (List (El kt×El vt))
 | .n _ _ d=>CJ d
 |_=>none
def ju:List (Nat×Nat)->List Nat->List (aD El)->Option (List (Nat×Nat))
 |aM,[],[]=>some aM
 |aM,j::r,.b i 0::ys=>match pC aM j i with
  |some a=>ju a r ys
  |none=>none
 |_,_,_=>none
def gO(bl:List (ay El))(aM:List (Nat×Nat)):(p:hl)->aD El->Option (rn El p×List (Nat×Nat))
 | .i k,y=>(DT k y).map λ d=>(d,aM)
 | .b,y=>(DS y).map λ d=>(d,aM)
 | .s,y=>(DU y).map λ d=>(d,aM)
 | .l t,y=>(DV t y).map λ d=>(d,aM)
 | .x t,y=>(RA t y).map λ d=>(d,aM)
 | .n kt vt,y=>(Rz kt vt y).map λ d=>(d,aM)
 | .ga,y=>match y with
   | .p (.pointer none)=>some ((),aM)
   |_=>none
 | .B j,y=>match y with
   | .b i 0=>(pC aM j i).map λ aM=>((),aM)
   |_=>none
 | .R j,y=>match y with
   | .r i g=>match bT g (oA bl i)with
     |true=>(pC aM j i).map λ aM=>((),aM)
     |false=>none
   |_=>none
 | .M j,y=>match y with
   | .m i=>(pC aM j i).map λ aM=>((),aM)
   |_=>none
 | .P j sz,y=>match y with
   | .pp i a b dw=>match bT a (oA bl i)&&bT b sz with
     |true=>(pC aM j i).map λ aM=>(dw,aM)
     |false=>none
   |_=>none
 | .F g dw,y=>match y with
   | .f (.func g') cs=>match bT g' g with
     |true=>(ju aM dw cs).map λ aM=>((),aM)
     |false=>none
   |_=>none
def kJ(bl:List (ay El)):(aM:List (Nat×Nat))->(ps:List hl)->List (aD El)->Option (pt El ps×List (Nat×Nat))
 |aM,[],[]=>some ((),aM)
 |aM,p::r,y::ys=>match gO bl aM p y with
  |some (d,a)=>match kJ bl a r ys with
   |some (ds,b)=>some ((d,ds),b)
   |none=>none
  |none=>none
 |_,_,_=>none
def zi(bl:List (ay El))(aM:List (Nat×Nat)):(p:cG)->aD El->Option (vS El p×List (Nat×Nat))
 | .p p,y=>gO bl aM p y
 | .a ps,y=>kJ bl aM ps (cellsOf y)
 | .f g ps,y=>match y with
   | .f (.func g') ys=>match bT g' g with
     |true=>kJ bl aM ps ys
     |false=>none
   |_=>none
def Gw:cG->aD El->Bool
 | .a _,y=>iA y
 |_,_=>true
def jt(bl:List (ay El)):(aM:List (Nat×Nat))->(ps:List cG)->List (aD El)->Option (cQ El ps×List (Nat×Nat))
 |aM,[],[]=>some ((),aM)
 |aM,p::r,y::ys=>match Gw p y,zi bl aM p y with
  |true,some (d,a)=>match jt bl a r ys with
   |some (ds,b)=>some ((d,ds),b)
   |none=>none
  |_,_=>none
 |_,_,_=>none
end
section
variable{T:bA}{F F':Nat->Prop}{w:World}{ρ ρ':List Value}{bl bl':List (ay T.El)}{g:Nat->Nat}
theorem ol{aM a:List (Nat×Nat)}{j i:Nat}(h:pC aM j i=some a):c6 a j=some i/\∀p∈aM,p∈a:=by unfold pC at h;split at h;rename_i c hi;split at h;rename_i ag;simp only[aK]at h;subst h;rw[<-aZ ag];exact⟨hi,λ p b=>b⟩;cases h;split at h;simp only[aK]at h;subst h;exact⟨by simp[c6],λ p b=>fg _ b⟩;cases h
structure m5 (σ:Nat->Nat) (aM:List (Nat×Nat)) (ρ ρ':List Value):Prop where
 at_:∀p∈aM,ρ'[σ p.1]? =ρ[p.2]?
theorem Zh{t' t:Nat}{d:T.El t'}{d':T.El t}(h:GJ d=some d'){cs:List Value}(a:(T.ty t').rd F w cs d):(T.ty t).rd F w cs d':=by unfold GJ at h;split at h;rename_i e _;subst e;simp only[aK]at h;subst h;exact a;cases h
theorem Pc{k' a k v r:Nat}{d:List (T.El k'×T.El a)}{d':List (T.El k×T.El v)}(h:CJ d=some d')(b:rv T F w k' a r d):rv T F w k v r d':=by unfold CJ at h;split at h;rename_i e e' _ _;subst e;subst e';simp only[aK]at h;subst h;exact b;cases h
theorem IK:∀ {dw:List Nat}{cs:List (aD T.El)}{aM a:List (Nat×Nat)},ju aM dw cs=some a->∀q∈aM,q∈a
 |[],[],aM,a,h=>by simp only[ju,aK]at h;subst h;exact λ q b=>b
 |j::r,y::ys,aM,a,h=>by unfold ju at h;split at h;rename_i e;cases e;rename_i c al;simp only[hN]at c al;obtain⟨rfl,rfl⟩:=c;obtain⟨_,rfl⟩:=al;split at h;rename_i I;exact λ q b=>IK h q ((ol I).2 q b);cases h;cases h
 |[],y::ys,aM,a,h=>by simp[ju]at h
 |j::r,[],aM,a,h=>by simp[ju]at h
theorem Rv{σ:Nat->Nat}:∀ {dw:List Nat}{cs:List (aD T.El)}{aM b:List (Nat×Nat)}{vs:List Value},m5 σ b ρ ρ'->ju aM dw cs=some b->aR T F w ρ bl cs vs->aR T F' w ρ' bl' (dw.map λ j=>.b (σ j) 0) vs
 |[],[],aM,b,vs,c,h,a=>by simp only[aR]at a;subst a;simp[aR]
 |j::r,y::ys,aM,b,vs,c,h,a=>by unfold ju at h;split at h;rename_i e;cases e;rename_i d al;simp only[hN]at d al;obtain⟨rfl,rfl⟩:=d;obtain⟨rfl,rfl⟩:=al;split at h;rename_i I;have e:=c.at_ _ (IK h _ (jE (ol I).1));simp only[aR,aq]at a;obtain⟨u,us,rfl,⟨f,d,al⟩,aL⟩:=a;simp only[fA,aR,aq];exact⟨u,us,rfl,⟨f,e.trans d,al⟩,Rv c h aL⟩;cases h;cases h
 |[],y::ys,aM,b,vs,c,h,a=>by simp[ju]at h
 |j::r,[],aM,b,vs,c,h,a=>by simp[ju]at h
theorem Ry{aM b:List (Nat×Nat)}:∀ {p:hl}{y:aD T.El}{d:rn T.El p},gO bl aM p y=some (d,b)->∀q∈aM,q∈b
 | .i k,y,d,h=>by obtain⟨x,_,h⟩:=c9.1 h;cases h;exact λ q a=>a
 | .b,y,d,h=>by obtain⟨x,_,h⟩:=c9.1 h;cases h;exact λ q a=>a
 | .s,y,d,h=>by obtain⟨x,_,h⟩:=c9.1 h;cases h;exact λ q a=>a
 | .l t,y,d,h=>by obtain⟨x,_,h⟩:=c9.1 h;cases h;exact λ q a=>a
 | .x t,y,d,h=>by obtain⟨x,_,h⟩:=c9.1 h;cases h;exact λ q a=>a
 | .n kt vt,y,d,h=>by obtain⟨x,_,h⟩:=c9.1 h;cases h;exact λ q a=>a
 | .ga,y,d,h=>by simp only[gO]at h;split at h;cases h;exact λ q a=>a;cases h
 | .B j,y,d,h=>by simp only[gO]at h;split at h;obtain⟨x,I,h⟩:=c9.1 h;cases h;exact(ol I).2;cases h
 | .R j,y,d,h=>by simp only[gO]at h;split at h;split at h;obtain⟨x,I,h⟩:=c9.1 h;cases h;exact(ol I).2;cases h;cases h
 | .M j,y,d,h=>by simp only[gO]at h;split at h;obtain⟨x,I,h⟩:=c9.1 h;cases h;exact(ol I).2;cases h
 | .P j sz,y,d,h=>by simp only[gO]at h;split at h;split at h;obtain⟨x,I,h⟩:=c9.1 h;cases h;exact(ol I).2;cases h;cases h
 | .F g dw,y,d,h=>by simp only[gO]at h;split at h;split at h;obtain⟨x,I,h⟩:=c9.1 h;cases h;exact IK I;cases h;cases h
theorem Rx{σ:Nat->Nat}(l:∀k,F k->F' k)(u:∀j,g j=bI bl'[σ j]?){aM z:List (Nat×Nat)}(m:m5 σ z ρ ρ'):∀ {p:hl}{y:aD T.El}{d:rn T.El p}{v:Value},gO bl aM p y=some (d,z)->aq T F w ρ bl y v->aq T F' w ρ' bl' (fq σ g p d) v
 | .i k,y,d,v,h,b=>by obtain⟨x,I,h⟩:=c9.1 h;cases h;simp only[fq,aq];exact SS I b
 | .b,y,d,v,h,b=>by obtain⟨x,I,h⟩:=c9.1 h;cases h;simp only[fq,aq];exact SQ I b
 | .s,y,d,v,h,b=>by obtain⟨x,I,h⟩:=c9.1 h;cases h;simp only[fq,aq];exact SV I b
 | .l t,y,d,v,h,b=>by obtain⟨x,I,h⟩:=c9.1 h;cases h;simp only[fq,aq];exact(cM (T.ty t)).law (λ k n=>⟨l k n,rfl⟩) (SW I b)
 | .x t,y,d,v,h,b=>by obtain⟨x,I,h⟩:=c9.1 h;cases h;unfold RA at I;split at I;simp only[aq]at b;obtain⟨a,q,cs,f,al,aL,bB⟩:=b;simp only[fq,aq];exact⟨a,q,cs,f,l a al,(T.ty t).law (λ k n=>⟨l k n,rfl⟩) (Zh I aL),bB⟩;cases I
 | .n kt vt,y,d,v,h,b=>by obtain⟨x,I,h⟩:=c9.1 h;cases h;unfold Rz at I;split at I;simp only[aq]at b;obtain⟨r,f,al,aL⟩:=b;simp only[fq,aq];exact⟨r,f,l r al,(Pc I aL).law (λ k n=>⟨l k n,rfl⟩) rfl⟩;cases I
 | .ga,y,d,v,h,b=>by simp only[gO]at h;split at h;simp only[aq]at b;simp only[fq,aq];exact b;cases h
 | .B j,y,d,v,h,b=>by simp only[gO]at h;split at h;rename_i i;obtain⟨x,I,h⟩:=c9.1 h;cases h;have e:=m.at_ _ (jE (ol I).1);simp only[aq]at b;obtain⟨o,f,al⟩:=b;simp only[fq,aq];exact⟨o,e.trans f,al⟩;cases h
 | .R j,y,d,v,h,b=>by simp only[gO]at h;split at h;rename_i i C;split at h;rename_i ag;have ag:=aZ ag;rw[uj]at ag;obtain⟨x,I,h⟩:=c9.1 h;cases h;have e:=m.at_ _ (jE (ol I).1);simp only[aq]at b;obtain⟨D,s,f,al,aL⟩:=b;simp only[fq,aq];exact⟨D,s,e.trans f,by rw[u];exact da _,λ _=>aL ag⟩;cases h;cases h
 | .M j,y,d,v,h,b=>by simp only[gO]at h;split at h;rename_i i;obtain⟨x,I,h⟩:=c9.1 h;cases h;have e:=m.at_ _ (jE (ol I).1);simp only[aq]at b;obtain⟨o,f,al⟩:=b;simp only[fq,aq];exact⟨o,e.trans f,al⟩;cases h
 | .P j sz,y,d,v,h,b=>by simp only[gO]at h;split at h;rename_i i C P dw;split at h;rename_i ag;simp only[bL]at ag;have B:=aZ ag.1;have E:=aZ ag.2;subst E;rw[uj]at B;obtain⟨x,I,h⟩:=c9.1 h;cases h;have e:=m.at_ _ (jE (ol I).1);simp only[aq]at b;obtain⟨A,c,f,al,aL,bB⟩:=b;simp only[fq,aq];refine⟨A,c,f,al,aL,λ G=>?_⟩;obtain⟨H,J,xs,K,L⟩:=bB G;exact⟨H,l _ J,xs,K.imp λ q v ⟨M,s,N,Q,O⟩=>⟨M,s,e.trans N,by rw[u];exact da _,λ _=>O B⟩,L⟩;cases h;cases h
 | .F g dw,y,d,v,h,b=>by simp only[gO]at h;split at h;rename_i g' cs;split at h;rename_i ag;have ag:=aZ ag;subst ag;obtain⟨x,I,h⟩:=c9.1 h;cases h;simp only[aq]at b;obtain⟨vs,f,al⟩:=b;simp only[fq,aq];exact⟨vs,f,Rv m I al⟩;cases h;cases h
end
section
variable{El:Nat->Type}
def g7(bl:List (ay El))(aM:List (Nat×Nat))(post:Bool):(p:bx)->ay El->Option (n_ El p×List (Nat×Nat))
 | .c ty ps,B=>match B with
   | .c a cs=>match bT a ty with
     |true=>kJ bl aM ps cs
     |false=>none
   |_=>none
 | .r t same,B=>match B with
   | .r _ g _ l=>match !post|| !same||bT g 0 with
     |true=>(tY l).map λ d=>(d,aM)
     |false=>none
   |_=>none
 | .m kt vt,B=>match B with
   | .m _ _ d=>(CJ d).map λ d=>(d,aM)
   |_=>none
 | .d,B=>match B with
   | .c _ _=>some ((),aM)
   | .r _ _ _ _=>some ((),aM)
   | .m _ _ _=>some ((),aM)
   | .no _=>some ((),aM)
   | .z _ _ _ _=>some ((),aM)
   |_=>none
def kI(bl:List (ay El))(post:Bool):List (Nat×Nat)->Nat->(ps:List bx)->Option (cg El ps×List (Nat×Nat))
 |aM,_,[]=>some ((),aM)
 |aM,k,p::r=>match c6 aM k with
  |some i=>match nth bl i with
   |some B=>match g7 bl aM post p B with
    |some (d,a)=>match kI bl post a (k+1) r with
     |some (ds,b)=>some ((d,ds),b)
     |none=>none
    |none=>none
   |none=>none
  |none=>none
def Ab(aM:List (Nat×Nat)):Nat->Nat->Option (List Nat)
 |_,0=>some []
 |k,n+1=>match c6 aM k,Ab aM (k+1) n with
  |some i,some r=>some (i::r)
  |_,_=>none
def Cw(n:Nat):List (Nat×Nat)->Bool
 |[]=>true
 |p::r=>eM p.1 n&&Cw n r
def gP(bl:List (ay El))(aM:List (Nat×Nat))(post:Bool)(a_:List cG)(pbs:List bx)(ys:List (aD El)):Option ((cQ El a_×cg El pbs)×List Nat):=
 match jt bl aM a_ ys with
 |some (aN,b)=>match kI bl post b 0 pbs with
  |some (aO,a)=>match Ab a 0 pbs.length,Cw pbs.length a with
   |some sel,true=>some ((aN,aO),sel)
   |_,_=>none
  |none=>none
 |none=>none
end
structure hH (aM:List (Nat×Nat)):Prop where
 fn:∀p∈aM,∀q∈aM,p.1=q.1 ->p.2=q.2
 inj:∀p∈aM,∀q∈aM,p.2=q.2 ->p.1=q.1
theorem Tq{α:Type}{j:Nat}:∀ {l:List (Nat×α)},c6 l j=none->∀p∈l,p.1≠j
 |[],_,p,az=>by simp at az
 |q::r,h,p,az=>by simp only[c6]at h;split at h;cases h;rename_i ag;rcases dc.1 az with rfl |az;intro e;subst e;simp at ag;exact Tq h p az
theorem OE{i:Nat}:∀ {l:List (Nat×Nat)},Cz l i=true->∀p∈l,p.2≠i
 |[],_,p,az=>by simp at az
 |q::r,h,p,az=>by simp only[Cz,bL,gI]at h;rcases dc.1 az with rfl |az;intro e;rw[e]at h;simp at h;exact OE h.2 p az
theorem yX{aM a:List (Nat×Nat)}{j i:Nat}(h:pC aM j i=some a)(aE:hH aM):hH a:=by unfold pC at h;split at h;split at h;simp only[aK]at h;subst h;exact aE;cases h;rename_i b;split at h;rename_i c;simp only[aK]at h;subst h;have I:=Tq b;have J:=OE c;refine⟨λ p az q aH e=>?_,λ p az q aH e=>?_⟩;rcases dc.1 az with rfl |az<;>rcases dc.1 aH with rfl |aH;rfl;exact absurd e.symm (I q aH);exact absurd e (I p az);exact aE.fn p az q aH e;rcases dc.1 az with rfl |az<;>rcases dc.1 aH with rfl |aH;rfl;exact absurd e.symm (J q aH);exact absurd e (J p az);exact aE.inj p az q aH e;cases h
section
variable{T:bA}{F F':Nat->Prop}{w:World}{ρ ρ':List Value}{bl bl':List (ay T.El)}{σ g:Nat->Nat}
theorem Ru:∀ {dw:List Nat}{cs:List (aD T.El)}{aM a:List (Nat×Nat)},hH aM->ju aM dw cs=some a->hH a
 |[],[],aM,a,aE,h=>by simp only[ju,aK]at h;subst h;exact aE
 |j::r,y::ys,aM,a,aE,h=>by unfold ju at h;split at h;rename_i e;cases e;rename_i b al;simp only[hN]at b al;obtain⟨rfl,rfl⟩:=b;obtain⟨_,rfl⟩:=al;split at h;rename_i I;exact Ru (yX I aE) h;cases h;cases h
 |[],y::ys,aM,a,aE,h=>by simp[ju]at h
 |j::r,[],aM,a,aE,h=>by simp[ju]at h
theorem Rw{aM a:List (Nat×Nat)}(aE:hH aM):∀ {p:hl}{y:aD T.El}{d:rn T.El p},gO bl aM p y=some (d,a)->hH a
 | .i k,y,d,h=>by obtain⟨x,_,h⟩:=c9.1 h;cases h;exact aE
 | .b,y,d,h=>by obtain⟨x,_,h⟩:=c9.1 h;cases h;exact aE
 | .s,y,d,h=>by obtain⟨x,_,h⟩:=c9.1 h;cases h;exact aE
 | .l t,y,d,h=>by obtain⟨x,_,h⟩:=c9.1 h;cases h;exact aE
 | .x t,y,d,h=>by obtain⟨x,_,h⟩:=c9.1 h;cases h;exact aE
 | .n kt vt,y,d,h=>by obtain⟨x,_,h⟩:=c9.1 h;cases h;exact aE
 | .ga,y,d,h=>by simp only[gO]at h;split at h;cases h;exact aE;cases h
 | .B j,y,d,h=>by simp only[gO]at h;split at h;obtain⟨x,I,h⟩:=c9.1 h;cases h;exact yX I aE;cases h
 | .R j,y,d,h=>by simp only[gO]at h;split at h;split at h;obtain⟨x,I,h⟩:=c9.1 h;cases h;exact yX I aE;cases h;cases h
 | .M j,y,d,h=>by simp only[gO]at h;split at h;obtain⟨x,I,h⟩:=c9.1 h;cases h;exact yX I aE;cases h
 | .P j sz,y,d,h=>by simp only[gO]at h;split at h;split at h;obtain⟨x,I,h⟩:=c9.1 h;cases h;exact yX I aE;cases h;cases h
 | .F g dw,y,d,h=>by simp only[gO]at h;split at h;split at h;obtain⟨x,I,h⟩:=c9.1 h;cases h;exact Ru aE I;cases h;cases h
theorem m5.sub{aM a:List (Nat×Nat)}(h:m5 σ a ρ ρ')(b:∀q∈aM,q∈a):m5 σ aM ρ ρ':=⟨λ p c=>h.at_ p (b p c)⟩
theorem zk:∀ {ps:List hl}{ys:List (aD T.El)}{aM a:List (Nat×Nat)}{d:pt T.El ps},kJ bl aM ps ys=some (d,a)->(∀q∈aM,q∈a)/\(hH aM->hH a)
 |[],[],aM,a,d,h=>by simp only[kJ]at h;cases h;exact⟨λ q b=>b,λ h=>h⟩
 |p::r,y::ys,aM,a,d,h=>by simp only[kJ]at h;split at h;rename_i f i I;split at h;rename_i j k J;cases h;obtain⟨c,e⟩:=zk J;exact⟨λ q b=>c q (Ry I q b),λ aE=>e (Rw aE I)⟩;cases h;cases h
 |[],y::ys,aM,a,d,h=>by simp[kJ]at h
 |p::r,[],aM,a,d,h=>by simp[kJ]at h
theorem Dn(e:∀k,F k->F' k)(f:∀j,g j=bI bl'[σ j]?):∀ {ps:List hl}{ys:List (aD T.El)}{aM a:List (Nat×Nat)}{d:pt T.El ps}{vs:List Value},m5 σ a ρ ρ'->kJ bl aM ps ys=some (d,a)->aR T F w ρ bl ys vs->aR T F' w ρ' bl' (nT σ g ps d) vs
 |[],[],aM,a,d,vs,c,h,b=>by simp only[aR]at b;subst b;simp[nT,aR]
 |p::r,y::ys,aM,a,d,vs,c,h,b=>by simp only[kJ]at h;split at h;rename_i l m I;split at h;rename_i n o J;cases h;simp only[aR]at b;obtain⟨u,us,rfl,i,al⟩:=b;simp only[nT,aR];exact⟨u,us,rfl,Rx e f (c.sub (zk J).1) I i,Dn e f c J al⟩;cases h;cases h
 |[],y::ys,aM,a,d,vs,_,h,_=>by simp[kJ]at h
 |p::r,[],aM,a,d,vs,_,h,_=>by simp[kJ]at h
theorem ab5:∀ {p:cG}{y:aD T.El}{aM a:List (Nat×Nat)}{d:vS T.El p},zi bl aM p y=some (d,a)->(∀q∈aM,q∈a)/\(hH aM->hH a)
 | .p p,y,aM,a,d,h=>⟨Ry h,λ aE=>Rw aE h⟩
 | .a ps,y,aM,a,d,h=>zk h
 | .f fn ps,y,aM,a,d,h=>by simp only[zi]at h;split at h;split at h;exact zk h;cases h;cases h
theorem ab4(e:∀k,F k->F' k)(f:∀j,g j=bI bl'[σ j]?):∀ {p:cG}{y:aD T.El}{aM b:List (Nat×Nat)}{d:vS T.El p}{v:Value},m5 σ b ρ ρ'->Gw p y=true->zi bl aM p y=some (d,b)->aq T F w ρ bl y v->aq T F' w ρ' bl' (sY σ g p d) v
 | .p p,y,aM,b,d,v,c,_,h,a=>Rx e f c h a
 | .a ps,y,aM,b,d,v,c,hy,h,a=>by simp only[Gw]at hy;have:=Dn e f c h (ku a);simp only[sY,aq];cases y<;>simp only[iA,reduceCtorEq]at hy;rename_i u;cases u<;>simp only[iA,reduceCtorEq]at hy;simp only[aq]at a;subst a;exact⟨_,rfl,this⟩;simp only[aq]at a;obtain⟨vs,rfl,_⟩:=a;exact⟨vs,rfl,this⟩
 | .f fn ps,y,aM,b,d,v,c,_,h,a=>by simp only[zi]at h;split at h;split at h;rename_i ag;have ag:=aZ ag;subst ag;simp only[aq]at a;obtain⟨vs,rfl,J⟩:=a;simp only[sY,aq];exact⟨vs,rfl,Dn e f c h J⟩;cases h;cases h
end
section
variable{T:bA}{F F':Nat->Prop}{w:World}{ρ ρ':List Value}{bl bl':List (ay T.El)}{σ g:Nat->Nat}
theorem Dl:∀ {ps:List cG}{ys:List (aD T.El)}{aM a:List (Nat×Nat)}{d:cQ T.El ps},jt bl aM ps ys=some (d,a)->(∀q∈aM,q∈a)/\(hH aM->hH a)
 |[],[],aM,a,d,h=>by simp only[jt]at h;cases h;exact⟨λ q b=>b,λ h=>h⟩
 |p::r,y::ys,aM,a,d,h=>by simp only[jt]at h;split at h;rename_i j k l I;split at h;rename_i m n J;cases h;obtain⟨c,e⟩:=Dl J;obtain⟨f,i⟩:=ab5 I;exact⟨λ q b=>c q (f q b),λ aE=>e (i aE)⟩;cases h;cases h
 |[],y::ys,aM,a,d,h=>by simp[jt]at h
 |p::r,[],aM,a,d,h=>by simp[jt]at h
theorem Rq(e:∀k,F k->F' k)(f:∀j,g j=bI bl'[σ j]?):∀ {ps:List cG}{ys:List (aD T.El)}{aM a:List (Nat×Nat)}{d:cQ T.El ps}{vs:List Value},m5 σ a ρ ρ'->jt bl aM ps ys=some (d,a)->aR T F w ρ bl ys vs->aR T F' w ρ' bl' (fa σ g ps d) vs
 |[],[],aM,a,d,vs,c,h,b=>by simp only[aR]at b;subst b;simp[fa,aR]
 |p::r,y::ys,aM,a,d,vs,c,h,b=>by simp only[jt]at h;split at h;rename_i m n i I;split at h;rename_i o q J;cases h;simp only[aR]at b;obtain⟨u,us,rfl,l,al⟩:=b;simp only[fa,aR];exact⟨u,us,rfl,ab4 e f (c.sub (Dl J).1) i I l,Rq e f c J al⟩;cases h;cases h
 |[],y::ys,aM,a,d,vs,_,h,_=>by simp[jt]at h
 |p::r,[],aM,a,d,vs,_,h,_=>by simp[jt]at h
theorem Dm{post:Bool}:∀ {p:bx}{B:ay T.El}{aM a:List (Nat×Nat)}{d:n_ T.El p},g7 bl aM post p B=some (d,a)->(∀q∈aM,q∈a)/\(hH aM->hH a)
 | .c ty ps,B,aM,a,d,h=>by simp only[g7]at h;split at h;split at h;exact zk h;cases h;cases h
 | .r t same,B,aM,a,d,h=>by simp only[g7]at h;split at h;split at h;obtain⟨x,_,h⟩:=c9.1 h;cases h;exact⟨λ q b=>b,λ h=>h⟩;cases h;cases h
 | .m kt vt,B,aM,a,d,h=>by simp only[g7]at h;split at h;obtain⟨x,_,h⟩:=c9.1 h;cases h;exact⟨λ q b=>b,λ h=>h⟩;cases h
 | .d,B,aM,a,d,h=>by simp only[g7]at h;split at h<;>first |(cases h;exact⟨λ q b=>b,λ h=>h⟩)|cases h
theorem UJ{t' t:Nat}{l:List (T.El t')}{l':List (T.El t)}(h:tY l=some l'):∃e:t'=t,l'=e▸l:=by unfold tY at h;split at h;rename_i e _;simp only[aK]at h;exact⟨e,h.symm⟩;cases h
theorem ab8(o:∀k,F k->F' k)(q:∀j,g j=bI bl'[σ j]?){post:Bool}:∀ {p:bx}{B:ay T.El}{aM f:List (Nat×Nat)}{d:n_ T.El p}{h:Value},m5 σ f ρ ρ'->g7 bl aM post p B=some (d,f)->g4 T F w ρ bl B h->g4 T F' w ρ' bl' (cK σ g post p d) h/\∀u k,k∈a6 (cK σ g post p d) u->k∈a6 B u
 | .c ty ps,B,aM,f,d,h,n,a,i=>by simp only[g7]at a;split at a;rename_i v cs;split at a;rename_i ag;have ag:=aZ ag;subst ag;obtain⟨s,vs,m,al,aL⟩:=i;exact⟨⟨s,vs,m,al,Dn o q n a aL⟩,λ u k b=>b⟩;cases a;cases a
 | .r t same,B,aM,f,d,h,n,a,i=>by simp only[g7]at a;split at a;rename_i t' g' k' l;split at a;obtain⟨x,I,a⟩:=c9.1 a;cases a;obtain⟨e,rfl⟩:=UJ I;subst e;obtain⟨A,c,xs,m,al,aL⟩:=i;exact⟨⟨A,c,xs,m,al,ki _ (λ k b=>⟨o k b,rfl⟩) aL⟩,λ u k b=>b⟩;cases a;cases a
 | .m kt vt,B,aM,f,d,h,n,a,i=>by simp only[g7]at a;split at a;obtain⟨x,I,a⟩:=c9.1 a;cases a;obtain⟨r,m,al⟩:=i;exact⟨⟨r,m,(Pc I al).law (λ k b=>⟨o k b,rfl⟩) rfl⟩,λ u k b=>b⟩;cases a
 | .d,B,aM,f,d,h,n,a,i=>⟨trivial,λ u k b=>by simp[cK,a6]at b⟩
theorem wK{post:Bool}:∀ {ps:List bx}{aM a:List (Nat×Nat)}{k:Nat}{d:cg T.El ps},kI bl post aM k ps=some (d,a)->(∀q∈aM,q∈a)/\(hH aM->hH a)
 |[],aM,a,k,d,h=>by simp only[kI]at h;cases h;exact⟨λ q b=>b,λ h=>h⟩
 |p::r,aM,a,k,d,h=>by simp only[kI]at h;split at h;split at h;split at h;rename_i j l I;split at h;rename_i m n J;cases h;obtain⟨c,e⟩:=wK J;obtain⟨f,i⟩:=Dm I;exact⟨λ q b=>c q (f q b),λ aE=>e (i aE)⟩;cases h;cases h;cases h;cases h
theorem lV{post:Bool}:∀ {ps:List bx}{d:cg T.El ps},(bw σ g post ps d).length=ps.length
 |[],d=>rfl
 |p::r,d=>by simp[bw,lV (ps:=r)]
theorem IJ(e:∀k,F k->F' k)(f:∀j,g j=bI bl'[σ j]?){post:Bool}:∀ {ps:List bx}{aM a:List (Nat×Nat)}{k:Nat}{d:cg T.El ps},kI bl post aM k ps=some (d,a)->m5 σ a ρ ρ'->∀(m:Nat)(B':ay T.El),(bw σ g post ps d)[m]? =some B' ->
 ∃i B,(k+m,i)∈a/\bl[i]? =some B/\(∀h,g4 T F w ρ bl B h->g4 T F' w ρ' bl' B' h)/\∀u k,k∈a6 B' u->k∈a6 B u
 |[],aM,a,k,d,_,_,m,B',c=>by simp[bw]at c
 |p::r,aM,a,k,d,h,l,m,B',c=>by
  simp only[kI]at h;split at h
  ·rename_i i hi;split at h
   ·rename_i B n;split at h
    ·rename_i x y I;split at h
     ·rename_i z A J;cases h;have o:=(wK J).1;have q:=(Dm I).1;rw[cr]at n;cases m with
      |zero=>simp only[bw,dX,aK]at c;subst c;exact⟨i,B,o _ (q _ (jE hi)),n,λ h ag=>(ab8 e f (l.sub o) I ag).1,abO I⟩
      |succ m=>obtain⟨s,m6,v,al,aL⟩:=IJ e f J l m B' (by simpa[bw]using c);exact⟨s,m6,by rw[show k+(m+1)=k+1+m by omega];exact v,al,aL⟩
     ·cases h
    ·cases h
   ·cases h
  ·cases h
where
 abO {post:Bool}:∀ {p:bx}{B:ay T.El}{aM a:List (Nat×Nat)}{d:n_ T.El p},g7 bl aM post p B=some (d,a)->∀u k,k∈a6 (cK σ g post p d) u->k∈a6 B u
  | .c ty ps,B,aM,a,d,h,u,k,b=>by simp only[g7]at h;split at h;exact b;cases h
  | .r t same,B,aM,a,d,h,u,k,b=>by simp only[g7]at h;split at h;exact b;cases h
  | .m kt vt,B,aM,a,d,h,u,k,b=>by simp only[g7]at h;split at h;exact b;cases h
  | .d,B,aM,a,d,h,u,k,b=>by simp[cK,a6]at b
end
structure jV {El:Nat->Type} (bl:List (ay El)) (ρ:List Value) (bl':List (ay El)) (ρ':List Value) (sel:List Nat):Prop where
 len:ρ'.length=bl'.length
 at_:∀(j:Nat)(B':ay El)(h':Value),bl'[j]? =some B'->ρ'[j]? =some h'->∃i B,sel[j]? =some i/\bl[i]? =some B/\ρ[i]? =some h'/\∀u k,k∈a6 B' u->k∈a6 B u
 inj:∀(j gr i:Nat),sel[j]? =some i->sel[gr]? =some i->j=gr
section
variable{T:bA}{W w:World}{ar:List Nat}{X:Nat->Prop}{bl bl':List (ay T.El)}{ρ ρ':List Value}{sel:List Nat}
theorem jV.own(h:jV bl ρ bl' ρ' sel){k:Nat}(a:lg bl' ρ' k):lg bl ρ k:=by obtain⟨j,B',h',I,J,b⟩:=a;obtain⟨i,B,_,al,aL,bB⟩:=h.at_ j B' h' I J;exact⟨i,B,h',al,aL,bB _ _ b⟩
theorem jV.a3(h:jV bl ρ bl' ρ' sel)(f:Mem T W ar X bl ρ w)(i j:Nat)(B C:ay T.El)(u v:Value)(I:bl'[i]? =some B)(J:ρ'[i]? =some u)(g:bl'[j]? =some C)(l:ρ'[j]? =some v)(m:i≠j):∀k∈a6 B u,k∉a6 C v:=λ k c d=>by obtain⟨a,hj,n,al,aL,bB⟩:=h.at_ i B u I J;obtain⟨b,yf,o,p,q,r⟩:=h.at_ j C v g l;have c:=bB _ _ c;have d:=r _ _ d;refine f.a3 a b hj yf u v al aL p q (λ e=>?_) k c d;subst e;exact m (h.inj i j a n o)
def io(X:Nat->Prop)(bl:List (ay T.El))(ρ:List Value)(sel:List Nat)(k:Nat):Prop:=X k\/∃i B h,i∉sel/\bl[i]? =some B/\ρ[i]? =some h/\k∈a6 B h
theorem jV.s4(h:jV bl ρ bl' ρ' sel){k:Nat}(a:aW X bl ρ w k):aW (io X bl ρ sel) bl' ρ' w k:=
 ⟨λ b=>by
  rcases b with b |⟨i,B,u,_,I,J,c⟩;exact a.1 b
  ·exact a.2.1 ⟨i,B,u,I,J,c⟩,λ d=>a.2.1 (h.own d),a.2.2⟩
theorem jV.A4(h:jV bl ρ bl' ρ' sel){k:Nat}(a:aW X bl ρ w k):aW X bl' ρ' w k:=⟨a.1,λ b=>a.2.1 (h.own b),a.2.2⟩
theorem jV.enter(h:jV bl ρ bl' ρ' sel)(a:Mem T W ar X bl ρ w)(f:∀(j:Nat)(B':ay T.El)(h':Value),bl'[j]? =some B'->ρ'[j]? =some h'->g4 T (aW (io X bl ρ sel) bl' ρ' w) w ρ' bl' B' h'):Mem T w (gD bl' ρ') (io X bl ρ sel) bl' ρ' w:=by refine⟨aY.refl _ _,h.len,λ k b=>?_,λ k b=>?_,h.a3 a,f⟩;rcases b with c |⟨i,B,u,hi,I,J,d⟩;refine⟨dY (a.fy k c).1 a.bM.size,λ e=>?_⟩;exact a.xm (h.own (j0.1 e)) c;refine⟨(a.lt k ⟨i,B,u,I,J,d⟩).1,λ e=>?_⟩;obtain⟨j,B',h',g,al,aL⟩:=j0.1 e;obtain⟨l,hj,m,n,o,p⟩:=h.at_ j B' h' g al;have aL:=p _ _ aL;refine a.a3 i l B hj u h' I J n o (λ e=>?_) k d aL;subst e;exact hi (cU m);exact⟨(a.lt k (h.own b)).1,.inl (j0.2 b)⟩
theorem jV.leave(h:jV bl ρ bl' ρ' sel)(a:Mem T W ar X bl ρ w)(b:∀(j:Nat)(B':ay T.El)(h':Value),bl'[j]? =some B'->ρ'[j]? =some h'->g4 T (aW X bl' ρ' w) w ρ' bl' B' h'):Mem T W ar X bl' ρ' w:=⟨a.bM,h.len,a.fy,λ k c=>a.lt k (h.own c),h.a3 a,b⟩
end
def b7(post:Bool)(pbs:List bx)(j:Nat):Nat:=ef post (pbs[j]?)
def gd(ρ:List Value)(sel:List Nat):List Value:=sel.map λ i=>ρ.getD i undef
section
variable{T:bA}{W w:World}{ar:List Nat}{X:Nat->Prop}{bl bl':List (ay T.El)}{ρ ρ':List Value}{sel:List Nat}
theorem xx{σ g:Nat->Nat}{post:Bool}:∀ {ps:List bx}{d:cg T.El ps}{j:Nat},bI (bw σ g post ps d)[j]? =ef post ps[j]?
 |[],d,j=>by simp[bw,bI,ef]
 |p::r,d,0=>by simp only[bw,dX];cases p<;>rfl
 |p::r,d,j+1=>by simpa[bw]using xx (ps:=r)
theorem JZ{aM:List (Nat×Nat)}:∀ {n k:Nat}{sel:List Nat},Ab aM k n=some sel->sel.length=n/\∀j i,sel[j]? =some i->(k+j,i)∈aM
 |0,k,sel,h=>by simp only[Ab,aK]at h;subst h;simp
 |n+1,k,sel,h=>by
  simp only[Ab]at h;split at h
  ·rename_i i r I J;simp only[aK]at h;subst h;obtain⟨b,c⟩:=JZ J;refine⟨by simp[b],λ j d a=>?_⟩;cases j with
   |zero=>simp only[dX,aK]at a;subst a;exact jE I
   |succ j=>rw[show k+(j+1)=k+1+j by omega];exact c j d (by simpa using a)
  ·cases h
theorem Oy{n:Nat}:∀ {aM:List (Nat×Nat)},Cw n aM=true->∀p∈aM,p.1<n
 |[],_,p,az=>by simp at az
 |q::r,h,p,az=>by simp only[Cw,bL]at h;rcases dc.1 az with rfl |az;exact bW h.1;exact Oy h.2 p az
theorem rX(n:Mem T W ar X bl ρ w){aM:List (Nat×Nat)}(aE:hH aM){post:Bool}{a_:List cG}{pbs:List bx}{ys:List (aD T.El)}{aN:cQ T.El a_}{aO:cg T.El pbs}(h:gP bl aM post a_ pbs ys=some ((aN,aO),sel)) :
 jV bl ρ (bw id (b7 post pbs) post pbs aO) (gd ρ sel) sel/\(∀p∈aM,sel[p.1]? =some p.2)/\
 ∀F':Nat->Prop,(∀k,aW X bl ρ w k->F' k)->(∀vs,aR T (aW X bl ρ w) w ρ bl ys vs->aR T F' w (gd ρ sel) (bw id (b7 post pbs) post pbs aO) (fa id (b7 post pbs) a_ aN) vs)/\
  ∀(j:Nat)(B':ay T.El)(h':Value),(bw id (b7 post pbs) post pbs aO)[j]? =some B'->(gd ρ sel)[j]? =some h'->g4 T F' w (gd ρ sel) (bw id (b7 post pbs) post pbs aO) B' h':=by
 unfold gP at h
 split at h
 ·rename_i rN Q I;split at h
  ·rename_i q v J;split at h
   ·rename_i b R S;simp only[aK,cY]at h;obtain⟨⟨rfl,rfl⟩,rfl⟩:=h;obtain⟨C,K⟩:=Dl I;obtain⟨x,L⟩:=wK J;have M:=L (K aE);obtain⟨l1,D⟩:=JZ R;have N:=Oy S
    have y:∀p∈v,b[p.1]? =some p.2:=λ p f=>by
     have E:p.1<b.length:=by rw[l1];exact N p f
     have e:=bu E;have:=D p.1 _ e;rw[jw]at this;have al:b[p.1]=p.2:=M.fn _ this p f rfl;rw[e,al]
    have c:(bw id (b7 post pbs) post pbs q).length=pbs.length:=lV;have base:∀(j:Nat)(B':ay T.El),(bw id (b7 post pbs) post pbs q)[j]? =some B'->∃i B u,b[j]? =some i/\bl[i]? =some B/\ρ[i]? =some u/\(gd ρ b)[j]? =some u:=λ j B' l=>by
     have z:∀j,b7 post pbs j=bI (bw id (b7 post pbs) post pbs q)[id j]? :=λ j=>xx.symm;have G:∀i,(j,i)∈v->∀B,bl[i]? =some B->∃i B u,b[j]? =some i/\bl[i]? =some B/\ρ[i]? =some u/\(gd ρ b)[j]? =some u:=λ i hi B s=>by obtain⟨u,O⟩:=n.Ar s;have o:=y _ hi;refine⟨i,B,u,o,s,O,?_⟩;rw[gd,j4,o];simp[List.getD_eq_getElem?_getD,O]
     obtain⟨i,B,a,al⟩:=Rs J j B' l;exact G i (by simpa using a) B al
    have t:m5 id v ρ (gd ρ b):=⟨λ p f=>by
     have o:=y p f;have E:p.1<(bw id (b7 post pbs) post pbs q).length:=by rw[c];exact N p f
     obtain⟨i,B,u,a,al,aL,bB⟩:=base p.1 _ (bu E);rw[o]at a;cases a;show(gd ρ b)[p.1]? =_
     rw[bB,aL]⟩
    have z:∀j,b7 post pbs j=bI (bw id (b7 post pbs) post pbs q)[id j]? :=λ j=>xx.symm;refine⟨⟨by rw[c];simp[gd,l1],λ j B' h' l H=>?_,λ j gr i l U=>?_⟩,λ p f=>y p (x p (C p f)),λ F' P=>⟨λ vs V=>Rq P z (t.sub x) I V,λ j B' h' l H=>?_⟩⟩;obtain⟨i,B,a,al,_,aL⟩:=IJ (F:=λ _=>False) (F':=λ _=>False) (w:=w) (λ _ h=>h) z J t j B' l;rw[jw]at a;have o:=y _ a;refine⟨i,B,o,al,?_,aL⟩;rw[<-t.at_ _ a];exact H;have a:=D j i l;have al:=D gr i U;have:=M.inj _ a _ al rfl;simpa using this
    ·obtain⟨i,B,a,al,aL,_⟩:=IJ P z J t j B' l;rw[jw]at a;have Y:ρ[i]? =some h':=by rw[<-t.at_ _ a];exact H
     exact aL h' (n.ok i B h' al Y)
   ·cases h
  ·cases h
 ·cases h
where
 Rs {post:Bool} {σ g:Nat->Nat}:∀ {ps:List bx}{aM A:List (Nat×Nat)}{k:Nat}{d:cg T.El ps},kI bl post aM k ps=some (d,A)->∀(m:Nat)(B':ay T.El),(bw σ g post ps d)[m]? =some B'->∃i B,(k+m,i)∈A/\bl[i]? =some B
  |[],aM,A,k,d,_,m,B',n=>by simp[bw]at n
  |p::r,aM,A,k,d,h,m,B',n=>by
   simp only[kI]at h;split at h
   ·rename_i i hi;split at h
    ·rename_i B s;split at h
     ·rename_i K Q I;split at h
      ·rename_i L v J;cases h;have x:=(wK J).1;have C:=(Dm I).1;rw[cr]at s;cases m with
       |zero=>exact⟨i,B,x _ (C _ (jE hi)),s⟩
       |succ m=>obtain⟨Z,m6,a,al⟩:=Rs J m B' (by simpa[bw]using n);exact⟨Z,m6,by rw[show k+(m+1)=k+1+m by omega];exact a,al⟩
      ·cases h
     ·cases h
    ·cases h
   ·cases h
end
def e9{α:Type}:List α->List Nat->List α->List α
 |l,[],qs=>l++qs
 |l,i::r,q::qs=>e9 (l.set i q) r qs
 |l,_::_,[]=>l
section
variable{α:Type}
theorem KT:∀ {sel:List Nat}{l qs:List α},sel.length<=qs.length->(e9 l sel qs).length=l.length+(qs.length-sel.length)
 |[],l,qs,_=>by simp[e9]
 |i::r,l,q::qs,h=>by simp only[e9];rw[KT (by simpa using h)];simp
 |i::r,l,[],h=>by simp at h
theorem xj:∀ {sel:List Nat}{l qs:List α}{i:Nat},i∉sel->i<l.length->(e9 l sel qs)[i]? =l[i]?
 |[],l,qs,i,_,hi=>by simp[e9,eQ hi]
 |j::r,l,q::qs,i,h,hi=>by simp only[dc,not_or]at h;simp only[e9];rw[xj h.2 (by simpa using hi),ix (Ne.symm h.1)]
 |j::r,l,[],i,_,_=>rfl
theorem Ef:∀ {sel:List Nat}{l qs:List α}{j i:Nat},sel.length<=qs.length->sel.Nodup->(∀i∈sel,i<l.length)->sel[j]? =some i->(e9 l sel qs)[i]? =qs[j]?
 |[],l,qs,j,i,_,_,_,h=>by simp at h
 |a::r,l,q::qs,0,i,b,d,c,h=>by simp only[dX,aK]at h;subst h;have e:=jr.1 d;simp only[e9];rw[xj e.1 (by simpa using c a (by simp)),gk (c a (by simp))];rfl
 |a::r,l,q::qs,j+1,i,b,d,c,h=>by have e:=jr.1 d;simp only[e9];rw[Ef (by simpa using b) e.2 (λ i hi=>by simpa using c i (fg _ hi)) (by simpa using h)];rfl
 |a::r,l,[],j,i,b,_,_,_=>by simp at b
theorem Eg:∀ {sel:List Nat}{l qs:List α}{m:Nat},sel.length<=qs.length->(e9 l sel qs)[l.length+m]? =qs[sel.length+m]?
 |[],l,qs,m,_=>by simp[e9,eX]
 |a::r,l,q::qs,m,b=>by simp only[e9];have:=Eg (sel:=r) (l:=l.set a q) (qs:=qs) (m:=m) (by simpa using b);rw[lI]at this;rw[this,show(a::r).length+m=(r.length+m)+1 by simp;omega];rfl
 |a::r,l,[],m,b=>by simp at b
theorem aht{sel:List Nat}{l qs:List α}(a:sel.length<=qs.length)(d:sel.Nodup)(f:∀i∈sel,i<l.length){i:Nat}{x:α}(h:(e9 l sel qs)[i]? =some x) :
 (i∉sel/\i<l.length/\l[i]? =some x)\/∃j,qs[j]? =some x/\((j<sel.length/\sel[j]? =some i)\/(sel.length<=j/\i=l.length+(j-sel.length))):=by
 rcases gE i l.length with e |e
 ·by_cases hi:i∈sel;obtain⟨j,b,rfl⟩:=je.1 hi;have c:=bu b;rw[Ef a d f c]at h;exact .inr ⟨j,h,.inl ⟨b,c⟩⟩;rw[xj hi e]at h;exact .inl ⟨hi,e,h⟩
 ·right;obtain⟨m,rfl⟩:∃m,i=l.length+m:=⟨i-l.length,by omega⟩
  rw[Eg a]at h;exact⟨sel.length+m,h,.inr ⟨by omega,by omega⟩⟩
end
def hC(sel:List Nat)(len j:Nat):Nat:=match nth sel j with
 |some i=>i
 |none=>len+(j-sel.length)
theorem xP{sel:List Nat}{len j i:Nat}(h:sel[j]? =some i):hC sel len j=i:=by rw[hC,cr,h]
theorem MK{sel:List Nat}{len j:Nat}(h:sel.length<=j):hC sel len j=len+(j-sel.length):=by rw[hC,cr,gV h]
def fR{El:Nat->Type}:Option (ay El)->ay El->ay El
 |some (.r _ g k _),.r t g' k' l=>.r t (g+g') (k+k') l
 |some (.r _ g _ _),.no g'=>.no (g+g')
 |some (.no g),.no g'=>.no (g+g')
 |_,B=>B
def q4{El:Nat->Type}(bl:List (ay El)):List Nat->List (ay El)->List (ay El)
 |i::r,B::qs=>fR (nth bl i) B::q4 bl r qs
 |_,qs=>qs
theorem VB{El:Nat->Type}{bl:List (ay El)}:∀ {sel:List Nat}{qs:List (ay El)},(q4 bl sel qs).length=qs.length
 |[],qs=>rfl
 |i::r,B::qs=>by simp[q4,VB (sel:=r)]
 |i::r,[]=>rfl
theorem VA{El:Nat->Type}{bl:List (ay El)}:∀ {sel:List Nat}{qs:List (ay El)}{j:Nat},(q4 bl sel qs)[j]? =(qs[j]?).map λ B=>(match sel[j]? with
 |some i=>fR (nth bl i) B
 |none=>B)
 |[],qs,j=>by simp[q4]
 |i::r,B::qs,0=>by simp[q4]
 |i::r,B::qs,j+1=>by simpa[q4]using VA (sel:=r) (qs:=qs) (j:=j)
 |i::r,[],j=>by simp[q4]
theorem Bx{El:Nat->Type}{o:Option (ay El)}{B:ay El}{u:Value}:a6 (fR o B) u=a6 B u:=by unfold fR;split<;>rfl
section
variable{T:bA}{F F':Nat->Prop}{w:World}{ρ ρ':List Value}{bl bl':List (ay T.El)}{σ g g':Nat->Nat}
theorem Pa(a:∀j v,ρ[j]? =some v->ρ'[σ j]? =some v):∀ {dw:List Nat}{vs:List Value},aR T F w ρ bl (dw.map λ j=>.b (id j) 0) vs->aR T F' w ρ' bl' (dw.map λ j=>.b (σ j) 0) vs
 |[],vs,h=>by simpa only[ib,aR]using h
 |j::r,vs,h=>by simp only[fA,aR,aq]at h⊢;obtain⟨u,us,e,⟨b,c,al⟩,aL⟩:=h;exact⟨u,us,e,⟨b,a j _ c,al⟩,Pa a aL⟩
theorem Uk(e:∀k,F k->F' k)(f:∀j v,ρ[j]? =some v->ρ'[σ j]? =some v)(n:∀j,g j=bI bl[j]?)(o:∀j v,ρ[j]? =some v->g' j=bI bl'[σ j]?):∀ {p:hl}{d:rn T.El p}{v:Value},aq T F w ρ bl (fq id g p d) v->aq T F' w ρ' bl' (fq σ g' p d) v
 | .i k,d,v,h=>by simpa only[fq,aq]using h
 | .b,d,v,h=>by simpa only[fq,aq]using h
 | .s,d,v,h=>by simpa only[fq,aq]using h
 | .l t,d,v,h=>by simp only[fq,aq]at h⊢;exact(cM (T.ty t)).law (λ k i=>⟨e k i,rfl⟩) h
 | .x t,d,v,h=>by simp only[fq,aq]at h⊢;obtain⟨a,q,cs,b,al,aL,bB⟩:=h;exact⟨a,q,cs,b,e a al,(T.ty t).law (λ k i=>⟨e k i,rfl⟩) aL,bB⟩
 | .n kt vt,d,v,h=>by simp only[fq,aq]at h⊢;obtain⟨r,b,al,aL⟩:=h;exact⟨r,b,e r al,aL.law (λ k i=>⟨e k i,rfl⟩) rfl⟩
 | .ga,d,v,h=>by simpa only[fq,aq]using h
 | .B j,d,v,h=>by simp only[fq,aq,id]at h⊢;obtain⟨l,b,al⟩:=h;exact⟨l,f j _ b,al⟩
 | .R j,d,v,h=>by simp only[fq,aq,id]at h⊢;obtain⟨u,m,b,al,aL⟩:=h;exact⟨u,m,f j _ b,by rw[o j _ b];exact da _,λ _=>aL (n j)⟩
 | .M j,d,v,h=>by simp only[fq,aq,id]at h⊢;obtain⟨l,b,al⟩:=h;exact⟨l,f j _ b,al⟩
 | .P j sz,d,v,h=>by simp only[fq,aq,id]at h⊢;obtain⟨A,c,b,al,aL,bB⟩:=h;refine⟨A,c,b,al,aL,λ x=>?_⟩;obtain⟨y,z,xs,B,C⟩:=bB x;exact⟨y,e _ z,xs,B.imp λ q v ⟨D,m,s,G,E⟩=>⟨D,m,f j _ s,by rw[o j _ s];exact da _,λ _=>E (n j)⟩,C⟩
 | .F g dw,d,v,h=>by simp only[fq,aq]at h⊢;obtain⟨vs,b,al⟩:=h;exact⟨vs,b,Pa f al⟩
theorem EO(a:∀k,F k->F' k)(b:∀j v,ρ[j]? =some v->ρ'[σ j]? =some v)(c:∀j,g j=bI bl[j]?)(f:∀j v,ρ[j]? =some v->g' j=bI bl'[σ j]?):∀ {ps:List hl}{d:pt T.El ps}{vs:List Value},aR T F w ρ bl (nT id g ps d) vs->aR T F' w ρ' bl' (nT σ g' ps d) vs
 |[],d,vs,h=>by simpa only[nT,aR]using h
 |p::r,d,vs,h=>by simp only[nT,aR]at h⊢;obtain⟨u,us,e,I,J⟩:=h;exact⟨u,us,e,Uk a b c f I,EO a b c f J⟩
theorem aiv(a:∀k,F k->F' k)(b:∀j v,ρ[j]? =some v->ρ'[σ j]? =some v)(c:∀j,g j=bI bl[j]?)(f:∀j v,ρ[j]? =some v->g' j=bI bl'[σ j]?):∀ {p:cG}{d:vS T.El p}{v:Value},aq T F w ρ bl (sY id g p d) v->aq T F' w ρ' bl' (sY σ g' p d) v
 | .p p,d,v,h=>Uk a b c f h
 | .a ps,d,v,h=>by simp only[sY,aq]at h⊢;obtain⟨vs,e,I⟩:=h;exact⟨vs,e,EO a b c f I⟩
 | .f fn ps,d,v,h=>by simp only[sY,aq]at h⊢;obtain⟨vs,e,I⟩:=h;exact⟨vs,e,EO a b c f I⟩
theorem Uj(a:∀k,F k->F' k)(b:∀j v,ρ[j]? =some v->ρ'[σ j]? =some v)(c:∀j,g j=bI bl[j]?)(f:∀j v,ρ[j]? =some v->g' j=bI bl'[σ j]?):∀ {ps:List cG}{d:cQ T.El ps}{vs:List Value},aR T F w ρ bl (fa id g ps d) vs->aR T F' w ρ' bl' (fa σ g' ps d) vs
 |[],d,vs,h=>by simpa only[fa,aR]using h
 |p::r,d,vs,h=>by simp only[fa,aR]at h⊢;obtain⟨u,us,e,I,J⟩:=h;exact⟨u,us,e,aiv a b c f I,Uj a b c f J⟩
theorem aiw(i:∀k,F k->F' k)(n:∀j v,ρ[j]? =some v->ρ'[σ j]? =some v)(q:∀j,g j=bI bl[j]?)(s:∀j v,ρ[j]? =some v->g' j=bI bl'[σ j]?){post:Bool}{o:Option (ay T.El)}:∀ {p:bx}{d:n_ T.El p}{h:Value},g4 T F w ρ bl (cK id g post p d) h->g4 T F' w ρ' bl' (fR o (cK σ g' post p d)) h
 | .c ty ps,d,h,a=>by
   have:fR o (cK σ g' post (.c ty ps) d)=cK σ g' post (.c ty ps) d:=by unfold fR;split<;>first |rfl |(rename_i e;cases e)
   rw[this];obtain⟨u,vs,b,al,aL⟩:=a;exact⟨u,vs,b,al,EO i n q s aL⟩
 | .r t same,d,h,a=>by
   obtain⟨A,c,xs,b,al,aL⟩:=a;have:∃f m,fR o (cK σ g' post (.r t same) d)= .r t f m d:=by unfold fR;split;rename_i e;cases e;exact⟨_,_,rfl⟩;rename_i e;cases e;rename_i e;cases e;exact⟨_,_,rfl⟩
   obtain⟨f,m,e⟩:=this;rw[e];exact⟨A,c,xs,b,al,ki _ (λ k l=>⟨i k l,rfl⟩) aL⟩
 | .m kt vt,d,h,a=>by
   have:fR o (cK σ g' post (.m kt vt) d)=cK σ g' post (.m kt vt) d:=by unfold fR;split<;>first |rfl |(rename_i e;cases e)
   rw[this];obtain⟨r,b,al⟩:=a;exact⟨r,b,al.law (λ k l=>⟨i k l,rfl⟩) rfl⟩
 | .d,d,h,a=>by
   have:∃f,fR o (cK σ g' post .d d)= .no f:=by unfold fR;split;rename_i e;cases e;exact⟨_,rfl⟩;exact⟨_,rfl⟩;exact⟨_,rfl⟩
   obtain⟨f,e⟩:=this;rw[e];trivial
end
def mD{El:Nat->Type}:bx->ay El->Prop
 | .c _ _,.c _ _=>True
 | .r t _,.r t' _ _ _=>t'=t
 | .m _ _,.m _ _ _=>True
 | .d,.c _ _=>True
 | .d,.r _ _ _ _=>True
 | .d,.m _ _ _=>True
 | .d,.no _=>True
 |_,_=>False
def sd:bx->bx->Bool
 | .c _ _,.c _ _=>true
 | .r t _,.r t' _=>bT t t'
 | .m _ _,.m _ _=>true
 | .c _ _,.d=>true
 | .r _ _,.d=>true
 | .m _ _,.d=>true
 |_,_=>false
def h4:List bx->List bx->Bool
 |[],_=>true
 |p::r,q::s=>sd p q&&h4 r s
 |_::_,[]=>false
theorem Bb:∀ {ps qs:List bx},h4 ps qs=true->ps.length<=qs.length
 |[],_,_=>by simp
 |p::r,q::s,h=>by simp only[h4,bL]at h;have:=Bb h.2;simp;omega
 |p::r,[],h=>by cases h
theorem Ba:∀ {ps qs:List bx}{j:Nat}{p q:bx},h4 ps qs=true->ps[j]? =some p->qs[j]? =some q->sd p q=true
 |[],_,j,p,q,_,h,_=>by simp at h
 |a::r,b::s,0,p,q,c,h,h'=>by simp only[dX,aK]at h h';subst h;subst h';simp only[h4,bL]at c;exact c.1
 |a::r,b::s,j+1,p,q,c,h,h'=>by simp only[h4,bL]at c;exact Ba c.2 (by simpa using h) (by simpa using h')
 |a::r,[],j,p,q,c,_,_=>by cases c
def ez{El:Nat->Type}(bl:List (ay El))(sel:List Nat)(a:List bx)(j:Nat):Nat:=(match nth sel j with
 |some i=>oA bl i
 |none=>0)+b7 true a j
def pD{El:Nat->Type}(bl:List (ay El))(sel:List Nat)(a:List bx)(b:cg El a):List (ay El):=q4 bl sel (bw (hC sel bl.length) (ez bl sel a) true a b)
def fk{El:Nat->Type}(bl:List (ay El))(sel:List Nat)(a:List bx)(b:cg El a):List (ay El):=e9 bl sel (pD bl sel a b)
section
variable{T:bA}{W w w':World}{ar:List Nat}{X:Nat->Prop}{bl:List (ay T.El)}{ρ kp du:List Value}{sel:List Nat}{pre bZ:List bx}{kB:cg T.El pre}{cN:cg T.El bZ}{mq gq:Nat->Nat}
theorem EM{σ g:Nat->Nat}{post:Bool}:∀ {ps:List bx}{d:cg T.El ps}{j:Nat}{B:ay T.El},(bw σ g post ps d)[j]? =some B->∃p a,ps[j]? =some p/\B=cK σ g post p a/\∀σ' g',(bw σ' g' post ps d)[j]? =some (cK σ' g' post p a)
 |[],d,j,B,h=>by simp[bw]at h
 |p::r,d,0,B,h=>by simp only[bw,dX,aK]at h;subst h;exact⟨p,d.1,rfl,rfl,λ _ _=>rfl⟩
 |p::r,d,j+1,B,h=>by obtain⟨q,a,I,J,b⟩:=EM (ps:=r) (d:=d.2) (j:=j) (by simpa[bw]using h);exact⟨q,a,by simpa using I,J,λ σ' g'=>by simpa[bw]using b σ' g'⟩
theorem back(o:Mem T W ar X bl ρ w)(t:jV bl ρ (bw id mq false pre kB) kp sel)(pW:sel.length=pre.length)(c:∀(j i:Nat)(B:ay T.El)(p:bx),sel[j]? =some i->bl[i]? =some B->pre[j]? =some p->mD p B)(bX:h4 pre bZ=true)
 (U:∀i∈sel,i<bl.length)(V:∀j,gq j=b7 true bZ j)
 (s:Mem T w (gD (bw id mq false pre kB) kp) (io X bl ρ sel) (bw id gq true bZ cN) du w')(aF:To (io X bl ρ sel) (bw id mq false pre kB) (bw id gq true bZ cN) kp du w w') :
 Mem T W ar X (fk bl sel bZ cN) (e9 ρ sel du) w'/\To X bl (fk bl sel bZ cN) ρ (e9 ρ sel du) w w'/\ew bl ρ w w' sel/\
  ∀a_ (aN:cQ T.El a_) vs,aR T (aW (io X bl ρ sel) (bw id gq true bZ cN) du w') w' du (bw id gq true bZ cN) (fa id gq a_ aN) vs->aR T (aW X (fk bl sel bZ cN) (e9 ρ sel du) w') w' (e9 ρ sel du) (fk bl sel bZ cN) (fa (hC sel bl.length) (ez bl sel bZ) a_ aN) vs:=by
 have Sl:(bw id mq false pre kB).length=pre.length:=lV
 have Y:(bw id gq true bZ cN).length=bZ.length:=lV
 have Z:du.length=bZ.length:=by rw[s.len,Y]
 have an7:kp.length=pre.length:=by rw[t.len,Sl]
 have RU:=Bb bX
 have mx:sel.Nodup:=by refine jq.2 λ i j hi r ly e=>?_;have:=t.inj i j _ (bu hi) (by rw[e];exact bu r);omega
 have agG:(pD bl sel bZ cN).length=bZ.length:=by rw[pD,VB,lV]
 have P:sel.length<=(pD bl sel bZ cN).length:=by omega
 have s2:sel.length<=du.length:=by omega
 have ad3:∀i∈sel,i<ρ.length:=λ i hi=>by rw[o.len];exact U i hi
 have l1:(fk bl sel bZ cN).length=bl.length+(bZ.length-sel.length):=by rw[fk,KT P,agG]
 have c5:(e9 ρ sel du).length=bl.length+(bZ.length-sel.length):=by rw[KT s2,o.len,Z]
 have Q:∀(j:Nat)(v:Value),du[j]? =some v->(e9 ρ sel du)[hC sel bl.length j]? =some v:=λ j v r=>by rcases gE j sel.length with e |e;have d:=bu e;rw[xP d,Ef s2 mx ad3 d];exact r;rw[MK e,<-o.len,Eg s2,show sel.length+(j-sel.length)=j by omega];exact r
 have N5:∀(j:Nat),j<bZ.length->(fk bl sel bZ cN)[hC sel bl.length j]? =(pD bl sel bZ cN)[j]? :=λ j r=>by rcases gE j sel.length with e |e;have d:=bu e;rw[xP d,fk,Ef P mx U d];rw[MK e,fk,Eg P,show sel.length+(j-sel.length)=j by omega]
 have U8:∀(j:Nat),j<sel.length->∃i B h,sel[j]? =some i/\bl[i]? =some B/\ρ[i]? =some h/\kp[j]? =some h/\∃p,pre[j]? =some p/\mD p B:=λ j r=>by
  have nw:j<(bw id mq false pre kB).length:=by omega
  have p5:j<kp.length:=by omega
  obtain⟨i,B,d,al,aL,_⟩:=t.at_ j _ _ (bu nw) (bu p5);have p6:j<pre.length:=by omega
  exact⟨i,B,_,d,al,aL,bu p5,_,bu p6,c j i B _ d al (bu p6)⟩
 have VC:∀B:ay T.El,fR none B=B:=λ B=>by cases B<;>rfl
 have Gk:∀(j:Nat)(B:ay T.El),(pD bl sel bZ cN)[j]? =some B->∃q f,bZ[j]? =some q/\(bw id gq true bZ cN)[j]? =some (cK id gq true q f)/\B=fR ((sel[j]?).bind λ i=>nth bl i) (cK (hC sel bl.length) (ez bl sel bZ) true q f):=λ j B z=>by
  rw[pD,VA,c9]at z;obtain⟨hj,I,J⟩:=z;obtain⟨q,f,d,al,aL⟩:=EM I;refine⟨q,f,d,aL _ _,?_⟩;subst al;rw[<-J];cases an0:sel[j]? with
  |none=>exact(VC _).symm
  |some i=>rfl
 have G:∀(q:bx)(f:n_ T.El q)(σ g σ' g':Nat->Nat)(u:Value),a6 (cK σ g true q f) u=a6 (cK σ' g' true q f) u:=λ q f σ g σ' g' u=>by cases q<;>rfl
 have cs:∀(i:Nat)(B:ay T.El)(h:Value),(fk bl sel bZ cN)[i]? =some B->(e9 ρ sel du)[i]? =some h->(i∉sel/\bl[i]? =some B/\ρ[i]? =some h)\/
  ∃j q f,bZ[j]? =some q/\du[j]? =some h/\hC sel bl.length j=i/\(bw id gq true bZ cN)[j]? =some (cK id gq true q f)/\B=fR ((sel[j]?).bind λ i=>nth bl i) (cK (hC sel bl.length) (ez bl sel bZ) true q f):=λ i B h z H=>by
  rcases aht P mx U z with⟨d,al,aL⟩|⟨j,d,al⟩
  ·left;rw[xj d (by rw[o.len];exact al)]at H;exact⟨d,aL,H⟩
  ·right;obtain⟨q,f,m,n,l⟩:=Gk j B d;have r:j<bZ.length:=(bb.1 m).1;have SM:hC sel bl.length j=i:=by rcases al with⟨_,al⟩|⟨al,aL⟩;exact xP al;rw[MK al,aL]
   have K:=Q j _ (bu (by omega:j<du.length));rw[SM,H]at K;simp only[aK]at K;exact⟨j,q,f,m,by rw[K];exact bu _,SM,n,l⟩
 have Ls:∀k,lg (fk bl sel bZ cN) (e9 ρ sel du) k->(∃i B h,i∉sel/\bl[i]? =some B/\ρ[i]? =some h/\k∈a6 B h)\/lg (bw id gq true bZ cN) du k:=λ k c=>by obtain⟨i,B,h,I,J,y⟩:=c;rcases cs i B h I J with⟨d,al,aL⟩|⟨j,q,f,d,al,aL,bB,rfl⟩;exact .inl ⟨i,B,h,d,al,aL,y⟩;rw[Bx,G q f _ _ id gq]at y;exact .inr ⟨j,_,h,bB,al,y⟩
 have N9:∀k,aW (io X bl ρ sel) (bw id gq true bZ cN) du w' k->aW X (fk bl sel bZ cN) (e9 ρ sel du) w' k:=λ k c=>⟨λ aa=>c.1 (.inl aa),λ L=>by
  rcases Ls k L with h |h;exact c.1 (.inr h)
  ·exact c.2.1 h,c.2.2⟩
 have N8:∀k,aW X bl ρ w k->aW X (fk bl sel bZ cN) (e9 ρ sel du) w' k/\w'.heap[k]? =w.heap[k]? :=λ k c=>⟨⟨c.1,λ L=>by
  rcases Ls k L with⟨i,B,h,_,I,J,y⟩|h;exact c.2.1 ⟨i,B,h,I,J,y⟩
  ·rcases(s.lt k h).2 with e |e;exact c.2.1 (t.own (j0.1 e))
   ·have:=c.2.2;omega,dY c.2.2 s.bM.size⟩,s.bM.block k c.2.2 λ e=>c.2.1 (t.own (j0.1 e))⟩
 have Sf:∀j,gq j=bI (bw id gq true bZ cN)[j]? :=λ j=>by rw[xx];exact V j
 have jL:∀(j:Nat)(q:bx),bZ[j]? =some q->j<sel.length->∃i B,sel[j]? =some i/\bl[i]? =some B/\mD q B:=λ j q r au=>by obtain⟨i,B,h,d,al,_,_,p,ch,fH⟩:=U8 j au;have:=Ba bX ch r;refine⟨i,B,d,al,?_⟩;cases p<;>cases q<;>simp only[sd,ie]at this<;>cases B<;>simp only[mD]at fH⊢;rw[fH,aZ this]
 have eZ:∀j v,du[j]? =some v->ez bl sel bZ j=bI (fk bl sel bZ cN)[hC sel bl.length j]? :=λ j v r=>by
  have p7:j<bZ.length:=by have:=(bb.1 r).1;omega
  rw[N5 j p7];have M:j<(pD bl sel bZ cN).length:=by omega
  obtain⟨q,f,d,al,aL⟩:=Gk j _ (bu M);rw[bu M,aL];rw[ez,cr,b7,d];rcases gE j sel.length with au |au;obtain⟨i,B,m,n,l⟩:=jL j q d au;rw[m];simp only[ae,cr,n,uj];cases q<;>cases B<;>simp only[mD]at l<;>simp[fR,cK,bI,ef];rw[gV au];simp only[Option.bind_none,VC,jw];cases q<;>rfl
 have Og:jS T ρ (e9 ρ sel du) bl (fk bl sel bZ cN):=⟨λ i h hi=>by
  have dn:i<ρ.length:=(bb.1 hi).1;by_cases gU:i∈sel
  ·obtain⟨j,r,rfl⟩:=je.1 gU;obtain⟨i,B,aJ,d,al,aL,bB,p,ch,fH⟩:=U8 j r;have Hc:sel[j]=i:=by rw[bu r]at d;exact eR d
   rw[Hc]at hi⊢;rw[hi]at aL;cases aL;obtain⟨h',aT,aV,bN,R⟩:=aF.L.at_ j h bB;have p7:j<bZ.length:=by omega
   have M:j<(pD bl sel bZ cN).length:=by omega
   obtain⟨q,f,m,n,l⟩:=Gk j _ (bu M);have z:=N5 j p7;rw[xP d,bu M,l,d]at z;simp only[ae,cr,al]at z;have aC:=Q j h' aT;rw[xP d]at aC;refine⟨h',aC,aV,?_⟩;rw[z,al];obtain⟨i2,m6,di,e8,lL⟩:=jL j q m r;rw[d]at di;cases di;rw[al]at e8;cases e8;have A:bI (bw id mq false pre kB)[j]? =0:=by rw[xx,ch];cases p<;>rfl
   have E:bI (bw id gq true bZ cN)[j]? =ef true (some q):=by rw[xx,m]
   rw[A,E]at R;cases q<;>cases B<;>simp only[mD]at lL;exact⟨da _,λ _=>⟨(R rfl).1,rfl,da _,λ _=>rfl⟩⟩;subst lL;refine⟨by simp[fR,cK,bI],λ e=>⟨(R (by simpa[fR,cK,bI]using e)).1,rfl,by simp[fR,cK,ff],λ e=>?_⟩⟩;simp[fR,cK,ff,ts]at e;exact⟨da _,λ _=>⟨(R rfl).1,rfl,da _,λ _=>rfl⟩⟩;exact⟨hh _,λ e=>by simp[fR,cK,bI,ef]at e⟩;exact⟨by simp[fR,cK,bI],λ e=>by simp[fR,cK,bI,ef]at e⟩;exact⟨hh _,λ e=>by simp[fR,cK,bI,ef]at e⟩;exact⟨by simp[fR,cK,bI],λ e=>by simp[fR,cK,bI,ef]at e⟩
  ·have ag:(fk bl sel bZ cN)[i]? =bl[i]? :=xj gU (by rw[<-o.len];exact dn);refine⟨h,by rw[xj gU dn];exact hi,λ _=>rfl,?_⟩;rw[ag]
   exact⟨da _,λ _=>⟨rfl,rfl,da _,λ _=>rfl⟩⟩⟩
 have Vz:∀(i:Nat)(B:ay T.El)(h:Value),i∉sel->bl[i]? =some B->ρ[i]? =some h->∀k∈a6 B h,k<w.heap.size/\k∉gD (bw id mq false pre kB) kp:=λ i B h hi I J k c=>by refine⟨(o.lt k ⟨i,B,h,I,J,c⟩).1,λ e=>?_⟩;obtain⟨j,C,u,m,n,l⟩:=j0.1 e;obtain⟨S,hj,A,E,N,O⟩:=t.at_ j C u m n;have l:=O _ _ l;refine o.a3 i S B hj h u I J E N (λ e=>?_) k c l;subst e;exact hi (cU A)
 have YH:To X bl (fk bl sel bZ cN) ρ (e9 ρ sel du) w w':=⟨N8,Og,s.bM.size,λ i B' h' hi H k c zS=>by
  rcases cs i B' h' hi H with⟨_,al,aL⟩|⟨j,q,f,d,al,aL,bB,rfl⟩;exact⟨B',h',al,aL,c⟩
  ·rw[Bx,G q f _ _ id gq]at c;obtain⟨hj,aJ,m,n,l⟩:=aF.kH j _ h' bB al k c zS;obtain⟨S,B,A,E,N,O⟩:=t.at_ j hj aJ m n;rw[xP A]at aL;subst aL
   exact⟨B,aJ,E,N,O _ _ l⟩⟩
 refine⟨⟨o.bM.trans s.bM λ k c=>(o.lt k (t.own (j0.1 c))).2,by rw[l1,c5],o.fy,λ k c=>?_,?_,?_⟩,YH,λ k c aI=>?_,λ a_ aN vs K=>Uj N9 Q Sf eZ K⟩
 ·rcases Ls k c with⟨i,B,h,_,I,J,y⟩|h;have:=o.lt k ⟨i,B,h,I,J,y⟩;exact⟨dY this.1 s.bM.size,this.2⟩;refine⟨(s.lt k h).1,?_⟩;rcases(s.lt k h).2 with e |e;exact(o.lt k (t.own (j0.1 e))).2;exact .inr (fo o.bM.size e)
 ·intro a b B C u v I J y a5 bE k c F;have OG:∀(i:Nat)(D:ay T.El)(x:Value),i∉sel->bl[i]? =some D->ρ[i]? =some x->k∈a6 D x->lg (bw id gq true bZ cN) du k->False:=λ i D x hi d1 d2 d3 L=>by obtain⟨a7,br⟩:=Vz i D x hi d1 d2 k d3;rcases(s.lt k L).2 with e |e;exact br e;omega
  rcases cs a B u I J with⟨d,al,aL⟩|⟨j,q,f,d,al,aL,bB,rfl⟩;rcases cs b C v y a5 with⟨m,n,l⟩|⟨gr,xA,y6,m,n,l,f4,rfl⟩;exact o.a3 a b B C u v al aL n l bE k c F;rw[Bx,G xA y6 _ _ id gq]at F;exact OG a B u d al aL c ⟨gr,_,v,f4,n,F⟩;rw[Bx,G q f _ _ id gq]at c;rcases cs b C v y a5 with⟨m,n,l⟩|⟨gr,xA,y6,m,n,l,f4,rfl⟩;exact OG b C v m n l F ⟨j,_,u,bB,al,c⟩;rw[Bx,G xA y6 _ _ id gq]at F;refine s.a3 j gr _ _ u v bB al f4 n (λ e=>?_) k c F;subst e;exact bE (aL.symm.trans l)
 ·intro i B h I J;rcases cs i B h I J with⟨d,al,aL⟩|⟨j,q,f,d,al,aL,bB,rfl⟩;exact(o.ok i B h al aL).later N8 Og λ k c=>by obtain⟨a7,br⟩:=Vz i B h d al aL k c;exact s.bM.block k a7 br
  ·exact aiw N9 Q Sf eZ (s.ok j _ h bB al)
 ·refine s.bM.block k c λ e=>?_;obtain⟨j,C,u,m,n,l⟩:=j0.1 e;obtain⟨S,hj,A,E,N,O⟩:=t.at_ j C u m n;have l:=O _ _ l;exact aI S (cU A) hj u E N l
end
def kV:Nat->List (Nat×Nat)
 |0=>[]
 |n+1=>(n,n)::kV n
theorem uH{n:Nat}{p:Nat×Nat}:p∈kV n↔p.1<n/\p.2=p.1:=by
 induction n with
 |zero=>simp[kV]
 |succ n c=>simp only[kV,dc,c];constructor;rintro(rfl |⟨I,J⟩);exact⟨ky _,rfl⟩;exact⟨by omega,J⟩;rintro⟨I,J⟩;rcases gE p.1 n with e |e;exact .inr ⟨e,J⟩;left;obtain⟨a,b⟩:=p;simp only at I J e;simp only[cY];omega
theorem uG{n:Nat}:hH (kV n):=⟨λ p a q b e=>by rw[(uH.1 a).2,(uH.1 b).2,e],λ p a q b e=>by rw[<-(uH.1 a).2,<-(uH.1 b).2,e]⟩
theorem tV:hH []:=⟨λ p a=>by simp at a,λ p a=>by simp at a⟩
def q3{El:Nat->Type}(n:Nat)(y:aD El):List (aD El):=match bT n 1 with
 |true=>[y]
 |false=>match y with
  | .u ys=>ys
  | .p (.tuple ⟨vs⟩)=>vs.map .p
  |y=>[y]
section
variable{T:bA}{W w w':World}{ar:List Nat}{X:Nat->Prop}{bl:List (ay T.El)}{ρ:List Value}
theorem Kc{El:Nat->Type}{pre c:List bx}(a:h4 pre c=true){j:Nat}{p:bx}{B:ay El}(b:pre[j]? =some p)(h:p≠ .d->mD p B):mD p B:=h λ e=>by subst e;have d:=(bb.1 b).1;have f:=Bb a;have:=Ba a b (bu (by omega));simp[sd]at this
theorem ab7{aM b:List (Nat×Nat)}{post:Bool}:∀ {p:bx}{B:ay T.El}{d:n_ T.El p},g7 bl aM post p B=some (d,b)->(p≠ .d->mD p B)/\(post=true->ef true (some p)=0 ->bI (some B)=0)
 | .c ty ps,B,d,h=>by simp only[g7]at h;split at h;exact⟨λ _=>trivial,λ _ _=>rfl⟩;cases h
 | .r t same,B,d,h=>by
   simp only[g7]at h;split at h
   ·split at h
    ·rename_i ag;obtain⟨x,I,h⟩:=c9.1 h;obtain⟨e,_⟩:=UJ I;refine⟨λ _=>e,λ c a=>?_⟩;subst c;cases same with
     |false=>simp[ef]at a
     |true=>simpa[bI]using aZ (by simpa using ag)
    ·cases h
   ·cases h
 | .m kt vt,B,d,h=>by simp only[g7]at h;split at h;exact⟨λ _=>trivial,λ _ _=>rfl⟩;cases h
 | .d,B,d,h=>by simp only[g7]at h;split at h<;>first |exact⟨λ h=>absurd rfl h,λ _ a=>by simp[ef]at a⟩|cases h
theorem Rt{post:Bool}:∀ {ps:List bx}{aM b:List (Nat×Nat)}{k:Nat}{d:cg T.El ps},kI bl post aM k ps=some (d,b)->∀(m:Nat)(p:bx),ps[m]? =some p->∃i B,(k+m,i)∈b/\bl[i]? =some B/\(p≠ .d->mD p B)/\(post=true->ef true (some p)=0 ->bI (some B)=0)
 |[],aM,b,k,d,_,m,p,a=>by simp at a
 |q::r,aM,b,k,d,h,m,p,a=>by
  simp only[kI]at h;split at h
  ·rename_i i hi;split at h
   ·rename_i B c;split at h
    ·rename_i l n I;split at h
     ·rename_i o s J;cases h;have e:=(wK J).1;have f:=(Dm I).1;rw[cr]at c;cases m with
      |zero=>simp only[dX,aK]at a;subst a;exact⟨i,B,e _ (f _ (jE hi)),c,ab7 I⟩
      |succ m=>obtain⟨g,m6,j,al,aL⟩:=Rt J m p (by simpa using a);exact⟨g,m6,by rw[show k+(m+1)=k+1+m by omega];exact j,al,aL⟩
     ·cases h
    ·cases h
   ·cases h
  ·cases h
theorem wL{aM:List (Nat×Nat)}(aE:hH aM){post:Bool}{a_:List cG}{pbs:List bx}{ys:List (aD T.El)}{a:cQ T.El a_×cg T.El pbs}{sel:List Nat}(h:gP bl aM post a_ pbs ys=some (a,sel)) :
 sel.length=pbs.length/\∀(j i:Nat)(p:bx),sel[j]? =some i->pbs[j]? =some p->∃B,bl[i]? =some B/\(p≠ .d->mD p B)/\(post=true->ef true (some p)=0 ->bI (some B)=0):=by
 unfold gP at h
 split at h
 ·rename_i k l I;split at h;rename_i m n J;split at h;rename_i o b q;simp only[aK,cY]at h;obtain⟨rfl,rfl⟩:=h;have c:=(wK J).2 ((Dl I).2 aE);obtain⟨l1,d⟩:=JZ b;refine⟨l1,λ j i p e f=>?_⟩;obtain⟨r,B,g,al,aL⟩:=Rt J j p f;have:=c.fn _ g _ (d j i e) rfl;simp only at this;subst this;exact⟨B,al,aL⟩;cases h;cases h
 ·cases h
theorem Ky{pre a:List bx}{kB:cg T.El pre}{g:cg T.El a}{mq gq:Nat->Nat}{t D E:List Value}{u:List (ay T.El)}{sel:List Nat}(Sl:t.length=pre.length)(d:To X (bw id mq false pre kB) u t E w w')(b:jV u E (bw id gq true a g) D sel)
 (v:∀j,j<pre.length->sel[j]? =some j)(Z:sel.length=a.length)(F:h4 pre a=true)(l:∀(j i:Nat)(p:bx),sel[j]? =some i->a[j]? =some p->∃B,u[i]? =some B/\(p≠ .d->mD p B)/\(true=true->ef true (some p)=0 ->bI (some B)=0)) :
 To X (bw id mq false pre kB) (bw id gq true a g) t D w w':=by
 have RU:=Bb F
 refine⟨λ k l=>⟨b.A4 (d.F k l).1,(d.F k l).2⟩,⟨λ i h hi=>?_⟩,d.sz,λ i B' h' hi L k x M=>?_⟩
 ·have f:i<pre.length:=by have:=(bb.1 hi).1;omega
  obtain⟨h',N,O,bN,m⟩:=d.L.at_ i h hi;have n:i<(bw id gq true a g).length:=by rw[lV];omega
  obtain⟨c,B,o,al,aL,bB⟩:=b.at_ i _ _ (bu n) (bu (by rw[b.len];exact n));rw[v i f]at o;cases o;rw[N]at aL;have aL:=eR aL;refine⟨h',by rw[bu (by rw[b.len];exact n),aL],O,?_⟩;have G:i<pre.length:=f;have H:=bu G;have y:i<a.length:=by omega
  have z:=bu y;have kk:=Ba F H z;obtain⟨m6,P,e8,q⟩:=l i i _ (v i f) z;obtain⟨Q,A⟩:∃B,(bw id mq false pre kB)[i]? =some B:=⟨_,bu (by rw[lV];exact G)⟩
  obtain⟨R,I⟩:∃B,(bw id gq true a g)[i]? =some B:=⟨_,bu n⟩
  obtain⟨pp,ey,r,s,_⟩:=EM A;obtain⟨S,y6,J,U,_⟩:=EM I;rw[H]at r;rw[z]at J;subst s;subst U;have C:=eR r;have K:=eR J;rw[C,K]at kk;rw[K]at q;rw[A,I];rw[A,P]at m;cases pp<;>cases S<;>simp only[sd,ie]at kk;exact⟨da _,λ _=>⟨(m (q rfl rfl)).1,rfl,da _,λ _=>rfl⟩⟩;exact⟨hh _,λ e=>by simp[cK,bI,ef]at e⟩;have:=aZ kk;subst this;refine⟨by simp[cK,bI,ef],λ e=>⟨(m ?_).1,rfl,by simp[cK,ff,ts],λ e=>by simp[cK,ff,ts]at e⟩⟩;have:=q rfl (by simpa[cK,bI,ef]using e);simpa[cK,bI,ef]using this;exact⟨by simp[cK,bI,ef],λ e=>by simp[cK,bI,ef]at e⟩;exact⟨da _,λ _=>⟨(m (q rfl rfl)).1,rfl,da _,λ _=>rfl⟩⟩;exact⟨hh _,λ e=>by simp[cK,bI,ef]at e⟩
 ·obtain⟨c,B,o,al,aL,bB⟩:=b.at_ i B' h' hi L;have x:=bB _ _ x;obtain⟨hj,V,r,s,Y⟩:=d.kH c B h' al aL k x M;have f:c<pre.length:=by have:=(bb.1 s).1;omega
  have:=b.inj i c c o (v c f);subst this;exact⟨hj,V,r,s,Y⟩
end
section
variable{El:Nat->Type}
def zb(pbs:List bx)(p:hl)(bl:List (ay El))(y:aD El):List (ay El)×aD El:=match p with
 | .l _=>e5 bl y
 | .R j=>match y,nth pbs j with
   | .p (.slice none 0 0),some (.r t _)=>(bl++[.r t 0 0 []],.r bl.length 0)
   | .v i g (.ofNat 0) hi,_=>match nth bl i with
     |some (.r t a _ l)=>match bT g a with
      |true=>(bl.set i (.r t (a+1) 0 (l.take hi.toNat)),.r i (a+1))
      |false=>(bl,y)
     |_=>(bl,y)
   |_,_=>(bl,y)
 |_=>(bl,y)
def mj(pbs:List bx):List hl->List (ay El)->List (aD El)->List (ay El)×List (aD El)
 |p::r,bl,y::ys=>match zb pbs p bl y with
  |(a,b)=>match mj pbs r a ys with
   |(c,d)=>(c,b::d)
 |_,bl,ys=>(bl,ys)
def y'(pbs:List bx)(p:cG)(bl:List (ay El))(y:aD El):List (ay El)×aD El:=match p with
 | .p p=>zb pbs p bl y
 | .a ps=>match iA y with
   |true=>match mj pbs ps bl (cellsOf y)with
    |(a,ys)=>(a,.a ys)
   |false=>(bl,y)
 | .f _ ps=>match y with
   | .f g cs=>match mj pbs ps bl cs with
     |(a,ys)=>(a,.f g ys)
   |_=>(bl,y)
def kD(pbs:List bx):List cG->List (ay El)->List (aD El)->List (ay El)×List (aD El)
 |p::r,bl,y::ys=>match y' pbs p bl y with
  |(a,b)=>match kD pbs r a ys with
   |(c,d)=>(c,b::d)
 |_,bl,ys=>(bl,ys)
def pQ(pbs:List bx):List (Nat×Nat)->Nat->List bx->List (ay El)->List (ay El)
 |aM,k,.c ty ps::r,bl=>match c6 aM k with
  |some i=>match nth bl i with
   |some (.c _ cs)=>match mj pbs ps bl cs with
    |(a,b)=>match nth a i with
     |some (.c c _)=>match kJ (a.set i (.c c b)) aM ps b with
      |some (_,d)=>pQ pbs d (k+1) r (a.set i (.c c b))
      |none=>a.set i (.c c b)
     |_=>bl
   |_=>bl
  |none=>bl
 |aM,k,_::r,bl=>pQ pbs aM (k+1) r bl
 |_,_,[],bl=>bl
def fZ(aM:List (Nat×Nat))(a_:List cG)(pbs:List bx)(bl:List (ay El))(ys:List (aD El)):List (ay El)×List (aD El):=match kD pbs a_ bl ys with
 |(a,b)=>match jt a aM a_ b with
  |some (_,c)=>(pQ pbs c 0 pbs a,b)
  |none=>(a,b)
end
section
variable{T:bA}{W w:World}{ar:List Nat}{X:Nat->Prop}{bl bl':List (ay T.El)}{ρ:List Value}{pbs:List bx}
theorem Mem.ZC(a:Mem T W ar X bl ρ w){i t g k:Nat}{l:List (T.El t)}{A:Option Addr}{c q:Nat}(hi:bl[i]? =some (.r t g k l))(b:ρ[i]? =some (.slice A l.length c))(d:q<=l.length) :
 Mem T W ar X (bl.set i (.r t (g+1) 0 (l.take q))) (ρ.set i (.slice A q c)) w/\To X bl (bl.set i (.r t (g+1) 0 (l.take q))) ρ (ρ.set i (.slice A q c)) w w:=by
 obtain⟨o,p,xs,j,al,aL⟩:=a.ok i _ _ hi b
 simp only[Value.slice.injEq,true_and]at j
 obtain⟨rfl,rfl⟩:=j
 have m:∀k'∈a6 (ay.r (El:=T.El) t (g+1) 0 (l.take q)) (.slice A q c),k'∈a6 (ay.r t g k l) (.slice A l.length c)\/(w.heap.size<=k'/\k'<w.heap.size):=λ k' n=>by left;revert n;cases A<;>cases c<;>simp[a6,ag]
 have f:=a.vw (B':=ay.r t (g+1) 0 (l.take q)) (h':=.slice A q c) (w':=w) hi b (aY.refl _ _) m ⟨λ h=>absurd trivial h,Nat.le_succ _,λ e=>by simp[bI]at e⟩
 refine⟨a.q2 hi b (aY.refl _ _) m f ⟨A,c,xs.take (q*(T.ty t).size),by rw[gf,lB d],?_,?_⟩,f⟩
 ·rw[gf,lB d];exact al.short d
 ·have:=o9 0 q (ki _ f.F aL);simpa using this
theorem Q'(a:Mem T W ar X bl ρ w){p:hl}{y e:aD T.El}{v:Value}(h:zb pbs p bl y=(bl',e))(b:aq T (aW X bl ρ w) w ρ bl y v):∃ρ',Mem T W ar X bl' ρ' w/\To X bl bl' ρ ρ' w w/\aq T (aW X bl' ρ' w) w ρ' bl' e v:=by
 have same:(bl,y)=(bl',e)->∃ρ',Mem T W ar X bl' ρ' w/\To X bl bl' ρ ρ' w w/\aq T (aW X bl' ρ' w) w ρ' bl' e v:=λ h=>by simp only[cY]at h;obtain⟨rfl,rfl⟩:=h;exact⟨ρ,a,.refl,b⟩
 unfold zb at h;split at h;obtain⟨I,J,z⟩:=Rj a h b;exact⟨ρ,I,J,z⟩
 ·split at h
  ·rename_i t _ _;simp only[cY]at h;obtain⟨rfl,rfl⟩:=h;simp only[aq]at b;subst b;have r:∀k∈a6 (ay.r (El:=T.El) t 0 0 []) (.slice none 0 0),w.heap.size<=k/\k<w.heap.size:=λ k C=>by simp[a6,ag]at C
   have D:=a.push (B:=ay.r t 0 0 []) (h:=.slice none 0 0) (aY.refl _ _) r ⟨none,0,[],rfl,.inr ⟨rfl,rfl,none,rfl⟩,rfl⟩;refine⟨_,D,a.tm (aY.refl _ _) r,?_⟩;simp only[aq];refine⟨trivial,.slice none 0 0,by rw[<-a.len];simp,hh _,λ _=>rfl⟩
  ·rename_i i g hi;split at h
   ·rename_i t L k l d;rw[cr]at d;split at h
    ·rename_i ag;simp only[cY]at h;obtain⟨rfl,rfl⟩:=h;simp only[aq]at b;obtain⟨_,u,f,M,s⟩:=b;rw[d]at s;obtain⟨A,n,c,B,x,N,O,E,j,F,P⟩:=s (aZ ag);obtain⟨Q,R,xs,m,G,S⟩:=a.ok i _ _ d f;rw[x]at m;simp only[Value.slice.injEq]at m;obtain⟨rfl,rfl,rfl⟩:=m;rw[x]at f;have o:=F rfl;subst o;have j:v= .slice B hi.toNat c:=by simpa using j
     subst j;obtain⟨H,K⟩:=a.ZC d f (q:=hi.toNat) (by have:hi<=(l.length:Int):=E;omega);refine⟨_,H,K,?_⟩;simp only[aq];refine⟨trivial,_,gk (bb.1 f).1,?_,λ _=>rfl⟩;rw[gk (bb.1 d).1];exact da _
    ·exact same h
   ·exact same h
  ·exact same h
 ·exact same h
theorem C7:∀ {ps:List hl}{ys b:List (aD T.El)}{bl bl':List (ay T.El)}{ρ:List Value}{vs:List Value},Mem T W ar X bl ρ w->mj pbs ps bl ys=(bl',b)->aR T (aW X bl ρ w) w ρ bl ys vs->∃ρ',Mem T W ar X bl' ρ' w/\To X bl bl' ρ ρ' w w/\aR T (aW X bl' ρ' w) w ρ' bl' b vs
 |[],ys,b,bl,bl',ρ,vs,c,h,a=>by simp only[mj,cY]at h;obtain⟨rfl,rfl⟩:=h;exact⟨ρ,c,.refl,a⟩
 |_::_,[],b,bl,bl',ρ,vs,c,h,a=>by simp only[mj,cY]at h;obtain⟨rfl,rfl⟩:=h;exact⟨ρ,c,.refl,a⟩
 |p::r,y::ys,b,bl,bl',ρ,vs,c,h,a=>by
  simp only[aR]at a;obtain⟨u,us,rfl,f,g⟩:=a;simp only[mj]at h;cases I:zb pbs p bl y with
  |mk i n=>
   rw[I]at h;cases J:mj pbs r i ys with
   |mk o q=>rw[J]at h;simp only[cY]at h;obtain⟨rfl,rfl⟩:=h;obtain⟨s,j,d,v1⟩:=Q' c I f;obtain⟨k,l,e,m⟩:=C7 j J (d.vs g);refine⟨k,l,d.trans e,?_⟩;simp only[aR];exact⟨u,us,rfl,e.v v1,m⟩
theorem abG(b:Mem T W ar X bl ρ w){p:cG}{y c:aD T.El}{v:Value}(h:y' pbs p bl y=(bl',c))(a:aq T (aW X bl ρ w) w ρ bl y v):∃ρ',Mem T W ar X bl' ρ' w/\To X bl bl' ρ ρ' w w/\aq T (aW X bl' ρ' w) w ρ' bl' c v:=by
 have same:(bl,y)=(bl',c)->∃ρ',Mem T W ar X bl' ρ' w/\To X bl bl' ρ ρ' w w/\aq T (aW X bl' ρ' w) w ρ' bl' c v:=λ h=>by simp only[cY]at h;obtain⟨rfl,rfl⟩:=h;exact⟨ρ,b,.refl,a⟩
 unfold y' at h;split at h;exact Q' b h a
 ·rename_i ps;split at h
  ·rename_i i;cases I:mj pbs ps bl (cellsOf y)with
   |mk j ys=>rw[I]at h;simp only[cY]at h;obtain⟨rfl,rfl⟩:=h;obtain⟨d,e,f,v1⟩:=C7 b I (ku a);refine⟨d,e,f,?_⟩;rw[Ag (E:=⟨default,T,[],true,[],0,λ _=>[]⟩) i a];simp only[aq];exact⟨_,rfl,v1⟩
  ·exact same h
 ·rename_i k ps;split at h
  ·rename_i g cs;cases I:mj pbs ps bl cs with
   |mk j ys=>rw[I]at h;simp only[cY]at h;obtain⟨rfl,rfl⟩:=h;simp only[aq]at a;obtain⟨vs,rfl,a⟩:=a;obtain⟨d,e,f,v1⟩:=C7 b I a;refine⟨d,e,f,?_⟩;simp only[aq];exact⟨_,rfl,v1⟩
  ·exact same h
theorem Q_:∀ {ps:List cG}{ys b:List (aD T.El)}{bl bl':List (ay T.El)}{ρ:List Value}{vs:List Value},Mem T W ar X bl ρ w->kD pbs ps bl ys=(bl',b)->aR T (aW X bl ρ w) w ρ bl ys vs->∃ρ',Mem T W ar X bl' ρ' w/\To X bl bl' ρ ρ' w w/\aR T (aW X bl' ρ' w) w ρ' bl' b vs
 |[],ys,b,bl,bl',ρ,vs,c,h,a=>by simp only[kD,cY]at h;obtain⟨rfl,rfl⟩:=h;exact⟨ρ,c,.refl,a⟩
 |_::_,[],b,bl,bl',ρ,vs,c,h,a=>by simp only[kD,cY]at h;obtain⟨rfl,rfl⟩:=h;exact⟨ρ,c,.refl,a⟩
 |p::r,y::ys,b,bl,bl',ρ,vs,c,h,a=>by
  simp only[aR]at a;obtain⟨u,us,rfl,f,g⟩:=a;simp only[kD]at h;cases I:y' pbs p bl y with
  |mk i n=>
   rw[I]at h;cases J:kD pbs r i ys with
   |mk o q=>rw[J]at h;simp only[cY]at h;obtain⟨rfl,rfl⟩:=h;obtain⟨s,j,d,v1⟩:=abG c I f;obtain⟨k,l,e,m⟩:=Q_ j J (d.vs g);refine⟨k,l,d.trans e,?_⟩;simp only[aR];exact⟨u,us,rfl,e.v v1,m⟩
theorem Mem.aj_(e:Mem T W ar X bl ρ w){i g ty:Nat}{cs a:List (aD T.El)}{vs:List Value}(hi:bl[i]? =some (.c ty cs))(c:ρ[i]? =some (.pointer (some ⟨g,0,none⟩)))(hc:w.heap[g]? =some (.cells ⟨vs⟩ ty (0,0)))(h:aR T (aW X bl ρ w) w ρ bl a vs):Mem T W ar X (bl.set i (.c ty a)) ρ w/\To X bl (bl.set i (.c ty a)) ρ ρ w w:=by have b:=e.vw (B':=ay.c ty a) (h':=.pointer (some ⟨g,0,none⟩)) (w':=w) hi c (aY.refl _ _) (λ q d=>.inl d) ⟨λ _=>rfl,da _,λ _=>⟨rfl,rfl,da _,λ _=>rfl⟩⟩;have f:=e.q2 (B':=ay.c ty a) (h':=.pointer (some ⟨g,0,none⟩)) (w':=w) hi c (aY.refl _ _) (λ q d=>.inl d) b ⟨g,vs,rfl,hc,b.vs h⟩;rw[vq c]at f b;exact⟨f,b⟩
theorem za:∀ {ps:List bx}{aM:List (Nat×Nat)}{k:Nat}{bl:List (ay T.El)}{ρ:List Value},Mem T W ar X bl ρ w->∃ρ',Mem T W ar X (pQ pbs aM k ps bl) ρ' w/\To X bl (pQ pbs aM k ps bl) ρ ρ' w w
 |[],aM,k,bl,ρ,a=>⟨ρ,a,.refl⟩
 | .r _ _::r,aM,k,bl,ρ,a=>by simp only[pQ];exact za a
 | .m _ _::r,aM,k,bl,ρ,a=>by simp only[pQ];exact za a
 | .d::r,aM,k,bl,ρ,a=>by simp only[pQ];exact za a
 | .c ty ps::r,aM,k,bl,ρ,a=>by
   simp only[pQ];split
   ·rename_i i hi;split
    ·rename_i t cs b;rw[cr]at b;cases I:mj pbs ps bl cs with
     |mk v x=>simp only;split;rename_i y z ns;rw[cr]at ns;obtain⟨u,e⟩:=a.Ar b;obtain⟨g,vs,rfl,hc,m⟩:=a.ok i _ u b e;obtain⟨n,f,c,v1⟩:=C7 a I m;obtain⟨A,d,o,_⟩:=c.L.at_ i _ e;rw[o (by simp[kX])]at d;obtain⟨g',B,h,al,_⟩:=f.ok i _ _ ns d;simp only[Value.pointer.injEq,aK,Addr.mk.injEq,and_true]at h;subst h;rw[hc]at al;simp only[aK,Obj.cells.injEq,Array.mk.injEq,and_true]at al;obtain⟨rfl,rfl⟩:=al;obtain⟨j,l⟩:=f.aj_ ns d hc v1;split;obtain⟨p,q,s⟩:=za j (ps:=r);exact⟨p,q,(c.trans l).trans s⟩;exact⟨n,j,c.trans l⟩;exact⟨ρ,a,.refl⟩
    ·exact⟨ρ,a,.refl⟩
   ·exact⟨ρ,a,.refl⟩
theorem ug(e:Mem T W ar X bl ρ w){aM:List (Nat×Nat)}{a_:List cG}{ys a:List (aD T.El)}{vs:List Value}(h:fZ aM a_ pbs bl ys=(bl',a))(f:aR T (aW X bl ρ w) w ρ bl ys vs):∃ρ',Mem T W ar X bl' ρ' w/\To X bl bl' ρ ρ' w w/\aR T (aW X bl' ρ' w) w ρ' bl' a vs:=by
 unfold fZ at h;cases I:kD pbs a_ bl ys with
 |mk k l=>rw[I]at h;obtain⟨g,b,c,v1⟩:=Q_ e I f;simp only at h;split at h;simp only[cY]at h;obtain⟨rfl,rfl⟩:=h;obtain⟨i,j,d⟩:=za b (pbs:=pbs) (ps:=pbs);exact⟨i,j,c.trans d,d.vs v1⟩;simp only[cY]at h;obtain⟨rfl,rfl⟩:=h;exact⟨g,b,c,v1⟩
end
structure eN (T:bA) where
 a_:List cG
 pbs:List bx
 dQ:List cG
 cR:List bx
 fn:cQ T.El a_×cg T.El pbs->Option (cQ T.El dQ×cg T.El cR)
def eN.run(E:Env)(c:eN E.T)(ys:List (aD E.T.El))(bl:List (ay E.T.El)):D (eO E.T.El):=match fZ [] c.a_ c.pbs bl ys with
 |(a,b)=>match h4 c.pbs c.cR,gP a [] false c.a_ c.pbs b with
  |true,some (d,sel)=>.op (c.fn d) λ r=>.ok ⟨.ret (jM (fa (hC sel a.length) (ez a sel c.cR) c.dQ r.1)),fk a sel c.cR r.2,sel⟩
  |_,_=>.no
def eN.fin{T:bA}(c:eN T)(r:eO T.El):Option (cQ T.El c.dQ×cg T.El c.cR):=match r.e with
 | .ret y=>match fZ (kV c.pbs.length) c.dQ c.cR r.bl (q3 c.dQ.length y)with
   |(a,b)=>match gP a (kV c.pbs.length) true c.dQ c.cR b with
    |some (d,_)=>some d
    |none=>none
 | .sX _=>none
def eN.Eq(E:Env)(a0:dN E)(LE:h7 E)(f:Nat)(c:eN E.T):Prop:=∀(aN:cQ E.T.El c.a_)(aO:cg E.T.El c.pbs),(kE E a0 LE f (fa id (b7 false c.pbs) c.a_ aN) (bw id (b7 false c.pbs) false c.pbs aO)).run c.fin=c.fn (aN,aO)
section
variable{T:bA}{F:Nat->Prop}{w:World}{ρ:List Value}{bl:List (ay T.El)}
theorem II:∀ {ps:List cG}{ys:List (aD T.El)}{aM a:List (Nat×Nat)}{d:cQ T.El ps},jt bl aM ps ys=some (d,a)->ys.length=ps.length
 |[],[],aM,a,d,h=>rfl
 |p::r,y::ys,aM,a,d,h=>by simp only[jt]at h;split at h;split at h;rename_i J;simp[II J];cases h;cases h
 |[],y::ys,aM,a,d,h=>by simp[jt]at h
 |p::r,[],aM,a,d,h=>by simp[jt]at h
theorem T8:∀ {vs:List Value},vs.length≠1 ->pack vs= .tuple ⟨vs⟩
 |[],_=>rfl
 |[v],h=>by simp at h
 |v::u::r,_=>rfl
theorem Vy{n:Nat}{y:aD T.El}{v:Value}(a:(q3 n y).length=n)(h:aq T F w ρ bl y v):∃vs,aR T F w ρ bl (q3 n y) vs/\pack vs=v:=by
 unfold q3 at a⊢;split at a;refine⟨[v],?_,rfl⟩;simp only[aR];exact⟨v,[],rfl,h,rfl⟩
 ·rename_i ag;have b:n≠1:=λ e=>by subst e;simp at ag
  split at a;simp only[aq]at h;obtain⟨vs,rfl,J⟩:=h;exact⟨vs,J,T8 (by rw[J.len,a];exact b)⟩;simp only[aq]at h;subst h;rename_i vs;exact⟨vs,E1 (E:=⟨default,T,[],true,[],0,λ _=>[]⟩) vs,T8 (by simpa using(by simpa using a:vs.length=n)▸b)⟩;simp at a;exact absurd a.symm b
end
section
variable{E:Env}{a0:dN E}{LE:h7 E}{f:Nat}
theorem Q9{pbs:List bx}:∀ {ps:List cG}{ys a:List (aD E.T.El)}{bl bl':List (ay E.T.El)},kD pbs ps bl ys=(bl',a)->a.length=ys.length
 |[],ys,a,bl,bl',h=>by simp only[kD,cY]at h;rw[h.2]
 |_::_,[],a,bl,bl',h=>by simp only[kD,cY]at h;rw[<-h.2]
 |p::r,y::ys,a,bl,bl',h=>by
  simp only[kD]at h;cases I:y' pbs p bl y with
  |mk b c=>
   rw[I]at h;cases J:kD pbs r b ys with
   |mk d e=>rw[J]at h;simp only[cY]at h;rw[<-h.2,df,Q9 J,df]
theorem Ra{aM:List (Nat×Nat)}{a_:List cG}{pbs:List bx}{ys a:List (aD E.T.El)}{bl bl':List (ay E.T.El)}(h:fZ aM a_ pbs bl ys=(bl',a)):a.length=ys.length:=by
 unfold fZ at h;cases I:kD pbs a_ bl ys with
 |mk b c=>rw[I]at h;simp only at h;split at h<;>(simp only[cY]at h;rw[<-h.2];exact Q9 I)
def eN.Gc(E:Env)(a0:dN E)(LE:h7 E)(f:Nat)(c:eN E.T):Prop:=∀(aN:cQ E.T.El c.a_)(aO:cg E.T.El c.pbs)(F:Nat->Prop)(w:World)(ρ:List Value)(bl:List (ay E.T.El))(vs:List Value),aR E.T F w ρ bl (fa id (b7 false c.pbs) c.a_ aN) vs ->
 ∃ys,aR E.T F w ρ bl ys vs/\∀r,c.fn (aN,aO)=some r->(kE E a0 LE f ys (bw id (b7 false c.pbs) false c.pbs aO)).run c.fin=some r
theorem eN.Eq.v{c:eN E.T}(h:c.Eq E a0 LE f):c.Gc E a0 LE f:=λ aN aO _ _ _ _ _ a=>⟨_,a,λ _ b=>(h aN aO).trans b⟩
def eN.l8(E:Env)(a0:dN E)(LE:h7 E)(f:Nat)(c:eN E.T):Prop:=∀(aN:cQ E.T.El c.a_)(aO:cg E.T.El c.pbs) r,c.fn (aN,aO)=some r->(kE E a0 LE f (fa id (b7 false c.pbs) c.a_ aN) (bw id (b7 false c.pbs) false c.pbs aO)).run c.fin=some r
theorem eN.l8.v{c:eN E.T}(h:c.l8 E a0 LE f):c.Gc E a0 LE f:=λ aN aO _ _ _ _ _ a=>⟨_,a,λ r b=>h aN aO r b⟩
def eN.Cj(E:Env)(f:Nat)(c:eN E.T):Prop:=∀(aN:cQ E.T.El c.a_)(aO:cg E.T.El c.pbs) h3,c.fn (aN,aO)=some h3->∀(W:World)(ar:List Nat)(X:Nat->Prop)(ρ:List Value)(w:World)(vs:List Value),Mem E.T W ar X (bw id (b7 false c.pbs) false c.pbs aO) ρ w->il E X (bw id (b7 false c.pbs) false c.pbs aO) ρ w->aR E.T (aW X (bw id (b7 false c.pbs) false c.pbs aO) ρ w) w ρ (bw id (b7 false c.pbs) false c.pbs aO) (fa id (b7 false c.pbs) c.a_ aN) vs ->
 ∃a,c.fin a=some h3/\Calls E.P f ⟨vs⟩ w λ e w'=>∃ρ',Mem E.T W ar X a.bl ρ' w'/\To X (bw id (b7 false c.pbs) false c.pbs aO) a.bl ρ ρ' w w'/\ew (bw id (b7 false c.pbs) false c.pbs aO) ρ w w' a.ws/\rD E X a.bl ρ' w' a.e e
theorem GR(M:ik E){c:eN E.T}(N:c.Cj E f):iI E f (c.run E):=by
 intro ys O r g W ar X ρ0 w vs P Q R;unfold eN.run at g;cases D:fZ [] c.a_ c.pbs O ys with
 |mk bl cx=>
 rw[D]at g;obtain⟨ρ,q,s,S⟩:=ug P D R;simp only at g;split at g
 ·rename_i d sel t F;obtain⟨aN,aO⟩:=d;obtain⟨h3,I,J⟩:=g;obtain⟨G,H⟩:=h3;have J:(⟨.ret (jM (fa (hC sel bl.length) (ez bl sel c.cR) c.dQ G)),fk bl sel c.cR H,sel⟩:eO E.T.El)=r:=J;subst J;obtain⟨n,_,T⟩:=rX q tV F;obtain⟨U,b⟩:=wL tV F;obtain⟨fl,V⟩:=T (aW (io X bl ρ sel) (bw id (b7 false c.pbs) false c.pbs aO) (gd ρ sel) w) λ k b=>n.s4 b;have Y:=n.enter q V;obtain⟨u,a,hc⟩:=N aN aO _ I _ _ _ _ _ vs Y ((Q.to s).enter M λ k b=>n.s4 b) (fl vs S);refine hc.mono λ e w' Z=>?_;obtain⟨NU,KM,MW,vD,l⟩:=Z;unfold eN.fin at a;cases K:u.e with
  |sX y=>rw[K]at a;cases a
  |ret y=>
   rw[K]at a l;simp only at a;cases e with
   |returned v=>
    have l:aq E.T _ w' NU u.bl y v:=l;cases x:fZ (kV c.pbs.length) c.dQ c.cR u.bl (q3 c.dQ.length y)with
    |mk yZ l5=>
    rw[x]at a;simp only at a;split at a
    ·rename_i rO MJ nz;have a:=eR a;subst a;have o:(q3 c.dQ.length y).length=c.dQ.length:=by rw[<-Ra x];unfold gP at nz;split at nz;rename_i Jc;exact II Jc;cases nz
     obtain⟨us,z,pd⟩:=Vy o l;obtain⟨tD,fz,MX,z⟩:=ug KM x z;have Bt:=MW.trans MX;obtain⟨A,mu,zZ⟩:=rX fz uG nz;obtain⟨r2,zO⟩:=wL uG nz;obtain⟨uF,ns⟩:=zZ (aW (io X bl ρ sel) (bw id (b7 true c.cR) true c.cR H) (gd tD MJ) w') λ k b=>A.A4 b;have Jx:=A.leave fz ns;have JP:=Ky (by rw[n.len,lV]) Bt A (λ j C=>mu (j,j) (uH.2 ⟨C,rfl⟩)) r2 t λ j i p h h'=>by obtain⟨B,m,al,aL⟩:=zO j i p h h';exact⟨B,m,al,aL⟩
     obtain⟨bp,dG,fV,gj⟩:=back (gq:=b7 true c.cR) q n U (λ j i B p h h' L=>by obtain⟨B',m,al,_⟩:=b j i p h L;rw[h']at m;cases m;exact Kc t L al) t (λ i hi=>by obtain⟨j,C,rfl⟩:=je.1 hi;obtain⟨B,m,_⟩:=b j _ _ (bu C) (bu (by omega:j<c.pbs.length));exact(bb.1 m).1) (λ j=>rfl) Jx JP;refine⟨_,bp,s.trans dG,?_,?_⟩;have:=ew.nil.b2 s fV;rwa [iW]at this
     ·show aq E.T _ w' _ _ (jM _) v
      rw[<-pd];exact EE (gj c.dQ G us (uF us z))
    ·cases a
   |panicked oq=>exact l.elim
   |outgrown=>exact l.elim
 ·exact g.elim
theorem wy(a:cv E)(b:gA E a0)(d:og E LE)(e:ik E){c:eN E.T}(g:c.Gc E a0 LE f):iI E f (c.run E):=GR e λ aN aO h3 I W ar X ρ w vs h i j=>by obtain⟨k,l,heq⟩:=g aN aO _ _ _ _ _ j;obtain⟨m,hb,n⟩:=D.qZ (heq _ I);exact⟨m,n,((C9 a b d).ok _ _ _ _ hb).2 _ _ _ _ _ vs h i l⟩
theorem Pt(a:cv E)(b:gA E a0)(d:og E LE)(e:ik E){c:eN E.T}(g:c.Eq E a0 LE f):iI E f (c.run E):=wy a b d e g.v
end
structure jU where
 dQ:List cG
 cR:List bx
@[reducible] def vU(El:Nat->Type)(w:jU):Type:=cQ El w.dQ×cg El w.cR
@[reducible] def rp(El:Nat->Type):List jU->Type
  |[]=>Empty
  |[w]=>vU El w
  |w::v::r=>vU El w⊕rp El (v::r)
structure jm (T:bA) where
 a_:List cG
 pbs:List bx
 ws:List jU
 fn:cQ T.El a_×cg T.El pbs->Option (rp T.El ws)
def A9(E:Env)(bl:List (ay E.T.El))(sel:List Nat)(w:jU)(r:vU E.T.El w):D (eO E.T.El):=.ok ⟨.ret (jM (fa (hC sel bl.length) (ez bl sel w.cR) w.dQ r.1)),fk bl sel w.cR r.2,sel⟩
def A_(E:Env)(bl:List (ay E.T.El))(sel:List Nat):(ws:List jU)->Option (rp E.T.El ws)->D (eO E.T.El)
 |[],_=>.no
 |[w],o=>.op o λ d=>A9 E bl sel w d
 |w::v::r,o=>.pa o (λ d=>A9 E bl sel w d) (λ q=>A_ E bl sel (v::r) (some q))
def AL(pbs:List bx):List jU->Bool
 |[]=>true
 |w::r=>h4 pbs w.cR&&AL pbs r
def jm.run(E:Env)(c:jm E.T)(ys:List (aD E.T.El))(bl:List (ay E.T.El)):D (eO E.T.El):=match fZ [] c.a_ c.pbs bl ys with
 |(a,b)=>match AL c.pbs c.ws,gP a [] false c.a_ c.pbs b with
  |true,some (d,sel)=>A_ E a sel c.ws (c.fn d)
  |_,_=>.no
def EZ{El:Nat->Type}(ga:Nat)(y:aD El)(bl:List (ay El))(w:jU):Option (vU El w):=match fZ (kV ga) w.dQ w.cR bl (q3 w.dQ.length y)with
 |(a,b)=>match gP a (kV ga) true w.dQ w.cR b with
  |some (d,_)=>some d
  |none=>none
def E_{El:Nat->Type}(ga:Nat)(y:aD El)(bl:List (ay El)):(ws:List jU)->Option (rp El ws)
 |[]=>none
 |[w]=>EZ ga y bl w
 |w::v::r=>match EZ ga y bl w with
  |some d=>some (.inl d)
  |none=>match E_ ga y bl (v::r)with
   |some q=>some (.inr q)
   |none=>none
def jm.fin{T:bA}(c:jm T)(r:eO T.El):Option (rp T.El c.ws):=match r.e with
 | .ret y=>E_ c.pbs.length y r.bl c.ws
 | .sX _=>none
def jm.Eq(E:Env)(a0:dN E)(LE:h7 E)(f:Nat)(c:jm E.T):Prop:=∀(aN:cQ E.T.El c.a_)(aO:cg E.T.El c.pbs),(kE E a0 LE f (fa id (b7 false c.pbs) c.a_ aN) (bw id (b7 false c.pbs) false c.pbs aO)).run c.fin=c.fn (aN,aO)
section
variable{E:Env}{a0:dN E}{LE:h7 E}{f:Nat}
theorem TX{pbs:List bx}:∀ {ws:List jU}{w:jU},AL pbs ws=true->w∈ws->h4 pbs w.cR=true
 |[],w,_,h=>by simp at h
 |v::r,w,h,hm=>by simp only[AL,bL]at h;rcases dc.1 hm with rfl |hm;exact h.1;exact TX h.2 hm
theorem U6{ga:Nat}{y:aD E.T.El}{bl:List (ay E.T.El)}:∀ {ws:List jU}{r:rp E.T.El ws},E_ ga y bl ws=some r->∃(w:jU)(d:vU E.T.El w),w∈ws/\EZ ga y bl w=some d/\∀bl' sel t,(A_ E bl' sel ws (some r)).out t->(A9 E bl' sel w d).out t
 |[],r,h=>by cases h
 |[w],r,h=>⟨w,r,by simp,h,λ bl' sel t b=>by obtain⟨d,a,al⟩:=b;simp only[aK]at a;subst a;exact al⟩
 |w::v::ws,r,h=>by simp only[E_]at h;split at h;rename_i d aE;simp only[aK]at h;subst h;refine⟨w,d,by simp,aE,λ bl' sel t b=>?_⟩;rcases b with⟨d',a,al⟩|⟨d',a,al⟩;simp only[aK,Sum.inl.injEq]at a;subst a;exact al;simp at a;split at h;rename_i q c;simp only[aK]at h;subst h;obtain⟨w',d,I,J,e⟩:=U6 c;refine⟨w',d,fg _ I,J,λ bl' sel t b=>?_⟩;rcases b with⟨d',a,al⟩|⟨d',a,al⟩;simp at a;simp only[aK,Sum.inr.injEq]at a;subst a;exact e bl' sel t al;cases h
theorem aj9{bl:List (ay E.T.El)}{sel:List Nat}:∀ {ws:List jU}{o:Option (rp E.T.El ws)}{t:eO E.T.El},(A_ E bl sel ws o).out t->∃r,o=some r/\(A_ E bl sel ws (some r)).out t
 |[],o,t,h=>h.elim
 |[w],o,t,h=>by obtain⟨d,a,al⟩:=h;exact⟨d,a,d,rfl,al⟩
 |w::v::r,o,t,h=>by rcases h with⟨d,a,al⟩|⟨d,a,al⟩;exact⟨_,a,.inl ⟨d,rfl,al⟩⟩;exact⟨_,a,.inr ⟨d,rfl,al⟩⟩
def jm.l8(E:Env)(a0:dN E)(LE:h7 E)(f:Nat)(c:jm E.T):Prop:=∀(aN:cQ E.T.El c.a_)(aO:cg E.T.El c.pbs) r,c.fn (aN,aO)=some r->(kE E a0 LE f (fa id (b7 false c.pbs) c.a_ aN) (bw id (b7 false c.pbs) false c.pbs aO)).run c.fin=some r
theorem jm.Eq.one{c:jm E.T}(h:c.Eq E a0 LE f):c.l8 E a0 LE f:=λ aN aO _ a=>(h aN aO).trans a
theorem ZE(R:cv E)(S:gA E a0)(T:og E LE)(U:ik E){c:jm E.T}(V:c.l8 E a0 LE f):iI E f (c.run E):=by
 intro ys Y r g W ar X ρ0 w vs Z zB bY;unfold jm.run at g;cases L:fZ [] c.a_ c.pbs Y ys with
 |mk bl cx=>
 rw[L]at g;obtain⟨ρ,s,t,ai⟩:=ug Z L bY;simp only at g;split at g
 ·rename_i d sel u M;obtain⟨aN,aO⟩:=d;obtain⟨h3,I,J⟩:=aj9 g;obtain⟨o,_,lA⟩:=rX s tV M;obtain⟨pW,a⟩:=wL tV M;obtain⟨fl,bJ⟩:=lA (aW (io X bl ρ sel) (bw id (b7 false c.pbs) false c.pbs aO) (gd ρ sel) w) λ k a=>o.s4 a;have j6:=o.enter s bJ;have z6:=fl vs ai;obtain⟨x,hb,b⟩:=D.qZ (V aN aO _ I);have zF:=(zB.to t).enter U λ k a=>o.s4 a;have hc:=((C9 R S T).ok _ _ _ _ hb).2 _ _ _ _ _ vs j6 zF z6;unfold jm.fin at b;cases z:x.e with
  |sX y=>rw[z]at b;cases b
  |ret y=>
   rw[z]at b;simp only at b;obtain⟨iR,N,hw,l,A⟩:=U6 b;have C:=TX u hw;have J:=A _ _ _ J;obtain⟨O,P⟩:=N;have J:(⟨.ret (jM (fa (hC sel bl.length) (ez bl sel iR.cR) iR.dQ O)),fk bl sel iR.cR P,sel⟩:eO E.T.El)=r:=J;subst J;refine hc.mono λ e w' aC=>?_;obtain⟨NU,KM,MW,vD,m⟩:=aC;rw[z]at m;cases e with
   |returned v=>
    have m:aq E.T _ w' NU x.bl y v:=m;unfold EZ at l;cases F:fZ (kV c.pbs.length) iR.dQ iR.cR x.bl (q3 iR.dQ.length y)with
    |mk yZ l5=>
    rw[F]at l;simp only at l;split at l
    ·rename_i N MJ nz;have b:=eR l;subst b;have q:(q3 iR.dQ.length y).length=iR.dQ.length:=by rw[<-Ra F];unfold gP at nz;split at nz;rename_i Jc;exact II Jc;cases nz
     obtain⟨us,G,pd⟩:=Vy q m;obtain⟨tD,fz,MX,G⟩:=ug KM F G;have Bt:=MW.trans MX;obtain⟨H,mu,zZ⟩:=rX fz uG nz;obtain⟨r2,zO⟩:=wL uG nz;obtain⟨uF,ns⟩:=zZ (aW (io X bl ρ sel) (bw id (b7 true iR.cR) true iR.cR P) (gd tD MJ) w') λ k a=>H.A4 a;have Jx:=H.leave fz ns;have JP:=Ky (by rw[o.len,lV]) Bt H (λ j K=>mu (j,j) (uH.2 ⟨K,rfl⟩)) r2 C λ j i p h h'=>by obtain⟨B,n,al,aL⟩:=zO j i p h h';exact⟨B,n,al,aL⟩
     obtain⟨bp,dG,fV,gj⟩:=back (gq:=b7 true iR.cR) s o pW (λ j i B p h h' Q=>by obtain⟨B',n,al,_⟩:=a j i p h Q;rw[h']at n;cases n;exact Kc C Q al) C (λ i hi=>by obtain⟨j,K,rfl⟩:=je.1 hi;obtain⟨B,n,_⟩:=a j _ _ (bu K) (bu (by omega:j<c.pbs.length));exact(bb.1 n).1) (λ j=>rfl) Jx JP;refine⟨_,bp,t.trans dG,?_,?_⟩;have:=ew.nil.b2 t fV;rwa [iW]at this
     ·show aq E.T _ w' _ _ (jM _) v
      rw[<-pd];exact EE (gj iR.dQ O us (uF us G))
    ·cases l
   |panicked oq=>exact m.elim
   |outgrown=>exact m.elim
 ·exact g.elim
end
def ri{α:Type}:List Nat->List α->List (Nat×α)
 |s::r,y::ys=>(s,y)::ri r ys
 |_,_=>[]
def nR:List bx->List bx->Bool
 | .r _ s::r,.r _ s'::a=>(s|| !s')&&nR r a
 |_::r,_::a=>nR r a
 |_,_=>true
def xE(E:Env)(ga:Nat)(bl:List (ay E.T.El))(f:b5 E.T.El)(eJ:List Nat)(a_:List cG)(pbs:List bx):Option (cQ E.T.El a_×cg E.T.El pbs):=match lT E bl f [] (eJ.map .tmp)with
 |some ys=>match fZ (kV ga) a_ pbs bl ys with
  |(a,b)=>match gP a (kV ga) true a_ pbs b with
   |some (d,_)=>some d
   |none=>none
 |none=>none
section
variable{T:bA}{F:Nat->Prop}{w w':World}{ρ:List Value}{bl:List (ay T.El)}
theorem ab6{aM:List (Nat×Nat)}{p:bx}{B:ay T.El}{r:n_ T.El p×List (Nat×Nat)}(h:g7 bl aM true p B=some r):g7 bl aM false p B=some r:=by
 cases p with
 |c ty ps=>exact h
 |m kt vt=>exact h
 |d=>exact h
 |r t same=>simp only[g7]at h⊢;split at h;split at h;simpa using h;cases h;cases h
theorem Rr:∀ {ps:List bx}{aM:List (Nat×Nat)}{k:Nat}{r:cg T.El ps×List (Nat×Nat)},kI bl true aM k ps=some r->kI bl false aM k ps=some r
 |[],aM,k,r,h=>h
 |p::ps,aM,k,r,h=>by simp only[kI]at h⊢;split at h;split at h;split at h;rename_i d a I;rw[ab6 I];simp only;split at h;rename_i b c J;rw[Rr J];exact h;cases h;cases h;cases h;cases h
theorem ab9{aM:List (Nat×Nat)}{a_:List cG}{pbs:List bx}{ys:List (aD T.El)}{r:(cQ T.El a_×cg T.El pbs)×List Nat}(h:gP bl aM true a_ pbs ys=some r):gP bl aM false a_ pbs ys=some r:=by unfold gP at h⊢;split at h;split at h;rename_i J;rw[Rr J];exact h;cases h;cases h
theorem NQ{t:Nat}{y:aD T.El}{a:Act}:∀ {eJ:List Nat}{ys:List (aD T.El)},aR T F w ρ bl ys ((eJ.map Operand.tmp).map a.eval)->c6 (ri eJ ys) t=some y->aq T F w ρ bl y (a.tmps.getD t undef)
 |[],ys,_,h=>by simp[ri,c6]at h
 |s::r,[],_,h=>by simp[ri,c6]at h
 |s::r,z::ys,b,h=>by simp only[fA,aR]at b;obtain⟨u,us,e,I,J⟩:=b;simp only[hN]at e;obtain⟨rfl,rfl⟩:=e;simp only[ri,c6]at h;split at h;rename_i ag;simp only[aK]at h;subst h;rw[<-aZ ag];exact I;exact NQ J h
theorem EN{σ g σ' g':Nat->Nat}{post post':Bool}:∀ {ps:List bx}{d:cg T.El ps}{j:Nat}{B:ay T.El},(bw σ g post ps d)[j]? =some B->∃B',(bw σ' g' post' ps d)[j]? =some B'/\∀u,a6 B' u=a6 B u
 |[],d,j,B,h=>by simp[bw]at h
 |p::r,d,0,B,h=>by simp only[bw,dX,aK]at h;subst h;refine⟨cK σ' g' post' p d.1,rfl,λ u=>?_⟩;cases p<;>rfl
 |p::r,d,j+1,B,h=>by obtain⟨B',I,J⟩:=EN (σ':=σ') (g':=g') (post':=post') (ps:=r) (d:=d.2) (j:=j) (by simpa[bw]using h);exact⟨B',by simpa[bw]using I,J⟩
theorem Mt{X:Nat->Prop}{σ g σ' g':Nat->Nat}{post post':Bool}{ps:List bx}{d:cg T.El ps}{k:Nat}(h:aW X (bw σ g post ps d) ρ w k):aW X (bw σ' g' post' ps d) ρ w k:=⟨h.1,λ⟨j,B,u,I,J,a⟩=>by obtain⟨B',b,al⟩:=EN (σ':=σ) (g':=g) (post':=post) I;exact h.2.1 ⟨j,B',u,b,J,by rw[al];exact a⟩,h.2.2⟩
theorem TY:∀ {ps qs:List bx}{j:Nat}{p q:bx},nR ps qs=true->ps[j]? =some p->qs[j]? =some q->sd p q=true->ef true (some q)=0 ->ef true (some p)=0
 |[],_,j,p,q,_,h,_,_,_=>by simp at h
 |a::r,[],j,p,q,_,_,h,_,_=>by simp at h
 |a::r,b::s,0,p,q,c,h,h',e,d=>by
  simp only[dX,aK]at h h';subst h;subst h';cases a<;>cases b<;>simp only[sd,ie]at e<;>try first |rfl |(simp[ef]at d;done)
  simp only[nR,bL,hZ,gI]at c;rename_i i f k g;cases f<;>cases g<;>simp[ef]at c d⊢
 |a::r,b::s,j+1,p,q,c,h,h',e,d=>by refine TY (ps:=r) (qs:=s) (j:=j) ?_ (by simpa using h) (by simpa using h') e d;cases a<;>cases b<;>simp only[nR,bL]at c<;>first |exact c.2 |exact c
variable{X:Nat->Prop}{pre bZ:List bx}{d0 d1:cg T.El pre}{d2:cg T.El bZ}{ρ0 cl gy:List Value}{w0 bV cu:World}
theorem AW{σ g:Nat->Nat}{post:Bool}:∀ {ps:List bx}{d:cg T.El ps}{j:Nat},j<ps.length->∃p a,ps[j]? =some p/\∀σ' g' post',(bw σ' g' post' ps d)[j]? =some (cK σ' g' post' p a)
 |[],d,j,h=>by simp at h
 |p::r,d,0,h=>⟨p,d.1,rfl,λ _ _ _=>rfl⟩
 |p::r,d,j+1,h=>by obtain⟨q,a,I,J⟩:=AW (σ:=σ) (g:=g) (post:=post) (ps:=r) (d:=d.2) (j:=j) (by simpa using h);exact⟨q,a,by simpa using I,λ σ' g' post'=>by simpa[bw]using J σ' g' post'⟩
theorem akM:To X (bw id (b7 false pre) false pre d0) (bw id (b7 true pre) true pre d0) ρ0 ρ0 w w:=by
 refine⟨λ k a=>⟨Mt a,rfl⟩,⟨λ i h hi=>⟨h,hi,λ _=>rfl,?_⟩⟩,da _,λ i B' h' hi f k a _=>?_⟩
 ·rcases gE i pre.length with au |au
  ·obtain⟨p,j,b,al⟩:=AW (σ:=id) (g:=id) (post:=true) (d:=d0) au;rw[al,al];cases p with
   |c ty ps=>exact⟨da _,λ _=>⟨rfl,rfl,da _,λ _=>rfl⟩⟩
   |r t s=>exact⟨by simp[cK,bI,ef],λ _=>⟨rfl,rfl,by simp[cK,ff,ts],λ e=>by simp[cK,ff,ts]at e⟩⟩
   |m kt vt=>exact⟨da _,λ _=>⟨rfl,rfl,da _,λ _=>rfl⟩⟩
   |d=>exact⟨by simp[cK,bI,ef],λ e=>by simp[cK,bI,ef]at e⟩
  ·rw[gV (by rw[lV];exact au),gV (by rw[lV];exact au)];exact⟨da _,λ _=>⟨rfl,rfl,da _,λ _=>rfl⟩⟩
 ·obtain⟨B,b,al⟩:=EN (σ':=id) (g':=b7 false pre) (post':=false) hi;exact⟨B,h',b,f,by rw[al];exact a⟩
theorem Vq(n:h4 pre bZ=true)(z:nR pre bZ=true)(L:ρ0.length=pre.length)(h:To X (bw id (b7 false pre) false pre d0) (bw id (b7 true pre) true pre d1) ρ0 cl w0 bV)(k:To X (bw id (b7 false pre) false pre d1) (bw id (b7 true bZ) true bZ d2) cl gy bV cu) :
 To X (bw id (b7 false pre) false pre d0) (bw id (b7 true bZ) true bZ d2) ρ0 gy w0 cu:=by
 have M:=Bb n
 refine⟨λ q l=>?_,⟨λ i u hi=>?_⟩,fo h.sz k.sz,λ i B' h' hi A q l o=>?_⟩
 ·obtain⟨a,al⟩:=h.F q l;obtain⟨aL,bB⟩:=k.F q (Mt a);exact⟨aL,bB.trans al⟩
 ·have r:i<pre.length:=by have:=(bb.1 hi).1;omega
  obtain⟨p,N,a,al⟩:=AW (σ:=id) (g:=id) (post:=true) (d:=d0) r;obtain⟨O,P,b,c⟩:=AW (σ:=id) (g:=id) (post:=true) (d:=d1) r;obtain⟨q,C,s,t⟩:=AW (σ:=id) (g:=id) (post:=true) (d:=d2) (show i<bZ.length by omega);rw[a]at b;cases b;have m:=Ba n a s;have D:=TY z a s m;obtain⟨E,G,H,Q,f⟩:=h.L.at_ i u hi;obtain⟨I,J,K,R,j⟩:=k.L.at_ i E G;rw[al,c]at f;rw[c,t]at j;refine⟨I,J,λ v=>?_,?_⟩;have e:=H v;rw[K (by rw[e];exact v),e];rw[al,t];cases p<;>cases q<;>simp only[sd,ie]at m;exact⟨da _,λ _=>⟨(j rfl).1.trans (f rfl).1,rfl,da _,λ _=>rfl⟩⟩;exact⟨hh _,λ e=>by simp[cK,bI,ef]at e⟩;have:=aZ m;subst this;rename_i x y;refine⟨by cases x<;>cases y<;>simp[cK,bI,ef],λ e=>⟨(j ?_).1.trans (f ?_).1,rfl,by simp[cK,ff,ts],λ e=>by simp[cK,ff,ts]at e⟩⟩<;>cases x<;>cases y<;>simp[cK,bI,ef]at e D⊢;exact⟨by simp[cK,bI,ef],λ e=>by simp[cK,bI,ef]at e⟩;exact⟨da _,λ _=>⟨(j rfl).1.trans (f rfl).1,rfl,da _,λ _=>rfl⟩⟩;exact⟨hh _,λ e=>by simp[cK,bI,ef]at e⟩
 ·obtain⟨B,u,a,al,aL⟩:=k.kH i B' h' hi A q l (dY o h.sz);obtain⟨tE,b,c⟩:=EN (σ':=id) (g':=b7 true pre) (post':=true) a;exact h.kH i tE u b al q (by rw[c];exact aL) o
end
section
variable{E:Env}{W w w':World}{ar:List Nat}{X:Nat->Prop}{n:b'}{f:b5 E.T.El}{bl:List (ay E.T.El)}{ρ kp:List Value}{a:Act}{pre pbs:List bx}{a_:List cG}{kB:cg E.T.El pre}{aN:cQ E.T.El a_}{aO:cg E.T.El pbs}{eJ:List Nat}
def Told(E:Env)(W:World)(ar:List Nat)(X:Nat->Prop)(eJ:List Nat)(a_:List cG)(pbs:List bx)(aN:cQ E.T.El a_)(aO:cg E.T.El pbs)(ρ:List Value)(a:Act)(w:World)(post:Bool):Prop:=Mem E.T W ar X (bw id (b7 post pbs) post pbs aO) ρ w/\aR E.T (aW X (bw id (b7 post pbs) post pbs aO) ρ w) w ρ (bw id (b7 post pbs) post pbs aO) (fa id (b7 post pbs) a_ aN) ((eJ.map Operand.tmp).map a.eval)
theorem UQ(h:R E W ar X n f bl ρ a w')(u:kp.length=pre.length)(v:h4 pre pbs=true)(x:To X (bw id (b7 false pre) false pre kB) bl kp ρ w w')(b:xE E pre.length bl f eJ a_ pbs=some (aN,aO)) :
 ∃r,(∀post,Told E W ar X eJ a_ pbs aN aO r a w' post)/\To X (bw id (b7 false pre) false pre kB) (bw id (b7 true pbs) true pbs aO) kp r w w':=by
 unfold xE at b
 split at b
 ·rename_i ys y;have z:=xp h (cur:=[]) trivial y;cases s:fZ (kV pre.length) a_ pbs bl ys with
  |mk J K=>
  rw[s]at b;simp only at b;split at b
  ·rename_i d sel e;simp only[aK]at b;subst b;obtain⟨g,c,A,v1⟩:=ug h.mem s z;obtain⟨l,C,D⟩:=rX c uG e;obtain⟨t,_,m⟩:=rX c uG (ab9 e);obtain⟨F,G⟩:=wL uG e;refine⟨gd g sel,λ post=>?_,Ky u (x.trans A) l (λ j H=>C (j,j) (uH.2 ⟨H,rfl⟩)) F v λ j i p h h'=>?_⟩
   ·cases post with
    |true=>obtain⟨o,ns⟩:=D (aW X (bw id (b7 true pbs) true pbs aO) (gd g sel) w') λ k q=>l.A4 q;exact⟨l.leave c ns,o _ v1⟩
    |false=>obtain⟨o,ns⟩:=m (aW X (bw id (b7 false pbs) false pbs aO) (gd g sel) w') λ k q=>t.A4 q;exact⟨t.leave c ns,o _ v1⟩
   ·obtain⟨B,I,al,aL⟩:=G j i p h h';exact⟨B,I,al,aL⟩
  ·cases b
 ·cases b
end
end a8
