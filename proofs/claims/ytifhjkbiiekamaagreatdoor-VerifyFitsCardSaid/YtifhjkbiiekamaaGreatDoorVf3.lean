/- Part 3 of the proof that is ended in the last text: small logic, what the functions compute, walks, plain laws. -/
import Derived.Test.YtifhjkbiiekamaaGreatDoorVf2
open Array renaming getD_eq_getD_getElem?->df,getElem?_eq_getElem->iH,getElem?_eq_none->hA,getElem?_eq_some_iff->ee,getElem?_setIfInBounds->d_,getElem?_toList->g5,setIfInBounds_comm->ij
open Bool renaming and_eq_true->bM,eq_false_iff->gA,false_eq_true->hT,not_eq_true'->gx,or_eq_false_iff->ke,or_eq_true->h1
open List renaming all_eq_true->jX,append_assoc->ja,append_nil->jb,cons.injEq->hH,getElem?_append_left->eF,getElem?_append_right->eW,getElem?_cons_zero->dm,getElem?_drop->je,getElem?_eq_getElem->bx,getElem?_eq_none->gM,getElem?_eq_some_iff->bg,getElem?_map->kc,getElem?_set_ne->iu,getElem?_set_self->fS,getElem?_take->ht,length_cons->dp,length_set->lv,length_take->fM,map_cons->eZ,map_nil->h6,mem_append->de,mem_cons->cU,mem_cons_of_mem->fD,mem_iff_getElem->jk,mem_of_getElem?->bR,mem_singleton->ft,nodup_cons->jC,not_mem_nil->hl,pairwise_iff_getElem->jw
open Nat renaming beq->b2,ble->hR,blt->eh,decEq->kJ,eq_of_beq_eq_true->a8,le_of_ble_eq_true->b_,le_refl->cS,le_trans->eY,lt_of_lt_of_le->dr,lt_or_ge->gw,lt_succ_self->kA,min_eq_left->lu,zero_add->jJ,zero_le->g_
open Option renaming bind_some->ae,getD_some->h2,map_eq_some_iff->cQ,some.inj->eG,some.injEq->aM
open Prod renaming mk.injEq->cv
noncomputable section
namespace a9
open Go Go.RowKit aw ad
inductive Ps (El:Nat->Type):Type
 |ret (y:aE El)
 |tP (y:aE El)
structure eX (El:Nat->Type) where
 e:Ps El
 bl:List (az El)
 ws:List Nat
abbrev dW(E:Env):=Nat->List (aE E.T.El)->List (az E.T.El)->D (eX E.T.El)
structure dg (El:Nat->Type) where
 f:cf El
 bl:List (az El)
 ws:List Nat
inductive zL (El:Nat->Type):Type
 |nm
 |ex (id:Nat)
 |rt
 |eR (y:aE El)
structure b1 (El:Nat->Type) where
 x:zL El
 s:dg El
def eH{El:Nat->Type}(bl:List (az El))(ρ:List Value)(w w':World)(ws:List Nat):Prop:=∀k,k<w.heap.size->(∀i∈ws,∀B h,bl[i]? =some B->ρ[i]? =some h->k∉a_ B h)->w'.heap[k]? =w.heap[k]?
section
variable{T:bD}{X:Nat->Prop}{bl bl' qg:List (az T.El)}{ρ ρ' zq:List Value}{w w' w'':World}{s s':List Nat}
theorem eH.nil:eH bl ρ w w []:=λ _ _ _=>rfl
theorem eH.cc(h:eH bl ρ w w' s)(b:To X bl bl' ρ ρ' w w')(k:eH bl' ρ' w' w'' s'):eH bl ρ w w'' (s'++s):=λ q a c=>(k q (dr a b.sz) λ i hi B h ag d e=>by obtain⟨hx,f,g,al,aN⟩:=b.kR i B h ag d q e a;exact c i (de.2 (.inl hi)) hx f g al aN).trans (h q a λ i hi=>c i (de.2 (.inr hi)))
theorem eH.same(h:eH bl ρ w w' s)(e:∀q:Nat,w''.heap[q]? =w'.heap[q]?):eH bl ρ w w'' s:=λ q a b=>(e q).trans (h q a b)
end
def sd(E:Env)(X:Nat->Prop)(bl:List (az E.T.El))(ρ:List Value)(w:World):Ps E.T.El->Ending->Prop
 | .ret y,.returned v=>ar E.T (aY X bl ρ w) w ρ bl y v
 | .tP y,.panicked c=>∃v,c=[{ v,recovered:=false }]/\ar E.T (aY X bl ρ w) w ρ bl y v
 |_,_=>False
def iB(E:Env)(X:Nat->Prop)(bl:List (az E.T.El))(ρ:List Value)(w:World):Prop:=∀g y,dk E.eg g=some y->ar E.T (aY X bl ρ w) w ρ bl y (.pointer (some ⟨g,0,none⟩))
def iA(E:Env):Prop:=∀g y,dk E.eg g=some y->∃t d o,y= .x t d o
theorem iB.enter{E:Env}{X b:Nat->Prop}{bl bl':List (az E.T.El)}{ρ ρ':List Value}{w:World}(f:iA E)(h:iB E X bl ρ w)(c:∀k,aY X bl ρ w k->aY b bl' ρ' w k):iB E b bl' ρ' w:=λ g y e=>by obtain⟨t,d,o,rfl⟩:=f g y e;have:=h g _ e;simp only[ar]at this⊢;obtain⟨a,q,cs,I,J,i,j⟩:=this;exact⟨a,q,cs,I,c a J,(E.T.ty t).law (λ k l=>⟨c k l,rfl⟩) i,j⟩
theorem iB.to{E:Env}{X:Nat->Prop}{bl bl':List (az E.T.El)}{ρ ρ':List Value}{w w':World}(h:iB E X bl ρ w)(a:To X bl bl' ρ ρ' w w'):iB E X bl' ρ' w':=λ g y b=>a.v (h g y b)
structure gH (E:Env) (a4:dW E):Prop where
 ok:∀f ys bl r,(a4 f ys bl).out r->(∀args w,(callFunc f args).run E.P w= .ok (.enter f args) w)/\
  ∀(W:World)(au:List Nat)(X:Nat->Prop)(ρ:List Value)(w:World)(vs:List Value),Mem E.T W au X bl ρ w->iB E X bl ρ w->aR E.T (aY X bl ρ w) w ρ bl ys vs ->
   Calls E.P f ⟨vs⟩ w λ e w'=>∃ρ',Mem E.T W au X r.bl ρ' w'/\To X bl r.bl ρ ρ' w w'/\eH bl ρ w w' r.ws/\sd E X r.bl ρ' w' r.e e
structure lC (El:Nat->Type) where
 f:cf El
 aC:Option (Option Nat)
def MN(E:Env)(bl:List (az E.T.El))(f:cf E.T.El)(d:Nat)(op:Op):D (lC E.T.El):=(xS E bl f [] op).bind λ y=>.ok ⟨f.put d y,m4 E bl f [] op⟩
def F3(E:Env)(bl:List (az E.T.El))(f:cf E.T.El)(d:Nat)(want c:Bool)(op:Op):D (lC E.T.El):=match xC c want with
 |true=>MN E bl f d op
 |false=>.ok ⟨f.put d (.p undef),none⟩
def cf.know{El:Nat->Type}(f:cf El)(j:Nat)(b:Bool):cf El:=⟨f.aQ,f.gs,(j,b)::f.du⟩
def Wt(E:Env)(ops:Array Oper)(d:Nat):List Oper->Bool
 |[]=>false
 |o::r=>(match o.guard with
  |some (j,_)=>match Ah ops j,(match o.op with
   | .indexAddr _ _ _=>Dp.e
   | .index _ _ _=>Dp.e
   | .slice _ _ _ _ _=>Dp.e
   |op=>v5 E.P op)with
    |_,.q=>false
    |some d',_=>b2 d' d
    |none,_=>false
  |none=>false)||Wt E ops d r
def BU(E:Env)(ops:Array Oper)(n:Nat)(bl:List (az E.T.El))(f:cf E.T.El)(o:Oper):D (lC E.T.El):=match o.dst with
 |none=>.no
 |some d=>match eh d n with
  |false=>.no
  |true=>match Ac E ops f n o.guard with
   | .run=>MN E bl f d o.op
   | .skip=>.ok ⟨f.put d (.p undef),none⟩
   | .maybe a6 want b=>match xS E bl f [(a6,want)] o.op,b2 a6 d||Wt E ops d ops.toList with
     | .ok y,false=>.ok ⟨f.nd d a6 want y,m4 E bl f [(a6,want)] o.op⟩
     |_,_=>.mB b (F3 E bl (f.know a6 true) d want true o.op) (F3 E bl (f.know a6 false) d want false o.op)
   | .cond a6 want=>match xS E bl f [(a6,want)] o.op,b2 a6 d with
     | .ok y,false=>.ok ⟨f.nd d a6 want y,m4 E bl f [(a6,want)] o.op⟩
     |_,_=>.no
   | .no=>.no
section
variable{E:Env}{W w w':World}{au:List Nat}{X:Nat->Prop}{n:cm}{f:cf E.T.El}{bl:List (az E.T.El)}{ρ:List Value}{a:Act}{ops:Array Oper}{o:Oper}
theorem R.nd{d j:Nat}{b:Bool}{y:aE E.T.El}{v:Value}(h:R E W au X n f bl ρ a w)(aC:eh d n.n=true)(c:b2 j d=false)(e:a.tmps.getD j undef= .bool b->ar E.T (aY X bl ρ w) w ρ bl y v):R E W au X n (f.nd d j b y) bl ρ (a.put (some d) v) w:=⟨h.mem,h.db.nd aC c e,h.eg⟩
theorem R.know{j:Nat}{b:Bool}(h:R E W au X n f bl ρ a w)(c:a.tmps.getD j undef= .bool b):R E W au X n (f.know j b) bl ρ a w:=⟨h.mem,⟨h.db.dX,h.db.gs,λ p aB=>by
 rcases cU.1 aB with rfl |aB;exact c
 ·exact h.db.du p aB⟩,h.eg⟩
def zE(E:Env)(W:World)(au:List Nat)(X:Nat->Prop)(n:cm)(bl:List (az E.T.El))(ρ:List Value)(a:Act)(w:World)(ops:Array Oper)(o:Oper)(d:Nat)(r:lC E.T.El):Prop:=∃u,R E W au X n r.f bl ρ (a.put (some d) u) w/\((Region.wanted o (yielded ops a.tmps)=true/\sg E.P o a X bl ρ w u r.aC)\/(Region.wanted o (yielded ops a.tmps)=false/\u=undef))
theorem VE(b:cJ E)(h:R E W au X n f bl ρ a w){d:Nat}(aC:eh d n.n=true)(c:Region.wanted o (yielded ops a.tmps)=true){r:lC E.T.El}(e:(MN E bl f d o.op).out r):zE E W au X n bl ρ a w ops o d r:=by obtain⟨y,I,J⟩:=D.fc e;have J:(⟨f.put d y,m4 E bl f [] o.op⟩:lC E.T.El)=r:=J;subst J;obtain⟨u,g,i⟩:=R' b h (cur:=[]) trivial rfl I;exact⟨u,h.put aC g,.inl ⟨c,i⟩⟩
theorem VG(h:R E W au X n f bl ρ a w){d:Nat}(aC:eh d n.n=true)(b:Region.wanted o (yielded ops a.tmps)=false):zE E W au X n bl ρ a w ops o d ⟨f.put d (.p undef),none⟩:=⟨undef,h.put aC (by simp only[ar]),.inr ⟨b,rfl⟩⟩
theorem VF(i:cJ E)(h:R E W au X n f bl ρ a w){d a6:Nat}{want c:Bool}(aC:eh d n.n=true)(e:a.tmps.getD a6 undef= .bool c)(g:Region.wanted o (yielded ops a.tmps)=true↔a.tmps.getD a6 undef= .bool want){r:lC E.T.El}(b:(F3 E bl f d want c o.op).out r):zE E W au X n bl ρ a w ops o d r:=by unfold F3 at b;split at b;rename_i ag;rw[si]at ag;subst ag;exact VE i h aC (g.2 e) b;rename_i ag;have b:(⟨f.put d (.p undef),none⟩:lC E.T.El)=r:=b;subst b;refine VG h aC ((gA).2 λ j=>?_);have:=g.1 j;rw[e]at this;injection this with this;rw[si.2 this]at ag;cases ag
theorem VD(g:cJ E)(h:R E W au X n f bl ρ a w){d a6:Nat}{want:Bool}(aC:eh d n.n=true)(c:b2 a6 d=false)(e:Region.wanted o (yielded ops a.tmps)=true↔a.tmps.getD a6 undef= .bool want){y:aE E.T.El}(i:xS E bl f [(a6,want)] o.op= .ok y):zE E W au X n bl ρ a w ops o d ⟨f.nd d a6 want y,m4 E bl f [(a6,want)] o.op⟩:=by by_cases ag:a.tmps.getD a6 undef= .bool want;obtain⟨u,j,k⟩:=R' g h (cur:=[(a6,want)]) (o:=o) (z:=y) ⟨ag,trivial⟩ rfl (by rw[i];rfl);exact⟨u,h.nd aC c λ _=>j,.inl ⟨e.2 ag,k⟩⟩;exact⟨undef,h.nd aC c λ b=>absurd b ag,.inr ⟨(gA).2 λ b=>ag (e.1 b),rfl⟩⟩
theorem MO(i:cJ E)(h:R E W au X n f bl ρ a w){r:lC E.T.El}(c:(BU E ops n.n bl f o).out r):∃d,o.dst=some d/\zE E W au X n bl ρ a w ops o d r:=by have e:=Sz (ops:=ops) (o:=o) h;unfold BU at c;split at c;exact c.elim;rename_i d l;refine⟨d,l,?_⟩;split at c;exact c.elim;rename_i aC;split at c;rename_i g;rw[g]at e;exact VE i h aC e c;rename_i g;rw[g]at e;have c:(⟨f.put d (.p undef),none⟩:lC E.T.El)=r:=c;subst c;exact VG h aC e;rename_i a6 want b g;rw[g]at e;obtain⟨m,k,j⟩:=e;split at c;rename_i y I J;have c:(⟨f.nd d a6 want y,m4 E bl f [(a6,want)] o.op⟩:lC E.T.El)=r:=c;subst c;exact VD i h aC (ke.1 J).1 j I;rcases c with⟨rfl,c⟩|⟨rfl,c⟩;exact VF i (h.know k) aC k j c;exact VF i (h.know k) aC k j c;rename_i a6 want g;rw[g]at e;obtain⟨m,j⟩:=e;split at c;rename_i y I J;have c:(⟨f.nd d a6 want y,m4 E bl f [(a6,want)] o.op⟩:lC E.T.El)=r:=c;subst c;exact VD i h aC J j I;exact c.elim;exact c.elim
end
def y1{T:bD}(n:Nat)(f:cf T.El)(y:aE T.El):Option Nat->Option (cf T.El)
 |none=>some f
 |some d=>match eh d n with
  |true=>some (f.put d y)
  |false=>none
def Im(E:Env)(n:Nat)(bl:List (az E.T.El))(f:cf E.T.El)(o:Oper):D (b1 E.T.El):=(z6 E bl f [] o.op).bind λ e=>match y1 n f (e.y.getD (.p undef)) o.dst with
 |some a=>.ok ⟨.nm,a,e.bl,e.ws⟩
 |none=>.no
def Jc{El:Nat->Type}:aE El->Option (Nat×List (aE El)×List (aE El))
 | .p (.func (.func g) ⟨us⟩ ⟨cs⟩)=>some (g,us.map .p,cs.map .p)
 | .f (.func g) cs=>some (g,[],cs)
 | .h (.func g) us=>some (g,us,[])
 |_=>none
def HW(E:Env)(a4:dW E)(n:Nat)(bl:List (az E.T.El))(f:cf E.T.El)(a:Option Nat):Op->D (b1 E.T.El)
 | .call ⟨.value b,⟨xs⟩,_⟩=>match cq E bl f [] b,ma E bl f [] xs with
   |some c,some ys=>match Jc c with
    |some (g,us,cs)=>(a4 g (us++ys++cs) bl).bind λ r=>match r.e with
     | .ret y=>match y1 n f y a with
       |some d=>.ok ⟨.nm,d,r.bl,r.ws⟩
       |none=>.no
     | .tP y=>.ok ⟨.eR y,f,r.bl,r.ws⟩
    |none=>.no
   |_,_=>.no
 | .panic x=>match cq E bl f [] x with
   |some (.i t y)=>.ok ⟨.eR (.i t y),f,bl,[]⟩
   |_=>.no
 |_=>.no
def C0(E:Env)(a4:dW E)(n:Nat)(bl:List (az E.T.El))(f:cf E.T.El)(o:Oper):D (b1 E.T.El):=match v5 E.P o.op with
 | .e=>Im E n bl f o
 | .c=>HW E a4 n bl f o.dst o.op
 |_=>.no
def G5{T:bD}(n:Nat)(bl:List (az T.El))(f:cf T.El)(o:Oper):D (b1 T.El):=match y1 n f (.p undef) o.dst with
 |some a=>.ok ⟨.nm,a,bl,[]⟩
 |none=>.no
def G4(E:Env)(a4:dW E)(n:Nat)(bl:List (az E.T.El))(f:cf E.T.El)(want c:Bool)(o:Oper):D (b1 E.T.El):=match xC c want with
 |true=>C0 E a4 n bl f o
 |false=>G5 n bl f o
def pT(E:Env)(a4:dW E)(ops:Array Oper)(n:Nat)(bl:List (az E.T.El))(f:cf E.T.El)(o:Oper):D (b1 E.T.El):=match Ac E ops f n o.guard with
 | .run=>C0 E a4 n bl f o
 | .skip=>G5 n bl f o
 | .maybe a6 want b=>.mB b (G4 E a4 n bl (f.know a6 true) want true o) (G4 E a4 n bl (f.know a6 false) want false o)
 |_=>.no
structure dw (E:Env) (W:World) (au:List Nat) (X:Nat->Prop) (n:cm) (b0:List (az E.T.El)) (ρ0:List Value) (w0:World) (s:dg E.T.El) (ρ:List Value) (a:Act) (w:World):Prop where
 r:R E W au X n s.f s.bl ρ a w
 to:To X b0 s.bl ρ0 ρ w0 w
 wr:eH b0 ρ0 w0 w s.ws
def mz(E:Env)(X:Nat->Prop)(bl:List (az E.T.El))(ρ:List Value)(Q:Exit->Act->World->Prop)(a:Act)(w:World):zL E.T.El->Prop
 | .nm=>Q .normal a w
 | .ex id=>Q (.exit id) a w
 | .rt=>Q .ret a w
 | .eR y=>∀v,ar E.T (aY X bl ρ w) w ρ bl y v->Q (.panic [{ v,recovered:=false }]) a w
section
variable{E:Env}{a4:dW E}{W w w':World}{au:List Nat}{X:Nat->Prop}{n:cm}{f:cf E.T.El}{bl:List (az E.T.El)}{ρ:List Value}{a:Act}{ops:Array Oper}{o:Oper}
theorem R.set{c:cf E.T.El}{y:aE E.T.El}{v:Value}{b:Option Nat}(h:R E W au X n f bl ρ a w)(ap:y1 n.n f y b=some c)(d:ar E.T (aY X bl ρ w) w ρ bl y v):R E W au X n c bl ρ (a.put b v) w:=by unfold y1 at ap;split at ap;simp only[aM]at ap;subst ap;exact h;split at ap;rename_i aC;simp only[aM]at ap;subst ap;exact h.put aC d;cases ap
def r1(l:List Nat)(a a':Act):Prop:=a'.defers=a.defers/\a'.tmps.size=a.tmps.size/\∀t,t∉l->a'.tmps.getD t undef=a.tmps.getD t undef
theorem r1.refl{l:List Nat}{a:Act}:r1 l a a:=⟨rfl,rfl,λ _ _=>rfl⟩
def DQ:Option Nat->List Nat
 |none=>[]
 |some d=>[d]
theorem zN{d:Option Nat}{a:Act}{v:Value}:r1 (DQ d) a (a.put d v):=by
 cases d with
 |none=>exact .refl
 |some d=>refine⟨rfl,by simp[Act.put],λ t b=>?_⟩;have:d≠t:=λ e=>b (by rw[e];exact ft.2 rfl);simp only[Act.put,df,d_,lG this]
def xz(E:Env)(W:World)(au:List Nat)(X:Nat->Prop)(n:cm)(bl:List (az E.T.El))(ρ:List Value)(a:Act)(w:World)(ops:Array Oper)(o:Oper)(r:b1 E.T.El):Prop:=
 ∀(K:Act->World->Prop)(Q:Exit->Act->World->Prop),
  (∀ρ' a' w',R E W au X n r.s.f r.s.bl ρ' a' w'->To X bl r.s.bl ρ ρ' w w'->eH bl ρ w w' r.s.ws->r1 (DQ o.dst) a a'->mz E X r.s.bl ρ' (Exit.then K Q) a' w' r.x) ->
  if Region.wanted o (yielded ops a.tmps)then o.wp E.P a w K Q else K (a.put o.dst undef) w
theorem ac4(i:cJ E)(h:R E W au X n f bl ρ a w)(j:Region.wanted o (yielded ops a.tmps)=true){r:b1 E.T.El}(l:(Im E n.n bl f o).out r):xz E W au X n bl ρ a w ops o r:=by obtain⟨e,I,J⟩:=D.fc l;obtain⟨w',ρ',m,b,d,hy⟩:=adJ i h (cur:=[]) (o:=o) trivial rfl I;intro K Q k;rw[lH j];split at J;rename_i p ap;have J:(⟨.nm,p,e.bl,e.ws⟩:b1 E.T.El)=r:=J;subst J;have g:=h.to b m;unfold Oper.wp;split at hy;rename_i y c;obtain⟨v,q,s⟩:=hy;rw[show(execOp a.eval o).run E.P w=_ from q];rw[c]at ap;exact k ρ' _ w' (g.set ap s) b d zN;rename_i c;rw[show(execOp a.eval o).run E.P w=_ from hy];rw[c]at ap;exact k ρ' _ w' (g.set (y:=.p undef) ap (by simp only[ar])) b d zN;exact J.elim
theorem Gc{F:Nat->Prop}:∀(l:List Value),aR E.T F w ρ bl (l.map .p) l
 |[]=>by simp[aR]
 |v::r=>by simp only[eZ,aR];exact⟨v,r,rfl,rfl,Gc r⟩
theorem ad9{F:Nat->Prop}{y:aE E.T.El}{v:Value}{g:Nat}{us cs:List (aE E.T.El)}(h:Jc y=some (g,us,cs))(b:ar E.T F w ρ bl y v):∃u c,v= .func (.func g) ⟨u⟩ ⟨c⟩/\aR E.T F w ρ bl us u/\aR E.T F w ρ bl cs c:=by unfold Jc at h;split at h;simp only[aM,cv]at h;obtain⟨rfl,rfl,rfl⟩:=h;simp only[ar]at b;exact⟨_,_,b,Gc _,Gc _⟩;simp only[aM,cv]at h;obtain⟨rfl,rfl,rfl⟩:=h;simp only[ar]at b;obtain⟨vs,I,J⟩:=b;exact⟨[],vs,I,by simp[aR],J⟩;simp only[aM,cv]at h;obtain⟨rfl,rfl,rfl⟩:=h;simp only[ar]at b;obtain⟨vs,I,J⟩:=b;exact⟨vs,[],I,J,by simp[aR]⟩;cases h
theorem abr(F:gH E a4)(h:R E W au X n f bl ρ a w)(s:Region.wanted o (yielded ops a.tmps)=true){op:Op}(z:o.op=op){r:b1 E.T.El}(b:(HW E a4 n.n bl f o.dst op).out r):xz E W au X n bl ρ a w ops o r:=by
 unfold HW at b;split at b
 ·rename_i S xs U;split at b
  ·rename_i V ys I J;split at b
   ·rename_i g us cs G;obtain⟨j,H,d⟩:=D.fc b;obtain⟨u,c,l,al,aN⟩:=ad9 G (cB h (cur:=[]) trivial I);have bI:=yF h (cur:=[]) trivial J;obtain⟨L,m⟩:=F.ok _ _ _ _ H;have hc:=m W au X ρ w (u++xs.map a.eval++c) h.mem h.eg ((al.cc bI).cc aN);intro K Q k;rw[lH s];unfold Oper.wp;have p:(execOp a.eval o).run E.P w= .ok (.enter g ⟨u++xs.map a.eval++c⟩) w:=by simp only[execOp,z,resolve,l];simp[Deferred.ofValue,invoke,L]
    rw[p];refine hc.mono λ e w' M=>?_;obtain⟨ρ',N,q,A,i⟩:=M;have B:=h.to q N;split at d
    ·rename_i y hy;rw[hy]at i;split at d
     ·rename_i O ap;have d:(⟨.nm,O,j.bl,j.ws⟩:b1 E.T.El)=r:=d;subst d;cases e with
      |returned v=>exact k ρ' _ w' (B.set ap i) q A zN
      |panicked c=>exact i.elim
      |outgrown=>exact i.elim
     ·exact d.elim
    ·rename_i y hy;rw[hy]at i;have d:(⟨.eR y,f,j.bl,j.ws⟩:b1 E.T.El)=r:=d;subst d;cases e with
     |returned v=>exact i.elim
     |panicked c=>obtain⟨v,rfl,P⟩:=i;exact k ρ' a w' B q A .refl v P
     |outgrown=>exact i.elim
   ·exact b.elim
  ·exact b.elim
 ·rename_i x;split at b
  ·rename_i t y I;have b:(⟨.eR (.i t y),f,bl,[]⟩:b1 E.T.El)=r:=b;subst b;have l:=cB h (cur:=[]) trivial I;have C:=l;simp only[ar]at C;obtain⟨u,al,aN⟩:=C;intro K Q k;rw[lH s];unfold Oper.wp;have p:(execOp a.eval o).run E.P w= .halt (.panic (.iface t u)) w:=by simp only[execOp,z,al,Sem.run_bind,run_panic_iface];rfl
   rw[p];exact k ρ a w h .refl .nil .refl _ (by rw[<-al];exact l)
  ·exact b.elim
 ·exact b.elim
theorem XR(d:cJ E)(e:gH E a4)(h:R E W au X n f bl ρ a w)(c:Region.wanted o (yielded ops a.tmps)=true){r:b1 E.T.El}(b:(C0 E a4 n.n bl f o).out r):xz E W au X n bl ρ a w ops o r:=by unfold C0 at b;split at b;exact ac4 d h c b;exact abr e h c rfl b;exact b.elim
theorem XT(h:R E W au X n f bl ρ a w)(c:Region.wanted o (yielded ops a.tmps)=false){r:b1 E.T.El}(b:(G5 n.n bl f o).out r):xz E W au X n bl ρ a w ops o r:=by unfold G5 at b;split at b;rename_i d ap;have b:(⟨.nm,d,bl,[]⟩:b1 E.T.El)=r:=b;subst b;intro K Q k;rw[lG (by simp[c])];exact k ρ _ w (h.set ap (by simp only[ar])) .refl .nil zN;exact b.elim
theorem XS(g:cJ E)(i:gH E a4)(h:R E W au X n f bl ρ a w){a6:Nat}{want c:Bool}(d:a.tmps.getD a6 undef= .bool c)(e:Region.wanted o (yielded ops a.tmps)=true↔a.tmps.getD a6 undef= .bool want){r:b1 E.T.El}(b:(G4 E a4 n.n bl f want c o).out r):xz E W au X n bl ρ a w ops o r:=by unfold G4 at b;split at b;rename_i ag;rw[si]at ag;subst ag;exact XR g i h (e.2 d) b;rename_i ag;refine XT h ((gA).2 λ j=>?_) b;have:=e.1 j;rw[d]at this;injection this with this;rw[si.2 this]at ag;cases ag
theorem O5(i:cJ E)(j:gH E a4)(h:R E W au X n f bl ρ a w){r:b1 E.T.El}(c:(pT E a4 ops n.n bl f o).out r):xz E W au X n bl ρ a w ops o r:=by have d:=Sz (ops:=ops) (o:=o) h;unfold pT at c;split at c;rename_i e;rw[e]at d;exact XR i j h d c;rename_i e;rw[e]at d;exact XT h d c;rename_i a6 want b e;rw[e]at d;obtain⟨l,g,k⟩:=d;rcases c with⟨rfl,c⟩|⟨rfl,c⟩;exact XS i j (h.know g) g k c;exact XS i j (h.know g) g k c;exact c.elim
end
def opsL(E:Env)(a4:dW E)(ops:Array Oper)(n:Nat):List Oper->dg E.T.El->D (b1 E.T.El)
 |[],s=>.ok ⟨.nm,s⟩
 |o::r,s=>match v5 E.P o.op with
  | .q=>(BU E ops n s.bl s.f o).bind λ q=>pE E q.f λ f=>opsL E a4 ops n r ⟨f,s.bl,s.ws⟩
  | .no=>.no
  |_=>(pT E a4 ops n s.bl s.f o).bind λ t=>match t.x with
   | .nm=>pE E t.s.f λ f=>tJ E t.s.ws s.bl.length t.s.bl λ bl=>opsL E a4 ops n r ⟨f,bl,t.s.ws++s.ws⟩
   |x=>.ok ⟨x,t.s.f,t.s.bl,t.s.ws++s.ws⟩
def Fin(E:Env)(W:World)(au:List Nat)(X:Nat->Prop)(n:cm)(b0:List (az E.T.El))(ρ0:List Value)(w0:World)(t:b1 E.T.El)(Q:Exit->Act->World->Prop):Prop:=∀ρ a w,dw E W au X n b0 ρ0 w0 t.s ρ a w->mz E X t.s.bl ρ Q a w t.x
section
variable{E:Env}{a4:dW E}{W:World}{au:List Nat}{X:Nat->Prop}{n:cm}{b0:List (az E.T.El)}{ρ0:List Value}{w0:World}{ops:Array Oper}{Q:Exit->Act->World->Prop}
theorem dw.next{s s':dg E.T.El}{ρ ρ':List Value}{a a':Act}{w w':World}(h:dw E W au X n b0 ρ0 w0 s ρ a w)(b:R E W au X n s'.f s'.bl ρ' a' w')(c:To X s.bl s'.bl ρ ρ' w w')(d:eH s.bl ρ w w' s'.ws):dw E W au X n b0 ρ0 w0 ⟨s'.f,s'.bl,s'.ws++s.ws⟩ ρ' a' w':=⟨b,h.to.trans c,h.wr.cc h.to d⟩
theorem yI(g:cJ E)(j:gH E a4):∀(os:List Oper){s:dg E.T.El}{t:b1 E.T.El}{ρ:List Value}{a:Act}{w:World},(opsL E a4 ops n.n os s).out t->dw E W au X n b0 ρ0 w0 s ρ a w->Fin E W au X n b0 ρ0 w0 t Q->wpList E.P ops Q os a w
 |[],s,t,ρ,a,w,c,h,k=>by have c:(⟨.nm,s⟩:b1 E.T.El)=t:=c;subst c;exact k ρ a w h
 |o::r,s,t,ρ,a,w,c,h,k=>by
  simp only[opsL]at c;split at c
  ·obtain⟨q,I,J⟩:=D.fc c;rw[nc]at J;obtain⟨d,aC,u,l,hy⟩:=MO (ops:=ops) g h.r I;have next:=yI g j r J (ρ:=ρ) (a:=a.put (some d) u) (w:=w) ⟨l,h.to,h.wr⟩ k
   refine wpList_step λ K m=>?_;rcases hy with⟨e,hy⟩|⟨e,hy⟩
   ·rw[lH e];unfold Oper.wp;rw[show(execOp a.eval o).run E.P w=_ from hy.now];show K (a.put o.dst u) w
    rw[aC];exact m _ _ next
   ·rw[lG (by simp[e]),aC,<-hy];exact m _ _ next
  ·exact c.elim
  ·obtain⟨b,I,J⟩:=D.fc c;have f:=O5 g j h.r I
   have f:=f (wpList E.P ops Q r) Q λ ρ' a' w' l p e _=>by
    have ap:=h.next l p e;cases i:b.x with
    |nm=>rw[i]at J;simp only[nc,wE]at J;exact yI g j r J ap k
    |ex id=>rw[i]at J;have J:(⟨.ex id,b.s.f,b.s.bl,b.s.ws++s.ws⟩:b1 E.T.El)=t:=J;subst J;exact k ρ' a' w' ap
    |rt=>rw[i]at J;have J:(⟨.rt,b.s.f,b.s.bl,b.s.ws++s.ws⟩:b1 E.T.El)=t:=J;subst J;exact k ρ' a' w' ap
    |eR y=>rw[i]at J;have J:(⟨.eR y,b.s.f,b.s.bl,b.s.ws++s.ws⟩:b1 E.T.El)=t:=J;subst J;exact k ρ' a' w' ap
   unfold wpList;split;rename_i e;rw[lH e]at f;exact .inl f;rename_i e;rw[lG e]at f;exact f
end
section
variable{P:Program}{ops:Array Oper}{Q:Exit->Act->World->Prop}
def iz(H:List (List Nat×(World->Prop)))(a:Array Bool)(w:World):Prop:=∀h∈H,(∀v∈h.1,a.getD v false=false)->h.2 w
def hQ(P:Program)(ops:Array Oper)(Q:Exit->Act->World->Prop)(H:List (List Nat×(World->Prop))):Nat->Array Bool->Act->World->Prop
 |0,b,a,w=>Region.ready .any ops b=[]/\Q .normal a w
 |bu+1,b,a,w=>(Region.ready .any ops b=[]->Q .normal a w)/\∀i∈Region.ready .any ops b,wpOp P ops Q i (λ a' w'=>iz H (b.setIfInBounds i true) w'/\hQ P ops Q H bu (b.setIfInBounds i true) a' w') a w
theorem Xf{H:List (List Nat×(World->Prop))}:∀(bu:Nat)(b:Array Bool)(a:Act)(w:World),hQ P ops Q H bu b a w->Go.wpAny P .any ops Q bu b a w
 |0,_,_,_,h=>h
 |bu+1,_,_,_,h=>⟨h.1,λ i hi=>wpOp_mono (λ a' w' h'=>Xf bu _ a' w' h'.2) (h.2 i hi)⟩
theorem Ou{H c:List (List Nat×(World->Prop))}(d:∀b w,iz H b w->iz c b w):∀(bu:Nat)(b:Array Bool)(a:Act)(w:World),hQ P ops Q H bu b a w->hQ P ops Q c bu b a w
 |0,_,_,_,h=>h
 |bu+1,_,_,_,h=>⟨h.1,λ i hi=>wpOp_mono (λ a' w' h'=>⟨d _ _ h'.1,Ou d bu _ a' w' h'.2⟩) (h.2 i hi)⟩
theorem Af{a:Array Bool}{i v:Nat}(h:i≠v):(a.setIfInBounds i true).getD v false=a.getD v false:=getD_set_ne false h
theorem anb{a:Array Bool}{i v:Nat}(h:(a.setIfInBounds i true).getD v false=false):a.getD v false=false:=by by_cases e:i=v;subst e;rcases gw i a.size with h' |h';simp[h']at h;simp[hA h'];rwa [Af e]at h
theorem Xh{H:List (List Nat×(World->Prop))}{i:Nat}{cr:Oper}{v:Value}{S:World->Prop}{U V:List Nat}(hi:ops[i]? =some cr)(E:∀(j:Nat)(o:Oper) cs b,ops[j]? =some o->o.op≠ .select cs b)
 (Y:∀c a w,Q (.panic c) (a.put cr.dst v) w->Q (.panic c) a w)(Z:xg ops i U)(mN:∀v∈V,v∈U)(Kq:i∉V)(Kp:∀h∈H,i∉h.1) :
 ∀(s:Nat)(d:Array Bool)(a:Act)(w:World),
  (∀j g,ops[j]? =some g->j≠i->d.getD j true=false->(∀e∈g.after,Region.binds .any e=true->e.on≠i)->cr.apart ops g=true) ->
  (∀u∈U,d.getD u false=false)->i∈Region.ready .any ops d->iz H d w->S w->YieldsIf P ops S cr v a ->
  hQ P ops Q ((V,S)::H) s (d.setIfInBounds i true) (a.put cr.dst v) w->hQ P ops Q H (s+1) d a w:=by
 have mono:∀(d:Array Bool)(w:World),iz ((V,S)::H) d w->iz H d w:=λ d w h p n=>h p (fD _ n)
 have put:∀ {d:Array Bool}{w:World},iz H d w->iz H (d.setIfInBounds i true) w:=λ{d w} h p n q=>h p n λ v l=>anb (q v l)
 intro s
 induction s with
 |zero=>intro d a w _ _ m B C hy W;refine⟨λ h=>(by rw[h]at m;cases m),λ j x=>?_⟩;by_cases f:j=i;subst f;exact hy.wpOp hi C ⟨put B,W⟩;have:=ready_mono x f;rw[W.1]at this;cases this
 |succ s bn=>
  intro d a w F r m B C hy W;refine⟨λ h=>(by rw[h]at m;cases m),λ j x=>?_⟩;by_cases f:j=i;subst f;exact hy.wpOp hi C ⟨put B,Ou mono _ _ _ _ W⟩
  ·have I:=W.2 j (ready_mono x f);obtain⟨G,g,y,K⟩:=mem_ready.1 x;have L:∀e∈g.after,Region.binds .any e=true->e.on≠i:=λ e z ag heq=>by have I:=K e z ag;have M:=(mem_ready.1 m).1;rw[heq]at I;rcases gw i d.size with h' |h';simp[h']at M I;rw[M]at I;cases I;simp[hA h']at I
   have N:j∉U:=λ AJ=>by obtain⟨c1,D,e,z,ag,J⟩:=Z j AJ;rw[y]at D;simp only[aM]at D;subst D;rcases J with J |J;exact L e z ag J;have A:=K e z ag;rw[r _ J]at A;cases A
   have K2:∀u∈U,(d.setIfInBounds j true).getD u false=false:=λ u q=>by have t:j≠u:=λ e=>N (e▸q);rw[Af t];exact r u q
   have J:=wpOp_putIf y (F j g y f G L) (λ cs b=>E i cr cs b hi) (λ cs b=>E j g cs b y) Y hy I
   have Av:∀k ok,ops[k]? =some ok->k≠i->(d.setIfInBounds j true).getD k true=false ->
    (∀e∈ok.after,Region.binds .any e=true->e.on≠i)->cr.apart ops ok=true:=λ k ok ah AM r ji=>by
    refine F k ok ah AM ?_ ji
    by_cases O:j=k
    ·subst O;exact G
    ·rw[getD_set_ne true O]at r;exact r
   refine wpOp_mono (λ a' w' A=>?_) J;obtain⟨pU,R,hv⟩:=A;have Ew:S w':=R (V,S) (by simp) λ v l=>by have T:=mN v l;have t:j≠v:=λ e=>N (e▸T);have KK:i≠v:=λ e=>Kq (e▸l);rw[Af t,Af KK];exact r v T
   have X:iz H (d.setIfInBounds j true) w':=λ p n q=>R p (fD _ n) λ v l=>by have t:i≠v:=λ e=>Kp p n (e▸l);rw[ij _ _ (Ne.symm f),Af t];exact q v l
   refine⟨X,bn (d.setIfInBounds j true) a' w' Av K2 (ready_mono m (Ne.symm f)) X Ew pU ?_⟩;rw[ij _ _ f];exact hv
theorem an1{H:List (List Nat×(World->Prop))}{i:Nat}{cr:Oper}{v:Value}(hi:ops[i]? =some cr)(l:∀(j:Nat)(o:Oper) cs b,ops[j]? =some o->o.op≠ .select cs b)
 (m:∀c a w,Q (.panic c) (a.put cr.dst v) w->Q (.panic c) a w)(n:∀h∈H,i∉h.1){g:Nat}{d:Array Bool}{a:Act}{w:World}
 (q:∀j k,ops[j]? =some k->j≠i->d.getD j true=false->(∀e∈k.after,Region.binds .any e=true->e.on≠i)->cr.apart ops k=true)
 (r:i∈Region.ready .any ops d)(s:iz H d w)(hy:YieldsIf P ops (λ _=>True) cr v a)(h:hQ P ops Q H g (d.setIfInBounds i true) (a.put cr.dst v) w):hQ P ops Q H (g+1) d a w:=
 Xh (S:=λ _=>True) (U:=[]) (V:=[]) hi l m (λ u f=>by simp at f) (λ v t=>by simp at t) (by simp) n g d a w q (λ u f=>by simp at f) r s trivial hy
  (Ou (λ d w h p aB f=>by
   rcases cU.1 aB with rfl |aB;trivial
   ·exact h p aB f) _ _ _ _ h)
end
def Lh:Op->Bool
 | .select _ _=>true
 |_=>false
def su(o:Oper)(i:Nat):Bool:=o.after.toList.any λ e=>Region.binds .any e&&b2 e.on i
def QL(o:Oper)(d:Nat):Bool:=match o.dst with
 |some d'=>b2 d' d
 |none=>false
def CE(ops:Array Oper)(x:Oper)(i:Nat)(d:Nat):Nat->List Oper->Bool
 |_,[]=>true
 |j,y::r=>(b2 i j||(su x j||(!QL y d&&(!eE (y.looksAt ops) d||su y i))))&&CE ops x i d (j+1) r
def nq(ops:Array Oper)(all:List Oper):Nat->List Oper->Bool
 |_,[]=>true
 |i,x::r=>(!Lh x.op&&(match x.dst with
  |none=>true
  |some d=>CE ops x i d 0 all))&&nq ops all (i+1) r
section
variable{ops:Array Oper}
theorem Bc{l:List Nat}{j:Nat}:eE l j=true↔j∈l:=by
 refine⟨lZ,λ h=>?_⟩;induction l with
 |nil=>simp at h
 |cons i r a=>simp only[eE,h1];rcases cU.1 h with rfl |h;exact .inl (by simp);exact .inr (a h)
theorem Ot{x:Oper}{i d:Nat}:∀ {l:List Oper}{k:Nat},CE ops x i d k l=true->∀(m:Nat)(y:Oper),l[m]? =some y->i≠k+m->su x (k+m)=true\/(y.dst≠some d/\(d∈y.looksAt ops->su y i=true))
 |[],_,_,m,y,a,_=>by simp at a
 |z::r,k,h,m,y,a,b=>by
  simp only[CE,bM,h1,gx]at h;cases m with
  |zero=>simp only[dm,aM]at a;subst a;rcases h.1 with e |e |⟨c,al⟩;exact absurd (a8 e) (by simpa using b);exact .inl (by simpa using e);refine .inr ⟨λ e=>?_,λ f=>?_⟩;simp[QL,e]at c;rcases al with al |al;rw[Bc.2 f]at al;cases al;exact al
  |succ m=>have:=Ot h.2 m y (by simpa using a) (by omega);rwa [show k+1+m=k+(m+1) by omega]at this
theorem GL{all:List Oper}:∀ {l:List Oper}{k:Nat},nq ops all k l=true->∀(m:Nat)(x:Oper),l[m]? =some x->Lh x.op=false/\∀d,x.dst=some d->CE ops x (k+m) d 0 all=true
 |[],_,_,m,x,a=>by simp at a
 |z::r,k,h,m,x,a=>by
  simp only[nq,bM,gx]at h;cases m with
  |zero=>simp only[dm,aM]at a;subst a;refine⟨h.1.1,λ d aC=>?_⟩;have:=h.1.2;rw[aC]at this;exact this
  |succ m=>have:=GL h.2 m x (by simpa using a);rwa [show k+1+m=k+(m+1) by omega]at this
theorem Io{o:Oper}{i:Nat}(h:su o i=true):∃e∈o.after,Region.binds .any e=true/\e.on=i:=by simp only[su,List.any_eq_true,bM]at h;obtain⟨e,I,J,a⟩:=h;exact⟨e,by simpa using I,J,a8 a⟩
theorem Xa(h:nq ops ops.toList 0 ops.toList=true)(j:Nat)(o:Oper)(cs:_)(b:Bool)(a:ops[j]? =some o):o.op≠ .select cs b:=λ e=>by have:=(GL h j o (by rw[g5];exact a)).1;rw[e]at this;simp[Lh]at this
theorem W'(h:nq ops ops.toList 0 ops.toList=true){c:Array Bool}(ap:c.size=ops.size){i:Nat}{cr:Oper}(hi:ops[i]? =some cr)(r:i∈Region.ready .any ops c) :
 ∀j a,ops[j]? =some a->j≠i->c.getD j true=false->(∀e∈a.after,Region.binds .any e=true->e.on≠i)->cr.apart ops a=true:=λ j a k w f l=>by
 have m:ops.toList[i]? =some cr:=by rw[g5];exact hi
 have n:ops.toList[j]? =some a:=by rw[g5];exact k
 have o:=(GL h i cr m).2
 have p:=(GL h j a n).2
 simp only[jJ]at o p
 have done:su cr j=true->False:=λ hc=>by
  obtain⟨e,b,al,aN⟩:=Io hc;obtain⟨_,x,q,s⟩:=mem_ready.1 r;rw[hi]at q;cases q;have:=s e b al;rw[aN]at this;have t:j<c.size:=by rw[ap];exact(ee.1 k).1
  simp[t]at this f;rw[this]at f;cases f
 unfold Oper.apart
 rw[bM]
 constructor
 ·cases aC:cr.dst with
  |none=>rfl
  |some d=>rcases Ot (o d aC) j a n (by omega)with hc |⟨u,g⟩;exact(done (by simpa using hc)).elim;simp only[bM,gx,bne_iff_ne,ne_eq];refine⟨?_,u⟩;rw[gA];intro hc;obtain⟨e,b,al,aN⟩:=Io (g (by simpa using hc));exact l e b al aN
 ·cases aC:a.dst with
  |none=>rfl
  |some d=>simp only[gx];rw[gA];intro hc;rcases Ot (p d aC) i cr m (by omega)with v |⟨_,g⟩;obtain⟨e,b,al,aN⟩:=Io (by simpa using v:su a i=true);exact l e b al aN;exact done (g (by simpa using hc))
end
inductive gf (El:Nat->Type):Type
 |ro
 |qf (i:Nat)
 |dO (i o:Nat) (y:aE El)
def DR{El:Nat->Type}(bl:List (az El)):aE El->Bool
 | .b _ _=>true
 | .m _=>true
 | .r i g=>b2 g (o3 bl i)
 |_=>false
def NR{El:Nat->Type}:aE El->aE El->Bool
 | .b i o,.b j p=>b2 i j&&b2 o p
 | .m i,.m j=>b2 i j
 | .r i g,.r j h=>b2 i j&&b2 g h
 |_,_=>false
def HZ(E:Env)(bl:List (az E.T.El))(f:cf E.T.El):Op->Option (Nat×Nat×aE E.T.El)
 | .load t x=>match cq E bl f [] x with
   |some (.b i o)=>match nth bl i,lay E.P t with
    |some (.c _ cs),some (false,_)=>match nth cs o with
     |some y=>match DR bl y with
      |true=>some (i,o,y)
      |false=>none
     |none=>none
    |_,_=>none
   |_=>none
 |_=>none
def mX(P:Program)(o:Oper):Bool:=match v5 P o.op with
 | .q=>true
 |_=>false
def vu(P:Program)(ops:Array Oper):List Nat->List Nat
 |[]=>[]
 |v::r=>match nth ops.toList v with
  |some o=>match mX P o with
   |true=>vu P ops r
   |false=>v::vu P ops r
  |none=>vu P ops r
def ends(P:Program)(ops:Array Oper)(i:Nat):List Nat:=vu P ops (kK ops.toList 0 i [])
def Tk(E:Env)(bl:List (az E.T.El))(f:cf E.T.El)(op:Op)(b:Nat):gf E.T.El:=match HZ E bl f op with
 |some (i,o,y)=>.dO i o y
 |none=>.qf b
def zM(E:Env)(ops:Array Oper)(bl:List (az E.T.El))(f:cf E.T.El)(i:Nat)(op:Op)(ap:List (List Nat×gf E.T.El)):Option (Option Nat)->List (List Nat×gf E.T.El)
 |none=>ap
 |some none=>(ends E.P ops i,.ro)::ap
 |some (some b)=>(ends E.P ops i,Tk E bl f op b)::ap
def EA{El:Nat->Type}(ws:List Nat)(bl':List (az El)):gf El->Bool
 | .ro=>true
 | .qf i=>!eE ws i
 | .dO i o y=>!eE ws i||match nth bl' i with
   |some (.c _ cs)=>match nth cs o with
    |some a=>NR y a&&DR bl' y
    |none=>false
   |_=>false
def pj{El:Nat->Type}(e:Nat)(ws:List Nat)(bl':List (az El)):List (List Nat×gf El)->Option (List (List Nat×gf El))
 |[]=>some []
 |(V,h)::r=>match pj e ws bl' r with
  |none=>none
  |some e4=>match eE V e with
   |true=>some e4
   |false=>match EA ws bl' h with
    |true=>some ((V,h)::e4)
    |false=>none
section
variable{T:bD}{W w w':World}{au:List Nat}{X:Nat->Prop}{bl bl':List (az T.El)}{ρ ρ':List Value}
def nz(bl:List (az T.El))(ρ:List Value)(q i:Nat):Prop:=∀j B h,bl[j]? =some B->ρ[j]? =some h->q∈a_ B h->j=i
def Dm(X:Nat->Prop)(bl:List (az T.El))(ρ:List Value)(w:World)(S:World->Prop):gf T.El->Prop
 | .ro=>∃q,aY X bl ρ w q/\∀w':World,w'.heap[q]? =w.heap[q]? ->S w'
 | .qf i=>∃q,q<w.heap.size/\¬X q/\nz bl ρ q i/\∀w':World,w'.heap[q]? =w.heap[q]? ->S w'
 | .dO i o y=>∃g u,ρ[i]? =some (.pointer (some ⟨g,0,none⟩))/\g<w.heap.size/\¬X g/\nz bl ρ g i/\ar T (aY X bl ρ w) w ρ bl y u/\w.cell? ⟨g,o,none⟩=some u/\∀w':World,w'.cell? ⟨g,o,none⟩=some u->S w'
def p2(X:Nat->Prop)(bl:List (az T.El))(ρ:List Value)(w:World)(S:World->Prop)(h:gf T.El):Prop:=(∀w',S w')\/Dm X bl ρ w S h
theorem p2.now{S:World->Prop}{h:gf T.El}(k:p2 X bl ρ w S h):S w:=by
 rcases k with k |k;exact k w
 ·cases h with
  |ro=>obtain⟨q,_,k⟩:=k;exact k w rfl
  |qf i=>obtain⟨q,_,_,_,k⟩:=k;exact k w rfl
  |dO i o y=>obtain⟨g,u,_,_,_,_,_,hc,k⟩:=k;exact k w hc
theorem nz.to(a:To X bl bl' ρ ρ' w w'){q i:Nat}(b:q<w.heap.size)(h:nz bl ρ q i):nz bl' ρ' q i:=λ j B g c d e=>by obtain⟨hx,f,k,al,aN⟩:=a.kR j B g c d q e b;exact h j hx f k al aN
theorem nz.Xk{s:List Nat}(a:eH bl ρ w w' s){q i:Nat}(b:q<w.heap.size)(h:nz bl ρ q i)(hi:i∉s):w'.heap[q]? =w.heap[q]? :=a q b λ j c B g ag d e=>hi (h j B g ag d e▸c)
theorem ab9(f:Mem T W au X bl ρ w){y:aE T.El}{u v:Value}(aC:DR bl y=true)(a:ar T (aY X bl ρ w) w ρ bl y u)(b:ar T (aY X bl ρ w) w ρ bl y v):u=v:=by cases y<;>simp only[DR,hT]at aC;simp only[ar]at a b;obtain⟨g,I,rfl⟩:=a;obtain⟨g',J,rfl⟩:=b;rw[I]at J;simp only[aM,Value.pointer.injEq,Addr.mk.injEq]at J;rw[J.1];rename_i i g;simp only[ar]at a b;have e:=a8 aC;rw[vx]at e;obtain⟨_,h,I,_,J⟩:=a;obtain⟨_,h',c,_,d⟩:=b;rw[I]at c;cases c;rw[J e,d e];simp only[ar]at a b;obtain⟨g,I,rfl⟩:=a;obtain⟨g',J,rfl⟩:=b;rw[I]at J;simp only[aM,Value.map.injEq]at J;rw[J]
theorem am4{y z:aE T.El}(h:NR y z=true):y=z:=by unfold NR at h;split at h;simp only[bM]at h;rw[a8 h.1,a8 h.2];rw[a8 h];simp only[bM]at h;rw[a8 h.1,a8 h.2];cases h
theorem p2.ez(j:Mem T W au X bl' ρ' w')(b:To X bl bl' ρ ρ' w w'){ws:List Nat}(l:eH bl ρ w w' ws){S:World->Prop}{h:gf T.El}(k:p2 X bl ρ w S h)(ah:EA ws bl' h=true):p2 X bl' ρ' w' S h:=by
 rcases k with k |k;exact .inl k;refine .inr ?_;cases h with
 |ro=>obtain⟨q,I,J⟩:=k;have:=b.F q I;exact⟨q,this.1,λ w'' e=>J w'' (e.trans this.2)⟩
 |qf i=>
  obtain⟨q,I,f,J,c⟩:=k;simp only[EA,gx]at ah;have hi:i∉ws:=λ e=>by rw[Bc.2 e]at ah;cases ah
  exact⟨q,dr I b.sz,f,J.to b I,λ w'' e=>c w'' (e.trans (J.Xk l I hi))⟩
 |dO i o y=>
  obtain⟨g,u,I,J,f,c,p,r,s⟩:=k;obtain⟨C,m,al,_⟩:=b.L.at_ i _ I;have aN:=al (by simp[k6]);subst aN;have n:=b.v p;refine⟨g,u,m,dr J b.sz,f,c.to b J,n,?_,s⟩;simp only[EA,h1,gx]at ah;rcases ah with ah |ah
  ·have hi:i∉ws:=λ e=>by rw[Bc.2 e]at ah;cases ah
   rw[<-r];exact World.cell?_of_block (a:=⟨g,o,none⟩) (c.Xk l J hi)
  ·split at ah;rename_i t cs ag;split at ah;rename_i D hy;simp only[bM]at ah;have:=am4 ah.1;subst this;rw[cH]at ag hy;obtain⟨g',vs,d,x,z⟩:=j.ok i _ _ ag m;simp only[Value.pointer.injEq,aM,Addr.mk.injEq]at d;have d:=d.1;subst d;obtain⟨v,A,B⟩:=z.at_ hy;rw[ab9 j ah.2 n B];have:=sk (g:=g) (t:=t) (cs:=vs) (w:=w') (by simpa[aX.dl]using x) A;simpa using this;cases ah;cases ah
def dC(P:Program)(ops:Array Oper)(X:Nat->Prop)(bl:List (az T.El))(ρ:List Value)(w:World):List (List Nat×gf T.El)->List (List Nat×(World->Prop))->Prop
 |[],H=>H=[]
 |p::r,H=>∃S a,H=(p.1,S)::a/\(∀v∈p.1,∃o,ops[v]? =some o/\mX P o=false)/\p2 X bl ρ w S p.2/\dC P ops X bl ρ w r a
theorem dC.oV{P:Program}{ops:Array Oper}:∀ {ap:List (List Nat×gf T.El)}{H:List (List Nat×(World->Prop))},dC P ops X bl ρ w ap H->∀a,iz H a w
 |[],H,h,a=>by simp only[dC]at h;subst h;intro p b;simp at b
 |p::r,H,h,a=>by simp only[dC]at h;obtain⟨S,e,rfl,_,J,c⟩:=h;intro q aI d;rcases cU.1 aI with rfl |aI;exact J.now;exact dC.oV c a q aI d
theorem dC.U3{P:Program}{ops:Array Oper}:∀ {ap:List (List Nat×gf T.El)}{H:List (List Nat×(World->Prop))},dC P ops X bl ρ w ap H->∀h∈H,∀v∈h.1,∃o,ops[v]? =some o/\mX P o=false
 |[],H,h,p,a=>by simp only[dC]at h;subst h;simp at a
 |p::r,H,h,q,aI=>by simp only[dC]at h;obtain⟨S,c,rfl,I,_,b⟩:=h;rcases cU.1 aI with rfl |aI;exact I;exact dC.U3 b q aI
theorem dC.ez{P:Program}{ops:Array Oper}(j:Mem T W au X bl' ρ' w')(k:To X bl bl' ρ ρ' w w'){ws:List Nat}(l:eH bl ρ w w' ws){e:Nat}:∀ {ap d:List (List Nat×gf T.El)}{H:List (List Nat×(World->Prop))},dC P ops X bl ρ w ap H->pj e ws bl' ap=some d ->
 ∃m,dC P ops X bl' ρ' w' d m/\∀b w,b.getD e false=true->iz m b w->iz H b w
 |[],d,H,h,a=>by simp only[pj,aM]at a;subst a;exact⟨H,h,λ _ _ _ h=>h⟩
 |(V,aC)::r,d,H,h,a=>by simp only[dC]at h;obtain⟨S,s,rfl,I,J,t⟩:=h;simp only[pj]at a;split at a;cases a;rename_i e4 u;obtain⟨g,n,o⟩:=dC.ez j k l t u;split at a;rename_i v;simp only[aM]at a;subst a;refine⟨g,n,λ b w f hc p aB c=>?_⟩;rcases cU.1 aB with rfl |aB;have:=c e (lZ v);rw[f]at this;cases this;exact o b w f hc p aB c;split at a;rename_i i;simp only[aM]at a;subst a;refine⟨(V,S)::g,?_,λ b w f hc p aB c=>?_⟩;simp only[dC];exact⟨S,g,rfl,I,J.ez j k l i,n⟩;rcases cU.1 aB with rfl |aB;exact hc _ (by simp) c;exact o b w f (λ q x=>hc q (fD _ x)) p aB c;cases a
end
section
variable{E:Env}{W w w':World}{au:List Nat}{X:Nat->Prop}{n:cm}{f:cf E.T.El}{bl:List (az E.T.El)}{ρ:List Value}{a:Act}{ops:Array Oper}{o:Oper}
theorem Vf(b:Mem E.T W au X bl ρ w){i:Nat}{B:az E.T.El}{h:Value}(hi:bl[i]? =some B)(c:ρ[i]? =some h){q:Nat}(d:q∈a_ B h):q<w.heap.size/\nz bl ρ q i:=by refine⟨(b.lt q ⟨i,B,h,hi,c,d⟩).1,λ j C g k l m=>?_⟩;by_cases e:j=i;exact e;exact absurd m (b.a6 i j B C h g hi c k l (Ne.symm e) q d)
theorem abI(h:R E W au X n f bl ρ a w){i p:Nat}{y:aE E.T.El}(b:HZ E bl f o.op=some (i,p,y)):∃S,Dm X bl ρ w S (.dO i p y)/\∃u,∀w',S w'->aS E.P o a w' u w':=by unfold HZ at b;split at b;rename_i t x l;split at b;rename_i j m r;split at b;rename_i t' cs H c s;split at b;rename_i I hy;split at b;simp only[aM,cv]at b;obtain⟨rfl,rfl,rfl⟩:=b;have k:=cB h (cur:=[]) trivial r;simp only[ar]at k;obtain⟨g,d,al⟩:=k;rw[cH]at c hy;obtain⟨g',vs,e,z,A⟩:=h.mem.ok j _ _ c d;simp only[Value.pointer.injEq,aM,Addr.mk.injEq]at e;have e:=e.1;subst e;obtain⟨v,B,C⟩:=A.at_ hy;obtain⟨D,F⟩:=Vf h.mem c d (q:=g) (by simp[a_,ag]);have hc:=sk (g:=g) (t:=t') (cs:=vs) (w:=w) (by simpa[aX.dl]using z) B;exact⟨λ w'=>w'.cell? ⟨g,m,none⟩=some v,⟨g,v,d,D,h.mem.yC ⟨j,_,_,c,d,by simp[a_,ag]⟩,F,C,by simpa using hc,λ _ h=>h⟩,v,λ w' G=>O9 (Bo s).1 l al G⟩;cases b;cases b;cases b;cases b;cases b
end
section
variable{T:bD}{W w w':World}{au:List Nat}{X:Nat->Prop}{bl:List (az T.El)}{ρ:List Value}{B C:az T.El}{h g:Value}
theorem y7(c:ρ.length=bl.length){j:Nat}{D:az T.El}{u:Value}(a:(bl++[B,C])[j]? =some D)(b:(ρ++[h,g])[j]? =some u) :
 (j<bl.length/\bl[j]? =some D/\ρ[j]? =some u)\/(j=bl.length/\D=B/\u=h)\/(j=bl.length+1/\D=C/\u=g):=by
 rcases gw j bl.length with e |e
 ·rw[eF e]at a;rw[eF (by rw[c];exact e)]at b;exact .inl ⟨e,a,b⟩
 ·rw[eW e]at a;rw[eW (by rw[c];exact e),c]at b;right;cases aC:j-bl.length with
  |zero=>rw[aC]at a b;simp only[dm,aM]at a b;exact .inl ⟨by omega,a.symm,b.symm⟩
  |succ q=>
   cases q with
   |zero=>rw[aC]at a b;simp only[List.getElem?_cons_succ,dm,aM]at a b;exact .inr ⟨by omega,a.symm,b.symm⟩
   |succ q=>rw[aC]at a;simp at a
theorem Mem.N_(c:Mem T W au X bl ρ w)(d:a1 [] w w')(m:∀k∈a_ B h,w.heap.size<=k/\k<w'.heap.size)(n:∀k∈a_ C g,w.heap.size<=k/\k<w'.heap.size):To X bl (bl++[B,C]) ρ (ρ++[h,g]) w w':=by
 refine⟨λ k a=>⟨⟨a.1,?_,dr a.2.2 d.size⟩,d.block k a.2.2 (by simp)⟩,⟨λ j u b=>?_⟩,d.size,λ j D u b f k a o=>?_⟩;rintro⟨j,D,u,b,f,i⟩;have:=a.2.2;rcases y7 c.len b f with⟨_,l,al⟩|⟨_,rfl,rfl⟩|⟨_,rfl,rfl⟩;exact a.2.1 ⟨j,D,u,l,al,i⟩;have:=(m k i).1;omega;have:=(n k i).1;omega
 ·have e:=(bg.1 b).1;have e':j<bl.length:=by rw[<-c.len];exact e
  refine⟨u,by rw[eF e];exact b,λ _=>rfl,?_⟩;rw[eF e'];exact⟨cS _,λ _=>⟨rfl,rfl,cS _,λ _=>rfl⟩⟩
 ·rcases y7 c.len b f with⟨_,l,al⟩|⟨_,rfl,rfl⟩|⟨_,rfl,rfl⟩;exact⟨D,u,l,al,a⟩;have:=(m k a).1;omega;have:=(n k a).1;omega
theorem Mem.Vw(d:Mem T W au X bl ρ w)(o:a1 [] w w')(i:∀k∈a_ B h,w.heap.size<=k/\k<w'.heap.size)(l:∀k∈a_ C g,w.heap.size<=k/\k<w'.heap.size)(aC:∀k∈a_ B h,k∉a_ C g)
 (x:hf T (aY X (bl++[B,C]) (ρ++[h,g]) w') w' (ρ++[h,g]) (bl++[B,C]) B h)(y:hf T (aY X (bl++[B,C]) (ρ++[h,g]) w') w' (ρ++[h,g]) (bl++[B,C]) C g):Mem T W au X (bl++[B,C]) (ρ++[h,g]) w':=by
 have t:=d.N_ o i l
 have m:∀ {j:Nat}{D:az T.El}{u:Value}{k:Nat},bl[j]? =some D->ρ[j]? =some u->k∈a_ D u->k<w.heap.size:=λ{j D u k} I J z=>(d.lt k ⟨j,D,u,I,J,z⟩).1
 refine⟨d.bO.trans o (by simp),by simp[d.len],d.fI,?_,?_,?_⟩
 ·rintro k ⟨j,D,u,p,n,c⟩;rcases y7 d.len p n with⟨_,e,al⟩|⟨_,rfl,rfl⟩|⟨_,rfl,rfl⟩;have:=d.lt k ⟨j,D,u,e,al,c⟩;exact⟨dr this.1 o.size,this.2⟩;exact⟨(i k c).2,.inr (eY d.bO.size (i k c).1)⟩;exact⟨(l k c).2,.inr (eY d.bO.size (l k c).1)⟩
 ·intro a b D G u v A n E F q k c f;rcases y7 d.len A n with⟨_,e,al⟩|⟨H,rfl,rfl⟩|⟨H,rfl,rfl⟩<;>rcases y7 d.len E F with⟨_,r,s⟩|⟨K,rfl,rfl⟩|⟨K,rfl,rfl⟩;exact d.a6 _ _ _ _ _ _ e al r s q k c f;have:=m e al c;have:=(i k f).1;omega;have:=m e al c;have:=(l k f).1;omega;have:=m r s f;have:=(i k c).1;omega;exact q (by omega);exact aC k c f;have:=m r s f;have:=(l k c).1;omega;exact aC k f c;exact q (by omega)
 ·intro j D u p n;rcases y7 d.len p n with⟨_,e,al⟩|⟨_,rfl,rfl⟩|⟨_,rfl,rfl⟩;exact(d.ok j D u e al).later t.F t.L λ k c=>o.block k (m e al c) (by simp);exact x;exact y
theorem Dm.bO(b:a1 [] w w'){S:World->Prop}{d:gf T.El}(k:p2 X bl ρ w S d):S w':=by
 rcases k with k |k;exact k w'
 ·cases d with
  |ro=>obtain⟨q,I,k⟩:=k;exact k w' (b.block q I.2.2 (by simp))
  |qf i=>obtain⟨q,I,_,_,k⟩:=k;exact k w' (b.block q I (by simp))
  |dO i o y=>obtain⟨g,u,_,J,_,_,_,hc,k⟩:=k;refine k w' ?_;rw[<-hc];exact World.cell?_of_block (a:=⟨g,o,none⟩) (b.block g J (by simp))
theorem dC.bO{P:Program}{ops:Array Oper}(b:a1 [] w w'):∀ {ap:List (List Nat×gf T.El)}{H:List (List Nat×(World->Prop))},dC P ops X bl ρ w ap H->∀a,iz H a w'
 |[],H,h,a=>by simp only[dC]at h;subst h;intro p c;simp at c
 |p::r,H,h,a=>by simp only[dC]at h;obtain⟨S,f,rfl,_,J,d⟩:=h;intro q aI e;rcases cU.1 aI with rfl |aI;exact Dm.bO b J;exact dC.bO b d a q aI e
end
def two(E:Env)(n:Nat)(bl:List (az E.T.El))(f:cf E.T.El)(cr a:Oper):Option (cf E.T.El×List (az E.T.El)):=match cr.op,a.op,cr.guard,a.guard,cr.dst,a.dst with
 | .alloc ti,.alloc c,none,none,some b,some a6=>match oB E.P ti,oB E.P c,eh b n&&(eh a6 n&& !b2 b a6)with
   |some ms,some d,true=>some ((f.put b (.b bl.length 0)).put a6 (.b (bl.length+1) 0),bl++[.c ti (ms.map .p),.c c (d.map .p)])
   |_,_,_=>none
 |_,_,_,_,_,_=>none
section
variable{E:Env}{W w:World}{au:List Nat}{X:Nat->Prop}{n:cm}{f f2:cf E.T.El}{bl sj:List (az E.T.El)}{ρ:List Value}{a:Act}{cr bS:Oper}
abbrev g6(g:Nat):Value:=.pointer (some ⟨g,0,none⟩)
theorem anA(h:R E W au X n f bl ρ a w)(i:two E n.n bl f cr bS=some (f2,sj)):∃l a6 ti m ms j,cr.dst=some l/\bS.dst=some a6/\l≠a6/\cr.guard=none/\bS.guard=none/\
 (∀a w,aS E.P cr a w (g6 w.heap.size) (w.alloc (.cells ⟨ms⟩ ti)))/\(∀a w,aS E.P bS a w (g6 w.heap.size) (w.alloc (.cells ⟨j⟩ m)))/\
 ∀d g b,a1 [] w b->w.heap.size<=d->d<b.heap.size->w.heap.size<=g->g<b.heap.size->d≠g->b.heap[d]? =some (.cells ⟨ms⟩ ti (0,0))->b.heap[g]? =some (.cells ⟨j⟩ m (0,0)) ->
  ∃q,R E W au X n f2 sj q ((a.put (some l) (g6 d)).put (some a6) (g6 g)) b/\To X bl sj ρ q w b/\eH bl ρ w b []:=by
 unfold two at i
 split at i
 ·rename_i ti m l a6 I J v x y z;split at i
  ·rename_i ms j A al aN;simp only[bM,gx]at aN;obtain⟨o,B,C⟩:=aN;simp only[aM,cv]at i;obtain⟨rfl,rfl⟩:=i;obtain⟨U,D,F⟩:=zo A;obtain⟨G,l1,H⟩:=zo al;refine⟨l,a6,ti,m,ms,j,y,z,λ e=>by subst e;simp at C,v,x,λ a w=>rV D F I,λ a w=>rV l1 H J,λ d g b p K L M N O P Q=>?_⟩;have r:∀k∈a_ (az.c (El:=E.T.El) ti (ms.map .p)) (g6 d),w.heap.size<=k/\k<b.heap.size:=λ k c=>by simp only[a_,ag,ft]at c;subst c;exact⟨K,L⟩
   have s:∀k∈a_ (az.c (El:=E.T.El) m (j.map .p)) (g6 g),w.heap.size<=k/\k<b.heap.size:=λ k c=>by simp only[a_,ag,ft]at c;subst c;exact⟨M,N⟩
   have t:=h.mem.N_ p r s;have S:=h.mem.Vw p r s (λ k c u=>by simp only[a_,ag,ft]at c u;exact O (c.symm.trans u)) ⟨d,ms,rfl,P,nj ms⟩ ⟨g,j,rfl,Q,nj j⟩;refine⟨_,((h.to t S).put o ?_).put B ?_,t,λ k c _=>p.block k c (by simp)⟩;simp only[ar];exact⟨d,by rw[<-h.mem.len];simp,rfl⟩;simp only[ar];exact⟨g,by rw[<-h.mem.len];simp,rfl⟩
  ·cases i
 ·cases i
end
def gL{El:Nat->Type}:List (az El)->List Value->List Nat
 |B::r,h::s=>a_ B h++gL r s
 |_,_=>[]
theorem kb{El:Nat->Type}{k:Nat}:∀ {bl:List (az El)}{ρ:List Value},k∈gL bl ρ↔lB bl ρ k
 |[],ρ=>by simp[gL,lB]
 |B::r,[]=>by simp[gL,lB]
 |B::r,h::s=>by
  simp only[gL,de,kb (bl:=r)];constructor;rintro(e |⟨i,C,u,I,J,a⟩);exact⟨0,B,h,rfl,rfl,e⟩;exact⟨i+1,C,u,by simpa using I,by simpa using J,a⟩
  ·rintro⟨i,C,u,I,J,a⟩;cases i with
   |zero=>simp only[dm,aM]at I J;subst I;subst J;exact .inl a
   |succ i=>exact .inr ⟨i,C,u,by simpa using I,by simpa using J,a⟩
def gv(X:Nat->Prop)(g k:Nat):Prop:=X k\/k=g
section
variable{T:bD}{W w bT w':World}{au:List Nat}{X:Nat->Prop}{bl bl':List (az T.El)}{ρ ρ':List Value}{g:Nat}{B:az T.El}{h:Value}
theorem wF(c:ρ.length=bl.length){j:Nat}{D:az T.El}{u:Value}(a:(bl++[B])[j]? =some D)(b:(ρ++[h])[j]? =some u) :
 (j<bl.length/\bl[j]? =some D/\ρ[j]? =some u)\/(j=bl.length/\D=B/\u=h):=by
 rcases gw j bl.length with e |e
 ·rw[eF e]at a;rw[eF (by rw[c];exact e)]at b;exact .inl ⟨e,a,b⟩
 ·rw[eW e]at a;rw[eW (by rw[c];exact e),c]at b;cases aC:j-bl.length with
  |zero=>rw[aC]at a b;simp only[dm,aM]at a b;exact .inr ⟨by omega,a.symm,b.symm⟩
  |succ q=>rw[aC]at a;simp at a
theorem Bn(b:ρ.length=bl.length):j3 T ρ (ρ++[h]) bl (bl++[B]):=⟨λ j u a=>by have e:=(bg.1 a).1;refine⟨u,by rw[eF e];exact a,λ _=>rfl,?_⟩;rw[eF (by rw[<-b];exact e)];exact⟨cS _,λ _=>⟨rfl,rfl,cS _,λ _=>rfl⟩⟩⟩
theorem Mem.pG(b:Mem T W au X bl ρ w)(c:a1 [] w bT)(j:w.heap.size<=g)(I:g<bT.heap.size):Mem T bT (gL bl ρ) (gv X g) bl ρ bT:=by
 have f:∀k,aY X bl ρ w k->aY (gv X g) bl ρ bT k/\bT.heap[k]? =w.heap[k]? :=λ k a=>⟨⟨λ aa=>by
  rcases aa with aa |aa;exact a.1 aa
  ·have:=a.2.2;omega,a.2.1,dr a.2.2 c.size⟩,c.block k a.2.2 (by simp)⟩
 refine⟨a1.refl _ _,b.len,λ k a=>?_,λ k a=>⟨dr (b.lt k a).1 c.size,.inl (kb.2 a)⟩,b.a6,λ i B h hi d=>(b.ok i B h hi d).later f .refl λ k a=>c.block k (b.lt k ⟨i,B,h,hi,d,a⟩).1 (by simp)⟩;rcases a with a |rfl;exact⟨dr (b.fI k a).1 (eY b.bO.size c.size),λ e=>b.yC (kb.1 e) a⟩;exact⟨I,λ e=>by have:=(b.lt k (kb.1 e)).1;omega⟩
theorem Mem.Vm(a:Mem T W au X bl ρ w)(b:a1 [] w bT)(c:Mem T bT (gL bl ρ) (gv X g) bl' ρ' w'):a1 au W w':=(a.bO.trans b (by simp)).trans c.bO λ x d=>(a.lt x (kb.1 d)).2
theorem Mem.Vn(a:Mem T W au X bl ρ w)(d:a1 [] w bT)(b:Mem T bT (gL bl ρ) (gv X g) bl' ρ' w')(k:Nat)(c:lB bl' ρ' k):k<w'.heap.size/\(k∈au\/W.heap.size<=k):=by refine⟨(b.lt k c).1,?_⟩;rcases(b.lt k c).2 with e |e;exact(a.lt k (kb.1 e)).2;exact .inr (eY (eY a.bO.size d.size) e)
theorem Mem.Cw(b:Mem T W au X bl ρ w)(c:a1 [] w bT)(a:Mem T bT (gL bl ρ) (gv X g) bl' ρ' w'):Mem T W au X bl' ρ' w':=⟨b.Vm c a,a.len,b.fI,b.Vn c a,a.a6,λ i B h hi e=>(a.ok i B h hi e).later (λ k d=>⟨⟨λ f=>d.1 (.inl f),d.2⟩,rfl⟩) .refl λ _ _=>rfl⟩
theorem B3(b:ρ'.length=bl'.length)(c:∀k∈a_ B h,k=g){k:Nat}(a:aY (gv X g) bl' ρ' w' k):aY X (bl'++[B]) (ρ'++[h]) w' k:=⟨λ d=>a.1 (.inl d),λ⟨j,D,u,e,f,EE⟩=>by
 rcases wF b e f with⟨_,i,al⟩|⟨_,rfl,rfl⟩;exact a.2.1 ⟨j,D,u,i,al,EE⟩
 ·exact a.1 (.inr (c k EE)),a.2.2⟩
theorem Mem.ui(i:Mem T W au X bl ρ w)(o:a1 [] w bT)(t:w.heap.size<=g)(I:g<bT.heap.size)(c:Mem T bT (gL bl ρ) (gv X g) bl' ρ' w')(l:∀k∈a_ B h,k=g)
 (x:hf T (aY X (bl'++[B]) (ρ'++[h]) w') w' (ρ'++[h]) (bl'++[B]) B h):Mem T W au X (bl'++[B]) (ρ'++[h]) w':=by
 have y:g<w'.heap.size:=dr I c.bO.size
 have p:∀ {j:Nat}{D:az T.El}{u:Value},bl'[j]? =some D->ρ'[j]? =some u->g∉a_ D u:=λ{j D u} e al d=>c.yC ⟨j,D,u,e,al,d⟩ (.inr rfl)
 refine⟨i.Vm o c,by simp[c.len],i.fI,?_,?_,?_⟩
 ·rintro k ⟨j,D,u,n,f,d⟩;rcases wF c.len n f with⟨_,e,al⟩|⟨_,rfl,rfl⟩;exact i.Vn o c k ⟨j,D,u,e,al,d⟩;rw[l k d];exact⟨y,.inr (eY i.bO.size t)⟩
 ·intro a b D G u v z f A C q k d m;rcases wF c.len z f with⟨_,e,al⟩|⟨E,rfl,rfl⟩<;>rcases wF c.len A C with⟨_,r,s⟩|⟨F,rfl,rfl⟩;exact c.a6 _ _ _ _ _ _ e al r s q k d m;rw[l k m]at d;exact p e al d;rw[l k d]at m;exact p r s m;exact q (by omega)
 ·intro j D u n f;rcases wF c.len n f with⟨_,e,al⟩|⟨_,rfl,rfl⟩;exact(c.ok j D u e al).later (λ k d=>⟨B3 c.len l d,rfl⟩) (Bn c.len) λ _ _=>rfl;exact x
theorem yT(b:a1 [] w bT)(c:w.heap.size<=g){k:Nat}(a:aY X bl ρ w k):aY (gv X g) bl ρ bT k:=⟨λ aa=>by
 rcases aa with aa |aa;exact a.1 aa
 ·have:=a.2.2;omega,a.2.1,dr a.2.2 b.size⟩
theorem To.Cw(a:a1 [] w bT)(e:w.heap.size<=g)(b:To (gv X g) bl bl' ρ ρ' bT w'):To X bl bl' ρ ρ' w w':=⟨λ k c=>by obtain⟨d,al⟩:=b.F k (yT a e c);exact⟨⟨λ f=>d.1 (.inl f),d.2⟩,al.trans (a.block k c.2.2 (by simp))⟩,b.L,eY a.size b.sz,λ i D u hi j k c l=>b.kR i D u hi j k c (dr l a.size)⟩
theorem To.ui(d:ρ'.length=bl'.length)(f:∀k∈a_ B h,k=g)(b:a1 [] w bT)(j:w.heap.size<=g)(c:To (gv X g) bl bl' ρ ρ' bT w'):To X bl (bl'++[B]) ρ (ρ'++[h]) w w':=
 ⟨λ k a=>by
  obtain⟨e,al⟩:=c.F k (yT b j a);exact⟨B3 d f e,al.trans (b.block k a.2.2 (by simp))⟩,c.L.trans (Bn d),eY b.size c.sz,λ i D u hi l k a m=>by
  rcases wF d hi l with⟨_,e,al⟩|⟨_,rfl,rfl⟩;exact c.kR i D u e al k a (dr m b.size)
  ·have:=f k a;omega⟩
theorem eH.pG{ws:List Nat}(a:a1 [] w bT)(c:eH bl ρ bT w' ws):eH bl ρ w w' ws:=λ q b d=>(c q (dr b a.size) d).trans (a.block q b (by simp))
theorem dC.pG{P:Program}{ops:Array Oper}(b:a1 [] w bT)(f:w.heap.size<=g):∀ {ap:List (List Nat×gf T.El)}{H:List (List Nat×(World->Prop))},dC P ops X bl ρ w ap H->dC P ops (gv X g) bl ρ bT ap H
 |[],H,h=>h
 |p::r,H,h=>by
  simp only[dC]at h⊢;obtain⟨S,s,rfl,I,J,t⟩:=h;refine⟨S,s,rfl,I,?_,dC.pG b f t⟩;rcases J with J |J;exact .inl J;refine .inr ?_;cases j:p.2 with
  |ro=>rw[j]at J;obtain⟨q,c,d⟩:=J;exact⟨q,yT b f c,λ w'' e=>d w'' (e.trans (b.block q c.2.2 (by simp)))⟩
  |qf i=>
   rw[j]at J;obtain⟨q,c,l,d,m⟩:=J;exact⟨q,dr c b.size,λ aa=>by
    rcases aa with aa |aa;exact l aa
    ·omega,d,λ w'' e=>m w'' (e.trans (b.block q c (by simp)))⟩
  |dO i o y=>rw[j]at J;obtain⟨q,u,c,d,l,m,v,x,z⟩:=J;refine⟨q,u,c,dr d b.size,λ aa=>?_,m,ar.later (λ k n=>⟨yT b f n,b.block k n.2.2 (by simp)⟩) .refl _ v,?_,z⟩;rcases aa with aa |aa;exact l aa;omega;rw[<-x];exact World.cell?_of_block (a:=⟨q,o,none⟩) (b.block q d (by simp))
theorem dC.ui{P:Program}{ops:Array Oper}(d:ρ.length=bl.length)(e:∀k∈a_ B h,k=g):∀ {ap:List (List Nat×gf T.El)}{H:List (List Nat×(World->Prop))},dC P ops (gv X g) bl ρ w ap H->dC P ops X (bl++[B]) (ρ++[h]) w ap H
 |[],H,f=>f
 |p::r,H,f=>by
  simp only[dC]at f⊢;obtain⟨S,t,rfl,I,J,v⟩:=f;refine⟨S,t,rfl,I,?_,dC.ui d e v⟩;have one:∀ {q i:Nat},¬gv X g q->nz bl ρ q i->nz (bl++[B]) (ρ++[h]) q i:=λ{q i} a b j D u x z l=>by rcases wF d x z with⟨_,A,al⟩|⟨_,rfl,rfl⟩;exact b j D u A al l;exact absurd (.inr (e q l)) a
  rcases J with J |J;exact .inl J;refine .inr ?_;cases m:p.2 with
  |ro=>rw[m]at J;obtain⟨q,c,b⟩:=J;exact⟨q,B3 d e c,b⟩
  |qf i=>rw[m]at J;obtain⟨q,c,a,b,n⟩:=J;exact⟨q,c,λ s=>a (.inl s),one a b,n⟩
  |dO i o y=>rw[m]at J;obtain⟨q,u,c,b,a,n,C,E,F⟩:=J;refine⟨q,u,?_,b,λ s=>a (.inl s),one a n,ar.later (λ k l=>⟨B3 d e l,rfl⟩) (Bn d) _ C,E,F⟩;rw[eF (bg.1 c).1];exact c
end
section
variable{E:Env}{W:World}{au:List Nat}{X:Nat->Prop}{n:cm}{b0:List (az E.T.El)}{ρ0:List Value}{w0:World}{s1 s:dg E.T.El}{cz ρ:List Value}{bP a:Act}{bT w:World}
theorem dw.pG(h:dw E W au X n b0 ρ0 w0 s1 cz bP bT){v:World}(b:a1 [] bT v){g:Nat}(d:bT.heap.size<=g)(I:g<v.heap.size):dw E v (gL s1.bl cz) (gv X g) n s1.bl cz v ⟨s1.f,s1.bl,[]⟩ cz bP v:=⟨⟨h.r.mem.pG b d I,h.r.db.later (λ k c=>⟨yT b d c,b.block k c.2.2 (by simp)⟩) .refl,λ q y e=>ar.later (λ k c=>⟨yT b d c,b.block k c.2.2 (by simp)⟩) .refl y (h.r.eg q y e)⟩,.refl,.nil⟩
theorem dw.Cw(h:dw E W au X n b0 ρ0 w0 s1 cz bP bT){v:World}(c:a1 [] bT v){g:Nat}(f:bT.heap.size<=g){ws:List Nat}(b:dw E v (gL s1.bl cz) (gv X g) n s1.bl cz v ⟨s.f,s.bl,ws⟩ ρ a w):dw E W au X n b0 ρ0 w0 ⟨s.f,s.bl,ws++s1.ws⟩ ρ a w:=by
 have d:∀k,aY (gv X g) s.bl ρ w k->aY X s.bl ρ w k/\w.heap[k]? =w.heap[k]? :=λ k e=>⟨⟨λ i=>e.1 (.inl i),e.2⟩,rfl⟩
 have j:=To.Cw c f b.to;exact⟨⟨h.r.mem.Cw c b.r.mem,b.r.db.later d .refl,λ q y l=>ar.later d .refl y (b.r.eg q y l)⟩,h.to.trans j,h.wr.cc h.to (b.wr.pG c)⟩
theorem akK{a:Act}{d:Nat}{v:Value}(h:a.tmps.getD d undef=v):a.put (some d) v=a:=by
 have:a.tmps.setIfInBounds d v=a.tmps:=by apply Array.ext_getElem?;intro i;rw[d_];split;rename_i e;subst e;split;rename_i b;rw[iH b,<-h];simp[Array.getD,b];rename_i b;rw[hA (by omega)];rfl
 show({ a with tmps:=a.tmps.setIfInBounds d v }:Act)=a
 rw[this]
theorem dw.ui(h:dw E W au X n b0 ρ0 w0 s1 cz bP bT){v:World}(e:a1 [] bT v){g:Nat}(j:bT.heap.size<=g)(I:g<v.heap.size){ws:List Nat}(b:dw E v (gL s1.bl cz) (gv X g) n s1.bl cz v ⟨s.f,s.bl,ws⟩ ρ a w)
 {d t:Nat}{z:List Value}(aC:eh d n.n=true)(o:a.tmps.getD d undef=g6 g)(ag:w.heap[g]? =some (.cells ⟨z⟩ t (0,0))):dw E W au X n b0 ρ0 w0 ⟨s.f.put d (.b s.bl.length 0),s.bl++[.c t (z.map .p)],ws++s1.ws⟩ (ρ++[g6 g]) a w:=by
 have f:∀k∈a_ (az.c (El:=E.T.El) t (z.map .p)) (g6 g),k=g:=λ k i=>by simpa only[a_,a9.ag,ft]using i
 have c:ρ.length=s.bl.length:=b.r.mem.len
 have l:∀k,aY (gv X g) s.bl ρ w k->aY X (s.bl++[.c t (z.map .p)]) (ρ++[g6 g]) w k/\w.heap[k]? =w.heap[k]? :=λ k i=>⟨B3 c f i,rfl⟩
 have p:=h.r.mem.ui e j I b.r.mem f ⟨g,z,rfl,ag,nj z⟩
 have r:=To.ui c f e j b.to
 have u:R E W au X n s.f (s.bl++[.c t (z.map .p)]) (ρ++[g6 g]) a w:=⟨p,b.r.db.later l (Bn c),λ q y x=>ar.later l (Bn c) y (b.r.eg q y x)⟩
 have m:=u.put (y:=.b s.bl.length 0) (v:=g6 g) aC (by simp only[ar];exact⟨g,by rw[<-c];simp,rfl⟩)
 rw[akK o]at m
 exact⟨m,h.to.trans r,h.wr.cc h.to (b.wr.pG e)⟩
end
def h_(ds:List Nat)(o:Oper):Bool:=o.after.toList.all λ e=>!Region.binds .any e||eE ds e.on
def BP(P:Program)(ds:List Nat):List (Nat×Oper)->Option (Nat×Oper)
 |[]=>none
 |(i,o)::r=>match mX P o&&h_ ds o with
  |true=>some (i,o)
  |false=>BP P ds r
def fr(ds:List Nat):List (Nat×Oper)->List (Nat×Oper)
 |[]=>[]
 |(i,o)::r=>match h_ ds o with
  |true=>(i,o)::fr ds r
  |false=>fr ds r
def gR(i:Nat):List (Nat×Oper)->List (Nat×Oper)
 |[]=>[]
 |(j,o)::r=>match b2 j i with
  |true=>gR i r
  |false=>(j,o)::gR i r
def yD:Nat->List Oper->List (Nat×Oper)
 |_,[]=>[]
 |i,o::r=>(i,o)::yD (i+1) r
def gi:List Oper->List Nat
 |[]=>[]
 |o::r=>match o.dst with
  |some d=>d::gi r
  |none=>gi r
def hY{α:Type}(l:List Nat):List (Nat×α)->List (Nat×α)
 |[]=>[]
 |p::r=>match eE l p.1 with
  |true=>hY l r
  |false=>p::hY l r
def zO(P:Program)(n:Nat)(o:Oper):Option Nat:=match o.op,o.guard,o.dst with
 | .alloc t,none,some d=>match oB P t,eh d n with
   |some _,true=>some d
   |_,_=>none
 |_,_,_=>none
def MB:Option Nat->Nat->Bool
 |none,_=>true
 |some p,q=>b2 p q
def Vl(a:Option Nat)(i:Nat):Option Nat:=match a with
 |some p=>match b2 p i with
  |true=>none
  |false=>some p
 |none=>none
def HN(P:Program)(n:Nat)(ds:List Nat)(rem:List (Nat×Oper))(a:Option Nat)(i:Nat)(cr:Oper)(j:Nat)(b:Oper):Option (Nat×Oper×Nat×Nat):=
 match zO P n b,fr (j::ds) (gR j rem)with
 |some a6,[(c,_)]=>match b2 c i&&MB a j with
  |true=>some (i,cr,j,a6)
  |false=>none
 |_,_=>match zO P n cr,fr (i::ds) (gR i rem)with
  |some d,[(gy,_)]=>match b2 gy j&&MB a i with
   |true=>some (j,b,i,d)
   |false=>none
  |_,_=>none
def kG(E:Env)(a4:dW E)(ops:Array Oper)(n:Nat):Nat->Option Nat->List (Nat×Oper)->List Nat->List (List Nat×gf E.T.El)->dg E.T.El->D (b1 E.T.El)
 |0,_,rem,ds,_,s=>match fr ds rem with
  |[]=>.ok ⟨.nm,s⟩
  |_=>.no
 |bu+1,a,rem,ds,ap,s=>match BP E.P ds rem with
  |some (i,o)=>(BU E ops n s.bl s.f o).bind λ q=>pE E q.f λ f=>kG E a4 ops n bu a (gR i rem) (i::ds) (zM E ops s.bl s.f i o.op ap q.aC) ⟨f,s.bl,s.ws⟩
  |none=>match fr ds rem with
   |[]=>.ok ⟨.nm,s⟩
   |[(i,o)]=>(pT E a4 ops n s.bl s.f o).bind λ t=>match t.x with
    | .nm=>match pj i t.s.ws t.s.bl ap with
      |some b=>pE E t.s.f λ f=>tJ E t.s.ws s.bl.length t.s.bl λ bl=>kG E a4 ops n bu (Vl a i) (gR i rem) (i::ds) b ⟨f,bl,t.s.ws++s.ws⟩
      |none=>.no
    |x=>.ok ⟨x,⟨hY (gi ops.toList) t.s.f.aQ,[],[]⟩,t.s.bl,t.s.ws++s.ws⟩
   |[(i,cr),(j,e)]=>match two E n s.bl s.f cr e with
    |some (g,d)=>match a,fr (i::ds) (gR i rem),fr (j::ds) (gR j rem)with
     |none,[(gy,_)],[(h,_)]=>match b2 gy j&&b2 h i,pj i [] d ap with
      |true,some I=>match pj j [] d I,bu with
       |some J,bu+1=>pE E g λ f=>tJ E [] s.bl.length d λ bl=>kG E a4 ops n bu none (gR j (gR i rem)) (j::i::ds) J ⟨f,bl,s.ws⟩
       |_,_=>.no
      |_,_=>.no
     |_,_,_=>.no
    |none=>match HN E.P n ds rem a i cr j e,eh 0 bu with
     |some (c,k,q,l),true=>(pT E a4 ops n s.bl ⟨hY [l] s.f.aQ,[],[]⟩ k).bind λ t=>match t.x with
      | .nm=>match pj c t.s.ws t.s.bl ap with
        |some b=>pE E t.s.f λ f=>tJ E t.s.ws s.bl.length t.s.bl λ bl=>kG E a4 ops n bu (some q) (gR c rem) (c::ds) b ⟨f,bl,t.s.ws++s.ws⟩
        |none=>.no
      |x=>.ok ⟨x,⟨hY (gi ops.toList) t.s.f.aQ,[],[]⟩,t.s.bl,t.s.ws++s.ws⟩
     |_,_=>.no
   |_=>.no
structure j4 (ops:Array Oper) (rem:List (Nat×Oper)) (ds:List Nat):Prop where
 mem:∀i o,(i,o)∈rem↔ops[i]? =some o/\i∉ds
 lt:∀i∈ds,i<ops.size
 dO:∀i∈ds,∀o,ops[i]? =some o->h_ ds o=true
section
variable{ops:Array Oper}{rem:List (Nat×Oper)}{ds:List Nat}
theorem Bz{n:Nat}:∀ {ds:List Nat},(cG n ds).size=n
 |[]=>by simp[cG]
 |i::r=>by simp[cG,Bz (ds:=r)]
theorem rn{n j:Nat}{b:Bool}:∀ {ds:List Nat},j∈ds->j<n->(cG n ds).getD j b=true
 |i::r,h,a=>by simp only[cG,df,d_];by_cases e:i=j;subst e;simp[Bz,a];rw[lG e];rcases cU.1 h with rfl |h;exact absurd rfl e;have:=rn (b:=b) h a;simpa[df]using this
theorem Fi{n j:Nat}:∀ {ds:List Nat},j∉ds->(cG n ds).getD j false=false
 |[],_=>by simp only[cG,df,Array.getElem?_replicate];split<;>rfl
 |i::r,h=>by simp only[cU,not_or]at h;have:=Fi (n:=n) h.2;simp only[cG,df,d_,lG (Ne.symm h.1)]at this⊢;exact this
theorem UK{n j:Nat}(a:j<n)(h:j∉ds):(cG n ds).getD j true=false:=by
 have I:=Fi (n:=n) h;have b:j<(cG n ds).size:=by rw[Bz];exact a
 simp only[df,iH b,h2]at I⊢;exact I
theorem tU{o:Oper}:h_ ds o=true↔∀e∈o.after,Region.binds .any e=true->e.on∈ds:=by
 simp only[h_,jX,h1,gx];constructor;intro h e a ag;rcases h e (by simpa using a)with h |h;rw[ag]at h;cases h;exact lZ h
 ·intro h e a;cases ag:Region.binds .any e with
  |false=>exact .inl rfl
  |true=>exact .inr (Bc.2 (h e (by simpa using a) ag))
theorem mi(b:j4 ops rem ds){i:Nat}:i∈Region.ready .any ops (cG ops.size ds)↔∃o,(i,o)∈rem/\h_ ds o=true:=by rw[mem_ready];constructor;rintro⟨I,o,J,a⟩;have d:=(ee.1 J).1;refine⟨o,(b.mem i o).2 ⟨J,λ e=>?_⟩,tU.2 λ e c ag=>?_⟩;rw[rn e d]at I;cases I;by_cases aC:e.on∈ds;exact aC;have:=a e c ag;rw[Fi aC]at this;cases this;rintro⟨o,I,J⟩;obtain⟨a,f⟩:=(b.mem i o).1 I;refine⟨UK (ee.1 a).1 f,o,a,λ e c ag=>?_⟩;have:=tU.1 J e c ag;exact rn this (b.lt _ this)
theorem rE{i j:Nat}{o:Oper}:∀ {rem:List (Nat×Oper)},(j,o)∈gR i rem↔(j,o)∈rem/\j≠i
 |[]=>by simp[gR]
 |(k,p)::r=>by
  simp only[gR];cases ag:b2 k i with
  |true=>have:=a8 ag;subst this;rw[rE (rem:=r)];simp only[cU,cv];constructor;rintro⟨I,J⟩;exact⟨.inr I,J⟩;rintro⟨I,J⟩;rcases I with⟨I,_⟩|I;exact absurd I J;exact⟨I,J⟩
  |false=>
   have a:k≠i:=λ e=>by subst e;simp at ag
   simp only[cU,cv,rE (rem:=r)];constructor;rintro(⟨rfl,rfl⟩|⟨I,J⟩);exact⟨.inl ⟨rfl,rfl⟩,a⟩;exact⟨.inr I,J⟩;rintro⟨I |I,J⟩;exact .inl I;exact .inr ⟨I,J⟩
theorem j4.next(f:j4 ops rem ds){i:Nat}{o:Oper}(hi:(i,o)∈rem)(g:h_ ds o=true):j4 ops (gR i rem) (i::ds):=by obtain⟨I,J⟩:=(f.mem i o).1 hi;have up:∀ {p:Oper},h_ ds p=true->h_ (i::ds) p=true:=λ{p} d=>tU.2 λ e h ag=>fD _ (tU.1 d e h ag);refine⟨λ j p=>?_,λ j aA=>?_,λ j aA p d=>?_⟩;rw[rE,f.mem];simp only[cU,not_or];exact⟨λ⟨⟨a,b⟩,c⟩=>⟨a,c,b⟩,λ⟨a,c,b⟩=>⟨⟨a,b⟩,c⟩⟩;rcases cU.1 aA with rfl |aA;exact(ee.1 I).1;exact f.lt j aA;rcases cU.1 aA with rfl |aA;rw[I]at d;cases d;exact up g;exact up (f.dO j aA p d)
theorem FT{P:Program}{i:Nat}{o:Oper}:∀ {rem:List (Nat×Oper)},BP P ds rem=some (i,o)->(i,o)∈rem/\mX P o=true/\h_ ds o=true
 |[],h=>by simp[BP]at h
 |(k,p)::r,h=>by simp only[BP]at h;split at h;rename_i ag;simp only[aM,cv]at h;obtain⟨rfl,rfl⟩:=h;rw[bM]at ag;exact⟨by simp,ag⟩;obtain⟨I,J⟩:=FT h;exact⟨fD _ I,J⟩
theorem g7{i:Nat}{o:Oper}:∀ {rem:List (Nat×Oper)},(i,o)∈fr ds rem↔(i,o)∈rem/\h_ ds o=true
 |[]=>by simp[fr]
 |(k,p)::r=>by simp only[fr];split;rename_i ag;simp only[cU,cv,g7 (rem:=r)];constructor;rintro(⟨rfl,rfl⟩|⟨I,J⟩);exact⟨.inl ⟨rfl,rfl⟩,ag⟩;exact⟨.inr I,J⟩;rintro⟨I |I,J⟩;exact .inl I;exact .inr ⟨I,J⟩;rename_i ag;simp only[cU,cv,g7 (rem:=r)];constructor;rintro⟨I,J⟩;exact⟨.inr I,J⟩;rintro⟨⟨rfl,rfl⟩|I,J⟩;rw[J]at ag;cases ag;exact⟨I,J⟩
theorem V9(a:j4 ops rem ds)(h:fr ds rem=[]):Region.ready .any ops (cG ops.size ds)=[]:=by refine List.eq_nil_iff_forall_not_mem.2 λ i hi=>?_;obtain⟨o,I,J⟩:=(mi a).1 hi;have:=(g7 (ds:=ds)).2 ⟨I,J⟩;rw[h]at this;simp at this
theorem U4{i:Nat}{o:Oper}:∀ {l:List Oper}{k:Nat},(i,o)∈yD k l↔k<=i/\l[i-k]? =some o
 |[],k=>by simp[yD]
 |p::r,k=>by simp only[yD,cU,cv,U4 (l:=r)];constructor;rintro(⟨rfl,rfl⟩|⟨I,J⟩);exact⟨cS _,by simp⟩;refine⟨by omega,?_⟩;rw[show i-k=(i- (k+1))+1 by omega];simpa using J;rintro⟨I,J⟩;rcases Nat.eq_or_lt_of_le I with rfl |I;left;simpa using J.symm;right;refine⟨I,?_⟩;rw[show i-k=(i- (k+1))+1 by omega]at J;simpa using J
theorem amF:j4 ops (yD 0 ops.toList) []:=⟨λ i o=>by rw[U4];simp,λ i hi=>by simp at hi,λ i hi=>by simp at hi⟩
theorem QH(a:j4 ops rem ds){i:Nat}(hi:i∉ds):∀ {l:List Oper}{k:Nat}{acc:List Nat},(∀m o,l[m]? =some o->ops[k+m]? =some o)->(∀u∈acc,u∉ds)->∀u∈kK l k i acc,u∉ds
 |[],_,_,_,h=>h
 |o::r,k,acc,b,h=>by rw[kK];refine QH a hi (λ m c d=>by have:=b (m+1) c (by simpa using d);rwa [show k+(m+1)=k+1+m by omega]at this) ?_;split;rename_i ag;intro u hu;rcases cU.1 hu with rfl |hu;intro f;simp only[List.any_eq_true,bM,h1]at ag;obtain⟨e,g,I,J⟩:=ag;have:=tU.1 (a.dO u f o (by simpa using b 0 o rfl)) e (by simpa using g) I;rcases J with J |J;rw[a8 J]at this;exact hi this;exact h _ (lZ J) this;exact h u hu;exact h
theorem z2{P:Program}{v:Nat}:∀ {l:List Nat},v∈vu P ops l->v∈l/\∃o,ops[v]? =some o/\mX P o=false
 |[],h=>by simp[vu]at h
 |k::r,h=>by simp only[vu]at h;split at h;rename_i o a;rw[cH,g5]at a;split at h;obtain⟨I,J⟩:=z2 h;exact⟨fD _ I,J⟩;rename_i b;rcases cU.1 h with rfl |h;exact⟨by simp,o,a,b⟩;obtain⟨I,J⟩:=z2 h;exact⟨fD _ I,J⟩;obtain⟨I,J⟩:=z2 h;exact⟨fD _ I,J⟩
end
theorem QN{o:Oper}{d:Nat}:∀ {l:List Oper},o∈l->o.dst=some d->d∈gi l
 |[],h,_=>by simp at h
 |p::r,h,aC=>by rcases cU.1 h with rfl |h;simp[gi,aC];have:=QN h aC;simp only[gi];split;exact fD _ this;exact this
theorem Ia{α:Type}{l:List Nat}{t:Nat}{y:α}:∀ {f:List (Nat×α)},dk (hY l f) t=some y->t∉l/\dk f t=some y
 |[],h=>by simp[hY,dk]at h
 |p::r,h=>by simp only[hY]at h;split at h;rename_i ag;obtain⟨I,J⟩:=Ia h;refine⟨I,?_⟩;simp only[dk];split;rename_i e;have:=a8 e;rw[this]at ag;exact absurd (lZ ag) I;exact J;rename_i ag;simp only[dk]at h⊢;split at h;rename_i e;have:=a8 e;subst this;exact⟨λ a=>(by rw[Bc.2 a]at ag;cases ag),h⟩;exact Ia h
def hW(l:List Nat)(Q:Exit->Act->World->Prop):Exit->Act->World->Prop
 | .panic c,a,w=>∀a',r1 l a a'->Q (.panic c) a' w
 |e,a,w=>Q e a w
theorem hW.imp{l:List Nat}{Q:Exit->Act->World->Prop}:∀(e:Exit)(a:Act)(w:World),hW l Q e a w->Q e a w:=λ e a w h=>by cases e<;>first |exact h |exact h a .refl
theorem hW.put{l:List Nat}{Q:Exit->Act->World->Prop}{d:Option Nat}{v:Value}(aC:∀t,d=some t->t∈l)(c:List PanicEntry)(a:Act)(w:World)(h:hW l Q (.panic c) (a.put d v) w):hW l Q (.panic c) a w:=λ a' b=>h a' (by
 cases d with
 |none=>exact b
 |some d=>refine⟨b.1,b.2.1.trans (by simp[Act.put]),λ t f=>(b.2.2 t f).trans ?_⟩;have:d≠t:=λ e=>f (e▸aC d rfl);simp only[Act.put,df,d_,lG this])
section
variable{E:Env}{a4:dW E}{W:World}{au:List Nat}{X:Nat->Prop}{n:cm}{b0:List (az E.T.El)}{ρ0:List Value}{w0:World}{ops:Array Oper}{Q:Exit->Act->World->Prop}
theorem dw.drop{l:List Nat}{s:dg E.T.El}{ρ:List Value}{a a':Act}{w:World}(h:dw E W au X n b0 ρ0 w0 s ρ a w)(b:r1 l a a'):dw E W au X n b0 ρ0 w0 ⟨⟨hY l s.f.aQ,[],[]⟩,s.bl,s.ws⟩ ρ a' w:=⟨⟨h.r.mem,⟨⟨b.2.1.trans h.r.db.dX.size,b.1.trans h.r.db.dX.defers,λ t y d=>by obtain⟨I,J⟩:=Ia d;rw[b.2.2 t I];exact h.r.db.dX.get t y J⟩,λ p c=>by simp at c,λ p c=>by simp at c⟩,h.r.eg⟩,h.to,h.wr⟩
theorem w1{P:Program}{H c:List (List Nat×(World->Prop))}{i:Nat}(d:∀(b:Array Bool) w,b.getD i false=true->iz H b w->iz c b w):∀(bu:Nat)(b:Array Bool)(a:Act)(w:World),b.getD i false=true->hQ P ops Q H bu b a w->hQ P ops Q c bu b a w
 |0,_,_,_,_,h=>h
 |bu+1,_,_,_,e,h=>⟨h.1,λ j f=>wpOp_mono (λ a' w' h'=>⟨d _ _ (getD_set_true e) h'.1,w1 d bu _ a' w' (getD_set_true e) h'.2⟩) (h.2 j f)⟩
theorem Tl{i:Nat}{o:Oper}(h:ops[i]? =some o)(t:Nat)(a:o.dst=some t):t∈gi ops.toList:=QN (List.mem_iff_getElem?.2 ⟨i,by rw[g5];exact h⟩) a
theorem Fj{m i:Nat}{ds:List Nat}:(cG m ds).setIfInBounds i true=cG m (i::ds):=rfl
theorem VJ(aP:cJ E)(x:nq ops ops.toList 0 ops.toList=true){rem:List (Nat×Oper)}{ds:List Nat}(k:j4 ops rem ds){i:Nat}{o:Oper}(y:(i,o)∈rem)(M:mX E.P o=true)(N:h_ ds o=true){s:dg E.T.El}{ρ:List Value}{a:Act}{w:World}(l:R E W au X n s.f s.bl ρ a w)
 {q:lC E.T.El}(I:(BU E ops n.n s.bl s.f o).out q){ap:List (List Nat×gf E.T.El)}{H:List (List Nat×(World->Prop))}(r:dC E.P ops X s.bl ρ w ap H){g:Nat}
 (O:∀d u P,o.dst=some d->R E W au X n q.f s.bl ρ (a.put (some d) u) w->dC E.P ops X s.bl ρ w (zM E ops s.bl s.f i o.op ap q.aC) P->hQ E.P ops (hW (gi ops.toList) Q) P g (cG ops.size (i::ds)) (a.put (some d) u) w) :
 hQ E.P ops (hW (gi ops.toList) Q) H (g+1) (cG ops.size ds) a w:=by
 obtain⟨gP,tN⟩:=(k.mem i o).1 y
 obtain⟨d,aC,u,U,hy⟩:=MO (ops:=ops) aP l I
 have mU:=k.next y N
 have z:=(mi k).2 ⟨o,y,N⟩
 have V:=W' x (Bz (ds:=ds)) gP z
 have Y:=r.oV (cG ops.size ds)
 have Z:∀h∈H,i∉h.1:=λ p aB hi=>by obtain⟨A,c,al⟩:=r.U3 p aB i hi;rw[gP]at c;cases c;rw[M]at al;cases al
 have mN:∀v∈ends E.P ops i,v∈kK ops.toList 0 i []:=λ v C=>(z2 C).1
 have S8:∀v∈ends E.P ops i,∃o,ops[v]? =some o/\mX E.P o=false:=λ v C=>(z2 C).2
 have Kq:i∉ends E.P ops i:=λ hi=>by obtain⟨A,c,al⟩:=S8 i hi;rw[gP]at c;cases c;rw[M]at al;cases al
 have Ap:xg ops i (kK ops.toList 0 i []):=H' (λ m o D=>by simpa using D) (λ u e=>by simp at e)
 have F:∀u∈kK ops.toList 0 i [],(cG ops.size ds).getD u false=false:=λ u e=>Fi (QH k tN (λ m o D=>by simpa using D) (λ u e=>by simp at e) u e)
 have one:∀(G:gf E.T.El)(S:World->Prop),zM E ops s.bl s.f i o.op ap q.aC=(ends E.P ops i,G)::ap->p2 X s.bl ρ w S G->YieldsIf E.P ops S o u a->hQ E.P ops (hW (gi ops.toList) Q) H (g+1) (cG ops.size ds) a w:=λ G S J c al=>by
  have next:=O d u ((ends E.P ops i,S)::H) aC U (by rw[J];simp only[dC];exact⟨S,H,rfl,S8,c,r⟩)
  refine Xh gP (Xa x) (hW.put (Tl gP)) Ap mN Kq Z g _ a w V F z Y c.now al ?_;rw[aC];exact next
 have free:zM E ops s.bl s.f i o.op ap q.aC=ap->YieldsIf E.P ops (λ _=>True) o u a->hQ E.P ops (hW (gi ops.toList) Q) H (g+1) (cG ops.size ds) a w:=λ J al=>by
  have next:=O d u H aC U (by rw[J];exact r)
  refine an1 gP (Xa x) (hW.put (Tl gP)) Z V z Y al ?_;rw[aC];exact next
 rcases hy with⟨f,hy⟩|⟨f,hy⟩
 ·cases j:q.aC with
  |none=>rw[j]at hy free;exact free rfl (.inl ⟨f,λ w' _=>hy w'⟩)
  |some b=>
   rw[j]at hy one;obtain⟨t,S,cF,lx,pU,C6⟩:=hy;cases b with
   |none=>exact one .ro S rfl (.inr ⟨t,cF,pU⟩) (.inl ⟨f,C6⟩)
   |some b=>
    obtain⟨B,bK,w_,C9,Yb⟩:=cF;obtain⟨hq,cA⟩:=Vf l.mem w_ C9 Yb;have K: ¬X t:=l.mem.yC ⟨_,_,_,w_,C9,Yb⟩;simp only[zM,Tk]at one;split at one
    ·rename_i cD A gb jg;obtain⟨xx,aT,eN,aV⟩:=abI (o:=o) l jg;have c:p2 X s.bl ρ w xx (.dO cD A gb):=.inr aT;have al:=aV w c.now;have aN:=C6 w lx;have e:eN=u:=by have:=(show(execOp a.eval o).run E.P w=_ from al).symm.trans (show(execOp a.eval o).run E.P w=_ from aN);injection this with this;injection this
     subst e;exact one _ xx rfl c (.inl ⟨f,aV⟩)
    ·exact one (.qf b) S rfl (.inr ⟨t,hq,K,(cA:nz s.bl ρ t b),pU⟩) (.inl ⟨f,C6⟩)
 ·have L:YieldsIf E.P ops (λ _=>True) o u a:=.inr ⟨f,hy⟩;cases j:q.aC with
  |none=>rw[j]at free;exact free rfl L
  |some b=>
   rw[j]at one;cases b with
   |none=>exact one _ _ rfl (.inl λ _=>trivial) L
   |some b=>exact one _ _ rfl (.inl λ _=>trivial) L
theorem Ip(g:cJ E)(h:gH E a4){i:Nat}{o:Oper}(gP:ops[i]? =some o){f:cf E.T.El}{bl:List (az E.T.El)}{ρ:List Value}{a:Act}{w:World}(j:R E W au X n f bl ρ a w)
 {b:b1 E.T.El}(I:(pT E a4 ops n.n bl f o).out b){K:Act->World->Prop}{d:Exit->Act->World->Prop}
 (k:∀ρ' a' w',R E W au X n b.s.f b.s.bl ρ' a' w'->To X bl b.s.bl ρ ρ' w w'->eH bl ρ w w' b.s.ws->r1 (DQ o.dst) a a'->mz E X b.s.bl ρ' (Exit.then K d) a' w' b.x):wpOp E.P ops d i K a w:=by
 have c:=O5 g h j I K d k
 unfold wpOp
 simp only[gP]
 split
 ·rename_i e;rw[lH e]at c;exact .inl c
 ·rename_i e;rw[lG e]at c;exact c
theorem Vb{rem:List (Nat×Oper)}{ds:List Nat}(b:j4 ops rem ds){c:Nat}{a:Oper}(h:fr ds rem=[(c,a)]):c∈Region.ready .any ops (cG ops.size ds)/\∀j∈Region.ready .any ops (cG ops.size ds),j=c:=by
 have hc:(c,a)∈fr ds rem:=by rw[h];simp
 obtain⟨d,e⟩:=g7.1 hc;refine⟨(mi b).2 ⟨a,d,e⟩,λ j f=>?_⟩;obtain⟨i,g,al⟩:=(mi b).1 f;have:=g7.2 ⟨g,al⟩;rw[h]at this;simp only[ft,cv]at this;exact this.1
theorem aaZ{x y:Oper}{d:Nat}(h:x.apart ops y=true)(a:x.dst=some d):y.dst≠some d:=by unfold Oper.apart at h;rw[a]at h;simp only[bM,gx,bne_iff_ne,ne_eq]at h;exact h.1.2
theorem QM(g:nq ops ops.toList 0 ops.toList=true){rem:List (Nat×Oper)}{ds:List Nat}(f:j4 ops rem ds){c j d:Nat}{a b:Oper}(hc:(c,a)∈rem)(h:h_ ds a=true)(i:(j,b)∈rem)(k:h_ ds b=true)(l:c≠j)(aC:a.dst=some d):b.dst≠some d:=by obtain⟨gP,m⟩:=(f.mem c a).1 hc;obtain⟨e3,o⟩:=(f.mem j b).1 i;exact aaZ (W' g (Bz (ds:=ds)) gP ((mi f).2 ⟨a,hc,h⟩) j b e3 (Ne.symm l) (UK (ee.1 e3).1 o) λ e p ag q=>m (q▸tU.1 k e p ag)) aC
theorem Gb{ds:List Nat}{i:Nat}{p:Oper}(a:h_ ds p=true):h_ (i::ds) p=true:=tU.2 λ e b ag=>fD _ (tU.1 a e b ag)
theorem UL{m i j:Nat}{ds:List Nat}(h:i≠j):cG m (i::j::ds)=cG m (j::i::ds):=by
 show((cG m ds).setIfInBounds j true).setIfInBounds i true=((cG m ds).setIfInBounds i true).setIfInBounds j true
 exact ij _ _ (Ne.symm h)
theorem apZ{b:Nat->Prop}{bl:List (az E.T.El)}{ρ:List Value}{a:Act}{w:World}{c:Exit->Act->World->Prop}{x:zL E.T.El}(d:∀k,aY b bl ρ w k->aY X bl ρ w k)(h:mz E X bl ρ c a w x):mz E b bl ρ c a w x:=by
 cases x with
 |nm=>exact h
 |ex id=>exact h
 |rt=>exact h
 |eR y=>exact λ v e=>h v (e.later (λ k f=>⟨d k f,rfl⟩) .refl)
theorem PK{P:Program}{m:Nat}{ds:List Nat}{rem:List (Nat×Oper)}{f:Option Nat}{i j c q g:Nat}{cr b d:Oper}(h:HN P m ds rem f i cr j b=some (c,d,q,g)):∃e,(((c,d)=(i,cr)/\(q,e)=(j,b))\/((c,d)=(j,b)/\(q,e)=(i,cr)))/\zO P m e=some g/\(∃a,fr (q::ds) (gR q rem)=[(c,a)])/\MB f q=true:=by unfold HN at h;split at h;rename_i a6 k a I J;split at h;rename_i ag;simp only[bM]at ag;have:=a8 ag.1;subst this;simp only[aM,cv]at h;obtain⟨rfl,rfl,rfl,rfl⟩:=h;exact⟨b,.inl ⟨rfl,rfl⟩,I,⟨a,J⟩,ag.2⟩;cases h;split at h;rename_i a6 k a I J;split at h;rename_i ag;simp only[bM]at ag;have:=a8 ag.1;subst this;simp only[aM,cv]at h;obtain⟨rfl,rfl,rfl,rfl⟩:=h;exact⟨cr,.inr ⟨rfl,rfl⟩,I,⟨a,J⟩,ag.2⟩;cases h;cases h
theorem Ir{a t:b1 E.T.El}{ws:List Nat}{e:D (b1 E.T.El)}(J:(match a.x with
 | .nm=>e
 |x=>.ok ⟨x,⟨hY (gi ops.toList) a.s.f.aQ,[],[]⟩,a.s.bl,a.s.ws++ws⟩:D (b1 E.T.El)).out t)(k:Fin E W au X n b0 ρ0 w0 t Q){ρ':List Value}{a':Act}{w':World}{K:Act->World->Prop}
 (d:dw E W au X n b0 ρ0 w0 ⟨a.s.f,a.s.bl,a.s.ws++ws⟩ ρ' a' w')(nm:a.x= .nm->e.out t->K a' w'):mz E X a.s.bl ρ' (Exit.then K (hW (gi ops.toList) Q)) a' w' a.x:=by
 cases c:a.x with
 |nm=>rw[c]at J;exact nm c J
 |ex id=>rw[c]at J;have J:(⟨.ex id,⟨hY (gi ops.toList) a.s.f.aQ,[],[]⟩,a.s.bl,a.s.ws++ws⟩:b1 E.T.El)=t:=J;subst J;exact k ρ' a' w' (d.drop .refl)
 |rt=>rw[c]at J;have J:(⟨.rt,⟨hY (gi ops.toList) a.s.f.aQ,[],[]⟩,a.s.bl,a.s.ws++ws⟩:b1 E.T.El)=t:=J;subst J;exact k ρ' a' w' (d.drop .refl)
 |eR y=>rw[c]at J;have J:(⟨.eR y,⟨hY (gi ops.toList) a.s.f.aQ,[],[]⟩,a.s.bl,a.s.ws++ws⟩:b1 E.T.El)=t:=J;subst J;exact λ v f b ag=>k ρ' b w' (d.drop ag) v f
def zu(E:Env)(a4:dW E)(ops:Array Oper)(n:cm)(W:World)(au:List Nat)(X:Nat->Prop)(b0:List (az E.T.El))(ρ0:List Value)(w0:World)(Q:Exit->Act->World->Prop)(t:b1 E.T.El)(b:Nat):Prop:=∀(c:Option Nat)(rem:List (Nat×Oper))(ds:List Nat)(ap:List (List Nat×gf E.T.El))(H:List (List Nat×(World->Prop)))(s:dg E.T.El)(ρ:List Value)(a:Act)(w:World),(kG E a4 ops n.n b c rem ds ap s).out t->dw E W au X n b0 ρ0 w0 s ρ a w->j4 ops rem ds->dC E.P ops X s.bl ρ w ap H->hQ E.P ops (hW (gi ops.toList) Q) H b (cG ops.size ds) a w
theorem PL{P:Program}{m:Nat}{o:Oper}{d:Nat}(h:zO P m o=some d):∃t z,o.op= .alloc t/\o.guard=none/\o.dst=some d/\oB P t=some z/\eh d m=true:=by unfold zO at h;split at h;rename_i t d' I J a;split at h;rename_i z b c;cases h;exact⟨t,z,I,J,a,b,c⟩;cases h;cases h
theorem aaV{o:Oper}{d t:Nat}{z:List Value}(I:o.op= .alloc t)(J:o.guard=none)(a:o.dst=some d)(b:oB E.P t=some z){m:Nat}(c:eh d m=true)(bl:List (az E.T.El))(f:cf E.T.El) :
 pT E a4 ops m bl f o= .ok ⟨.nm,f.put d (.b bl.length 0),bl++[.c t (z.map .p)],[]⟩:=by
 simp only[pT,J,Ac,C0,v5,I,Im,z6,b,D.bind,a,y1,c,Option.getD]
def Pp(E:Env)(a4:dW E)(ops:Array Oper)(n:cm)(X:Nat->Prop)(Q:Exit->Act->World->Prop)(t:b1 E.T.El)(j a6:Nat)(c:Oper)(b:dg E.T.El)(d:List Value)(v:World)(g:Nat)(e:Nat):Prop:=
 ∀(rem:List (Nat×Oper))(ds:List Nat)(ap:List (List Nat×gf E.T.El))(H:List (List Nat×(World->Prop)))(s:dg E.T.El)(ρ:List Value)(a:Act)(w:World)(ws:List Nat),(kG E a4 ops n.n (e+1) (some j) rem ds ap s).out t ->
  dw E v (gL b.bl d) (gv X g) n b.bl d v ⟨s.f,s.bl,ws⟩ ρ a w->s.ws=ws++b.ws->a.tmps.getD a6 undef=g6 g->j4 ops rem ds->(j,c)∈rem->h_ ds c=true->dC E.P ops (gv X g) s.bl ρ w ap H->hQ E.P ops (hW (gi ops.toList) Q) H e (cG ops.size (j::ds)) a w
section
variable{t:b1 E.T.El}{j a6 iv g:Nat}{iy:List Value}{bS:Oper}{s1:dg E.T.El}{cz:List Value}{bP:Act}{bT v:World}
theorem Qj(U:cJ E)(V:gH E a4)(Y:nq ops ops.toList 0 ops.toList=true)(Z:bS.dst=some a6)(c0:dw E W au X n b0 ρ0 w0 s1 cz bP bT)(ai:a1 [] bT v)(aK:bT.heap.size<=g)(k:Fin E W au X n b0 ρ0 w0 t Q){m:Nat}(Aq:Pp E a4 ops n X Q t j a6 bS s1 cz v g m)
 {rem:List (Nat×Oper)}{ds:List Nat}{ap:List (List Nat×gf E.T.El)}{H:List (List Nat×(World->Prop))}{s:dg E.T.El}{ρ:List Value}{a:Act}{w:World}{ws:List Nat}{c:Nat}{h:Oper}{f:cf E.T.El}(o:j4 ops rem ds)(hc:(c,h)∈rem)(B:h_ ds h=true)(y:(j,bS)∈rem)(z:h_ ds bS=true)(A:c≠j)
 {c1:Oper}(qN:fr (j::ds) (gR j rem)=[(c,c1)])(p:dw E v (gL s1.bl cz) (gv X g) n s1.bl cz v ⟨f,s.bl,ws⟩ ρ a w)(C:s.ws=ws++s1.ws)(aZ:a.tmps.getD a6 undef=g6 g)(aW:dC E.P ops (gv X g) s.bl ρ w ap H)
 {b:b1 E.T.El}(I:(pT E a4 ops n.n s.bl f h).out b)(J:(match b.x with
  | .nm=>match pj c b.s.ws b.s.bl ap with
    |some F=>pE E b.s.f λ f=>tJ E b.s.ws s.bl.length b.s.bl λ bl=>kG E a4 ops n.n (m+1) (some j) (gR c rem) (c::ds) F ⟨f,bl,b.s.ws++s.ws⟩
    |none=>.no
  |x=>.ok ⟨x,⟨hY (gi ops.toList) b.s.f.aQ,[],[]⟩,b.s.bl,b.s.ws++s.ws⟩:D (b1 E.T.El)).out t):hQ E.P ops (hW (gi ops.toList) Q) H (m+1) (cG ops.size (j::ds)) a w:=by
 have KV:=o.next y z
 obtain⟨G,h3⟩:=Vb KV qN
 obtain⟨gP,tN⟩:=(o.mem c h).1 hc
 have bk:=(ee.1 gP).1
 have Kf:∀t,h.dst=some t->t≠a6:=λ t q e=>QM Y o hc B y z A q (by rw[Z,e])
 refine⟨λ e=>by rw[e]at G;simp at G,λ i hi=>?_⟩
 have:=h3 i hi
 subst this
 refine Ip U V gP p.r I λ ρ' a' w' K q L kh=>?_
 have M:dw E v (gL s1.bl cz) (gv X g) n s1.bl cz v ⟨b.s.f,b.s.bl,b.s.ws++ws⟩ ρ' a' w':=⟨K,p.to.trans q,p.wr.cc p.to L⟩
 have N:=c0.Cw (s:=⟨b.s.f,b.s.bl,b.s.ws++ws⟩) ai aK M
 rw[ja,<-C]at N
 refine apZ (λ k r=>⟨λ O=>r.1 (.inl O),r.2⟩) (Ir J k N λ O u=>?_)
 split at u
 ·rename_i F r;simp only[nc,wE]at u;obtain⟨fN,P,R⟩:=aW.ez K.mem q L r;have S:(cG ops.size (i::j::ds)).getD i false=true:=rn (ds:=i::j::ds) (by simp) bk;refine⟨R _ _ S (P.oV _),w1 R m _ a' w' S ?_⟩;rw[Fj,UL A];refine Aq _ _ _ _ _ _ _ _ (b.s.ws++ws) u M (by rw[C,ja]) ?_ (o.next hc B) (rE.2 ⟨y,Ne.symm A⟩) (Gb z) P;rw[kh.2.2 a6 (λ l=>?_)];exact aZ;unfold DQ at l;split at l;simp at l;rename_i d aC;simp only[ft]at l;exact Kf d aC l.symm
 ·exact u.elim
theorem aaX(aP:cJ E)(aG:gH E a4)(U:nq ops ops.toList 0 ops.toList=true)(V:bS.op= .alloc iv)(qI:bS.guard=none)(P:bS.dst=some a6)(Y:oB E.P iv=some iy)(Tv:eh a6 n.n=true)(Z:dw E W au X n b0 ρ0 w0 s1 cz bP bT)(ai:a1 [] bT v)(aK:bT.heap.size<=g)(I:g<v.heap.size)(afv:v.heap[g]? =some (.cells ⟨iy⟩ iv (0,0)))(k:Fin E W au X n b0 ρ0 w0 t Q) :
 ∀(y:Nat),(∀m,m<=y->zu E a4 ops n W au X b0 ρ0 w0 Q t m)->Pp E a4 ops n X Q t j a6 bS s1 cz v g y:=λ y=>by
 induction y with
 |zero=>
  intro K rem ds ap H s ρ a w ws b z C F l p r G;have A:(j,bS)∈fr ds rem:=g7.2 ⟨p,r⟩;have KA:mX E.P bS=false:=by simp[mX,v5,V]
  simp only[kG]at b;split at b
  ·rename_i i o KR;obtain⟨L,M,R⟩:=FT KR;have N:i≠j:=λ e=>by subst e;have:=((l.mem i o).1 L).1.symm.trans ((l.mem i bS).1 p).1;cases this;rw[KA]at M;cases M
   obtain⟨q,sG,J⟩:=D.fc b;rw[nc]at J;have O:(j,bS)∈fr (i::ds) (gR i rem):=g7.2 ⟨rE.2 ⟨p,Ne.symm N⟩,Gb r⟩;split at J;rename_i e;rw[e]at O;simp at O;exact J.elim
  ·split at b;rename_i e;rw[e]at A;simp at A;rename_i i o e;rw[e]at A;simp only[ft,cv]at A;obtain⟨rfl,rfl⟩:=A;exact told K b z C F l p r G
   ·split at b;first |exact b.elim |(split at b<;>first |exact b.elim |(rename_i e _ _;cases e))
    ·split at b;rename_i e;simp at e;exact b.elim
   ·exact b.elim
 |succ y S=>
  intro K rem ds ap H s ρ a w ws b z C F l p r G;have A:(j,bS)∈fr ds rem:=g7.2 ⟨p,r⟩;have KA:mX E.P bS=false:=by simp[mX,v5,V]
  have KV:=l.next p r;have S:=S λ m O=>K m (Nat.le_succ_of_le O);rw[kG]at b;split at b
  ·rename_i i o KR;obtain⟨L,M,R⟩:=FT KR;have N:i≠j:=λ e=>by subst e;have:=((l.mem i o).1 L).1.symm.trans ((l.mem i bS).1 p).1;cases this;rw[KA]at M;cases M
   obtain⟨q,sG,J⟩:=D.fc b;rw[nc]at J;refine VJ aP U KV (rE.2 ⟨L,N⟩) M (Gb R) z.r sG G λ d u fN aC An AD=>?_;rw[UL N];refine S _ _ _ _ _ _ _ _ ws J ⟨An,z.to,z.wr⟩ C ?_ (l.next L R) (rE.2 ⟨p,Ne.symm N⟩) (Gb r) AD;have bH:d≠a6:=λ e=>QM U l L R p r N aC (by rw[P,e]);simp only[Act.put,df,d_,lG bH];simpa only[df]using F
  ·split at b;rename_i e;rw[e]at A;simp at A;rename_i i o e;rw[e]at A;simp only[ft,cv]at A;obtain⟨rfl,rfl⟩:=A;exact told K b z C F l p r G
   ·rename_i i cr ym arz e;split at b;first |exact b.elim |(split at b<;>first |exact b.elim |(rename_i e _ _;cases e))
    ·split at b
     ·rename_i c fY q c7 J8 vD;obtain⟨ld,EJ,pc,⟨c1,k0⟩,TI⟩:=PK J8;have agS:j=q:=a8 TI;subst agS;have jG:(c,fY)∈fr ds rem/\(j,ld)∈fr ds rem:=by rw[e];rcases EJ with⟨ak,al⟩|⟨ak,al⟩<;>(cases ak;cases al;simp)
      obtain⟨cX,cp⟩:=g7.1 jG.1;obtain⟨ba,bw⟩:=g7.1 jG.2;have adu:ld=bS:=by have:=((l.mem j ld).1 ba).1.symm.trans ((l.mem j bS).1 p).1;exact eG this
      subst adu;have afG:c≠j:=λ DT=>by
       subst DT;have O:(c,c1)∈fr (c::ds) (gR c rem):=by rw[k0];simp
       exact(rE.1 (g7.1 O).1).2 rfl
      obtain⟨Gz,Hn,_,_,x7,_,_⟩:=PL pc;have afQ:c7=a6:=by rw[P]at x7;exact(eG x7).symm
      subst afQ;obtain⟨t1,eU,g8⟩:=D.fc b;exact Qj (s:=s) (ws:=ws) (f:=⟨hY [c7] s.f.aQ,[],[]⟩) aP aG U P Z ai aK k S l cX cp p r afG k0 (z.drop (a':=a) .refl) C F G eU g8
     ·exact b.elim
   ·exact b.elim
where
 told {y:Nat} (K:∀m,m<=y->zu E a4 ops n W au X b0 ρ0 w0 Q t m) {rem:List (Nat×Oper)} {ds:List Nat} {ap:List (List Nat×gf E.T.El)} {H:List (List Nat×(World->Prop))} {s:dg E.T.El} {ρ:List Value} {a:Act} {w:World} {ws:List Nat}
  (b:((pT E a4 ops n.n s.bl s.f bS).bind λ t=>match t.x with
   | .nm=>match pj j t.s.ws t.s.bl ap with
     |some di=>pE E t.s.f λ f=>tJ E t.s.ws s.bl.length t.s.bl λ bl=>kG E a4 ops n.n y (Vl (some j) j) (gR j rem) (j::ds) di ⟨f,bl,t.s.ws++s.ws⟩
     |none=>.no
   |x=>.ok ⟨x,⟨hY (gi ops.toList) t.s.f.aQ,[],[]⟩,t.s.bl,t.s.ws++s.ws⟩:D (b1 E.T.El)).out t)
  (z:dw E v (gL s1.bl cz) (gv X g) n s1.bl cz v ⟨s.f,s.bl,ws⟩ ρ a w) (C:s.ws=ws++s1.ws) (F:a.tmps.getD a6 undef=g6 g) (l:j4 ops rem ds) (p:(j,bS)∈rem) (r:h_ ds bS=true) (G:dC E.P ops (gv X g) s.bl ρ w ap H):hQ E.P ops (hW (gi ops.toList) Q) H y (cG ops.size (j::ds)) a w:=by
  rw[aaV V qI P Y Tv]at b
  simp only[D.bind]at b
  split at b
  ·rename_i di ah;simp only[nc,wE]at b;have x_:g∉gL s1.bl cz:=((Z.r.mem.pG ai aK I).fI g (.inr rfl)).2;have g0:w.heap[g]? =some (.cells ⟨iy⟩ iv (0,0)):=(z.r.mem.bO.block g I x_).trans afv;have eM:=Z.ui (s:=⟨s.f,s.bl,ws⟩) ai aK I z Tv F g0;have af:∀k∈a_ (az.c (El:=E.T.El) iv (iy.map .p)) (g6 g),k=g:=λ k ah=>by simpa only[a_,a9.ag,ft]using ah
   have af4:=dC.ui (B:=az.c (El:=E.T.El) iv (iy.map .p)) (h:=g6 g) z.r.mem.len af G;obtain⟨fN,aT,aV⟩:=af4.ez eM.r.mem .refl .nil ah;have bk:=(ee.1 ((l.mem j bS).1 p).1).1;have aq:(cG ops.size (j::ds)).getD j false=true:=rn (ds:=j::ds) (by simp) bk;refine w1 aV y _ a w aq (K y (cS _) _ _ _ _ _ _ _ _ _ b ?_ (l.next p r) aT);rw[<-C]at eM;exact eM
  ·exact b.elim
end
theorem PN(Y:cJ E)(aG:gH E a4)(h5:nq ops ops.toList 0 ops.toList=true){t:b1 E.T.El}(k:Fin E W au X n b0 ρ0 w0 t Q):∀(bu:Nat),(∀m,m<bu->zu E a4 ops n W au X b0 ρ0 w0 Q t m)->zu E a4 ops n W au X b0 ρ0 w0 Q t bu
 |0,_,h9,rem,ds,ap,H,s,ρ,a,w,g,h,l,B=>by simp only[kG]at g;split at g;rename_i aL;have g:(⟨.nm,s⟩:b1 E.T.El)=t:=g;subst g;exact⟨V9 l aL,k ρ a w h⟩;exact g.elim
 |bu+1,Z,h9,rem,ds,ap,H,s,ρ,a,w,g,h,l,B=>by
  rw[kG]at g;split at g;rename_i i o aB;obtain⟨dn,gO,hr⟩:=FT aB;obtain⟨q,I,J⟩:=D.fc g;rw[nc]at J;exact VJ Y h5 l dn gO hr h.r I B λ d u fN aC An AD=>Z bu (by omega) h9 _ _ _ _ _ _ _ _ J ⟨An,h.to,h.wr⟩ (l.next dn hr) AD
  ·split at g;rename_i aL;have g:(⟨.nm,s⟩:b1 E.T.El)=t:=g;subst g;exact⟨λ _=>k ρ a w h,by rw[V9 l aL];simp⟩
   ·rename_i i o qN;obtain⟨G,h3⟩:=Vb l qN;have age:(i,o)∈fr ds rem:=by rw[qN];simp
    obtain⟨dn,hr⟩:=g7.1 age;obtain⟨gP,tN⟩:=(l.mem i o).1 dn;have bk:=(ee.1 gP).1;obtain⟨t1,I,J⟩:=D.fc g;refine⟨λ e=>by rw[e]at G;simp at G,λ j aA=>?_⟩;have:=h3 j aA;subst this;refine Ip Y aG gP h.r I λ ρ' a' w' L M y _=>Ir J k (h.next L M y) λ aa C=>?_;split at C;rename_i di ah;simp only[nc,wE]at C;obtain⟨fN,N,F⟩:=B.ez L.mem M y ah;have aq:(cG ops.size (j::ds)).getD j false=true:=rn (ds:=j::ds) (by simp) bk;exact⟨F _ _ aq (N.oV _),w1 F bu _ a' w' aq (Z bu (by omega) _ _ _ _ _ _ _ _ _ C (h.next L M y) (l.next dn hr) N)⟩;exact C.elim
   ·rename_i i cr j bS lU;split at g
    ·rename_i f2 dN ahd;split at g
     ·rename_i gy FI r U7 cE dJ;split at g
      ·rename_i I x al;split at g
       ·rename_i J bu aN;simp only[nc,wE]at g;simp only[bM]at x;have ac6:=a8 x.1;have Iq:=a8 x.2;subst ac6;subst Iq;obtain⟨lN,a6,ti,iv,ms,iy,d1,d2,bH,SL,SM,X',Ya,fin⟩:=anA h.r ahd;obtain⟨MC,Vo⟩:=g7.1 (show(r,cr)∈fr ds rem by rw[lU];simp);obtain⟨Vq,akA⟩:=g7.1 (show(gy,bS)∈fr ds rem by rw[lU];simp);obtain⟨FR,arC⟩:=(l.mem r cr).1 MC;obtain⟨R,arD⟩:=(l.mem gy bS).1 Vq;have agd:r≠gy:=λ e=>by subst e;rw[FR]at R;cases R;rw[d1]at d2;exact bH (eG d2)
        have G:=l.next MC Vo;have TK:=l.next Vq akA;obtain⟨Nr,VH⟩:=g7.1 (show(gy,FI)∈fr (r::ds) (gR r rem) by rw[cE];simp);have ac7:FI=bS:=by have:=((G.mem gy FI).1 Nr).1;rw[R]at this;exact(eG this).symm
        subst ac7;have qP:=G.next Nr VH;have li:=(ee.1 FR).1;have ai7:=(ee.1 R).1;have step:∀ {q:Nat}{o:Oper}{d t:Nat}{z:List Value}{b:Act}{v:World}{K:Act->World->Prop},ops[q]? =some o->o.guard=none->o.dst=some d->aS E.P o b v (g6 v.heap.size) (v.alloc (.cells ⟨z⟩ t))->K (b.put (some d) (g6 v.heap.size)) (v.alloc (.cells ⟨z⟩ t))->wpOp E.P ops (hW (gi ops.toList) Q) q K b v:=by
         intro q o d t z b v K aI ay aC hy b9;have y:Region.wanted o (yielded ops b.tmps)=true:=y_ ay;unfold wpOp;simp only[aI,y,if_true];left;unfold Oper.wp;rw[show(execOp b.eval o).run E.P v=_ from hy];show K (b.put o.dst _) _
         rw[aC];exact b9
        have Sg:∀O P c6 A,c6=(a.put (some lN) (g6 O)).put (some a6) (g6 P)->a1 [] w A->w.heap.size<=O->O<A.heap.size->w.heap.size<=P->P<A.heap.size->O≠P->A.heap[O]? =some (.cells ⟨ms⟩ ti (0,0))->A.heap[P]? =some (.cells ⟨iy⟩ iv (0,0)) ->
         iz H (cG ops.size (gy::r::ds)) A/\hQ E.P ops (hW (gi ops.toList) Q) H bu (cG ops.size (gy::r::ds)) c6 A:=λ O P c6 A aZ ai i1 i2 sV ym ay ba bw=>by
         obtain⟨gG,s1,s2,ov⟩:=fin O P A ai i1 i2 sV ym ay ba bw
         subst aZ
         have eM:=h.next (s':=⟨f2,dN,[]⟩) s1 s2 ov
         obtain⟨H1,N,F⟩:=B.ez s1.mem s2 ov al
         obtain⟨aqQ,bQ,cK⟩:=N.ez s1.mem .refl .nil aN
         have next:=Z bu (by omega) none _ _ _ _ _ _ _ _ g eM qP bQ
         have t1:(cG ops.size (gy::r::ds)).getD gy false=true:=rn (by simp) ai7
         have t2:(cG ops.size (gy::r::ds)).getD r false=true:=rn (by simp) li
         exact⟨F _ _ t2 (cK _ _ t1 (bQ.oV _)),w1 F bu _ _ A t2 (w1 cK bu _ _ A t1 next)⟩
        have V8:=(mi l).2 ⟨cr,MC,Vo⟩;have sz:∀(v:World)(o:Obj),(v.alloc o).heap.size=v.heap.size+1:=λ v o=>by simp
        refine⟨λ e=>by rw[e]at V8;simp at V8,λ q aI=>?_⟩;have k0:q=r\/q=gy:=by obtain⟨c1,x,al⟩:=(mi l).1 aI;have:=g7.2 ⟨x,al⟩;rw[lU]at this;simp only[cU,cv,hl,or_false]at this;rcases this with⟨e,_⟩|⟨e,_⟩;exact .inl e;exact .inr e
        rcases k0 with rfl |rfl
        ·refine step FR SL d1 (X' _ _) ⟨dC.bO (a1.alloc _ _ _) B _,?_⟩;have B5:=(mi G).2 ⟨FI,Nr,VH⟩;refine⟨λ e=>by rw[Fj]at e;rw[e]at B5;simp at B5,λ q aI=>?_⟩;have:q=gy:=by obtain⟨c1,x,al⟩:=(mi G).1 aI;have:=g7.2 ⟨x,al⟩;rw[cE]at this;simp only[ft,cv]at this;exact this.1
         subst this;refine step R SM d2 (Ya _ _) ?_
         exact Sg w.heap.size (w.heap.size+1) _ _ (by simp) ((a1.alloc [] w _).trans (a1.alloc [] _ _) (by simp)) (cS _) (by rw[sz,sz];omega) (Nat.le_succ _) (by rw[sz,sz];omega) (by omega)
          (by rw[Below.heap_alloc _ _ _ (by rw[sz];omega)];exact heap_alloc_new w _) (by have:=heap_alloc_new (w.alloc (.cells ⟨ms⟩ ti)) (.cells ⟨iy⟩ iv);rwa [sz]at this)
        ·refine step R SM d2 (Ya _ _) ⟨dC.bO (a1.alloc _ _ _) B _,?_⟩;obtain⟨ak7,ak8⟩:=g7.1 (show(r,U7)∈fr (q::ds) (gR q rem) by rw[dJ];simp);have B5:=(mi TK).2 ⟨U7,ak7,ak8⟩;refine⟨λ e=>by rw[Fj]at e;rw[e]at B5;simp at B5,λ p aB=>?_⟩;have:p=r:=by obtain⟨c1,x,al⟩:=(mi TK).1 aB;have:=g7.2 ⟨x,al⟩;rw[dJ]at this;simp only[ft,cv]at this;exact this.1
         subst this;refine step FR SL d1 (X' _ _) ?_;have agq:(cG ops.size (q::ds)).setIfInBounds p true=cG ops.size (q::p::ds):=by
          show((cG ops.size ds).setIfInBounds q true).setIfInBounds p true=((cG ops.size ds).setIfInBounds p true).setIfInBounds q true
          exact ij _ _ (Ne.symm agd)
         rw[Fj,agq];exact Sg (w.heap.size+1) w.heap.size _ _ (by
          simp only[Act.put,sz];rw[ij _ _ (Ne.symm bH)]) ((a1.alloc [] w _).trans (a1.alloc [] _ _) (by simp)) (Nat.le_succ _) (by rw[sz,sz];omega) (cS _) (by rw[sz,sz];omega) (by omega)
          (by have:=heap_alloc_new (w.alloc (.cells ⟨iy⟩ iv)) (.cells ⟨ms⟩ ti);rwa [sz]at this) (by rw[Below.heap_alloc _ _ _ (by rw[sz];omega)];exact heap_alloc_new w _)
       ·exact g.elim
      ·exact g.elim
     ·exact g.elim
    ·split at g
     ·rename_i c fY q S J8 vD;obtain⟨U,EJ,pc,⟨c1,k0⟩,TI⟩:=PK J8;have jG:(c,fY)∈fr ds rem/\(q,U)∈fr ds rem:=by rw[lU];rcases EJ with⟨x,al⟩|⟨x,al⟩<;>(cases x;cases al;simp)
      obtain⟨cX,cp⟩:=g7.1 jG.1;obtain⟨ba,bw⟩:=g7.1 jG.2;obtain⟨gP,tN⟩:=(l.mem c fY).1 cX;obtain⟨akF,arE⟩:=(l.mem q U).1 ba;have bk:=(ee.1 gP).1;have afH:c≠q:=λ DT=>by
       subst DT;have V:(c,c1)∈fr (c::ds) (gR c rem):=by rw[k0];simp
       exact(rE.1 (g7.1 V).1).2 rfl
      obtain⟨Gz,Hn,Td,Tf,x7,Tg,Th⟩:=PL pc;obtain⟨t1,eU,g8⟩:=D.fc g;have Kj:dw E W au X n b0 ρ0 w0 ⟨⟨hY [S] s.f.aQ,[],[]⟩,s.bl,s.ws⟩ ρ a w:=h.drop .refl;have A0:=(mi l).2 ⟨fY,cX,cp⟩;refine⟨λ e=>by rw[e]at A0;simp at A0,λ r cN=>?_⟩;have af9:r=c\/r=q:=by obtain⟨cA,x,al⟩:=(mi l).1 cN;have V:=g7.2 ⟨x,al⟩;rw[lU]at V;simp only[cU,cv,hl,or_false]at V;rcases EJ with⟨aN,bI⟩|⟨aN,bI⟩<;>(cases aN;cases bI;rcases V with⟨e,_⟩|⟨e,_⟩<;>simp[e])
      rcases af9 with rfl |rfl;refine Ip Y aG gP Kj.r eU λ ρ' a' w' L M y _=>Ir g8 k (Kj.next L M y) λ aa C=>?_;split at C;rename_i di ah;simp only[nc,wE]at C;obtain⟨fN,N,F⟩:=B.ez L.mem M y ah;have aq:(cG ops.size (r::ds)).getD r false=true:=rn (ds:=r::ds) (by simp) bk;exact⟨F _ _ aq (N.oV _),w1 F bu _ a' w' aq (Z bu (by omega) _ _ _ _ _ _ _ _ _ C (Kj.next L M y) (l.next cX cp) N)⟩;exact C.elim
      ·obtain⟨dL,w_,C9⟩:=zo Tg;have hy:aS E.P U a w (g6 w.heap.size) (w.alloc (.cells ⟨Hn⟩ Gz)):=rV w_ C9 Td;have y:Region.wanted U (yielded ops a.tmps)=true:=y_ Tf;unfold wpOp;simp only[akF,y,if_true];left;unfold Oper.wp;rw[show(execOp a.eval U).run E.P w=_ from hy];show iz H _ _/\hQ _ _ _ H bu _ (a.put U.dst _) _
       rw[x7];have nU:a1 [] w (w.alloc (.cells ⟨Hn⟩ Gz)):=a1.alloc _ _ _;refine⟨dC.bO nU B _,?_⟩;have Tp:=b_ vD;obtain⟨jy,rfl⟩:∃jy,bu=jy+1:=⟨bu-1,by omega⟩
       have dH:w.heap.size<(w.alloc (.cells ⟨Hn⟩ Gz)).heap.size:=by simp
       have KX:dw E W au X n b0 ρ0 w0 ⟨⟨hY [S] s.f.aQ,[],[]⟩,s.bl,s.ws⟩ ρ (a.put (some S) (g6 w.heap.size)) w:=h.drop (zN (d:=some S));have KS:=KX.pG nU (cS _) dH;have Aq:=aaX (j:=r) Y aG h5 Td Tf x7 Tg Th KX nU (cS _) dH (heap_alloc_new w _) k jy λ m V=>Z m (by omega);refine Qj (s:=s) (ws:=[]) (f:=⟨hY [S] s.f.aQ,[],[]⟩) Y aG h5 x7 KX nU (cS _) k Aq l cX cp ba bw afH k0 KS (by simp) ?_ (dC.pG nU (cS _) B) eU g8;have ags:S<a.tmps.size:=by rw[h.r.db.dX.size];exact b_ Th
       simp only[Act.put,df,d_];simp[ags]
     ·exact g.elim
   ·exact g.elim
theorem aaW(c:cJ E)(d:gH E a4)(e:nq ops ops.toList 0 ops.toList=true)(b:Nat){f:Option Nat}{rem:List (Nat×Oper)}{ds:List Nat}{ap:List (List Nat×gf E.T.El)}{H:List (List Nat×(World->Prop))}{s:dg E.T.El}{t:b1 E.T.El}{ρ:List Value}{a:Act}{w:World}
 (g:(kG E a4 ops n.n b f rem ds ap s).out t)(h:dw E W au X n b0 ρ0 w0 s ρ a w)(i:j4 ops rem ds)(j:dC E.P ops X s.bl ρ w ap H)(k:Fin E W au X n b0 ρ0 w0 t Q):hQ E.P ops (hW (gi ops.toList) Q) H b (cG ops.size ds) a w:=by
 have all:∀b,∀m,m<=b->zu E a4 ops n W au X b0 ρ0 w0 Q t m:=λ b=>by
  induction b with
  |zero=>intro m l;exact PN c d e k m λ q o=>by omega
  |succ b p=>intro m l;exact PN c d e k m λ q o=>p q (by omega)
 exact all b b (cS _) f rem ds ap H s ρ a w g h i j
end
abbrev js(E:Env):=Nat->Option (dg E.T.El->D (b1 E.T.El))
def Fa{El:Nat->Type}(g:dg El->D (b1 El)):Nat->dg El->D (b1 El)
 |0,_=>.no
 |k+1,s=>(g s).bind λ t=>match t.x with
  | .nm=>Fa g k t.s
  |_=>.ok t
def Vd{El:Nat->Type}(id:Nat)(t:b1 El):D (b1 El):=match t.x with
 | .ex i=>match b2 i id with
   |true=>.ok ⟨.nm,t.s⟩
   |false=>.ok t
 |_=>.ok t
def Uj{El:Nat->Type}(f:cf El):Operand->Option Bool
 | .tmp t=>dk f.du t
 |_=>none
def dg.Lr{El:Nat->Type}(s:dg El)(b:Bool):Operand->dg El
 | .tmp t=>⟨s.f.know t b,s.bl,s.ws⟩
 |_=>s
def BO{E:Env}(LE:js E):Code->Option (dg E.T.El->D (b1 E.T.El))
 | .seq (.region _ _ _) (.block id _)=>LE (1000000+id)
 |_=>none
def den(E:Env)(a4:dW E)(LE:js E)(n:Nat):Code->dg E.T.El->D (b1 E.T.El)
 | .skip,s=>.ok ⟨.nm,s⟩
 | .label _,s=>.ok ⟨.nm,s⟩
 | .exit id,s=>.ok ⟨.ex id,s⟩
 | .ret,s=>.ok ⟨.rt,s⟩
 | .region _ ops false,s=>opsL E a4 ops n ops.toList s
 | .region _ ops true,s=>match nq ops ops.toList 0 ops.toList with
   |true=>kG E a4 ops n ops.size none (yD 0 ops.toList) [] [] s
   |false=>.no
 | .seq x y,s=>match BO LE x with
   |none=>(den E a4 LE n x s).bind λ t=>match t.x with
    | .nm=>den E a4 LE n y t.s
    |_=>.ok t
   |some g=>match y with
    | .seq _ a=>(g s).bind λ t=>match t.x with
      | .nm=>den E a4 LE n a t.s
      |_=>.ok t
    |_=>.no
 | .cond c x y,s=>match cq E s.bl s.f [] c with
   |some (.p (.bool b))=>match E.dO with
    |true=>match b with
     |true=>den E a4 LE n x s
     |false=>den E a4 LE n y s
    |false=>match Uj s.f c with
     |some true=>den E a4 LE n x s
     |some false=>den E a4 LE n y s
     |none=>.mB b (den E a4 LE n x (s.Lr true c)) (den E a4 LE n y (s.Lr false c))
   |_=>.no
 | .block id c,s=>match LE id with
   |some g=>g s
   |none=>(den E a4 LE n c s).bind (Vd id)
 | .loop c,s=>Fa (den E a4 LE n c) 1000000 s
 | .scope c,s=>den E a4 LE n c s
 |_,_=>.no
def xk(E:Env)(n:cm)(g:dg E.T.El->D (b1 E.T.El))(c:Code):Prop:=∀s t,(g s).out t->∀(W:World)(au:List Nat)(X:Nat->Prop)(b0:List (az E.T.El))(ρ0:List Value)(w0:World)(ρ:List Value)(a:Act)(w:World)(Q:Exit->Act->World->Prop),dw E W au X n b0 ρ0 w0 s ρ a w->Fin E W au X n b0 ρ0 w0 t Q->c.wp E.P Q a w
def Du(E:Env)(n:cm)(g:dg E.T.El->D (b1 E.T.El))(x r:Code):Prop:=∀b s t,(g s).out t->∀(W:World)(au:List Nat)(X:Nat->Prop)(b0:List (az E.T.El))(ρ0:List Value)(w0:World)(ρ:List Value)(a:Act)(w:World)(Q:Exit->Act->World->Prop),dw E W au X n b0 ρ0 w0 s ρ a w->Fin E W au X n b0 ρ0 w0 t (Exit.then (b.wp E.P Q) Q)->(Code.seq x (.seq r b)).wp E.P Q a w
def hU(E:Env)(LE:js E)(n:cm):Code->Prop
 | .seq x y=>(∀g r a,BO LE x=some g->y= .seq r a->Du E n g x r)/\hU E LE n x/\hU E LE n y
 | .cond _ x y=>hU E LE n x/\hU E LE n y
 | .block id c=>(∀g,LE id=some g->xk E n g (.block id c))/\hU E LE n c
 | .loop c=>hU E LE n c
 | .scope c=>hU E LE n c
 |_=>True
section
variable{E:Env}{a4:dW E}{LE:js E}{W:World}{au:List Nat}{X:Nat->Prop}{n:cm}{b0:List (az E.T.El)}{ρ0:List Value}{w0:World}
theorem n3(h:∀id,LE id=none):∀c,hU E LE n c
 | .seq x y=>⟨(λ g r b a=>by
  unfold BO at a;split at a;rw[h]at a;cases a
  ·cases a),n3 h x,n3 h y⟩
 | .cond _ x y=>⟨n3 h x,n3 h y⟩
 | .block id c=>⟨(λ g a=>by rw[h id]at a;cases a),n3 h c⟩
 | .loop c=>n3 h c
 | .scope c=>n3 h c
 | .skip | .region _ _ _ | .rangeFunc _ _ _ _ | .exit _ | .label _ | .goto _ | .ret | .refuse _=>trivial
theorem R.drew{f:cf E.T.El}{bl:List (az E.T.El)}{ρ:List Value}{a:Act}{w w':World}(h:R E W au X n f bl ρ a w)(b:a1 [] w w'):R E W au X n f bl ρ a w':=h.to (Mem.Cu b) (h.mem.ez b)
theorem dw.drew{s:dg E.T.El}{ρ:List Value}{a:Act}{w w':World}(h:dw E W au X n b0 ρ0 w0 s ρ a w)(b:a1 [] w w'):dw E W au X n b0 ρ0 w0 s ρ a w':=⟨h.r.drew b,h.to.trans (Mem.Cu b),by have:=h.wr.cc h.to (s':=[]) (w'':=w') (bl':=s.bl) (ρ':=ρ) λ q c _=>b.block q c (by simp);simpa using this⟩
theorem G8{K:Act->World->Prop}{Q:Exit->Act->World->Prop}{bl:List (az E.T.El)}{ρ:List Value}{a:Act}{w:World}{x:zL E.T.El}(b:x= .nm->K a w)(h:x≠ .nm->mz E X bl ρ Q a w x):mz E X bl ρ (Exit.then K Q) a w x:=by
 cases x with
 |nm=>exact b rfl
 |ex id=>exact h (by simp)
 |rt=>exact h (by simp)
 |eR y=>exact h (by simp)
theorem i_(p:cJ E)(q:gH E a4):∀(c:Code){s:dg E.T.El}{t:b1 E.T.El}{ρ:List Value}{a:Act}{w:World}{Q:Exit->Act->World->Prop},hU E LE n c->(den E a4 LE n.n c s).out t->dw E W au X n b0 ρ0 w0 s ρ a w->Fin E W au X n b0 ρ0 w0 t Q->c.wp E.P Q a w
 | .skip,s,t,ρ,a,w,Q,_,d,h,k=>by have d:(⟨.nm,s⟩:b1 E.T.El)=t:=d;subst d;exact wp_skip (k ρ a w h)
 | .label l,s,t,ρ,a,w,Q,_,d,h,k=>by have d:(⟨.nm,s⟩:b1 E.T.El)=t:=d;subst d;exact wp_label (k ρ a w h)
 | .exit id,s,t,ρ,a,w,Q,_,d,h,k=>by have d:(⟨.ex id,s⟩:b1 E.T.El)=t:=d;subst d;exact wp_exit (k ρ a w h)
 | .ret,s,t,ρ,a,w,Q,_,d,h,k=>by have d:(⟨.rt,s⟩:b1 E.T.El)=t:=d;subst d;exact wp_ret (k ρ a w h)
 | .region id ops false,s,t,ρ,a,w,Q,_,d,h,k=>by simp only[den]at d;exact wp_region_list (yI p q ops.toList d h k)
 | .region id ops true,s,t,ρ,a,w,Q,_,d,h,k=>by simp only[den]at d;split at d;rename_i K;have aC:dw E W au X n b0 ρ0 w0 s ρ a w.drew:=h.drew (a1.drew [] w);have:=aaW p q K ops.size d aC amF (H:=[]) (by simp[dC]) k;exact Code.wp_mono hW.imp (wp_region_any p.ajA (Xf _ _ _ _ this));exact d.elim
 | .seq x y,s,t,ρ,a,w,Q,j,d,h,k=>by
   have A:∀ {z:Code}{f:b1 E.T.El}(_:hU E LE n z),(match f.x with| .nm=>den E a4 LE n.n z f.s |_=>.ok f:D (b1 E.T.El)).out t->(∀ {s':dg E.T.El}{ρ':List Value}{a':Act}{w':World},(den E a4 LE n.n z s').out t->dw E W au X n b0 ρ0 w0 s' ρ' a' w'->z.wp E.P Q a' w')->∀ρ' a' w',dw E W au X n b0 ρ0 w0 f.s ρ' a' w'->mz E X f.s.bl ρ' (Exit.then (z.wp E.P Q) Q) a' w' f.x:=λ{z f} L J aC ρ' a' w' ap=>G8 (λ o=>by
    rw[o]at J;exact aC J ap) λ o=>by
    have J:f=t:=by
     revert J;cases C:f.x with
     |nm=>exact absurd C o
     |_=>exact λ h=>h
    subst J;exact k ρ' a' w' ap
   simp only[den]at d;split at d;obtain⟨f,I,J⟩:=D.fc d;exact wp_seq (i_ p q x j.2.1 I h (A j.2.2 J λ aC F=>i_ p q y j.2.2 aC F k));rename_i g G;split at d;rename_i r u;obtain⟨f,I,J⟩:=D.fc d;exact j.1 g r u G rfl u s f I _ _ _ _ _ _ _ _ _ _ h (A j.2.2.2.2 J λ aC F=>i_ p q u j.2.2.2.2 aC F k);exact d.elim
 | .cond c x y,s,t,ρ,a,w,Q,j,d,h,k=>by
   simp only[den]at d;split at d
   ·rename_i b hc;have v:=cB h.r (cur:=[]) trivial hc;simp only[ar]at v;split at d;split at d;exact wp_cond_split v (λ _=>i_ p q x j.1 d h k) (λ e=>by cases e);exact wp_cond_split v (λ e=>by cases e) (λ _=>i_ p q y j.2 d h k)
    ·have du:∀B,Uj s.f c=some B->a.eval c= .bool B:=λ B ag=>by
      cases c with
      |tmp t=>exact h.r.db.du _ (jK ag)
      |_=>cases ag
     have kw:∀B,a.eval c= .bool B->dw E W au X n b0 ρ0 w0 (s.Lr B c) ρ a w:=λ B ag=>by
      cases c with
      |tmp t=>exact⟨h.r.know ag,h.to,h.wr⟩
      |_=>exact h
     split at d
     ·rename_i ag;have:=du _ ag;rw[v]at this;cases this;exact wp_cond_split v (λ _=>i_ p q x j.1 d h k) (λ e=>by cases e)
     ·rename_i ag;have:=du _ ag;rw[v]at this;cases this;exact wp_cond_split v (λ e=>by cases e) (λ _=>i_ p q y j.2 d h k)
     ·rcases d with⟨rfl,d⟩|⟨rfl,d⟩;exact wp_cond_split v (λ _=>i_ p q x j.1 d (kw _ v) k) (λ e=>by cases e);exact wp_cond_split v (λ e=>by cases e) (λ _=>i_ p q y j.2 d (kw _ v) k)
   ·exact d.elim
 | .block id c,s,t,ρ,a,w,Q,j,d,h,k=>by
   simp only[den]at d;split at d;rename_i g G;exact j.1 g G s t d _ _ _ _ _ _ _ _ _ _ h k
   ·obtain⟨f,I,J⟩:=D.fc d;refine wp_block (i_ p q c j.2 I h λ ρ' a' w' ap=>?_);unfold Vd at J;cases o:f.x with
    |nm=>rw[o]at J;have J:f=t:=J;subst J;have:=k ρ' a' w' ap;rw[o]at this;exact this
    |ex i=>
     rw[o]at J;simp only at J;show Exit.inBlock id Q (.exit i) a' w'
     split at J;rename_i ag;have J:(⟨.nm,f.s⟩:b1 E.T.El)=t:=J;subst J;rw[a8 ag];simp only[Exit.inBlock,if_true];exact k ρ' a' w' ap
     ·rename_i ag;have J:f=t:=J;subst J;have M:i≠id:=λ e=>by subst e;simp at ag
      simp only[Exit.inBlock,lG M];have:=k ρ' a' w' ap;rw[o]at this;exact this
    |rt=>rw[o]at J;have J:f=t:=J;subst J;have:=k ρ' a' w' ap;rw[o]at this;exact this
    |eR y=>rw[o]at J;have J:f=t:=J;subst J;have:=k ρ' a' w' ap;rw[o]at this;exact this
 | .loop c,s,t,ρ,a,w,Q,j,d,h,k=>by
   simp only[den]at d;refine wp_loop_ghost (λ m a w=>∃s ρ,dw E W au X n b0 ρ0 w0 s ρ a w/\(Fa (den E a4 LE n.n c) m s).out t) 1000000 ⟨s,ρ,h,d⟩ λ m a w N=>?_;obtain⟨s,ρ,h,d⟩:=N;cases m with
   |zero=>exact d.elim
   |succ m=>
    simp only[Fa]at d;obtain⟨f,I,J⟩:=D.fc d;refine i_ p q c j I h λ ρ' a' w' ap=>G8 (λ o=>?_) λ o=>?_;rw[o]at J;exact⟨m,kA m,_,_,ap,J⟩
    ·have J:f=t:=by
      revert J;cases C:f.x with
      |nm=>exact absurd C o
      |_=>exact λ h=>h
     subst J;exact k ρ' a' w' ap
 | .scope c,s,t,ρ,a,w,Q,j,d,h,k=>by
   simp only[den]at d;refine wp_scope_straight (i_ p q c j d h λ ρ' a' w' ap=>?_);have:=k ρ' a' w' ap;revert this;cases t.x with
   |nm=>exact λ h=>h
   |ex i=>exact λ h=>h
   |rt=>exact λ h=>h
   |eR y=>exact λ h=>h
 | .rangeFunc _ _ _ _,s,t,ρ,a,w,Q,_,d,_,_=>by simp only[den]at d;exact d.elim
 | .goto _,s,t,ρ,a,w,Q,_,d,_,_=>by simp only[den]at d;exact d.elim
 | .refuse _,s,t,ρ,a,w,Q,_,d,_,_=>by simp only[den]at d;exact d.elim
end
def oZ{El:Nat->Type}:Nat->List (aE El)->List (Nat×aE El)
 |_,[]=>[]
 |k,y::r=>(k,y)::oZ (k+1) r
def NH(E:Env)(s:dg E.T.El):ResultVar->Option (aE E.T.El)
 | .tmp t=>cq E s.bl s.f [] (.tmp t)
 | .cell dD ty=>match cq E s.bl s.f [] (.tmp dD),lay E.P ty with
   |some (.b i o),some a=>match nth s.bl i with
    |some (.c _ cs)=>j8 cs o a
    |_=>none
   |_,_=>none
def rD(E:Env)(s:dg E.T.El):List ResultVar->Option (List (aE E.T.El))
 |[]=>some []
 |r::rs=>match NH E s r,rD E s rs with
  |some y,some ys=>some (y::ys)
  |_,_=>none
def jT{El:Nat->Type}:List (aE El)->aE El
 |[y]=>y
 |ys=>.u ys
def Rq(E:Env)(rs:List ResultVar)(t:b1 E.T.El):D (eX E.T.El):=match t.x with
 | .ex _=>.no
 | .eR y=>.ok ⟨.tP y,t.s.bl,t.s.ws⟩
 |_=>match rD E t.s rs with
  |some ys=>.ok ⟨.ret (jT ys),t.s.bl,t.s.ws⟩
  |none=>.no
abbrev ig(E:Env):=Nat->js E
def kP(E:Env)(a4:dW E)(LE:ig E):dW E:=λ g ys bl=>match eE E.b3 g,E.P.funcs[g]? with
 |true,some fn=>match fn.body,hR ys.length fn.ntmps with
  |some c,true=>(den E a4 (LE g) fn.ntmps c ⟨⟨oZ 0 ys,[],[]⟩,bl,[]⟩).bind (Rq E fn.results.toList)
  |_,_=>.no
 |_,_=>.no
abbrev xd(E:Env):=Nat->Option (List (aE E.T.El)->List (az E.T.El)->D (eX E.T.El))
def xW(E:Env)(iS:xd E)(LE:ig E):Nat->dW E
 |0=>λ _ _ _=>.no
 |k+1=>λ g ys bl=>match iS g with
  |some h=>h ys bl
  |none=>kP E (xW E iS LE k) LE g ys bl
def jt(E:Env)(g:Nat)(h:List (aE E.T.El)->List (az E.T.El)->D (eX E.T.El)):Prop:=∀ys bl r,(h ys bl).out r ->
 ∀(W:World)(au:List Nat)(X:Nat->Prop)(ρ:List Value)(w:World)(vs:List Value),Mem E.T W au X bl ρ w->iB E X bl ρ w->aR E.T (aY X bl ρ w) w ρ bl ys vs ->
  Calls E.P g ⟨vs⟩ w λ e w'=>∃ρ',Mem E.T W au X r.bl ρ' w'/\To X bl r.bl ρ ρ' w w'/\eH bl ρ w w' r.ws/\sd E X r.bl ρ' w' r.e e
structure Dj (E:Env) (iS:xd E):Prop where
 b3:∀g h,iS g=some h->g∈E.b3
 ok:∀g h,iS g=some h->jt E g h
def oJ(E:Env)(LE:ig E):Prop:=∀g fn c,g∈E.b3->E.P.funcs[g]? =some fn->fn.body=some c->hU E (LE g) ⟨fn.ntmps,[]⟩ c
section
variable{E:Env}{a4:dW E}{LE:ig E}{iS:xd E}{W:World}{au:List Nat}{X:Nat->Prop}{bl:List (az E.T.El)}{ρ:List Value}{a:Act}{w:World}
theorem E9{F:Nat->Prop}{t:Nat}{y:aE E.T.El}:∀ {ys:List (aE E.T.El)}{vs:List Value}{k:Nat},aR E.T F w ρ bl ys vs->dk (oZ k ys) t=some y->∃v,dz (mH k vs) t=some v/\ar E.T F w ρ bl y v
 |[],vs,k,_,h=>by simp[oZ,dk]at h
 |z::r,vs,k,b,h=>by
  simp only[aR]at b;obtain⟨u,us,rfl,I,J⟩:=b;simp only[oZ,dk]at h;simp only[mH,dz];cases ag:b2 k t with
  |true=>rw[ag]at h;simp only[aM]at h;subst h;exact⟨u,rfl,I⟩
  |false=>rw[ag]at h;exact E9 J h
theorem amG{n:cm}{s:dg E.T.El}(h:R E W au X n s.f s.bl ρ a w){r:ResultVar}{y:aE E.T.El}(c:NH E s r=some y):∃v,NJ E.P a w r v/\ar E.T (aY X s.bl ρ w) w ρ s.bl y v:=by
 unfold NH at c;split at c;exact⟨_,rfl,cB h (cur:=[]) trivial c⟩
 ·rename_i dD ty;split at c
  ·rename_i i o x I J;split at c
   ·rename_i t cs l;have p:=cB h (cur:=[]) trivial I;simp only[ar]at p;obtain⟨g,z,al⟩:=p;rw[cH]at l;obtain⟨g',vs,e,A,f⟩:=h.mem.ok i _ _ l z;simp only[Value.pointer.injEq,aM,Addr.mk.injEq]at e;have e:=e.1;subst e;have k:=Bo J;have hc:ev w ⟨g,0,none⟩ vs:=λ j u d=>by simpa using sk (g:=g) (t:=t) (cs:=vs) (w:=w) (by simpa[aX.dl]using A) d
    obtain⟨b,m⟩:=x;cases b with
    |false=>simp only[j8]at c;rw[cH]at c;obtain⟨v,B,C⟩:=f.at_ c;exact⟨v,⟨g,o,al,.inr ⟨k.1,by simpa using hc o v B⟩⟩,C⟩
    |true=>
     simp only[j8]at c;split at c
     ·rename_i ag;simp only[aM]at c;subst c;have D:=b_ ag;have q:=f.len;refine⟨.agg ⟨(vs.drop o).take m⟩,⟨g,o,al,.inl ⟨(vs.drop o).take m,k.1,?_,λ j u d=>?_,rfl⟩⟩,?_⟩
      ·have:((vs.drop o).take m).length=m:=by simp;omega
       rw[this];exact k.2
      ·rw[ht]at d;split at d;rw[je]at d;simpa using hc (o+j) u d;cases d
      ·simp only[ar];exact⟨_,rfl,aR.take m (aR.drop o f)⟩
     ·cases c
   ·cases c
  ·cases c
theorem NI{n:cm}{s:dg E.T.El}(h:R E W au X n s.f s.bl ρ a w):∀ {rs:List ResultVar}{ys:List (aE E.T.El)},rD E s rs=some ys->∃vs,Gh E.P a w rs vs/\aR E.T (aY X s.bl ρ w) w ρ s.bl ys vs
 |[],ys,b=>by simp only[rD,aM]at b;subst b;exact⟨[],trivial,by simp[aR]⟩
 |r::rs,ys,b=>by simp only[rD]at b;split at b;rename_i y g I J;simp only[aM]at b;subst b;obtain⟨v,c,d⟩:=amG h I;obtain⟨vs,e,f⟩:=NI h J;refine⟨v::vs,⟨c,e⟩,?_⟩;simp only[aR];exact⟨v,vs,rfl,d,f⟩;cases b
theorem FP{F:Nat->Prop}:∀ {ys:List (aE E.T.El)}{vs:List Value},aR E.T F w ρ bl ys vs->ar E.T F w ρ bl (jT ys) (pack vs)
 |[],vs,h=>by simp only[aR]at h;subst h;simp only[jT,pack,ar];exact⟨[],rfl,by simp[aR]⟩
 |[y],vs,h=>by simp only[aR]at h;obtain⟨u,us,rfl,I,rfl⟩:=h;exact I
 |y::z::r,vs,h=>by have h':=h;simp only[aR]at h;obtain⟨u,us,rfl,I,c,b,rfl,J,d⟩:=h;simp only[jT,pack,ar];exact⟨_,rfl,h'⟩
theorem Eb(o:cJ E)(x:gH E a4)(ec:oJ E LE):gH E (kP E a4 LE):=by
 refine⟨λ g ys bl r b=>?_⟩;unfold kP at b;split at b
 ·rename_i fn z q;have s:=lZ z;refine⟨o.call g s,λ W au X ρ w vs A B u=>?_⟩;split at b
  ·rename_i c hc C;obtain⟨t,I,J⟩:=D.fc b;have d:=u.len;refine enter q hc rfl (by rw[d];exact C) λ a l=>?_;have F:R E W au X ⟨fn.ntmps,[]⟩ ⟨oZ 0 ys,[],[]⟩ bl ρ a w:=⟨A,⟨⟨l.size,l.defers,λ t y G=>by obtain⟨v,H,al⟩:=E9 u G;rw[l.get t v H];exact al⟩,λ p m=>by simp at m,λ p m=>by simp at m⟩,B⟩
   refine i_ (n:=⟨fn.ntmps,[]⟩) (b0:=bl) (ρ0:=ρ) (w0:=w) o x c (ec g fn c s q hc) I ⟨F,.refl,.nil⟩ λ ρ' a' w' ap=>?_;have aQ:Fr ⟨fn.ntmps,[]⟩ [] a':=⟨ap.r.db.dX.size,ap.r.db.dX.defers,λ t v h=>by simp[dz]at h⟩
   have fin:∀ {f},rD E t.s fn.results.toList=some f->(⟨.ret (jT f),t.s.bl,t.s.ws⟩:eX E.T.El)=r->bodyPost E.P fn (λ e w'=>∃ρ',Mem E.T W au X r.bl ρ' w'/\To X bl r.bl ρ ρ' w w'/\eH bl ρ w w' r.ws/\sd E X r.bl ρ' w' r.e e) .ret a' w':=λ{f} j K=>by subst K;obtain⟨us,L,M⟩:=NI ap.r j;exact NA (rs:=fn.results.toList) (by simp) aQ L ⟨ρ',ap.r.mem,ap.to,ap.wr,FP M⟩
   unfold Rq at J;cases k:t.x with
   |nm=>rw[k]at J;simp only at J;split at J;rename_i f j;exact fin j J;exact J.elim
   |rt=>rw[k]at J;simp only at J;split at J;rename_i f j;exact fin j J;exact J.elim
   |ex i=>rw[k]at J;exact J.elim
   |eR y=>rw[k]at J;have J:(⟨.tP y,t.s.bl,t.s.ws⟩:eX E.T.El)=r:=J;subst J;intro v N;exact⟨ap.r.db.dX.defers,ρ',ap.r.mem,ap.to,ap.wr,v,rfl,N⟩
  ·exact b.elim
 ·exact b.elim
theorem lP(c:cJ E)(d:Dj E iS)(ec:oJ E LE):∀k,gH E (xW E iS LE k)
 |0=>⟨λ f ys bl r b=>b.elim⟩
 |k+1=>⟨λ f ys bl r b=>by
  simp only[xW]at b;split at b;rename_i h e;exact⟨c.call f (d.b3 f h e),d.ok f h e ys bl r b⟩
  ·exact(Eb c (lP c d ec k) ec).ok f ys bl r b⟩
end
inductive hd
 |i (k:IntKind)
 |b
 |s
 |y
 |l (t:Nat)
section
variable(El:Nat->Type)
@[reducible] def LT:hd->Type
  | .i _=>Int
  | .b=>Bool
  | .s=>List UInt8
  | .y=>UInt8
  | .l t=>List (El t)
@[reducible] def j2:List hd->Type
  |[]=>Unit
  |f::r=>LT El f×j2 r
end
section
variable{El:Nat->Type}
def xL:(f:hd)->LT El f->aE El
 | .i k,d=>.p (.int k d)
 | .b,d=>.p (.bool d)
 | .s,d=>.p (bW d)
 | .y,d=>.p (.int .u8 ((d:UInt8).toNat:Int))
 | .l t,d=>.s t d
def mG:(ls:List hd)->j2 El ls->List (aE El)
 |[],_=>[]
 |f::r,d=>xL f d.1::mG r d.2
def vp{t' t:Nat}(l:List (El t')):Option (List (El t)):=match kJ t' t with
 |isTrue h=>some (h▸l)
 |isFalse _=>none
def EW(k:IntKind):aE El->Option Int
 | .p (.int j m)=>match ko j k with
   |true=>some m
   |false=>none
 |_=>none
def EV:aE El->Option Bool
 | .p (.bool d)=>some d
 |_=>none
def EX:aE El->Option (List UInt8)
 | .p (.string ⟨⟨d⟩⟩)=>some d
 |_=>none
def Ld:aE El->Option UInt8
 | .p (.int .u8 (.ofNat m))=>match eh m 256 with
   |true=>some (UInt8.ofNat m)
   |false=>none
 |_=>none
def EY(t:Nat):aE El->Option (List (El t))
 | .s _ l=>vp l
 | .q _ l=>vp l
 | .p (.slice none 0 0)=>some []
 |_=>none
def T4:(f:hd)->aE El->Option (LT El f)
 | .i k,y=>EW k y
 | .b,y=>EV y
 | .s,y=>EX y
 | .y,y=>Ld y
 | .l t,y=>EY t y
def vX:(ls:List hd)->List (aE El)->Option (j2 El ls)
 |[],[]=>some ()
 |f::r,y::ys=>match T4 f y,vX r ys with
  |some d,some ds=>some (d,ds)
  |_,_=>none
 |_,_=>none
def B1(ty:(t:Nat)->cR (El t))(F:Nat->Prop)(w:World):(f:hd)->Value->LT El f->Prop
 | .i k,v,d=>v= .int k d
 | .b,v,d=>v= .bool d
 | .s,v,d=>v=bW d
 | .y,v,d=>v= .int .u8 ((d:UInt8).toNat:Int)
 | .l t,v,d=>(bX (ty t)).rd F w [v] d
def eA(ty:(t:Nat)->cR (El t))(F:Nat->Prop)(w:World):(ls:List hd)->List Value->j2 El ls->Prop
 |[],xs,_=>xs=[]
 |f::r,xs,d=>∃v vs,xs=v::vs/\B1 ty F w f v d.1/\eA ty F w r vs d.2
theorem VZ{ty:(t:Nat)->cR (El t)}{F:Nat->Prop}{w:World}:∀ {ls:List hd}{xs:List Value}{d:j2 El ls},eA ty F w ls xs d->xs.length=ls.length
 |[],xs,d,h=>by simp only[eA]at h;subst h;rfl
 |f::r,xs,d,h=>by obtain⟨v,vs,rfl,_,J⟩:=h;simp[VZ J]
theorem al_{ty:(t:Nat)->cR (El t)}{F:Nat->Prop}{w:World}{f:hd}{v:Value}{d:LT El f}(h:B1 ty F w f v d):v.oneCell'=true:=by
 cases f with
 |l t=>exact(bX (ty t)).one h v (by simp)
 |_=>simp only[B1]at h;subst h;rfl
theorem V0{ty:(t:Nat)->cR (El t)}{F:Nat->Prop}{w:World}:∀ {ls:List hd}{xs:List Value}{d:j2 El ls},eA ty F w ls xs d->∀v∈xs,v.oneCell'=true
 |[],xs,d,h=>by simp only[eA]at h;subst h;simp
 |f::r,xs,d,h=>by obtain⟨v,vs,rfl,I,J⟩:=h;intro u hu;rcases cU.1 hu with rfl |hu;exact al_ I;exact V0 J u hu
theorem VY{ty:(t:Nat)->cR (El t)}{F F':Nat->Prop}{w w':World}(a:∀k,F k->F' k/\w'.heap[k]? =w.heap[k]?):∀ {ls:List hd}{xs:List Value}{d:j2 El ls},eA ty F w ls xs d->eA ty F' w' ls xs d
 |[],xs,d,h=>h
 |f::r,xs,d,h=>by
  obtain⟨v,vs,e,I,J⟩:=h;refine⟨v,vs,e,?_,VY a J⟩;cases f with
  |l t=>exact(bX (ty t)).law a I
  |_=>exact I
def anD{α:Type}(ty:(t:Nat)->cR (El t))(ls:List hd)(aQ:α->j2 El ls):cR α where
 size:=ls.length
 rd F w xs d:=eA ty F w ls xs (aQ d)
 len h:=VZ h
 one h:=V0 h
 law a h:=VY a h
def dS(es:List (Σ t,bz El t)){t:Nat}(agg:Bool)(ls:List hd)(aQ:El t->j2 El ls)(to:j2 El ls->El t)(eq:Option (El t->El t->Bool))(key:Option (gI (El t))):bz El t:=⟨anD (λ t=>(e7 es t).ty) ls aQ,agg,λ d=>mG ls (aQ d),λ l=>(vX ls l).map to,eq,key,none⟩
end
structure dj (T:bD) (t:Nat) (e:bz T.El t):Prop where
 cs:∀d F w xs,e.ty.rd F w xs d->aR T F w [] [] (e.cs d) xs
 fH:∀l d,e.fH l=some d->∀F w ρ bl xs,aR T F w ρ bl l xs->e.ty.rd F w xs d
 key:∀K,e.key=some K->∀F w xs k,e.ty.rd F w xs k->tK e.agg xs= @iU.enc _ K.dec K.mZ k
 one:e.agg=false->∀d,(e.cs d).length=1
 vl:∀s f,e.vl=some ⟨s,f⟩->∀d F w xs,e.ty.rd F w xs d->c' (T.ty s) F w xs (f d)
def IB(T:bD):List (Σ t,bz T.El t)->Prop
 |[]=>True
 |p::r=>dj T p.1 p.2/\IB T r
theorem anl{T:bD}{t:Nat}:dj T t bz.no:=⟨λ d F w xs h=>h.elim,(λ l d h=>by cases h),(λ K h=>by cases h),(λ h=>by cases h),(λ s f h=>by cases h)⟩
theorem y6{T:bD}{t:Nat}:∀ {es:List (Σ t,bz T.El t)},IB T es->dj T t (e7 es t)
 |[],_=>anl
 |p::r,h=>by simp only[e7];split;rename_i e _;subst e;exact h.1;exact y6 h.2
theorem anj{T:bD}(h:IB T T.es):p_ T:=⟨λ t=>(y6 h (t:=t)).cs,λ t=>(y6 h (t:=t)).fH,λ t=>(y6 h (t:=t)).key,λ t=>(y6 h (t:=t)).one,λ t=>(y6 h (t:=t)).vl⟩
def rl(T:bD)(ty:(t:Nat)->cR (T.El t)):List hd->Prop
 |[]=>True
 | .l t::r=>ty t=T.ty t/\rl T ty r
 |_::r=>rl T ty r
section
variable{T:bD}{F:Nat->Prop}{w:World}{ρ:List Value}{bl:List (az T.El)}
theorem xM{ty:(t:Nat)->cR (T.El t)}:∀ {ls:List hd}{xs:List Value}{d:j2 T.El ls},rl T ty ls->eA ty F w ls xs d->aR T F w ρ bl (mG ls d) xs
 |[],xs,d,_,h=>by simp only[eA]at h;subst h;simp[mG,aR]
 |f::r,xs,d,c,h=>by
  obtain⟨v,vs,rfl,I,J⟩:=h;cases f with
  |l t=>have a:=xM c.2 J;simp only[mG,aR];refine⟨v,vs,rfl,?_,a⟩;simp only[xL,ar];simp only[B1,c.1]at I;exact I
  |i k=>have a:=xM (ty:=ty) (ls:=r) c J;simp only[mG,aR];exact⟨v,vs,rfl,by simp only[xL,ar];exact I,a⟩
  |b=>have a:=xM (ty:=ty) (ls:=r) c J;simp only[mG,aR];exact⟨v,vs,rfl,by simp only[xL,ar];exact I,a⟩
  |s=>have a:=xM (ty:=ty) (ls:=r) c J;simp only[mG,aR];exact⟨v,vs,rfl,by simp only[xL,ar];exact I,a⟩
  |y=>have a:=xM (ty:=ty) (ls:=r) c J;simp only[mG,aR];exact⟨v,vs,rfl,by simp only[xL,ar];exact I,a⟩
theorem Qn{t' t:Nat}{l:List (T.El t')}{l':List (T.El t)}(h:vp l=some l'){xs:List Value}(a:(bX (T.ty t')).rd F w xs l):(bX (T.ty t)).rd F w xs l':=by unfold vp at h;split at h;rename_i e _;subst e;simp only[aM]at h;subst h;exact a;cases h
theorem T5{k:IntKind}{y:aE T.El}{d:Int}{v:Value}(h:EW k y=some d)(a:ar T F w ρ bl y v):v= .int k d:=by unfold EW at h;split at h;split at h;rename_i b;have:=l2 b;subst this;simp only[aM]at h;subst h;simpa only[ar]using a;cases h;cases h
theorem T3{y:aE T.El}{d:Bool}{v:Value}(h:EV y=some d)(a:ar T F w ρ bl y v):v= .bool d:=by unfold EV at h;split at h;simp only[aM]at h;subst h;simpa only[ar]using a;cases h
theorem T7{y:aE T.El}{d:List UInt8}{v:Value}(h:EX y=some d)(a:ar T F w ρ bl y v):v=bW d:=by unfold EX at h;split at h;simp only[aM]at h;subst h;simpa only[ar]using a;cases h
theorem ahI{y:aE T.El}{d:UInt8}{v:Value}(h:Ld y=some d)(a:ar T F w ρ bl y v):v= .int .u8 (d.toNat:Int):=by
 unfold Ld at h;split at h
 ·rename_i m;split at h
  ·rename_i ag;simp only[aM]at h;subst h;have b:m<256:=b_ ag;simp only[ar]at a;have:(UInt8.ofNat m).toNat=m:=by simp;omega
   rw[a,this];rfl
  ·cases h
 ·cases h
theorem T8{t:Nat}{y:aE T.El}{d:List (T.El t)}{v:Value}(h:EY t y=some d)(a:ar T F w ρ bl y v):(bX (T.ty t)).rd F w [v] d:=by unfold EY at h;split at h;simp only[ar]at a;exact Qn h a;simp only[ar]at a;exact Qn h a.1;simp only[aM]at h;subst h;simp only[ar]at a;subst a;exact⟨none,0,rfl,cS _,g_ _,λ _=>rfl,λ h=>absurd rfl h⟩;cases h
theorem ahH{ty:(t:Nat)->cR (T.El t)}{f:hd}{y:aE T.El}{d:LT T.El f}{v:Value}(c:rl T ty [f])(h:T4 f y=some d)(a:ar T F w ρ bl y v):B1 ty F w f v d:=by
 cases f with
 |i k=>exact T5 h a
 |b=>exact T3 h a
 |s=>exact T7 h a
 |y=>exact ahI h a
 |l t=>
  have:=T8 h a;show(bX (ty t)).rd F w [v] d
  rw[c.1];exact this
theorem ajc{ty:(t:Nat)->cR (T.El t)}{f:hd}{r:List hd}(h:rl T ty (f::r)):rl T ty [f]/\rl T ty r:=by
 cases f with
 |l t=>exact⟨⟨h.1,trivial⟩,h.2⟩
 |_=>exact⟨trivial,h⟩
theorem T6{ty:(t:Nat)->cR (T.El t)}:∀ {ls:List hd}{ys:List (aE T.El)}{d:j2 T.El ls}{xs:List Value},rl T ty ls->vX ls ys=some d->aR T F w ρ bl ys xs->eA ty F w ls xs d
 |[],[],d,xs,_,_,a=>by simp only[aR]at a;simp only[eA];exact a
 |f::r,y::ys,d,xs,b,h,a=>by simp only[vX]at h;split at h;rename_i e es I J;have h:=eG h;subst h;simp only[aR]at a;obtain⟨u,us,rfl,c,g⟩:=a;obtain⟨l1,i⟩:=ajc b;exact⟨u,us,rfl,ahH l1 I c,T6 i J g⟩;cases h
 |[],y::ys,d,xs,_,h,_=>by simp[vX]at h
 |f::r,[],d,xs,_,h,_=>by simp[vX]at h
theorem QB:∀ {ls:List hd}{d:j2 T.El ls},(mG ls d).length=ls.length
 |[],d=>rfl
 |f::r,d=>by simp[mG,QB (ls:=r)]
theorem dV{es:List (Σ t,bz T.El t)}{t:Nat}{agg:Bool}{ls:List hd}{aQ:T.El t->j2 T.El ls}{to:j2 T.El ls->T.El t}{eq:Option (T.El t->T.El t->Bool)}{key:Option (gI (T.El t))}
 (a:rl T (λ t=>(e7 es t).ty) ls)(b:∀p,aQ (to p)=p)(c:agg=false->ls.length=1)(e:∀K,key=some K->∀F w xs k,eA (λ t=>(e7 es t).ty) F w ls xs (aQ k)->tK agg xs= @iU.enc _ K.dec K.mZ k):dj T t (dS es agg ls aQ to eq key):=by
 refine⟨λ d F w xs h=>xM a h,λ l d h F w ρ bl xs g=>?_,e,λ h d=>by
  show(mG ls (aQ d)).length=1
  rw[QB];exact c h,(λ s f h=>by cases h)⟩
 obtain⟨p,I,J⟩:=cQ.1 (show(vX ls l).map to=some d from h)
 subst J
 show eA _ F w ls xs (aQ (to p))
 rw[b]
 exact T6 a I g
end
def Ro:List (Nat×Type)->Nat->Type
 |[],_=>Empty
 |p::r,t=>match kJ p.1 t with
  |isTrue _=>p.2
  |isFalse _=>Ro r t
def sZ:gI Int:=⟨inferInstance,ah7⟩
def Bh:gI (List UInt8):=⟨inferInstance,kq⟩
inductive hz
 |i (k:IntKind)
 |b
 |s
 |l (t:Nat)
 |x (t:Nat)
 |n (kt vt:Nat)
 |gn
 |B (j:Nat)
 |R (j:Nat)
 |M (j:Nat)
 |P (j sz:Nat)
 |F (g:Nat) (dI:List Nat)
inductive cW
 |p (p:hz)
 |a (ps:List hz)
 |f (g:Nat) (ps:List hz)
@[reducible] def lT : hz:= .i .i64
@[reducible] def lQ : cW:= .p (.i .i64)
@[reducible] def lR : cW:= .p (.l 3)
@[reducible] def lS : cW:= .p (.b)
inductive bB
 |c (ty:Nat) (ps:List hz)
 |r (t:Nat) (same:Bool)
 |m (kt vt:Nat)
 |d
section
variable(El:Nat->Type)
@[reducible] def r2:hz->Type
  | .i _=>Int
  | .b=>Bool
  | .s=>List UInt8
  | .l t=>List (El t)
  | .x t=>El t
  | .n kt vt=>List (El kt×El vt)
  | .P _ _=>List Int
  |_=>Unit
@[reducible] def p0:List hz->Type
  |[]=>Unit
  |p::r=>r2 El p×p0 r
@[reducible] def xf:cW->Type
  | .p p=>r2 El p
  | .a ps=>p0 El ps
  | .f _ ps=>p0 El ps
@[reducible] def c8:List cW->Type
  |[]=>Unit
  |p::r=>xf El p×c8 r
@[reducible] def oE:bB->Type
  | .c _ ps=>p0 El ps
  | .r t _=>List (El t)
  | .m kt vt=>List (El kt×El vt)
  | .d=>Unit
@[reducible] def ct:List bB->Type
  |[]=>Unit
  |p::r=>oE El p×ct r
end
def et(post:Bool):Option bB->Nat
 |some (.r _ same)=>match post,same with
  |true,false=>1
  |_,_=>0
 |some .d=>match post with
  |true=>1
  |false=>0
 |_=>0
def uk(post:Bool):Nat:=match post with
 |true=>1
 |false=>0
section
variable{El:Nat->Type}
def fB(σ g:Nat->Nat):(p:hz)->r2 El p->aE El
 | .i k,d=>.p (.int k d)
 | .b,d=>.p (.bool d)
 | .s,d=>.p (bW d)
 | .l t,d=>.s t d
 | .x t,d=>.x t d 0
 | .n kt vt,d=>.n kt vt d
 | .gn,_=>.p (.pointer none)
 | .B j,_=>.b (σ j) 0
 | .R j,_=>.r (σ j) (g j)
 | .M j,_=>.m (σ j)
 | .P j sz,d=>.pp (σ j) (g j) sz d
 | .F fn dI,_=>.f (.func fn) (dI.map λ j=>.b (σ j) 0)
def oj(σ g:Nat->Nat):(ps:List hz)->p0 El ps->List (aE El)
 |[],_=>[]
 |p::r,d=>fB σ g p d.1::oj σ g r d.2
def tQ(σ g:Nat->Nat):(p:cW)->xf El p->aE El
 | .p p,d=>fB σ g p d
 | .a ps,d=>.a (oj σ g ps d)
 | .f fn ps,d=>.f (.func fn) (oj σ g ps d)
def fq(σ g:Nat->Nat):(ps:List cW)->c8 El ps->List (aE El)
 |[],_=>[]
 |p::r,d=>tQ σ g p d.1::fq σ g r d.2
def c4(σ g:Nat->Nat)(post:Bool):(p:bB)->oE El p->az El
 | .c ty ps,d=>.c ty (oj σ g ps d)
 | .r t same,d=>.r t (et post (some (.r t same))) (uk post) d
 | .m kt vt,d=>.m kt vt d
 | .d,_=>.no (et post (some .d))
def bA(σ g:Nat->Nat)(post:Bool):(ps:List bB)->ct El ps->List (az El)
 |[],_=>[]
 |p::r,d=>c4 σ g post p d.1::bA σ g post r d.2
def DA:List (Nat×Nat)->Nat->Bool
 |[],_=>true
 |p::r,i=>!b2 p.2 i&&DA r i
def qb(aO:List (Nat×Nat))(j i:Nat):Option (List (Nat×Nat)):=match dk aO j with
 |some a=>match b2 a i with
  |true=>some aO
  |false=>none
 |none=>match DA aO i with
  |true=>some ((j,i)::aO)
  |false=>none
def HX{t' t:Nat}(d:El t'):Option (El t):=match kJ t' t with
 |isTrue h=>some (h▸d)
 |isFalse _=>none
def DL{k' a k v:Nat}(d:List (El k'×El a)):Option (List (El k×El v)):=match kJ k' k,kJ a v with
 |isTrue h,isTrue h'=>some (h▸h'▸d)
 |_,_=>none
def SK(t:Nat):aE El->Option (El t)
 | .x _ d 0=>HX d
 |_=>none
def SJ(kt vt:Nat):aE El->Option (List (El kt×El vt))
 | .n _ _ d=>DL d
 |_=>none
def jA:List (Nat×Nat)->List Nat->List (aE El)->Option (List (Nat×Nat))
 |aO,[],[]=>some aO
 |aO,j::r,.b i 0::ys=>match qb aO j i with
  |some a=>jA a r ys
  |none=>none
 |_,_,_=>none
def gX(bl:List (az El))(aO:List (Nat×Nat)):(p:hz)->aE El->Option (r2 El p×List (Nat×Nat))
 | .i k,y=>(EW k y).map λ d=>(d,aO)
 | .b,y=>(EV y).map λ d=>(d,aO)
 | .s,y=>(EX y).map λ d=>(d,aO)
 | .l t,y=>(EY t y).map λ d=>(d,aO)
 | .x t,y=>(SK t y).map λ d=>(d,aO)
 | .n kt vt,y=>(SJ kt vt y).map λ d=>(d,aO)
 | .gn,y=>match y with
   | .p (.pointer none)=>some ((),aO)
   |_=>none
 | .B j,y=>match y with
   | .b i 0=>(qb aO j i).map λ aO=>((),aO)
   |_=>none
 | .R j,y=>match y with
   | .r i g=>match b2 g (o3 bl i)with
     |true=>(qb aO j i).map λ aO=>((),aO)
     |false=>none
   |_=>none
 | .M j,y=>match y with
   | .m i=>(qb aO j i).map λ aO=>((),aO)
   |_=>none
 | .P j sz,y=>match y with
   | .pp i a b dI=>match b2 a (o3 bl i)&&b2 b sz with
     |true=>(qb aO j i).map λ aO=>(dI,aO)
     |false=>none
   |_=>none
 | .F g dI,y=>match y with
   | .f (.func g') cs=>match b2 g' g with
     |true=>(jA aO dI cs).map λ aO=>((),aO)
     |false=>none
   |_=>none
def kT(bl:List (az El)):(aO:List (Nat×Nat))->(ps:List hz)->List (aE El)->Option (p0 El ps×List (Nat×Nat))
 |aO,[],[]=>some ((),aO)
 |aO,p::r,y::ys=>match gX bl aO p y with
  |some (d,a)=>match kT bl a r ys with
   |some (ds,b)=>some ((d,ds),b)
   |none=>none
  |none=>none
 |_,_,_=>none
def Ad(bl:List (az El))(aO:List (Nat×Nat)):(p:cW)->aE El->Option (xf El p×List (Nat×Nat))
 | .p p,y=>gX bl aO p y
 | .a ps,y=>kT bl aO ps (cellsOf y)
 | .f g ps,y=>match y with
   | .f (.func g') ys=>match b2 g' g with
     |true=>kT bl aO ps ys
     |false=>none
   |_=>none
def HL:cW->aE El->Bool
 | .a _,y=>iL y
 |_,_=>true
def jz(bl:List (az El)):(aO:List (Nat×Nat))->(ps:List cW)->List (aE El)->Option (c8 El ps×List (Nat×Nat))
 |aO,[],[]=>some ((),aO)
 |aO,p::r,y::ys=>match HL p y,Ad bl aO p y with
  |true,some (d,a)=>match jz bl a r ys with
   |some (ds,b)=>some ((d,ds),b)
   |none=>none
  |_,_=>none
 |_,_,_=>none
end
section
variable{T:bD}{F F':Nat->Prop}{w:World}{ρ ρ':List Value}{bl bl':List (az T.El)}{g:Nat->Nat}
theorem oS{aO a:List (Nat×Nat)}{j i:Nat}(h:qb aO j i=some a):dk a j=some i/\∀p∈aO,p∈a:=by unfold qb at h;split at h;rename_i c hi;split at h;rename_i ag;simp only[aM]at h;subst h;rw[<-a8 ag];exact⟨hi,λ p b=>b⟩;cases h;split at h;simp only[aM]at h;subst h;exact⟨by simp[dk],λ p b=>fD _ b⟩;cases h
structure nw (σ:Nat->Nat) (aO:List (Nat×Nat)) (ρ ρ':List Value):Prop where
 at_:∀p∈aO,ρ'[σ p.1]? =ρ[p.2]?
theorem abz{t' t:Nat}{d:T.El t'}{d':T.El t}(h:HX d=some d'){cs:List Value}(a:(T.ty t').rd F w cs d):(T.ty t).rd F w cs d':=by unfold HX at h;split at h;rename_i e _;subst e;simp only[aM]at h;subst h;exact a;cases h
theorem Qm{k' a k v r:Nat}{d:List (T.El k'×T.El a)}{d':List (T.El k×T.El v)}(h:DL d=some d')(b:r6 T F w k' a r d):r6 T F w k v r d':=by unfold DL at h;split at h;rename_i e e' _ _;subst e;subst e';simp only[aM]at h;subst h;exact b;cases h
theorem J0:∀ {dI:List Nat}{cs:List (aE T.El)}{aO a:List (Nat×Nat)},jA aO dI cs=some a->∀q∈aO,q∈a
 |[],[],aO,a,h=>by simp only[jA,aM]at h;subst h;exact λ q b=>b
 |j::r,y::ys,aO,a,h=>by unfold jA at h;split at h;rename_i e;cases e;rename_i c al;simp only[hH]at c al;obtain⟨rfl,rfl⟩:=c;obtain⟨_,rfl⟩:=al;split at h;rename_i I;exact λ q b=>J0 h q ((oS I).2 q b);cases h;cases h
 |[],y::ys,aO,a,h=>by simp[jA]at h
 |j::r,[],aO,a,h=>by simp[jA]at h
theorem SF{σ:Nat->Nat}:∀ {dI:List Nat}{cs:List (aE T.El)}{aO b:List (Nat×Nat)}{vs:List Value},nw σ b ρ ρ'->jA aO dI cs=some b->aR T F w ρ bl cs vs->aR T F' w ρ' bl' (dI.map λ j=>.b (σ j) 0) vs
 |[],[],aO,b,vs,c,h,a=>by simp only[aR]at a;subst a;simp[aR]
 |j::r,y::ys,aO,b,vs,c,h,a=>by unfold jA at h;split at h;rename_i e;cases e;rename_i d al;simp only[hH]at d al;obtain⟨rfl,rfl⟩:=d;obtain⟨rfl,rfl⟩:=al;split at h;rename_i I;have e:=c.at_ _ (J0 h _ (jK (oS I).1));simp only[aR,ar]at a;obtain⟨u,us,rfl,⟨f,d,al⟩,aN⟩:=a;simp only[eZ,aR,ar];exact⟨u,us,rfl,⟨f,e.trans d,al⟩,SF c h aN⟩;cases h;cases h
 |[],y::ys,aO,b,vs,c,h,a=>by simp[jA]at h
 |j::r,[],aO,b,vs,c,h,a=>by simp[jA]at h
theorem SI{aO b:List (Nat×Nat)}:∀ {p:hz}{y:aE T.El}{d:r2 T.El p},gX bl aO p y=some (d,b)->∀q∈aO,q∈b
 | .i k,y,d,h=>by obtain⟨x,_,h⟩:=cQ.1 h;cases h;exact λ q a=>a
 | .b,y,d,h=>by obtain⟨x,_,h⟩:=cQ.1 h;cases h;exact λ q a=>a
 | .s,y,d,h=>by obtain⟨x,_,h⟩:=cQ.1 h;cases h;exact λ q a=>a
 | .l t,y,d,h=>by obtain⟨x,_,h⟩:=cQ.1 h;cases h;exact λ q a=>a
 | .x t,y,d,h=>by obtain⟨x,_,h⟩:=cQ.1 h;cases h;exact λ q a=>a
 | .n kt vt,y,d,h=>by obtain⟨x,_,h⟩:=cQ.1 h;cases h;exact λ q a=>a
 | .gn,y,d,h=>by simp only[gX]at h;split at h;cases h;exact λ q a=>a;cases h
 | .B j,y,d,h=>by simp only[gX]at h;split at h;obtain⟨x,I,h⟩:=cQ.1 h;cases h;exact(oS I).2;cases h
 | .R j,y,d,h=>by simp only[gX]at h;split at h;split at h;obtain⟨x,I,h⟩:=cQ.1 h;cases h;exact(oS I).2;cases h;cases h
 | .M j,y,d,h=>by simp only[gX]at h;split at h;obtain⟨x,I,h⟩:=cQ.1 h;cases h;exact(oS I).2;cases h
 | .P j sz,y,d,h=>by simp only[gX]at h;split at h;split at h;obtain⟨x,I,h⟩:=cQ.1 h;cases h;exact(oS I).2;cases h;cases h
 | .F g dI,y,d,h=>by simp only[gX]at h;split at h;split at h;obtain⟨x,I,h⟩:=cQ.1 h;cases h;exact J0 I;cases h;cases h
theorem SH{σ:Nat->Nat}(l:∀k,F k->F' k)(u:∀j,g j=bJ bl'[σ j]?){aO z:List (Nat×Nat)}(m:nw σ z ρ ρ'):∀ {p:hz}{y:aE T.El}{d:r2 T.El p}{v:Value},gX bl aO p y=some (d,z)->ar T F w ρ bl y v->ar T F' w ρ' bl' (fB σ g p d) v
 | .i k,y,d,v,h,b=>by obtain⟨x,I,h⟩:=cQ.1 h;cases h;simp only[fB,ar];exact T5 I b
 | .b,y,d,v,h,b=>by obtain⟨x,I,h⟩:=cQ.1 h;cases h;simp only[fB,ar];exact T3 I b
 | .s,y,d,v,h,b=>by obtain⟨x,I,h⟩:=cQ.1 h;cases h;simp only[fB,ar];exact T7 I b
 | .l t,y,d,v,h,b=>by obtain⟨x,I,h⟩:=cQ.1 h;cases h;simp only[fB,ar];exact(bX (T.ty t)).law (λ k n=>⟨l k n,rfl⟩) (T8 I b)
 | .x t,y,d,v,h,b=>by obtain⟨x,I,h⟩:=cQ.1 h;cases h;unfold SK at I;split at I;simp only[ar]at b;obtain⟨a,q,cs,f,al,aN,bI⟩:=b;simp only[fB,ar];exact⟨a,q,cs,f,l a al,(T.ty t).law (λ k n=>⟨l k n,rfl⟩) (abz I aN),bI⟩;cases I
 | .n kt vt,y,d,v,h,b=>by obtain⟨x,I,h⟩:=cQ.1 h;cases h;unfold SJ at I;split at I;simp only[ar]at b;obtain⟨r,f,al,aN⟩:=b;simp only[fB,ar];exact⟨r,f,l r al,(Qm I aN).law (λ k n=>⟨l k n,rfl⟩) rfl⟩;cases I
 | .gn,y,d,v,h,b=>by simp only[gX]at h;split at h;simp only[ar]at b;simp only[fB,ar];exact b;cases h
 | .B j,y,d,v,h,b=>by simp only[gX]at h;split at h;rename_i i;obtain⟨x,I,h⟩:=cQ.1 h;cases h;have e:=m.at_ _ (jK (oS I).1);simp only[ar]at b;obtain⟨o,f,al⟩:=b;simp only[fB,ar];exact⟨o,e.trans f,al⟩;cases h
 | .R j,y,d,v,h,b=>by simp only[gX]at h;split at h;rename_i i C;split at h;rename_i ag;have ag:=a8 ag;rw[vx]at ag;obtain⟨x,I,h⟩:=cQ.1 h;cases h;have e:=m.at_ _ (jK (oS I).1);simp only[ar]at b;obtain⟨D,s,f,al,aN⟩:=b;simp only[fB,ar];exact⟨D,s,e.trans f,by rw[u];exact cS _,λ _=>aN ag⟩;cases h;cases h
 | .M j,y,d,v,h,b=>by simp only[gX]at h;split at h;rename_i i;obtain⟨x,I,h⟩:=cQ.1 h;cases h;have e:=m.at_ _ (jK (oS I).1);simp only[ar]at b;obtain⟨o,f,al⟩:=b;simp only[fB,ar];exact⟨o,e.trans f,al⟩;cases h
 | .P j sz,y,d,v,h,b=>by simp only[gX]at h;split at h;rename_i i C P dI;split at h;rename_i ag;simp only[bM]at ag;have B:=a8 ag.1;have E:=a8 ag.2;subst E;rw[vx]at B;obtain⟨x,I,h⟩:=cQ.1 h;cases h;have e:=m.at_ _ (jK (oS I).1);simp only[ar]at b;obtain⟨A,c,f,al,aN,bI⟩:=b;simp only[fB,ar];refine⟨A,c,f,al,aN,λ G=>?_⟩;obtain⟨H,J,xs,K,L⟩:=bI G;exact⟨H,l _ J,xs,K.imp λ q v ⟨M,s,N,Q,O⟩=>⟨M,s,e.trans N,by rw[u];exact cS _,λ _=>O B⟩,L⟩;cases h;cases h
 | .F g dI,y,d,v,h,b=>by simp only[gX]at h;split at h;rename_i g' cs;split at h;rename_i ag;have ag:=a8 ag;subst ag;obtain⟨x,I,h⟩:=cQ.1 h;cases h;simp only[ar]at b;obtain⟨vs,f,al⟩:=b;simp only[fB,ar];exact⟨vs,f,SF m I al⟩;cases h;cases h
end
section
variable{El:Nat->Type}
def hj(bl:List (az El))(aO:List (Nat×Nat))(post:Bool):(p:bB)->az El->Option (oE El p×List (Nat×Nat))
 | .c ty ps,B=>match B with
   | .c wS cs=>match b2 wS ty with
     |true=>kT bl aO ps cs
     |false=>none
   |_=>none
 | .r t same,B=>match B with
   | .r _ g _ l=>match !post|| !same||b2 g 0 with
     |true=>(vp l).map λ d=>(d,aO)
     |false=>none
   |_=>none
 | .m kt vt,B=>match B with
   | .m _ _ d=>(DL d).map λ d=>(d,aO)
   |_=>none
 | .d,B=>match B with
   | .c _ _=>some ((),aO)
   | .r _ _ _ _=>some ((),aO)
   | .m _ _ _=>some ((),aO)
   | .no _=>some ((),aO)
   | .z _ _ _ _=>some ((),aO)
   |_=>none
def kS(bl:List (az El))(post:Bool):List (Nat×Nat)->Nat->(ps:List bB)->Option (ct El ps×List (Nat×Nat))
 |aO,_,[]=>some ((),aO)
 |aO,k,p::r=>match dk aO k with
  |some i=>match nth bl i with
   |some B=>match hj bl aO post p B with
    |some (d,a)=>match kS bl post a (k+1) r with
     |some (ds,b)=>some ((d,ds),b)
     |none=>none
    |none=>none
   |none=>none
  |none=>none
def A'(aO:List (Nat×Nat)):Nat->Nat->Option (List Nat)
 |_,0=>some []
 |k,n+1=>match dk aO k,A' aO (k+1) n with
  |some i,some r=>some (i::r)
  |_,_=>none
def Dy(n:Nat):List (Nat×Nat)->Bool
 |[]=>true
 |p::r=>eh p.1 n&&Dy n r
def gY(bl:List (az El))(aO:List (Nat×Nat))(post:Bool)(bf:List cW)(pbs:List bB)(ys:List (aE El)):Option ((c8 El bf×ct El pbs)×List Nat):=
 match jz bl aO bf ys with
 |some (aH,b)=>match kS bl post b 0 pbs with
  |some (aJ,a)=>match A' a 0 pbs.length,Dy pbs.length a with
   |some sel,true=>some ((aH,aJ),sel)
   |_,_=>none
  |none=>none
 |none=>none
end
structure hS (aO:List (Nat×Nat)):Prop where
 fn:∀p∈aO,∀q∈aO,p.1=q.1 ->p.2=q.2
 inj:∀p∈aO,∀q∈aO,p.2=q.2 ->p.1=q.1
theorem Uy{α:Type}{j:Nat}:∀ {l:List (Nat×α)},dk l j=none->∀p∈l,p.1≠j
 |[],_,p,aB=>by simp at aB
 |q::r,h,p,aB=>by simp only[dk]at h;split at h;cases h;rename_i ag;rcases cU.1 aB with rfl |aB;intro e;subst e;simp at ag;exact Uy h p aB
theorem PU{i:Nat}:∀ {l:List (Nat×Nat)},DA l i=true->∀p∈l,p.2≠i
 |[],_,p,aB=>by simp at aB
 |q::r,h,p,aB=>by simp only[DA,bM,gx]at h;rcases cU.1 aB with rfl |aB;intro e;rw[e]at h;simp at h;exact PU h.2 p aB
theorem zQ{aO a:List (Nat×Nat)}{j i:Nat}(h:qb aO j i=some a)(aC:hS aO):hS a:=by unfold qb at h;split at h;split at h;simp only[aM]at h;subst h;exact aC;cases h;rename_i b;split at h;rename_i c;simp only[aM]at h;subst h;have I:=Uy b;have J:=PU c;refine⟨λ p aB q aI e=>?_,λ p aB q aI e=>?_⟩;rcases cU.1 aB with rfl |aB<;>rcases cU.1 aI with rfl |aI;rfl;exact absurd e.symm (I q aI);exact absurd e (I p aB);exact aC.fn p aB q aI e;rcases cU.1 aB with rfl |aB<;>rcases cU.1 aI with rfl |aI;rfl;exact absurd e.symm (J q aI);exact absurd e (J p aB);exact aC.inj p aB q aI e;cases h
section
variable{T:bD}{F F':Nat->Prop}{w:World}{ρ ρ':List Value}{bl bl':List (az T.El)}{σ g:Nat->Nat}
theorem SE:∀ {dI:List Nat}{cs:List (aE T.El)}{aO a:List (Nat×Nat)},hS aO->jA aO dI cs=some a->hS a
 |[],[],aO,a,aC,h=>by simp only[jA,aM]at h;subst h;exact aC
 |j::r,y::ys,aO,a,aC,h=>by unfold jA at h;split at h;rename_i e;cases e;rename_i b al;simp only[hH]at b al;obtain⟨rfl,rfl⟩:=b;obtain⟨_,rfl⟩:=al;split at h;rename_i I;exact SE (zQ I aC) h;cases h;cases h
 |[],y::ys,aO,a,aC,h=>by simp[jA]at h
 |j::r,[],aO,a,aC,h=>by simp[jA]at h
theorem SG{aO a:List (Nat×Nat)}(aC:hS aO):∀ {p:hz}{y:aE T.El}{d:r2 T.El p},gX bl aO p y=some (d,a)->hS a
 | .i k,y,d,h=>by obtain⟨x,_,h⟩:=cQ.1 h;cases h;exact aC
 | .b,y,d,h=>by obtain⟨x,_,h⟩:=cQ.1 h;cases h;exact aC
 | .s,y,d,h=>by obtain⟨x,_,h⟩:=cQ.1 h;cases h;exact aC
 | .l t,y,d,h=>by obtain⟨x,_,h⟩:=cQ.1 h;cases h;exact aC
 | .x t,y,d,h=>by obtain⟨x,_,h⟩:=cQ.1 h;cases h;exact aC
 | .n kt vt,y,d,h=>by obtain⟨x,_,h⟩:=cQ.1 h;cases h;exact aC
 | .gn,y,d,h=>by simp only[gX]at h;split at h;cases h;exact aC;cases h
 | .B j,y,d,h=>by simp only[gX]at h;split at h;obtain⟨x,I,h⟩:=cQ.1 h;cases h;exact zQ I aC;cases h
 | .R j,y,d,h=>by simp only[gX]at h;split at h;split at h;obtain⟨x,I,h⟩:=cQ.1 h;cases h;exact zQ I aC;cases h;cases h
 | .M j,y,d,h=>by simp only[gX]at h;split at h;obtain⟨x,I,h⟩:=cQ.1 h;cases h;exact zQ I aC;cases h
 | .P j sz,y,d,h=>by simp only[gX]at h;split at h;split at h;obtain⟨x,I,h⟩:=cQ.1 h;cases h;exact zQ I aC;cases h;cases h
 | .F g dI,y,d,h=>by simp only[gX]at h;split at h;split at h;obtain⟨x,I,h⟩:=cQ.1 h;cases h;exact SE aC I;cases h;cases h
theorem nw.sub{aO a:List (Nat×Nat)}(h:nw σ a ρ ρ')(ap:∀q∈aO,q∈a):nw σ aO ρ ρ':=⟨λ p b=>h.at_ p (ap p b)⟩
theorem Ag:∀ {ps:List hz}{ys:List (aE T.El)}{aO a:List (Nat×Nat)}{d:p0 T.El ps},kT bl aO ps ys=some (d,a)->(∀q∈aO,q∈a)/\(hS aO->hS a)
 |[],[],aO,a,d,h=>by simp only[kT]at h;cases h;exact⟨λ q b=>b,λ h=>h⟩
 |p::r,y::ys,aO,a,d,h=>by simp only[kT]at h;split at h;rename_i f i I;split at h;rename_i j k J;cases h;obtain⟨c,e⟩:=Ag J;exact⟨λ q b=>c q (SI I q b),λ aC=>e (SG aC I)⟩;cases h;cases h
 |[],y::ys,aO,a,d,h=>by simp[kT]at h
 |p::r,[],aO,a,d,h=>by simp[kT]at h
theorem Et(e:∀k,F k->F' k)(f:∀j,g j=bJ bl'[σ j]?):∀ {ps:List hz}{ys:List (aE T.El)}{aO a:List (Nat×Nat)}{d:p0 T.El ps}{vs:List Value},nw σ a ρ ρ'->kT bl aO ps ys=some (d,a)->aR T F w ρ bl ys vs->aR T F' w ρ' bl' (oj σ g ps d) vs
 |[],[],aO,a,d,vs,c,h,b=>by simp only[aR]at b;subst b;simp[oj,aR]
 |p::r,y::ys,aO,a,d,vs,c,h,b=>by simp only[kT]at h;split at h;rename_i l m I;split at h;rename_i n o J;cases h;simp only[aR]at b;obtain⟨u,us,rfl,i,al⟩:=b;simp only[oj,aR];exact⟨u,us,rfl,SH e f (c.sub (Ag J).1) I i,Et e f c J al⟩;cases h;cases h
 |[],y::ys,aO,a,d,vs,_,h,_=>by simp[kT]at h
 |p::r,[],aO,a,d,vs,_,h,_=>by simp[kT]at h
theorem aep:∀ {p:cW}{y:aE T.El}{aO a:List (Nat×Nat)}{d:xf T.El p},Ad bl aO p y=some (d,a)->(∀q∈aO,q∈a)/\(hS aO->hS a)
 | .p p,y,aO,a,d,h=>⟨SI h,λ aC=>SG aC h⟩
 | .a ps,y,aO,a,d,h=>Ag h
 | .f fn ps,y,aO,a,d,h=>by simp only[Ad]at h;split at h;split at h;exact Ag h;cases h;cases h
theorem aeo(e:∀k,F k->F' k)(f:∀j,g j=bJ bl'[σ j]?):∀ {p:cW}{y:aE T.El}{aO b:List (Nat×Nat)}{d:xf T.El p}{v:Value},nw σ b ρ ρ'->HL p y=true->Ad bl aO p y=some (d,b)->ar T F w ρ bl y v->ar T F' w ρ' bl' (tQ σ g p d) v
 | .p p,y,aO,b,d,v,c,_,h,a=>SH e f c h a
 | .a ps,y,aO,b,d,v,c,hy,h,a=>by simp only[HL]at hy;have:=Et e f c h (kH a);simp only[tQ,ar];cases y<;>simp only[iL,reduceCtorEq]at hy;rename_i u;cases u<;>simp only[iL,reduceCtorEq]at hy;simp only[ar]at a;subst a;exact⟨_,rfl,this⟩;simp only[ar]at a;obtain⟨vs,rfl,_⟩:=a;exact⟨vs,rfl,this⟩
 | .f fn ps,y,aO,b,d,v,c,_,h,a=>by simp only[Ad]at h;split at h;split at h;rename_i ag;have ag:=a8 ag;subst ag;simp only[ar]at a;obtain⟨vs,rfl,J⟩:=a;simp only[tQ,ar];exact⟨vs,rfl,Et e f c h J⟩;cases h;cases h
end
section
variable{T:bD}{F F':Nat->Prop}{w:World}{ρ ρ':List Value}{bl bl':List (az T.El)}{σ g:Nat->Nat}
theorem Er:∀ {ps:List cW}{ys:List (aE T.El)}{aO a:List (Nat×Nat)}{d:c8 T.El ps},jz bl aO ps ys=some (d,a)->(∀q∈aO,q∈a)/\(hS aO->hS a)
 |[],[],aO,a,d,h=>by simp only[jz]at h;cases h;exact⟨λ q b=>b,λ h=>h⟩
 |p::r,y::ys,aO,a,d,h=>by simp only[jz]at h;split at h;rename_i j k l I;split at h;rename_i m n J;cases h;obtain⟨c,e⟩:=Er J;obtain⟨f,i⟩:=aep I;exact⟨λ q b=>c q (f q b),λ aC=>e (i aC)⟩;cases h;cases h
 |[],y::ys,aO,a,d,h=>by simp[jz]at h
 |p::r,[],aO,a,d,h=>by simp[jz]at h
theorem SA(e:∀k,F k->F' k)(f:∀j,g j=bJ bl'[σ j]?):∀ {ps:List cW}{ys:List (aE T.El)}{aO a:List (Nat×Nat)}{d:c8 T.El ps}{vs:List Value},nw σ a ρ ρ'->jz bl aO ps ys=some (d,a)->aR T F w ρ bl ys vs->aR T F' w ρ' bl' (fq σ g ps d) vs
 |[],[],aO,a,d,vs,c,h,b=>by simp only[aR]at b;subst b;simp[fq,aR]
 |p::r,y::ys,aO,a,d,vs,c,h,b=>by simp only[jz]at h;split at h;rename_i m n i I;split at h;rename_i o q J;cases h;simp only[aR]at b;obtain⟨u,us,rfl,l,al⟩:=b;simp only[fq,aR];exact⟨u,us,rfl,aeo e f (c.sub (Er J).1) i I l,SA e f c J al⟩;cases h;cases h
 |[],y::ys,aO,a,d,vs,_,h,_=>by simp[jz]at h
 |p::r,[],aO,a,d,vs,_,h,_=>by simp[jz]at h
theorem Es{post:Bool}:∀ {p:bB}{B:az T.El}{aO a:List (Nat×Nat)}{d:oE T.El p},hj bl aO post p B=some (d,a)->(∀q∈aO,q∈a)/\(hS aO->hS a)
 | .c ty ps,B,aO,a,d,h=>by simp only[hj]at h;split at h;split at h;exact Ag h;cases h;cases h
 | .r t same,B,aO,a,d,h=>by simp only[hj]at h;split at h;split at h;obtain⟨x,_,h⟩:=cQ.1 h;cases h;exact⟨λ q b=>b,λ h=>h⟩;cases h;cases h
 | .m kt vt,B,aO,a,d,h=>by simp only[hj]at h;split at h;obtain⟨x,_,h⟩:=cQ.1 h;cases h;exact⟨λ q b=>b,λ h=>h⟩;cases h
 | .d,B,aO,a,d,h=>by simp only[hj]at h;split at h<;>first |(cases h;exact⟨λ q b=>b,λ h=>h⟩)|cases h
theorem VW{t' t:Nat}{l:List (T.El t')}{l':List (T.El t)}(h:vp l=some l'):∃e:t'=t,l'=e▸l:=by unfold vp at h;split at h;rename_i e _;simp only[aM]at h;exact⟨e,h.symm⟩;cases h
theorem aes(o:∀k,F k->F' k)(q:∀j,g j=bJ bl'[σ j]?){post:Bool}:∀ {p:bB}{B:az T.El}{aO f:List (Nat×Nat)}{d:oE T.El p}{h:Value},nw σ f ρ ρ'->hj bl aO post p B=some (d,f)->hf T F w ρ bl B h->hf T F' w ρ' bl' (c4 σ g post p d) h/\∀u k,k∈a_ (c4 σ g post p d) u->k∈a_ B u
 | .c ty ps,B,aO,f,d,h,n,a,i=>by simp only[hj]at a;split at a;rename_i wS cs;split at a;rename_i ag;have ag:=a8 ag;subst ag;obtain⟨s,vs,m,al,aN⟩:=i;exact⟨⟨s,vs,m,al,Et o q n a aN⟩,λ u k b=>b⟩;cases a;cases a
 | .r t same,B,aO,f,d,h,n,a,i=>by simp only[hj]at a;split at a;rename_i t' g' k' l;split at a;obtain⟨x,I,a⟩:=cQ.1 a;cases a;obtain⟨e,rfl⟩:=VW I;subst e;obtain⟨A,c,xs,m,al,aN⟩:=i;exact⟨⟨A,c,xs,m,al,kz _ (λ k b=>⟨o k b,rfl⟩) aN⟩,λ u k b=>b⟩;cases a;cases a
 | .m kt vt,B,aO,f,d,h,n,a,i=>by simp only[hj]at a;split at a;obtain⟨x,I,a⟩:=cQ.1 a;cases a;obtain⟨r,m,al⟩:=i;exact⟨⟨r,m,(Qm I al).law (λ k b=>⟨o k b,rfl⟩) rfl⟩,λ u k b=>b⟩;cases a
 | .d,B,aO,f,d,h,n,a,i=>⟨trivial,λ u k b=>by simp[c4,a_]at b⟩
theorem xZ{post:Bool}:∀ {ps:List bB}{aO a:List (Nat×Nat)}{k:Nat}{d:ct T.El ps},kS bl post aO k ps=some (d,a)->(∀q∈aO,q∈a)/\(hS aO->hS a)
 |[],aO,a,k,d,h=>by simp only[kS]at h;cases h;exact⟨λ q b=>b,λ h=>h⟩
 |p::r,aO,a,k,d,h=>by simp only[kS]at h;split at h;split at h;split at h;rename_i j l I;split at h;rename_i m n J;cases h;obtain⟨c,e⟩:=xZ J;obtain⟨f,i⟩:=Es I;exact⟨λ q b=>c q (f q b),λ aC=>e (i aC)⟩;cases h;cases h;cases h;cases h
theorem mc{post:Bool}:∀ {ps:List bB}{d:ct T.El ps},(bA σ g post ps d).length=ps.length
 |[],d=>rfl
 |p::r,d=>by simp[bA,mc (ps:=r)]
theorem JZ(e:∀k,F k->F' k)(f:∀j,g j=bJ bl'[σ j]?){post:Bool}:∀ {ps:List bB}{aO a:List (Nat×Nat)}{k:Nat}{d:ct T.El ps},kS bl post aO k ps=some (d,a)->nw σ a ρ ρ'->∀(m:Nat)(B':az T.El),(bA σ g post ps d)[m]? =some B' ->
 ∃i B,(k+m,i)∈a/\bl[i]? =some B/\(∀h,hf T F w ρ bl B h->hf T F' w ρ' bl' B' h)/\∀u k,k∈a_ B' u->k∈a_ B u
 |[],aO,a,k,d,_,_,m,B',c=>by simp[bA]at c
 |p::r,aO,a,k,d,h,l,m,B',c=>by
  simp only[kS]at h;split at h
  ·rename_i i hi;split at h
   ·rename_i B n;split at h
    ·rename_i x y I;split at h
     ·rename_i z A J;cases h;have o:=(xZ J).1;have q:=(Es I).1;rw[cH]at n;cases m with
      |zero=>simp only[bA,dm,aM]at c;subst c;exact⟨i,B,o _ (q _ (jK hi)),n,λ h ag=>(aes e f (l.sub o) I ag).1,ad_ I⟩
      |succ m=>obtain⟨s,nx,v,al,aN⟩:=JZ e f J l m B' (by simpa[bA]using c);exact⟨s,nx,by rw[show k+(m+1)=k+1+m by omega];exact v,al,aN⟩
     ·cases h
    ·cases h
   ·cases h
  ·cases h
where
 ad_ {post:Bool}:∀ {p:bB}{B:az T.El}{aO a:List (Nat×Nat)}{d:oE T.El p},hj bl aO post p B=some (d,a)->∀u k,k∈a_ (c4 σ g post p d) u->k∈a_ B u
  | .c ty ps,B,aO,a,d,h,u,k,b=>by simp only[hj]at h;split at h;exact b;cases h
  | .r t same,B,aO,a,d,h,u,k,b=>by simp only[hj]at h;split at h;exact b;cases h
  | .m kt vt,B,aO,a,d,h,u,k,b=>by simp only[hj]at h;split at h;exact b;cases h
  | .d,B,aO,a,d,h,u,k,b=>by simp[c4,a_]at b
end
structure j6 {El:Nat->Type} (bl:List (az El)) (ρ:List Value) (bl':List (az El)) (ρ':List Value) (sel:List Nat):Prop where
 len:ρ'.length=bl'.length
 at_:∀(j:Nat)(B':az El)(h':Value),bl'[j]? =some B'->ρ'[j]? =some h'->∃i B,sel[j]? =some i/\bl[i]? =some B/\ρ[i]? =some h'/\∀u k,k∈a_ B' u->k∈a_ B u
 inj:∀(j gy i:Nat),sel[j]? =some i->sel[gy]? =some i->j=gy
section
variable{T:bD}{W w:World}{au:List Nat}{X:Nat->Prop}{bl bl':List (az T.El)}{ρ ρ':List Value}{sel:List Nat}
theorem j6.own(h:j6 bl ρ bl' ρ' sel){k:Nat}(a:lB bl' ρ' k):lB bl ρ k:=by obtain⟨j,B',h',I,J,b⟩:=a;obtain⟨i,B,_,al,aN,bI⟩:=h.at_ j B' h' I J;exact⟨i,B,h',al,aN,bI _ _ b⟩
theorem j6.a6(h:j6 bl ρ bl' ρ' sel)(f:Mem T W au X bl ρ w)(i j:Nat)(B C:az T.El)(u v:Value)(I:bl'[i]? =some B)(J:ρ'[i]? =some u)(g:bl'[j]? =some C)(l:ρ'[j]? =some v)(m:i≠j):∀k∈a_ B u,k∉a_ C v:=λ k c d=>by obtain⟨a,hx,n,al,aN,bI⟩:=h.at_ i B u I J;obtain⟨b,Di,o,p,q,r⟩:=h.at_ j C v g l;have c:=bI _ _ c;have d:=r _ _ d;refine f.a6 a b hx Di u v al aN p q (λ e=>?_) k c d;subst e;exact m (h.inj i j a n o)
def iE(X:Nat->Prop)(bl:List (az T.El))(ρ:List Value)(sel:List Nat)(k:Nat):Prop:=X k\/∃i B h,i∉sel/\bl[i]? =some B/\ρ[i]? =some h/\k∈a_ B h
theorem j6.tS(h:j6 bl ρ bl' ρ' sel){k:Nat}(a:aY X bl ρ w k):aY (iE X bl ρ sel) bl' ρ' w k:=
 ⟨λ b=>by
  rcases b with b |⟨i,B,u,_,I,J,c⟩;exact a.1 b
  ·exact a.2.1 ⟨i,B,u,I,J,c⟩,λ d=>a.2.1 (h.own d),a.2.2⟩
theorem j6.B2(h:j6 bl ρ bl' ρ' sel){k:Nat}(a:aY X bl ρ w k):aY X bl' ρ' w k:=⟨a.1,λ b=>a.2.1 (h.own b),a.2.2⟩
theorem j6.enter(h:j6 bl ρ bl' ρ' sel)(a:Mem T W au X bl ρ w)(f:∀(j:Nat)(B':az T.El)(h':Value),bl'[j]? =some B'->ρ'[j]? =some h'->hf T (aY (iE X bl ρ sel) bl' ρ' w) w ρ' bl' B' h'):Mem T w (gL bl' ρ') (iE X bl ρ sel) bl' ρ' w:=by refine⟨a1.refl _ _,h.len,λ k b=>?_,λ k b=>?_,h.a6 a,f⟩;rcases b with c |⟨i,B,u,hi,I,J,d⟩;refine⟨dr (a.fI k c).1 a.bO.size,λ e=>?_⟩;exact a.yC (h.own (kb.1 e)) c;refine⟨(a.lt k ⟨i,B,u,I,J,d⟩).1,λ e=>?_⟩;obtain⟨j,B',h',g,al,aN⟩:=kb.1 e;obtain⟨l,hx,m,n,o,p⟩:=h.at_ j B' h' g al;have aN:=p _ _ aN;refine a.a6 i l B hx u h' I J n o (λ e=>?_) k d aN;subst e;exact hi (bR m);exact⟨(a.lt k (h.own b)).1,.inl (kb.2 b)⟩
theorem j6.leave(h:j6 bl ρ bl' ρ' sel)(a:Mem T W au X bl ρ w)(b:∀(j:Nat)(B':az T.El)(h':Value),bl'[j]? =some B'->ρ'[j]? =some h'->hf T (aY X bl' ρ' w) w ρ' bl' B' h'):Mem T W au X bl' ρ' w:=⟨a.bO,h.len,a.fI,λ k c=>a.lt k (h.own c),h.a6 a,b⟩
end
def cl(post:Bool)(pbs:List bB)(j:Nat):Nat:=et post (pbs[j]?)
def gp(ρ:List Value)(sel:List Nat):List Value:=sel.map λ i=>ρ.getD i undef
section
variable{T:bD}{W w:World}{au:List Nat}{X:Nat->Prop}{bl bl':List (az T.El)}{ρ ρ':List Value}{sel:List Nat}
theorem yK{σ g:Nat->Nat}{post:Bool}:∀ {ps:List bB}{d:ct T.El ps}{j:Nat},bJ (bA σ g post ps d)[j]? =et post ps[j]?
 |[],d,j=>by simp[bA,bJ,et]
 |p::r,d,0=>by simp only[bA,dm];cases p<;>rfl
 |p::r,d,j+1=>by simpa[bA]using yK (ps:=r)
theorem K_{aO:List (Nat×Nat)}:∀ {n k:Nat}{sel:List Nat},A' aO k n=some sel->sel.length=n/\∀j i,sel[j]? =some i->(k+j,i)∈aO
 |0,k,sel,h=>by simp only[A',aM]at h;subst h;simp
 |n+1,k,sel,h=>by
  simp only[A']at h;split at h
  ·rename_i i r I J;simp only[aM]at h;subst h;obtain⟨b,c⟩:=K_ J;refine⟨by simp[b],λ j d a=>?_⟩;cases j with
   |zero=>simp only[dm,aM]at a;subst a;exact jK I
   |succ j=>rw[show k+(j+1)=k+1+j by omega];exact c j d (by simpa using a)
  ·cases h
theorem PO{n:Nat}:∀ {aO:List (Nat×Nat)},Dy n aO=true->∀p∈aO,p.1<n
 |[],_,p,aB=>by simp at aB
 |q::r,h,p,aB=>by simp only[Dy,bM]at h;rcases cU.1 aB with rfl |aB;exact b_ h.1;exact PO h.2 p aB
theorem sD(n:Mem T W au X bl ρ w){aO:List (Nat×Nat)}(aC:hS aO){post:Bool}{bf:List cW}{pbs:List bB}{ys:List (aE T.El)}{aH:c8 T.El bf}{aJ:ct T.El pbs}(h:gY bl aO post bf pbs ys=some ((aH,aJ),sel)) :
 j6 bl ρ (bA id (cl post pbs) post pbs aJ) (gp ρ sel) sel/\(∀p∈aO,sel[p.1]? =some p.2)/\
 ∀F':Nat->Prop,(∀k,aY X bl ρ w k->F' k)->(∀vs,aR T (aY X bl ρ w) w ρ bl ys vs->aR T F' w (gp ρ sel) (bA id (cl post pbs) post pbs aJ) (fq id (cl post pbs) bf aH) vs)/\
  ∀(j:Nat)(B':az T.El)(h':Value),(bA id (cl post pbs) post pbs aJ)[j]? =some B'->(gp ρ sel)[j]? =some h'->hf T F' w (gp ρ sel) (bA id (cl post pbs) post pbs aJ) B' h':=by
 unfold gY at h
 split at h
 ·rename_i ss P I;split at h
  ·rename_i o t J;split at h
   ·rename_i b Q R;simp only[aM,cv]at h;obtain⟨⟨rfl,rfl⟩,rfl⟩:=h;obtain⟨A,H⟩:=Er I;obtain⟨v,K⟩:=xZ J;have L:=K (H aC);obtain⟨l1,C⟩:=K_ Q;have M:=PO R
    have x:∀p∈t,b[p.1]? =some p.2:=λ p f=>by
     have D:p.1<b.length:=by rw[l1];exact M p f
     have e:=bx D;have:=C p.1 _ e;rw[jJ]at this;have al:b[p.1]=p.2:=L.fn _ this p f rfl;rw[e,al]
    have c:(bA id (cl post pbs) post pbs o).length=pbs.length:=mc;have base:∀(j:Nat)(B':az T.El),(bA id (cl post pbs) post pbs o)[j]? =some B'->∃i B u,b[j]? =some i/\bl[i]? =some B/\ρ[i]? =some u/\(gp ρ b)[j]? =some u:=λ j B' l=>by
     have y:∀j,cl post pbs j=bJ (bA id (cl post pbs) post pbs o)[id j]? :=λ j=>yK.symm;have E:∀i,(j,i)∈t->∀B,bl[i]? =some B->∃i B u,b[j]? =some i/\bl[i]? =some B/\ρ[i]? =some u/\(gp ρ b)[j]? =some u:=λ i hi B q=>by obtain⟨u,N⟩:=n.Bp q;have ap:=x _ hi;refine⟨i,B,u,ap,q,N,?_⟩;rw[gp,kc,ap];simp[List.getD_eq_getElem?_getD,N]
     obtain⟨i,B,a,al⟩:=SC J j B' l;exact E i (by simpa using a) B al
    have s:nw id t ρ (gp ρ b):=⟨λ p f=>by
     have ap:=x p f;have D:p.1<(bA id (cl post pbs) post pbs o).length:=by rw[c];exact M p f
     obtain⟨i,B,u,a,al,aN,bI⟩:=base p.1 _ (bx D);rw[ap]at a;cases a;show(gp ρ b)[p.1]? =_
     rw[bI,aN]⟩
    have y:∀j,cl post pbs j=bJ (bA id (cl post pbs) post pbs o)[id j]? :=λ j=>yK.symm;refine⟨⟨by rw[c];simp[gp,l1],λ j B' h' l G=>?_,λ j gy i l S=>?_⟩,λ p f=>x p (v p (A p f)),λ F' O=>⟨λ vs U=>SA O y (s.sub v) I U,λ j B' h' l G=>?_⟩⟩;obtain⟨i,B,a,al,_,aN⟩:=JZ (F:=λ _=>False) (F':=λ _=>False) (w:=w) (λ _ h=>h) y J s j B' l;rw[jJ]at a;have ap:=x _ a;refine⟨i,B,ap,al,?_,aN⟩;rw[<-s.at_ _ a];exact G;have a:=C j i l;have al:=C gy i S;have:=L.inj _ a _ al rfl;simpa using this
    ·obtain⟨i,B,a,al,aN,_⟩:=JZ O y J s j B' l;rw[jJ]at a;have V:ρ[i]? =some h':=by rw[<-s.at_ _ a];exact G
     exact aN h' (n.ok i B h' al V)
   ·cases h
  ·cases h
 ·cases h
where
 SC {post:Bool} {σ g:Nat->Nat}:∀ {ps:List bB}{aO z:List (Nat×Nat)}{k:Nat}{d:ct T.El ps},kS bl post aO k ps=some (d,z)->∀(m:Nat)(B':az T.El),(bA σ g post ps d)[m]? =some B'->∃i B,(k+m,i)∈z/\bl[i]? =some B
  |[],aO,z,k,d,_,m,B',n=>by simp[bA]at n
  |p::r,aO,z,k,d,h,m,B',n=>by
   simp only[kS]at h;split at h
   ·rename_i i hi;split at h
    ·rename_i B q;split at h
     ·rename_i H P I;split at h
      ·rename_i K t J;cases h;have v:=(xZ J).1;have A:=(Es I).1;rw[cH]at q;cases m with
       |zero=>exact⟨i,B,v _ (A _ (jK hi)),q⟩
       |succ m=>obtain⟨Y,nx,a,al⟩:=SC J m B' (by simpa[bA]using n);exact⟨Y,nx,by rw[show k+(m+1)=k+1+m by omega];exact a,al⟩
      ·cases h
     ·cases h
    ·cases h
   ·cases h
end
def fo{α:Type}:List α->List Nat->List α->List α
 |l,[],qs=>l++qs
 |l,i::r,q::qs=>fo (l.set i q) r qs
 |l,_::_,[]=>l
section
variable{α:Type}
theorem L5:∀ {sel:List Nat}{l qs:List α},sel.length<=qs.length->(fo l sel qs).length=l.length+(qs.length-sel.length)
 |[],l,qs,_=>by simp[fo]
 |i::r,l,q::qs,h=>by simp only[fo];rw[L5 (by simpa using h)];simp
 |i::r,l,[],h=>by simp at h
theorem yy:∀ {sel:List Nat}{l qs:List α}{i:Nat},i∉sel->i<l.length->(fo l sel qs)[i]? =l[i]?
 |[],l,qs,i,_,hi=>by simp[fo,eF hi]
 |j::r,l,q::qs,i,h,hi=>by simp only[cU,not_or]at h;simp only[fo];rw[yy h.2 (by simpa using hi),iu (Ne.symm h.1)]
 |j::r,l,[],i,_,_=>rfl
theorem Fk:∀ {sel:List Nat}{l qs:List α}{j i:Nat},sel.length<=qs.length->sel.Nodup->(∀i∈sel,i<l.length)->sel[j]? =some i->(fo l sel qs)[i]? =qs[j]?
 |[],l,qs,j,i,_,_,_,h=>by simp at h
 |a::r,l,q::qs,0,i,b,d,c,h=>by simp only[dm,aM]at h;subst h;have e:=jC.1 d;simp only[fo];rw[yy e.1 (by simpa using c a (by simp)),fS (c a (by simp))];rfl
 |a::r,l,q::qs,j+1,i,b,d,c,h=>by have e:=jC.1 d;simp only[fo];rw[Fk (by simpa using b) e.2 (λ i hi=>by simpa using c i (fD _ hi)) (by simpa using h)];rfl
 |a::r,l,[],j,i,b,_,_,_=>by simp at b
theorem Fl:∀ {sel:List Nat}{l qs:List α}{m:Nat},sel.length<=qs.length->(fo l sel qs)[l.length+m]? =qs[sel.length+m]?
 |[],l,qs,m,_=>by simp[fo,eW]
 |a::r,l,q::qs,m,b=>by simp only[fo];have:=Fl (sel:=r) (l:=l.set a q) (qs:=qs) (m:=m) (by simpa using b);rw[lv]at this;rw[this,show(a::r).length+m=(r.length+m)+1 by simp;omega];rfl
 |a::r,l,[],m,b=>by simp at b
theorem ajD{sel:List Nat}{l qs:List α}(a:sel.length<=qs.length)(d:sel.Nodup)(f:∀i∈sel,i<l.length){i:Nat}{x:α}(h:(fo l sel qs)[i]? =some x) :
 (i∉sel/\i<l.length/\l[i]? =some x)\/∃j,qs[j]? =some x/\((j<sel.length/\sel[j]? =some i)\/(sel.length<=j/\i=l.length+(j-sel.length))):=by
 rcases gw i l.length with e |e
 ·by_cases hi:i∈sel;obtain⟨j,b,rfl⟩:=jk.1 hi;have c:=bx b;rw[Fk a d f c]at h;exact .inr ⟨j,h,.inl ⟨b,c⟩⟩;rw[yy hi e]at h;exact .inl ⟨hi,e,h⟩
 ·right;obtain⟨m,rfl⟩:∃m,i=l.length+m:=⟨i-l.length,by omega⟩
  rw[Fl a]at h;exact⟨sel.length+m,h,.inr ⟨by omega,by omega⟩⟩
end
def hL(sel:List Nat)(len j:Nat):Nat:=match nth sel j with
 |some i=>i
 |none=>len+(j-sel.length)
theorem y2{sel:List Nat}{len j i:Nat}(h:sel[j]? =some i):hL sel len j=i:=by rw[hL,cH,h]
theorem NV{sel:List Nat}{len j:Nat}(h:sel.length<=j):hL sel len j=len+(j-sel.length):=by rw[hL,cH,gM h]
def ga{El:Nat->Type}:Option (az El)->az El->az El
 |some (.r _ g k _),.r t g' k' l=>.r t (g+g') (k+k') l
 |some (.r _ g _ _),.no g'=>.no (g+g')
 |some (.no g),.no g'=>.no (g+g')
 |_,B=>B
def rL{El:Nat->Type}(bl:List (az El)):List Nat->List (az El)->List (az El)
 |i::r,B::qs=>ga (nth bl i) B::rL bl r qs
 |_,qs=>qs
theorem WQ{El:Nat->Type}{bl:List (az El)}:∀ {sel:List Nat}{qs:List (az El)},(rL bl sel qs).length=qs.length
 |[],qs=>rfl
 |i::r,B::qs=>by simp[rL,WQ (sel:=r)]
 |i::r,[]=>rfl
theorem WO{El:Nat->Type}{bl:List (az El)}:∀ {sel:List Nat}{qs:List (az El)}{j:Nat},(rL bl sel qs)[j]? =(qs[j]?).map λ B=>(match sel[j]? with
 |some i=>ga (nth bl i) B
 |none=>B)
 |[],qs,j=>by simp[rL]
 |i::r,B::qs,0=>by simp[rL]
 |i::r,B::qs,j+1=>by simpa[rL]using WO (sel:=r) (qs:=qs) (j:=j)
 |i::r,[],j=>by simp[rL]
theorem Cx{El:Nat->Type}{o:Option (az El)}{B:az El}{u:Value}:a_ (ga o B) u=a_ B u:=by unfold ga;split<;>rfl
section
variable{T:bD}{F F':Nat->Prop}{w:World}{ρ ρ':List Value}{bl bl':List (az T.El)}{σ g g':Nat->Nat}
theorem Qk(a:∀j v,ρ[j]? =some v->ρ'[σ j]? =some v):∀ {dI:List Nat}{vs:List Value},aR T F w ρ bl (dI.map λ j=>.b (id j) 0) vs->aR T F' w ρ' bl' (dI.map λ j=>.b (σ j) 0) vs
 |[],vs,h=>by simpa only[h6,aR]using h
 |j::r,vs,h=>by simp only[eZ,aR,ar]at h⊢;obtain⟨u,us,e,⟨b,c,al⟩,aN⟩:=h;exact⟨u,us,e,⟨b,a j _ c,al⟩,Qk a aN⟩
theorem Vy(e:∀k,F k->F' k)(f:∀j v,ρ[j]? =some v->ρ'[σ j]? =some v)(n:∀j,g j=bJ bl[j]?)(e9:∀j v,ρ[j]? =some v->g' j=bJ bl'[σ j]?):∀ {p:hz}{d:r2 T.El p}{v:Value},ar T F w ρ bl (fB id g p d) v->ar T F' w ρ' bl' (fB σ g' p d) v
 | .i k,d,v,h=>by simpa only[fB,ar]using h
 | .b,d,v,h=>by simpa only[fB,ar]using h
 | .s,d,v,h=>by simpa only[fB,ar]using h
 | .l t,d,v,h=>by simp only[fB,ar]at h⊢;exact(bX (T.ty t)).law (λ k i=>⟨e k i,rfl⟩) h
 | .x t,d,v,h=>by simp only[fB,ar]at h⊢;obtain⟨a,q,cs,b,al,aN,bI⟩:=h;exact⟨a,q,cs,b,e a al,(T.ty t).law (λ k i=>⟨e k i,rfl⟩) aN,bI⟩
 | .n kt vt,d,v,h=>by simp only[fB,ar]at h⊢;obtain⟨r,b,al,aN⟩:=h;exact⟨r,b,e r al,aN.law (λ k i=>⟨e k i,rfl⟩) rfl⟩
 | .gn,d,v,h=>by simpa only[fB,ar]using h
 | .B j,d,v,h=>by simp only[fB,ar,id]at h⊢;obtain⟨l,b,al⟩:=h;exact⟨l,f j _ b,al⟩
 | .R j,d,v,h=>by simp only[fB,ar,id]at h⊢;obtain⟨s,m,b,al,aN⟩:=h;exact⟨s,m,f j _ b,by rw[e9 j _ b];exact cS _,λ _=>aN (n j)⟩
 | .M j,d,v,h=>by simp only[fB,ar,id]at h⊢;obtain⟨l,b,al⟩:=h;exact⟨l,f j _ b,al⟩
 | .P j sz,d,v,h=>by simp only[fB,ar,id]at h⊢;obtain⟨A,c,b,al,aN,bI⟩:=h;refine⟨A,c,b,al,aN,λ u=>?_⟩;obtain⟨x,y,xs,z,B⟩:=bI u;exact⟨x,e _ y,xs,z.imp λ q v ⟨C,m,o,E,D⟩=>⟨C,m,f j _ o,by rw[e9 j _ o];exact cS _,λ _=>D (n j)⟩,B⟩
 | .F g dI,d,v,h=>by simp only[fB,ar]at h⊢;obtain⟨vs,b,al⟩:=h;exact⟨vs,b,Qk f al⟩
theorem F0(a:∀k,F k->F' k)(b:∀j v,ρ[j]? =some v->ρ'[σ j]? =some v)(c:∀j,g j=bJ bl[j]?)(e9:∀j v,ρ[j]? =some v->g' j=bJ bl'[σ j]?):∀ {ps:List hz}{d:p0 T.El ps}{vs:List Value},aR T F w ρ bl (oj id g ps d) vs->aR T F' w ρ' bl' (oj σ g' ps d) vs
 |[],d,vs,h=>by simpa only[oj,aR]using h
 |p::r,d,vs,h=>by simp only[oj,aR]at h⊢;obtain⟨u,us,e,I,J⟩:=h;exact⟨u,us,e,Vy a b c e9 I,F0 a b c e9 J⟩
theorem akH(a:∀k,F k->F' k)(b:∀j v,ρ[j]? =some v->ρ'[σ j]? =some v)(c:∀j,g j=bJ bl[j]?)(e9:∀j v,ρ[j]? =some v->g' j=bJ bl'[σ j]?):∀ {p:cW}{d:xf T.El p}{v:Value},ar T F w ρ bl (tQ id g p d) v->ar T F' w ρ' bl' (tQ σ g' p d) v
 | .p p,d,v,h=>Vy a b c e9 h
 | .a ps,d,v,h=>by simp only[tQ,ar]at h⊢;obtain⟨vs,e,I⟩:=h;exact⟨vs,e,F0 a b c e9 I⟩
 | .f fn ps,d,v,h=>by simp only[tQ,ar]at h⊢;obtain⟨vs,e,I⟩:=h;exact⟨vs,e,F0 a b c e9 I⟩
theorem Vx(a:∀k,F k->F' k)(b:∀j v,ρ[j]? =some v->ρ'[σ j]? =some v)(c:∀j,g j=bJ bl[j]?)(e9:∀j v,ρ[j]? =some v->g' j=bJ bl'[σ j]?):∀ {ps:List cW}{d:c8 T.El ps}{vs:List Value},aR T F w ρ bl (fq id g ps d) vs->aR T F' w ρ' bl' (fq σ g' ps d) vs
 |[],d,vs,h=>by simpa only[fq,aR]using h
 |p::r,d,vs,h=>by simp only[fq,aR]at h⊢;obtain⟨u,us,e,I,J⟩:=h;exact⟨u,us,e,akH a b c e9 I,Vx a b c e9 J⟩
theorem akI(i:∀k,F k->F' k)(n:∀j v,ρ[j]? =some v->ρ'[σ j]? =some v)(q:∀j,g j=bJ bl[j]?)(e9:∀j v,ρ[j]? =some v->g' j=bJ bl'[σ j]?){post:Bool}{o:Option (az T.El)}:∀ {p:bB}{d:oE T.El p}{h:Value},hf T F w ρ bl (c4 id g post p d) h->hf T F' w ρ' bl' (ga o (c4 σ g' post p d)) h
 | .c ty ps,d,h,a=>by
   have:ga o (c4 σ g' post (.c ty ps) d)=c4 σ g' post (.c ty ps) d:=by unfold ga;split<;>first |rfl |(rename_i e;cases e)
   rw[this];obtain⟨s,vs,b,al,aN⟩:=a;exact⟨s,vs,b,al,F0 i n q e9 aN⟩
 | .r t same,d,h,a=>by
   obtain⟨A,c,xs,b,al,aN⟩:=a;have:∃f m,ga o (c4 σ g' post (.r t same) d)= .r t f m d:=by unfold ga;split;rename_i e;cases e;exact⟨_,_,rfl⟩;rename_i e;cases e;rename_i e;cases e;exact⟨_,_,rfl⟩
   obtain⟨f,m,e⟩:=this;rw[e];exact⟨A,c,xs,b,al,kz _ (λ k l=>⟨i k l,rfl⟩) aN⟩
 | .m kt vt,d,h,a=>by
   have:ga o (c4 σ g' post (.m kt vt) d)=c4 σ g' post (.m kt vt) d:=by unfold ga;split<;>first |rfl |(rename_i e;cases e)
   rw[this];obtain⟨r,b,al⟩:=a;exact⟨r,b,al.law (λ k l=>⟨i k l,rfl⟩) rfl⟩
 | .d,d,h,a=>by
   have:∃f,ga o (c4 σ g' post .d d)= .no f:=by unfold ga;split;rename_i e;cases e;exact⟨_,rfl⟩;exact⟨_,rfl⟩;exact⟨_,rfl⟩
   obtain⟨f,e⟩:=this;rw[e];trivial
end
def mY{El:Nat->Type}:bB->az El->Prop
 | .c _ _,.c _ _=>True
 | .r t _,.r t' _ _ _=>t'=t
 | .m _ _,.m _ _ _=>True
 | .d,.c _ _=>True
 | .d,.r _ _ _ _=>True
 | .d,.m _ _ _=>True
 | .d,.no _=>True
 |_,_=>False
def sW:bB->bB->Bool
 | .c _ _,.c _ _=>true
 | .r t _,.r t' _=>b2 t t'
 | .m _ _,.m _ _=>true
 | .c _ _,.d=>true
 | .r _ _,.d=>true
 | .m _ _,.d=>true
 |_,_=>false
def ib:List bB->List bB->Bool
 |[],_=>true
 |p::r,q::s=>sW p q&&ib r s
 |_::_,[]=>false
theorem Cb:∀ {ps qs:List bB},ib ps qs=true->ps.length<=qs.length
 |[],_,_=>by simp
 |p::r,q::s,h=>by simp only[ib,bM]at h;have:=Cb h.2;simp;omega
 |p::r,[],h=>by cases h
theorem Ca:∀ {ps qs:List bB}{j:Nat}{p q:bB},ib ps qs=true->ps[j]? =some p->qs[j]? =some q->sW p q=true
 |[],_,j,p,q,_,h,_=>by simp at h
 |a::r,b::s,0,p,q,c,h,h'=>by simp only[dm,aM]at h h';subst h;subst h';simp only[ib,bM]at c;exact c.1
 |a::r,b::s,j+1,p,q,c,h,h'=>by simp only[ib,bM]at c;exact Ca c.2 (by simpa using h) (by simpa using h')
 |a::r,[],j,p,q,c,_,_=>by cases c
def eK{El:Nat->Type}(bl:List (az El))(sel:List Nat)(a:List bB)(j:Nat):Nat:=(match nth sel j with
 |some i=>o3 bl i
 |none=>0)+cl true a j
def qc{El:Nat->Type}(bl:List (az El))(sel:List Nat)(a:List bB)(b:ct El a):List (az El):=rL bl sel (bA (hL sel bl.length) (eK bl sel a) true a b)
def fx{El:Nat->Type}(bl:List (az El))(sel:List Nat)(a:List bB)(b:ct El a):List (az El):=fo bl sel (qc bl sel a b)
section
variable{T:bD}{W w w':World}{au:List Nat}{X:Nat->Prop}{bl:List (az T.El)}{ρ kD dE:List Value}{sel:List Nat}{pre cb:List bB}{kM:ct T.El pre}{c7:ct T.El cb}{mM gq:Nat->Nat}
theorem FY{σ g:Nat->Nat}{post:Bool}:∀ {ps:List bB}{d:ct T.El ps}{j:Nat}{B:az T.El},(bA σ g post ps d)[j]? =some B->∃p a,ps[j]? =some p/\B=c4 σ g post p a/\∀σ' g',(bA σ' g' post ps d)[j]? =some (c4 σ' g' post p a)
 |[],d,j,B,h=>by simp[bA]at h
 |p::r,d,0,B,h=>by simp only[bA,dm,aM]at h;subst h;exact⟨p,d.1,rfl,rfl,λ _ _=>rfl⟩
 |p::r,d,j+1,B,h=>by obtain⟨q,a,I,J,b⟩:=FY (ps:=r) (d:=d.2) (j:=j) (by simpa[bA]using h);exact⟨q,a,by simpa using I,J,λ σ' g'=>by simpa[bA]using b σ' g'⟩
theorem back(o:Mem T W au X bl ρ w)(ap:j6 bl ρ (bA id mM false pre kM) kD sel)(qz:sel.length=pre.length)(c:∀(j i:Nat)(B:az T.El)(p:bB),sel[j]? =some i->bl[i]? =some B->pre[j]? =some p->mY p B)(b9:ib pre cb=true)
 (S:∀i∈sel,i<bl.length)(U:∀j,gq j=cl true cb j)
 (s:Mem T w (gL (bA id mM false pre kM) kD) (iE X bl ρ sel) (bA id gq true cb c7) dE w')(aF:To (iE X bl ρ sel) (bA id mM false pre kM) (bA id gq true cb c7) kD dE w w') :
 Mem T W au X (fx bl sel cb c7) (fo ρ sel dE) w'/\To X bl (fx bl sel cb c7) ρ (fo ρ sel dE) w w'/\eH bl ρ w w' sel/\
  ∀bf (aH:c8 T.El bf) vs,aR T (aY (iE X bl ρ sel) (bA id gq true cb c7) dE w') w' dE (bA id gq true cb c7) (fq id gq bf aH) vs->aR T (aY X (fx bl sel cb c7) (fo ρ sel dE) w') w' (fo ρ sel dE) (fx bl sel cb c7) (fq (hL sel bl.length) (eK bl sel cb) bf aH) vs:=by
 have Ty:(bA id mM false pre kM).length=pre.length:=mc
 have V:(bA id gq true cb c7).length=cb.length:=mc
 have Y:dE.length=cb.length:=by rw[s.len,V]
 have aru:kD.length=pre.length:=by rw[ap.len,Ty]
 have S5:=Cb b9
 have Z:sel.Nodup:=by refine jw.2 λ i j hi r lU e=>?_;have:=ap.inj i j _ (bx hi) (by rw[e];exact bx r);omega
 have aiS:(qc bl sel cb c7).length=cb.length:=by rw[qc,WQ,mc]
 have O:sel.length<=(qc bl sel cb c7).length:=by omega
 have s2:sel.length<=dE.length:=by omega
 have agt:∀i∈sel,i<ρ.length:=λ i hi=>by rw[o.len];exact S i hi
 have l1:(fx bl sel cb c7).length=bl.length+(cb.length-sel.length):=by rw[fx,L5 O,aiS]
 have da:(fo ρ sel dE).length=bl.length+(cb.length-sel.length):=by rw[L5 s2,o.len,Y]
 have P:∀(j:Nat)(v:Value),dE[j]? =some v->(fo ρ sel dE)[hL sel bl.length j]? =some v:=λ j v r=>by rcases gw j sel.length with e |e;have d:=bx e;rw[y2 d,Fk s2 Z agt d];exact r;rw[NV e,<-o.len,Fl s2,show sel.length+(j-sel.length)=j by omega];exact r
 have Pq:∀(j:Nat),j<cb.length->(fx bl sel cb c7)[hL sel bl.length j]? =(qc bl sel cb c7)[j]? :=λ j r=>by rcases gw j sel.length with e |e;have d:=bx e;rw[y2 d,fx,Fk O Z S d];rw[NV e,fx,Fl O,show sel.length+(j-sel.length)=j by omega]
 have Wl:∀(j:Nat),j<sel.length->∃i B h,sel[j]? =some i/\bl[i]? =some B/\ρ[i]? =some h/\kD[j]? =some h/\∃p,pre[j]? =some p/\mY p B:=λ j r=>by
  have nX:j<(bA id mM false pre kM).length:=by omega
  have qI:j<kD.length:=by omega
  obtain⟨i,B,d,al,aN,_⟩:=ap.at_ j _ _ (bx nX) (bx qI);have qJ:j<pre.length:=by omega
  exact⟨i,B,_,d,al,aN,bx qI,_,bx qJ,c j i B _ d al (bx qJ)⟩
 have WR:∀B:az T.El,ga none B=B:=λ B=>by cases B<;>rfl
 have HC:∀(j:Nat)(B:az T.El),(qc bl sel cb c7)[j]? =some B->∃q f,cb[j]? =some q/\(bA id gq true cb c7)[j]? =some (c4 id gq true q f)/\B=ga ((sel[j]?).bind λ i=>nth bl i) (c4 (hL sel bl.length) (eK bl sel cb) true q f):=λ j B y=>by
  rw[qc,WO,cQ]at y;obtain⟨hx,I,J⟩:=y;obtain⟨q,f,d,al,aN⟩:=FY I;refine⟨q,f,d,aN _ _,?_⟩;subst al;rw[<-J];cases arm:sel[j]? with
  |none=>exact(WR _).symm
  |some i=>rfl
 have F:∀(q:bB)(f:oE T.El q)(σ g σ' g':Nat->Nat)(u:Value),a_ (c4 σ g true q f) u=a_ (c4 σ' g' true q f) u:=λ q f σ g σ' g' u=>by cases q<;>rfl
 have cs:∀(i:Nat)(B:az T.El)(h:Value),(fx bl sel cb c7)[i]? =some B->(fo ρ sel dE)[i]? =some h->(i∉sel/\bl[i]? =some B/\ρ[i]? =some h)\/
  ∃j q f,cb[j]? =some q/\dE[j]? =some h/\hL sel bl.length j=i/\(bA id gq true cb c7)[j]? =some (c4 id gq true q f)/\B=ga ((sel[j]?).bind λ i=>nth bl i) (c4 (hL sel bl.length) (eK bl sel cb) true q f):=λ i B h y G=>by
  rcases ajD O Z S y with⟨d,al,aN⟩|⟨j,d,al⟩
  ·left;rw[yy d (by rw[o.len];exact al)]at G;exact⟨d,aN,G⟩
  ·right;obtain⟨q,f,m,n,l⟩:=HC j B d;have r:j<cb.length:=(bg.1 m).1;have T0:hL sel bl.length j=i:=by rcases al with⟨_,al⟩|⟨al,aN⟩;exact y2 al;rw[NV al,aN]
   have H:=P j _ (bx (by omega:j<dE.length));rw[T0,G]at H;simp only[aM]at H;exact⟨j,q,f,m,by rw[H];exact bx _,T0,n,l⟩
 have MA:∀k,lB (fx bl sel cb c7) (fo ρ sel dE) k->(∃i B h,i∉sel/\bl[i]? =some B/\ρ[i]? =some h/\k∈a_ B h)\/lB (bA id gq true cb c7) dE k:=λ k c=>by obtain⟨i,B,h,I,J,t⟩:=c;rcases cs i B h I J with⟨d,al,aN⟩|⟨j,q,f,d,al,aN,bI,rfl⟩;exact .inl ⟨i,B,h,d,al,aN,t⟩;rw[Cx,F q f _ _ id gq]at t;exact .inr ⟨j,_,h,bI,al,t⟩
 have Pu:∀k,aY (iE X bl ρ sel) (bA id gq true cb c7) dE w' k->aY X (fx bl sel cb c7) (fo ρ sel dE) w' k:=λ k c=>⟨λ aa=>c.1 (.inl aa),λ K=>by
  rcases MA k K with h |h;exact c.1 (.inr h)
  ·exact c.2.1 h,c.2.2⟩
 have Pt:∀k,aY X bl ρ w k->aY X (fx bl sel cb c7) (fo ρ sel dE) w' k/\w'.heap[k]? =w.heap[k]? :=λ k c=>⟨⟨c.1,λ K=>by
  rcases MA k K with⟨i,B,h,_,I,J,t⟩|h;exact c.2.1 ⟨i,B,h,I,J,t⟩
  ·rcases(s.lt k h).2 with e |e;exact c.2.1 (ap.own (kb.1 e))
   ·have:=c.2.2;omega,dr c.2.2 s.bO.size⟩,s.bO.block k c.2.2 λ e=>c.2.1 (ap.own (kb.1 e))⟩
 have Ts:∀j,gq j=bJ (bA id gq true cb c7)[j]? :=λ j=>by rw[yK];exact U j
 have jR:∀(j:Nat)(q:bB),cb[j]? =some q->j<sel.length->∃i B,sel[j]? =some i/\bl[i]? =some B/\mY q B:=λ j q r aq=>by obtain⟨i,B,h,d,al,_,_,p,b',eD⟩:=Wl j aq;have:=Ca b9 b' r;refine⟨i,B,d,al,?_⟩;cases p<;>cases q<;>simp only[sW,hT]at this<;>cases B<;>simp only[mY]at eD⊢;rw[eD,a8 this]
 have e9:∀j v,dE[j]? =some v->eK bl sel cb j=bJ (fx bl sel cb c7)[hL sel bl.length j]? :=λ j v r=>by
  have qK:j<cb.length:=by have:=(bg.1 r).1;omega
  rw[Pq j qK];have L:j<(qc bl sel cb c7).length:=by omega
  obtain⟨q,f,d,al,aN⟩:=HC j _ (bx L);rw[bx L,aN];rw[eK,cH,cl,d];rcases gw j sel.length with aq |aq;obtain⟨i,B,m,n,l⟩:=jR j q d aq;rw[m];simp only[ae,cH,n,vx];cases q<;>cases B<;>simp only[mY]at l<;>simp[ga,c4,bJ,et];rw[gM aq];simp only[Option.bind_none,WR,jJ];cases q<;>rfl
 have PA:j3 T ρ (fo ρ sel dE) bl (fx bl sel cb c7):=⟨λ i h hi=>by
  have dy:i<ρ.length:=(bg.1 hi).1;by_cases h4:i∈sel
  ·obtain⟨j,r,rfl⟩:=jk.1 h4;obtain⟨i,B,aK,d,al,aN,bI,p,b',eD⟩:=Wl j r;have Iq:sel[j]=i:=by rw[bx r]at d;exact eG d
   rw[Iq]at hi⊢;rw[hi]at aN;cases aN;obtain⟨h',aT,aV,bQ,Q⟩:=aF.L.at_ j h bI;have qK:j<cb.length:=by omega
   have L:j<(qc bl sel cb c7).length:=by omega
   obtain⟨q,f,m,n,l⟩:=HC j _ (bx L);have y:=Pq j qK;rw[y2 d,bx L,l,d]at y;simp only[ae,cH,al]at y;have aD:=P j h' aT;rw[y2 d]at aD;refine⟨h',aD,aV,?_⟩;rw[y,al];obtain⟨i2,nx,dP,fJ,oa⟩:=jR j q m r;rw[d]at dP;cases dP;rw[al]at fJ;cases fJ;have z:bJ (bA id mM false pre kM)[j]? =0:=by rw[yK,b'];cases p<;>rfl
   have A:bJ (bA id gq true cb c7)[j]? =et true (some q):=by rw[yK,m]
   rw[z,A]at Q;cases q<;>cases B<;>simp only[mY]at oa;exact⟨cS _,λ _=>⟨(Q rfl).1,rfl,cS _,λ _=>rfl⟩⟩;subst oa;refine⟨by simp[ga,c4,bJ],λ e=>⟨(Q (by simpa[ga,c4,bJ]using e)).1,rfl,by simp[ga,c4,fs],λ e=>?_⟩⟩;simp[ga,c4,fs,uk]at e;exact⟨cS _,λ _=>⟨(Q rfl).1,rfl,cS _,λ _=>rfl⟩⟩;exact⟨g_ _,λ e=>by simp[ga,c4,bJ,et]at e⟩;exact⟨by simp[ga,c4,bJ],λ e=>by simp[ga,c4,bJ,et]at e⟩;exact⟨g_ _,λ e=>by simp[ga,c4,bJ,et]at e⟩;exact⟨by simp[ga,c4,bJ],λ e=>by simp[ga,c4,bJ,et]at e⟩
  ·have ag:(fx bl sel cb c7)[i]? =bl[i]? :=yy h4 (by rw[<-o.len];exact dy);refine⟨h,by rw[yy h4 dy];exact hi,λ _=>rfl,?_⟩;rw[ag]
   exact⟨cS _,λ _=>⟨rfl,rfl,cS _,λ _=>rfl⟩⟩⟩
 have WN:∀(i:Nat)(B:az T.El)(h:Value),i∉sel->bl[i]? =some B->ρ[i]? =some h->∀k∈a_ B h,k<w.heap.size/\k∉gL (bA id mM false pre kM) kD:=λ i B h hi I J k c=>by refine⟨(o.lt k ⟨i,B,h,I,J,c⟩).1,λ e=>?_⟩;obtain⟨j,C,u,m,n,l⟩:=kb.1 e;obtain⟨R,hx,z,A,M,N⟩:=ap.at_ j C u m n;have l:=N _ _ l;refine o.a6 i R B hx h u I J A M (λ e=>?_) k c l;subst e;exact hi (bR z)
 have aaS:To X bl (fx bl sel cb c7) ρ (fo ρ sel dE) w w':=⟨Pt,PA,s.bO.size,λ i B' h' hi G k c AO=>by
  rcases cs i B' h' hi G with⟨_,al,aN⟩|⟨j,q,f,d,al,aN,bI,rfl⟩;exact⟨B',h',al,aN,c⟩
  ·rw[Cx,F q f _ _ id gq]at c;obtain⟨hx,aK,m,n,l⟩:=aF.kR j _ h' bI al k c AO;obtain⟨R,B,z,A,M,N⟩:=ap.at_ j hx aK m n;rw[y2 z]at aN;subst aN
   exact⟨B,aK,A,M,N _ _ l⟩⟩
 refine⟨⟨o.bO.trans s.bO λ k c=>(o.lt k (ap.own (kb.1 c))).2,by rw[l1,da],o.fI,λ k c=>?_,?_,?_⟩,aaS,λ k c aL=>?_,λ bf aH vs H=>Vx Pu P Ts e9 H⟩
 ·rcases MA k c with⟨i,B,h,_,I,J,t⟩|h;have:=o.lt k ⟨i,B,h,I,J,t⟩;exact⟨dr this.1 s.bO.size,this.2⟩;refine⟨(s.lt k h).1,?_⟩;rcases(s.lt k h).2 with e |e;exact(o.lt k (ap.own (kb.1 e))).2;exact .inr (eY o.bO.size e)
 ·intro a b B C u v I J t a5 bH k c E;have PV:∀(i:Nat)(D:az T.El)(x:Value),i∉sel->bl[i]? =some D->ρ[i]? =some x->k∈a_ D x->lB (bA id gq true cb c7) dE k->False:=λ i D x hi d1 d2 d3 K=>by obtain⟨ba,bw⟩:=WN i D x hi d1 d2 k d3;rcases(s.lt k K).2 with e |e;exact bw e;omega
  rcases cs a B u I J with⟨d,al,aN⟩|⟨j,q,f,d,al,aN,bI,rfl⟩;rcases cs b C v t a5 with⟨m,n,l⟩|⟨gy,yO,z1,m,n,l,f4,rfl⟩;exact o.a6 a b B C u v al aN n l bH k c E;rw[Cx,F yO z1 _ _ id gq]at E;exact PV a B u d al aN c ⟨gy,_,v,f4,n,E⟩;rw[Cx,F q f _ _ id gq]at c;rcases cs b C v t a5 with⟨m,n,l⟩|⟨gy,yO,z1,m,n,l,f4,rfl⟩;exact PV b C v m n l E ⟨j,_,u,bI,al,c⟩;rw[Cx,F yO z1 _ _ id gq]at E;refine s.a6 j gy _ _ u v bI al f4 n (λ e=>?_) k c E;subst e;exact bH (aN.symm.trans l)
 ·intro i B h I J;rcases cs i B h I J with⟨d,al,aN⟩|⟨j,q,f,d,al,aN,bI,rfl⟩;exact(o.ok i B h al aN).later Pt PA λ k c=>by obtain⟨ba,bw⟩:=WN i B h d al aN k c;exact s.bO.block k ba bw
  ·exact akI Pu P Ts e9 (s.ok j _ h bI al)
 ·refine s.bO.block k c λ e=>?_;obtain⟨j,C,u,m,n,l⟩:=kb.1 e;obtain⟨R,hx,z,A,M,N⟩:=ap.at_ j C u m n;have l:=N _ _ l;exact aL R (bR z) hx u A M l
end
def k4:Nat->List (Nat×Nat)
 |0=>[]
 |n+1=>(n,n)::k4 n
theorem vR{n:Nat}{p:Nat×Nat}:p∈k4 n↔p.1<n/\p.2=p.1:=by
 induction n with
 |zero=>simp[k4]
 |succ n c=>simp only[k4,cU,c];constructor;rintro(rfl |⟨I,J⟩);exact⟨kA _,rfl⟩;exact⟨by omega,J⟩;rintro⟨I,J⟩;rcases gw p.1 n with e |e;exact .inr ⟨e,J⟩;left;obtain⟨a,b⟩:=p;simp only at I J e;simp only[cv];omega
theorem vQ{n:Nat}:hS (k4 n):=⟨λ p a q b e=>by rw[(vR.1 a).2,(vR.1 b).2,e],λ p a q b e=>by rw[<-(vR.1 a).2,<-(vR.1 b).2,e]⟩
theorem vm:hS []:=⟨λ p a=>by simp at a,λ p a=>by simp at a⟩
def rK{El:Nat->Type}(n:Nat)(y:aE El):List (aE El):=match b2 n 1 with
 |true=>[y]
 |false=>match y with
  | .u ys=>ys
  | .p (.tuple ⟨vs⟩)=>vs.map .p
  |y=>[y]
section
variable{T:bD}{W w w':World}{au:List Nat}{X:Nat->Prop}{bl:List (az T.El)}{ρ:List Value}
theorem Ln{El:Nat->Type}{pre c:List bB}(a:ib pre c=true){j:Nat}{p:bB}{B:az El}(b:pre[j]? =some p)(h:p≠ .d->mY p B):mY p B:=h λ e=>by subst e;have d:=(bg.1 b).1;have f:=Cb a;have:=Ca a b (bx (by omega));simp[sW]at this
theorem aer{aO b:List (Nat×Nat)}{post:Bool}:∀ {p:bB}{B:az T.El}{d:oE T.El p},hj bl aO post p B=some (d,b)->(p≠ .d->mY p B)/\(post=true->et true (some p)=0 ->bJ (some B)=0)
 | .c ty ps,B,d,h=>by simp only[hj]at h;split at h;exact⟨λ _=>trivial,λ _ _=>rfl⟩;cases h
 | .r t same,B,d,h=>by
   simp only[hj]at h;split at h
   ·split at h
    ·rename_i ag;obtain⟨x,I,h⟩:=cQ.1 h;obtain⟨e,_⟩:=VW I;refine⟨λ _=>e,λ c a=>?_⟩;subst c;cases same with
     |false=>simp[et]at a
     |true=>simpa[bJ]using a8 (by simpa using ag)
    ·cases h
   ·cases h
 | .m kt vt,B,d,h=>by simp only[hj]at h;split at h;exact⟨λ _=>trivial,λ _ _=>rfl⟩;cases h
 | .d,B,d,h=>by simp only[hj]at h;split at h<;>first |exact⟨λ h=>absurd rfl h,λ _ a=>by simp[et]at a⟩|cases h
theorem SD{post:Bool}:∀ {ps:List bB}{aO b:List (Nat×Nat)}{k:Nat}{d:ct T.El ps},kS bl post aO k ps=some (d,b)->∀(m:Nat)(p:bB),ps[m]? =some p->∃i B,(k+m,i)∈b/\bl[i]? =some B/\(p≠ .d->mY p B)/\(post=true->et true (some p)=0 ->bJ (some B)=0)
 |[],aO,b,k,d,_,m,p,a=>by simp at a
 |q::r,aO,b,k,d,h,m,p,a=>by
  simp only[kS]at h;split at h
  ·rename_i i hi;split at h
   ·rename_i B c;split at h
    ·rename_i l n I;split at h
     ·rename_i o s J;cases h;have e:=(xZ J).1;have f:=(Es I).1;rw[cH]at c;cases m with
      |zero=>simp only[dm,aM]at a;subst a;exact⟨i,B,e _ (f _ (jK hi)),c,aer I⟩
      |succ m=>obtain⟨g,nx,j,al,aN⟩:=SD J m p (by simpa using a);exact⟨g,nx,by rw[show k+(m+1)=k+1+m by omega];exact j,al,aN⟩
     ·cases h
    ·cases h
   ·cases h
  ·cases h
theorem x0{aO:List (Nat×Nat)}(aC:hS aO){post:Bool}{bf:List cW}{pbs:List bB}{ys:List (aE T.El)}{a:c8 T.El bf×ct T.El pbs}{sel:List Nat}(h:gY bl aO post bf pbs ys=some (a,sel)) :
 sel.length=pbs.length/\∀(j i:Nat)(p:bB),sel[j]? =some i->pbs[j]? =some p->∃B,bl[i]? =some B/\(p≠ .d->mY p B)/\(post=true->et true (some p)=0 ->bJ (some B)=0):=by
 unfold gY at h
 split at h
 ·rename_i ss k I;split at h;rename_i l m J;split at h;rename_i n b o;simp only[aM,cv]at h;obtain⟨rfl,rfl⟩:=h;have c:=(xZ J).2 ((Er I).2 aC);obtain⟨l1,d⟩:=K_ b;refine⟨l1,λ j i p e f=>?_⟩;obtain⟨q,B,g,al,aN⟩:=SD J j p f;have:=c.fn _ g _ (d j i e) rfl;simp only at this;subst this;exact⟨B,al,aN⟩;cases h;cases h
 ·cases h
theorem LK{pre a:List bB}{s:ct T.El pre}{f:ct T.El a}{mM gq:Nat->Nat}{t D E:List Value}{u:List (az T.El)}{sel:List Nat}(Ty:t.length=pre.length)(c:To X (bA id mM false pre s) u t E w w')(ap:j6 u E (bA id gq true a f) D sel)
 (v:∀j,j<pre.length->sel[j]? =some j)(Z:sel.length=a.length)(F:ib pre a=true)(g:∀(j i:Nat)(p:bB),sel[j]? =some i->a[j]? =some p->∃B,u[i]? =some B/\(p≠ .d->mY p B)/\(true=true->et true (some p)=0 ->bJ (some B)=0)) :
 To X (bA id mM false pre s) (bA id gq true a f) t D w w':=by
 have S5:=Cb F
 refine⟨λ k g=>⟨ap.B2 (c.F k g).1,(c.F k g).2⟩,⟨λ i h hi=>?_⟩,c.sz,λ i B' h' hi L k x M=>?_⟩
 ·have d:i<pre.length:=by have:=(bg.1 hi).1;omega
  obtain⟨h',N,O,bQ,l⟩:=c.L.at_ i h hi;have m:i<(bA id gq true a f).length:=by rw[mc];omega
  obtain⟨b,B,n,al,aN,bI⟩:=ap.at_ i _ _ (bx m) (bx (by rw[ap.len];exact m));rw[v i d]at n;cases n;rw[N]at aN;have aN:=eG aN;refine⟨h',by rw[bx (by rw[ap.len];exact m),aN],O,?_⟩;have G:i<pre.length:=d;have H:=bx G;have y:i<a.length:=by omega
  have z:=bx y;have kk:=Ca F H z;obtain⟨nx,P,fJ,o⟩:=g i i _ (v i d) z;obtain⟨Q,A⟩:∃B,(bA id mM false pre s)[i]? =some B:=⟨_,bx (by rw[mc];exact G)⟩
  obtain⟨R,I⟩:∃B,(bA id gq true a f)[i]? =some B:=⟨_,bx m⟩
  obtain⟨pp,eI,q,r,_⟩:=FY A;obtain⟨S,z1,J,U,_⟩:=FY I;rw[H]at q;rw[z]at J;subst r;subst U;have C:=eG q;have K:=eG J;rw[C,K]at kk;rw[K]at o;rw[A,I];rw[A,P]at l;cases pp<;>cases S<;>simp only[sW,hT]at kk;exact⟨cS _,λ _=>⟨(l (o rfl rfl)).1,rfl,cS _,λ _=>rfl⟩⟩;exact⟨g_ _,λ e=>by simp[c4,bJ,et]at e⟩;have:=a8 kk;subst this;refine⟨by simp[c4,bJ,et],λ e=>⟨(l ?_).1,rfl,by simp[c4,fs,uk],λ e=>by simp[c4,fs,uk]at e⟩⟩;have:=o rfl (by simpa[c4,bJ,et]using e);simpa[c4,bJ,et]using this;exact⟨by simp[c4,bJ,et],λ e=>by simp[c4,bJ,et]at e⟩;exact⟨cS _,λ _=>⟨(l (o rfl rfl)).1,rfl,cS _,λ _=>rfl⟩⟩;exact⟨g_ _,λ e=>by simp[c4,bJ,et]at e⟩
 ·obtain⟨b,B,n,al,aN,bI⟩:=ap.at_ i B' h' hi L;have x:=bI _ _ x;obtain⟨hx,V,q,r,Y⟩:=c.kR b B h' al aN k x M;have d:b<pre.length:=by have:=(bg.1 r).1;omega
  have:=ap.inj i b b n (v b d);subst this;exact⟨hx,V,q,r,Y⟩
end
section
variable{El:Nat->Type}
def z9(pbs:List bB)(p:hz)(bl:List (az El))(y:aE El):List (az El)×aE El:=match p with
 | .l _=>fi bl y
 | .R j=>match y,nth pbs j with
   | .p (.slice none 0 0),some (.r t _)=>(bl++[.r t 0 0 []],.r bl.length 0)
   | .v i g (.ofNat 0) hi,_=>match nth bl i with
     |some (.r t a _ l)=>match b2 g a with
      |true=>(bl.set i (.r t (a+1) 0 (l.take hi.toNat)),.r i (a+1))
      |false=>(bl,y)
     |_=>(bl,y)
   |_,_=>(bl,y)
 |_=>(bl,y)
def mI(pbs:List bB):List hz->List (az El)->List (aE El)->List (az El)×List (aE El)
 |p::r,bl,y::ys=>match z9 pbs p bl y with
  |(a,b)=>match mI pbs r a ys with
   |(c,d)=>(c,b::d)
 |_,bl,ys=>(bl,ys)
def z7(pbs:List bB)(p:cW)(bl:List (az El))(y:aE El):List (az El)×aE El:=match p with
 | .p p=>z9 pbs p bl y
 | .a ps=>match iL y with
   |true=>match mI pbs ps bl (cellsOf y)with
    |(a,ys)=>(a,.a ys)
   |false=>(bl,y)
 | .f _ ps=>match y with
   | .f g cs=>match mI pbs ps bl cs with
     |(a,ys)=>(a,.f g ys)
   |_=>(bl,y)
def kO(pbs:List bB):List cW->List (az El)->List (aE El)->List (az El)×List (aE El)
 |p::r,bl,y::ys=>match z7 pbs p bl y with
  |(a,b)=>match kO pbs r a ys with
   |(c,d)=>(c,b::d)
 |_,bl,ys=>(bl,ys)
def qt(pbs:List bB):List (Nat×Nat)->Nat->List bB->List (az El)->List (az El)
 |aO,k,.c ty ps::r,bl=>match dk aO k with
  |some i=>match nth bl i with
   |some (.c _ cs)=>match mI pbs ps bl cs with
    |(a,b)=>match nth a i with
     |some (.c wS _)=>match kT (a.set i (.c wS b)) aO ps b with
      |some (_,c)=>qt pbs c (k+1) r (a.set i (.c wS b))
      |none=>a.set i (.c wS b)
     |_=>bl
   |_=>bl
  |none=>bl
 |aO,k,_::r,bl=>qt pbs aO (k+1) r bl
 |_,_,[],bl=>bl
def gl(aO:List (Nat×Nat))(bf:List cW)(pbs:List bB)(bl:List (az El))(ys:List (aE El)):List (az El)×List (aE El):=match kO pbs bf bl ys with
 |(a,b)=>match jz a aO bf b with
  |some (_,c)=>(qt pbs c 0 pbs a,b)
  |none=>(a,b)
end
section
variable{T:bD}{W w:World}{au:List Nat}{X:Nat->Prop}{bl bl':List (az T.El)}{ρ:List Value}{pbs:List bB}
theorem Mem.abZ(a:Mem T W au X bl ρ w){i t g k:Nat}{l:List (T.El t)}{A:Option Addr}{c q:Nat}(hi:bl[i]? =some (.r t g k l))(b:ρ[i]? =some (.slice A l.length c))(d:q<=l.length) :
 Mem T W au X (bl.set i (.r t (g+1) 0 (l.take q))) (ρ.set i (.slice A q c)) w/\To X bl (bl.set i (.r t (g+1) 0 (l.take q))) ρ (ρ.set i (.slice A q c)) w w:=by
 obtain⟨o,p,xs,j,al,aN⟩:=a.ok i _ _ hi b
 simp only[Value.slice.injEq,true_and]at j
 obtain⟨rfl,rfl⟩:=j
 have m:∀k'∈a_ (az.r (El:=T.El) t (g+1) 0 (l.take q)) (.slice A q c),k'∈a_ (az.r t g k l) (.slice A l.length c)\/(w.heap.size<=k'/\k'<w.heap.size):=λ k' n=>by left;revert n;cases A<;>cases c<;>simp[a_,ag]
 have f:=a.wQ (B':=az.r t (g+1) 0 (l.take q)) (h':=.slice A q c) (w':=w) hi b (a1.refl _ _) m ⟨λ h=>absurd trivial h,Nat.le_succ _,λ e=>by simp[bJ]at e⟩
 refine⟨a.rJ hi b (a1.refl _ _) m f ⟨A,c,xs.take (q*(T.ty t).size),by rw[fM,lu d],?_,?_⟩,f⟩
 ·rw[fM,lu d];exact al.short d
 ·have:=pI 0 q (kz _ f.F aN);simpa using this
theorem Sk(a:Mem T W au X bl ρ w){p:hz}{y e:aE T.El}{v:Value}(h:z9 pbs p bl y=(bl',e))(b:ar T (aY X bl ρ w) w ρ bl y v):∃ρ',Mem T W au X bl' ρ' w/\To X bl bl' ρ ρ' w w/\ar T (aY X bl' ρ' w) w ρ' bl' e v:=by
 have same:(bl,y)=(bl',e)->∃ρ',Mem T W au X bl' ρ' w/\To X bl bl' ρ ρ' w w/\ar T (aY X bl' ρ' w) w ρ' bl' e v:=λ h=>by simp only[cv]at h;obtain⟨rfl,rfl⟩:=h;exact⟨ρ,a,.refl,b⟩
 unfold z9 at h;split at h;obtain⟨I,J,z⟩:=St a h b;exact⟨ρ,I,J,z⟩
 ·split at h
  ·rename_i t _ _;simp only[cv]at h;obtain⟨rfl,rfl⟩:=h;simp only[ar]at b;subst b;have r:∀k∈a_ (az.r (El:=T.El) t 0 0 []) (.slice none 0 0),w.heap.size<=k/\k<w.heap.size:=λ k C=>by simp[a_,ag]at C
   have D:=a.push (B:=az.r t 0 0 []) (h:=.slice none 0 0) (a1.refl _ _) r ⟨none,0,[],rfl,.inr ⟨rfl,rfl,none,rfl⟩,rfl⟩;refine⟨_,D,a.uh (a1.refl _ _) r,?_⟩;simp only[ar];refine⟨trivial,.slice none 0 0,by rw[<-a.len];simp,g_ _,λ _=>rfl⟩
  ·rename_i i g hi;split at h
   ·rename_i t L k l d;rw[cH]at d;split at h
    ·rename_i ag;simp only[cv]at h;obtain⟨rfl,rfl⟩:=h;simp only[ar]at b;obtain⟨_,u,f,M,s⟩:=b;rw[d]at s;obtain⟨A,n,c,B,x,N,O,E,j,F,P⟩:=s (a8 ag);obtain⟨Q,R,xs,m,G,S⟩:=a.ok i _ _ d f;rw[x]at m;simp only[Value.slice.injEq]at m;obtain⟨rfl,rfl,rfl⟩:=m;rw[x]at f;have o:=F rfl;subst o;have j:v= .slice B hi.toNat c:=by simpa using j
     subst j;obtain⟨H,K⟩:=a.abZ d f (q:=hi.toNat) (by have:hi<=(l.length:Int):=E;omega);refine⟨_,H,K,?_⟩;simp only[ar];refine⟨trivial,_,fS (bg.1 f).1,?_,λ _=>rfl⟩;rw[fS (bg.1 d).1];exact cS _
    ·exact same h
   ·exact same h
  ·exact same h
 ·exact same h
theorem D':∀ {ps:List hz}{ys b:List (aE T.El)}{bl bl':List (az T.El)}{ρ:List Value}{vs:List Value},Mem T W au X bl ρ w->mI pbs ps bl ys=(bl',b)->aR T (aY X bl ρ w) w ρ bl ys vs->∃ρ',Mem T W au X bl' ρ' w/\To X bl bl' ρ ρ' w w/\aR T (aY X bl' ρ' w) w ρ' bl' b vs
 |[],ys,b,bl,bl',ρ,vs,c,h,a=>by simp only[mI,cv]at h;obtain⟨rfl,rfl⟩:=h;exact⟨ρ,c,.refl,a⟩
 |_::_,[],b,bl,bl',ρ,vs,c,h,a=>by simp only[mI,cv]at h;obtain⟨rfl,rfl⟩:=h;exact⟨ρ,c,.refl,a⟩
 |p::r,y::ys,b,bl,bl',ρ,vs,c,h,a=>by
  simp only[aR]at a;obtain⟨u,us,rfl,f,g⟩:=a;simp only[mI]at h;cases I:z9 pbs p bl y with
  |mk i n=>
   rw[I]at h;cases J:mI pbs r i ys with
   |mk o q=>rw[J]at h;simp only[cv]at h;obtain⟨rfl,rfl⟩:=h;obtain⟨s,j,d,v1⟩:=Sk c I f;obtain⟨k,l,e,m⟩:=D' j J (d.vs g);refine⟨k,l,d.trans e,?_⟩;simp only[aR];exact⟨u,us,rfl,e.v v1,m⟩
theorem ad3(b:Mem T W au X bl ρ w){p:cW}{y c:aE T.El}{v:Value}(h:z7 pbs p bl y=(bl',c))(a:ar T (aY X bl ρ w) w ρ bl y v):∃ρ',Mem T W au X bl' ρ' w/\To X bl bl' ρ ρ' w w/\ar T (aY X bl' ρ' w) w ρ' bl' c v:=by
 have same:(bl,y)=(bl',c)->∃ρ',Mem T W au X bl' ρ' w/\To X bl bl' ρ ρ' w w/\ar T (aY X bl' ρ' w) w ρ' bl' c v:=λ h=>by simp only[cv]at h;obtain⟨rfl,rfl⟩:=h;exact⟨ρ,b,.refl,a⟩
 unfold z7 at h;split at h;exact Sk b h a
 ·rename_i ps;split at h
  ·rename_i i;cases I:mI pbs ps bl (cellsOf y)with
   |mk j ys=>rw[I]at h;simp only[cv]at h;obtain⟨rfl,rfl⟩:=h;obtain⟨d,e,f,v1⟩:=D' b I (kH a);refine⟨d,e,f,?_⟩;rw[Bd (E:=⟨default,T,[],true,[],0,λ _=>[]⟩) i a];simp only[ar];exact⟨_,rfl,v1⟩
  ·exact same h
 ·rename_i k ps;split at h
  ·rename_i g cs;cases I:mI pbs ps bl cs with
   |mk j ys=>rw[I]at h;simp only[cv]at h;obtain⟨rfl,rfl⟩:=h;simp only[ar]at a;obtain⟨vs,rfl,a⟩:=a;obtain⟨d,e,f,v1⟩:=D' b I a;refine⟨d,e,f,?_⟩;simp only[ar];exact⟨_,rfl,v1⟩
  ·exact same h
theorem Sj:∀ {ps:List cW}{ys b:List (aE T.El)}{bl bl':List (az T.El)}{ρ:List Value}{vs:List Value},Mem T W au X bl ρ w->kO pbs ps bl ys=(bl',b)->aR T (aY X bl ρ w) w ρ bl ys vs->∃ρ',Mem T W au X bl' ρ' w/\To X bl bl' ρ ρ' w w/\aR T (aY X bl' ρ' w) w ρ' bl' b vs
 |[],ys,b,bl,bl',ρ,vs,c,h,a=>by simp only[kO,cv]at h;obtain⟨rfl,rfl⟩:=h;exact⟨ρ,c,.refl,a⟩
 |_::_,[],b,bl,bl',ρ,vs,c,h,a=>by simp only[kO,cv]at h;obtain⟨rfl,rfl⟩:=h;exact⟨ρ,c,.refl,a⟩
 |p::r,y::ys,b,bl,bl',ρ,vs,c,h,a=>by
  simp only[aR]at a;obtain⟨u,us,rfl,f,g⟩:=a;simp only[kO]at h;cases I:z7 pbs p bl y with
  |mk i n=>
   rw[I]at h;cases J:kO pbs r i ys with
   |mk o q=>rw[J]at h;simp only[cv]at h;obtain⟨rfl,rfl⟩:=h;obtain⟨s,j,d,v1⟩:=ad3 c I f;obtain⟨k,l,e,m⟩:=Sj j J (d.vs g);refine⟨k,l,d.trans e,?_⟩;simp only[aR];exact⟨u,us,rfl,e.v v1,m⟩
theorem Mem.amI(e:Mem T W au X bl ρ w){i g ty:Nat}{cs a:List (aE T.El)}{vs:List Value}(hi:bl[i]? =some (.c ty cs))(c:ρ[i]? =some (.pointer (some ⟨g,0,none⟩)))(hc:w.heap[g]? =some (.cells ⟨vs⟩ ty (0,0)))(h:aR T (aY X bl ρ w) w ρ bl a vs):Mem T W au X (bl.set i (.c ty a)) ρ w/\To X bl (bl.set i (.c ty a)) ρ ρ w w:=by have b:=e.wQ (B':=az.c ty a) (h':=.pointer (some ⟨g,0,none⟩)) (w':=w) hi c (a1.refl _ _) (λ q d=>.inl d) ⟨λ _=>rfl,cS _,λ _=>⟨rfl,rfl,cS _,λ _=>rfl⟩⟩;have f:=e.rJ (B':=az.c ty a) (h':=.pointer (some ⟨g,0,none⟩)) (w':=w) hi c (a1.refl _ _) (λ q d=>.inl d) b ⟨g,vs,rfl,hc,b.vs h⟩;rw[wN c]at f b;exact⟨f,b⟩
theorem z8:∀ {ps:List bB}{aO:List (Nat×Nat)}{k:Nat}{bl:List (az T.El)}{ρ:List Value},Mem T W au X bl ρ w->∃ρ',Mem T W au X (qt pbs aO k ps bl) ρ' w/\To X bl (qt pbs aO k ps bl) ρ ρ' w w
 |[],aO,k,bl,ρ,a=>⟨ρ,a,.refl⟩
 | .r _ _::r,aO,k,bl,ρ,a=>by simp only[qt];exact z8 a
 | .m _ _::r,aO,k,bl,ρ,a=>by simp only[qt];exact z8 a
 | .d::r,aO,k,bl,ρ,a=>by simp only[qt];exact z8 a
 | .c ty ps::r,aO,k,bl,ρ,a=>by
   simp only[qt];split
   ·rename_i i hi;split
    ·rename_i v cs b;rw[cH]at b;cases I:mI pbs ps bl cs with
     |mk x y=>simp only;split;rename_i wS z c;rw[cH]at c;obtain⟨u,f⟩:=a.Bp b;obtain⟨g,vs,rfl,hc,n⟩:=a.ok i _ u b f;obtain⟨o,h,d,v1⟩:=D' a I n;obtain⟨A,e,p,_⟩:=d.L.at_ i _ f;rw[p (by simp[k6])]at e;obtain⟨g',B,j,al,_⟩:=h.ok i _ _ c e;simp only[Value.pointer.injEq,aM,Addr.mk.injEq,and_true]at j;subst j;rw[hc]at al;simp only[aM,Obj.cells.injEq,Array.mk.injEq,and_true]at al;obtain⟨rfl,rfl⟩:=al;obtain⟨l,m⟩:=h.amI c e hc v1;split;obtain⟨q,s,t⟩:=z8 l (ps:=r);exact⟨q,s,(d.trans m).trans t⟩;exact⟨o,l,d.trans m⟩;exact⟨ρ,a,.refl⟩
    ·exact⟨ρ,a,.refl⟩
   ·exact⟨ρ,a,.refl⟩
theorem vv(e:Mem T W au X bl ρ w){aO:List (Nat×Nat)}{bf:List cW}{ys a:List (aE T.El)}{vs:List Value}(h:gl aO bf pbs bl ys=(bl',a))(f:aR T (aY X bl ρ w) w ρ bl ys vs):∃ρ',Mem T W au X bl' ρ' w/\To X bl bl' ρ ρ' w w/\aR T (aY X bl' ρ' w) w ρ' bl' a vs:=by
 unfold gl at h;cases I:kO pbs bf bl ys with
 |mk k l=>rw[I]at h;obtain⟨g,b,c,v1⟩:=Sj e I f;simp only at h;split at h;simp only[cv]at h;obtain⟨rfl,rfl⟩:=h;obtain⟨i,j,d⟩:=z8 b (pbs:=pbs) (ps:=pbs);exact⟨i,j,c.trans d,d.vs v1⟩;simp only[cv]at h;obtain⟨rfl,rfl⟩:=h;exact⟨g,b,c,v1⟩
end
structure e6 (T:bD) where
 bf:List cW
 pbs:List bB
 ea:List cW
 c9:List bB
 fn:c8 T.El bf×ct T.El pbs->Option (c8 T.El ea×ct T.El c9)
def e6.run(E:Env)(c:e6 E.T)(ys:List (aE E.T.El))(bl:List (az E.T.El)):D (eX E.T.El):=match gl [] c.bf c.pbs bl ys with
 |(a,b)=>match ib c.pbs c.c9,gY a [] false c.bf c.pbs b with
  |true,some (d,sel)=>.op (c.fn d) λ r=>.ok ⟨.ret (jT (fq (hL sel a.length) (eK a sel c.c9) c.ea r.1)),fx a sel c.c9 r.2,sel⟩
  |_,_=>.no
def e6.fin{T:bD}(c:e6 T)(r:eX T.El):Option (c8 T.El c.ea×ct T.El c.c9):=match r.e with
 | .ret y=>match gl (k4 c.pbs.length) c.ea c.c9 r.bl (rK c.ea.length y)with
   |(a,b)=>match gY a (k4 c.pbs.length) true c.ea c.c9 b with
    |some (d,_)=>some d
    |none=>none
 | .tP _=>none
def e6.Eq(E:Env)(a4:dW E)(LE:ig E)(f:Nat)(c:e6 E.T):Prop:=∀(aH:c8 E.T.El c.bf)(aJ:ct E.T.El c.pbs),(kP E a4 LE f (fq id (cl false c.pbs) c.bf aH) (bA id (cl false c.pbs) false c.pbs aJ)).run c.fin=c.fn (aH,aJ)
section
variable{T:bD}{F:Nat->Prop}{w:World}{ρ:List Value}{bl:List (az T.El)}
theorem JY:∀ {ps:List cW}{ys:List (aE T.El)}{aO a:List (Nat×Nat)}{d:c8 T.El ps},jz bl aO ps ys=some (d,a)->ys.length=ps.length
 |[],[],aO,a,d,h=>rfl
 |p::r,y::ys,aO,a,d,h=>by simp only[jz]at h;split at h;split at h;rename_i J;simp[JY J];cases h;cases h
 |[],y::ys,aO,a,d,h=>by simp[jz]at h
 |p::r,[],aO,a,d,h=>by simp[jz]at h
theorem Vk:∀ {vs:List Value},vs.length≠1 ->pack vs= .tuple ⟨vs⟩
 |[],_=>rfl
 |[v],h=>by simp at h
 |v::u::r,_=>rfl
theorem WM{n:Nat}{y:aE T.El}{v:Value}(a:(rK n y).length=n)(h:ar T F w ρ bl y v):∃vs,aR T F w ρ bl (rK n y) vs/\pack vs=v:=by
 unfold rK at a⊢;split at a;refine⟨[v],?_,rfl⟩;simp only[aR];exact⟨v,[],rfl,h,rfl⟩
 ·rename_i ag;have b:n≠1:=λ e=>by subst e;simp at ag
  split at a;simp only[ar]at h;obtain⟨vs,rfl,J⟩:=h;exact⟨vs,J,Vk (by rw[J.len,a];exact b)⟩;simp only[ar]at h;subst h;rename_i vs;exact⟨vs,Gc (E:=⟨default,T,[],true,[],0,λ _=>[]⟩) vs,Vk (by simpa using(by simpa using a:vs.length=n)▸b)⟩;simp at a;exact absurd a.symm b
end
section
variable{E:Env}{a4:dW E}{LE:ig E}{f:Nat}
theorem Si{pbs:List bB}:∀ {ps:List cW}{ys a:List (aE E.T.El)}{bl bl':List (az E.T.El)},kO pbs ps bl ys=(bl',a)->a.length=ys.length
 |[],ys,a,bl,bl',h=>by simp only[kO,cv]at h;rw[h.2]
 |_::_,[],a,bl,bl',h=>by simp only[kO,cv]at h;rw[<-h.2]
 |p::r,y::ys,a,bl,bl',h=>by
  simp only[kO]at h;cases I:z7 pbs p bl y with
  |mk b c=>
   rw[I]at h;cases J:kO pbs r b ys with
   |mk d e=>rw[J]at h;simp only[cv]at h;rw[<-h.2,dp,Si J,dp]
theorem Sl{aO:List (Nat×Nat)}{bf:List cW}{pbs:List bB}{ys a:List (aE E.T.El)}{bl bl':List (az E.T.El)}(h:gl aO bf pbs bl ys=(bl',a)):a.length=ys.length:=by
 unfold gl at h;cases I:kO pbs bf bl ys with
 |mk b c=>rw[I]at h;simp only at h;split at h<;>(simp only[cv]at h;rw[<-h.2];exact Si I)
def e6.Hv(E:Env)(a4:dW E)(LE:ig E)(f:Nat)(c:e6 E.T):Prop:=∀(aH:c8 E.T.El c.bf)(aJ:ct E.T.El c.pbs)(F:Nat->Prop)(w:World)(ρ:List Value)(bl:List (az E.T.El))(vs:List Value),aR E.T F w ρ bl (fq id (cl false c.pbs) c.bf aH) vs ->
 ∃ys,aR E.T F w ρ bl ys vs/\∀r,c.fn (aH,aJ)=some r->(kP E a4 LE f ys (bA id (cl false c.pbs) false c.pbs aJ)).run c.fin=some r
theorem e6.Eq.v{c:e6 E.T}(h:c.Eq E a4 LE f):c.Hv E a4 LE f:=λ aH aJ _ _ _ _ _ a=>⟨_,a,λ _ b=>(h aH aJ).trans b⟩
def e6.mv(E:Env)(a4:dW E)(LE:ig E)(f:Nat)(c:e6 E.T):Prop:=∀(aH:c8 E.T.El c.bf)(aJ:ct E.T.El c.pbs) r,c.fn (aH,aJ)=some r->(kP E a4 LE f (fq id (cl false c.pbs) c.bf aH) (bA id (cl false c.pbs) false c.pbs aJ)).run c.fin=some r
theorem e6.mv.v{c:e6 E.T}(h:c.mv E a4 LE f):c.Hv E a4 LE f:=λ aH aJ _ _ _ _ _ a=>⟨_,a,λ r b=>h aH aJ r b⟩
def e6.Dl(E:Env)(f:Nat)(c:e6 E.T):Prop:=∀(aH:c8 E.T.El c.bf)(aJ:ct E.T.El c.pbs) ia,c.fn (aH,aJ)=some ia->∀(W:World)(au:List Nat)(X:Nat->Prop)(ρ:List Value)(w:World)(vs:List Value),Mem E.T W au X (bA id (cl false c.pbs) false c.pbs aJ) ρ w->iB E X (bA id (cl false c.pbs) false c.pbs aJ) ρ w->aR E.T (aY X (bA id (cl false c.pbs) false c.pbs aJ) ρ w) w ρ (bA id (cl false c.pbs) false c.pbs aJ) (fq id (cl false c.pbs) c.bf aH) vs ->
 ∃cE,c.fin cE=some ia/\Calls E.P f ⟨vs⟩ w λ e w'=>∃ρ',Mem E.T W au X cE.bl ρ' w'/\To X (bA id (cl false c.pbs) false c.pbs aJ) cE.bl ρ ρ' w w'/\eH (bA id (cl false c.pbs) false c.pbs aJ) ρ w w' cE.ws/\sd E X cE.bl ρ' w' cE.e e
theorem H5(K:iA E){c:e6 E.T}(L:c.Dl E f):jt E f (c.run E):=by
 intro ys M r g W au X ρ0 w vs N O P;unfold e6.run at g;cases C:gl [] c.bf c.pbs M ys with
 |mk bl cF=>
 rw[C]at g;obtain⟨ρ,q,s,Q⟩:=vv N C P;simp only at g;split at g
 ·rename_i d sel t fl;obtain⟨aH,aJ⟩:=d;obtain⟨ia,I,J⟩:=g;obtain⟨D,F⟩:=ia;have J:(⟨.ret (jT (fq (hL sel bl.length) (eK bl sel c.c9) c.ea D)),fx bl sel c.c9 F,sel⟩:eX E.T.El)=r:=J;subst J;obtain⟨ap,_,R⟩:=sD q vm fl;obtain⟨S,b⟩:=x0 vm fl;obtain⟨T,U⟩:=R (aY (iE X bl ρ sel) (bA id (cl false c.pbs) false c.pbs aJ) (gp ρ sel) w) λ k b=>ap.tS b;have V:=ap.enter q U;obtain⟨cE,a,hc⟩:=L aH aJ _ I _ _ _ _ _ vs V ((O.to s).enter K λ k b=>ap.tS b) (T vs Q);refine hc.mono λ e w' Y=>?_;obtain⟨Z,LY,N7,wX,l⟩:=Y;unfold e6.fin at a;cases G:cE.e with
  |tP y=>rw[G]at a;cases a
  |ret y=>
   rw[G]at a l;simp only at a;cases e with
   |returned v=>
    have l:ar E.T _ w' Z cE.bl y v:=l;cases u:gl (k4 c.pbs.length) c.ea c.c9 cE.bl (rK c.ea.length y)with
    |mk zT lx=>
    rw[u]at a;simp only at a;split at a
    ·rename_i st NU n;have a:=eG a;subst a;have o:(rK c.ea.length y).length=c.ea.length:=by rw[<-Sl u];unfold gY at n;split at n;rename_i Ko;exact JY Ko;cases n
     obtain⟨us,x,pP⟩:=WM o l;obtain⟨uA,fK,N8,x⟩:=vv LY u x;have Cs:=N7.trans N8;obtain⟨z,mP,AX⟩:=sD fK vQ n;obtain⟨sI,AK⟩:=x0 vQ n;obtain⟨vP,nT⟩:=AX (aY (iE X bl ρ sel) (bA id (cl true c.c9) true c.c9 F) (gp uA NU) w') λ k b=>z.B2 b;have KI:=z.leave fK nT;have K0:=LK (by rw[ap.len,mc]) Cs z (λ j A=>mP (j,j) (vR.2 ⟨A,rfl⟩)) sI t λ j i p h h'=>by obtain⟨B,m,al,aN⟩:=AK j i p h h';exact⟨B,m,al,aN⟩
     obtain⟨bt,dN,fQ,gh⟩:=back (gq:=cl true c.c9) q ap S (λ j i B p h h' H=>by obtain⟨B',m,al,_⟩:=b j i p h H;rw[h']at m;cases m;exact Ln t H al) t (λ i hi=>by obtain⟨j,A,rfl⟩:=jk.1 hi;obtain⟨B,m,_⟩:=b j _ _ (bx A) (bx (by omega:j<c.pbs.length));exact(bg.1 m).1) (λ j=>rfl) KI K0;refine⟨_,bt,s.trans dN,?_,?_⟩;have:=eH.nil.cc s fQ;rwa [jb]at this
     ·show ar E.T _ w' _ _ (jT _) v
      rw[<-pP];exact FP (gh c.ea D us (vP us x))
    ·cases a
   |panicked oV=>exact l.elim
   |outgrown=>exact l.elim
 ·exact g.elim
theorem zZ(a:cJ E)(b:gH E a4)(ec:oJ E LE)(d:iA E){c:e6 E.T}(e:c.Hv E a4 LE f):jt E f (c.run E):=H5 d λ aH aJ ia I W au X ρ w vs g h i=>by obtain⟨j,k,heq⟩:=e aH aJ _ _ _ _ _ i;obtain⟨cE,l,m⟩:=D.rG (heq _ I);exact⟨cE,m,((Eb a b ec).ok _ _ _ _ l).2 _ _ _ _ _ vs g h k⟩
theorem QD(a:cJ E)(b:gH E a4)(ec:oJ E LE)(d:iA E){c:e6 E.T}(e:c.Eq E a4 LE f):jt E f (c.run E):=zZ a b ec d e.v
end
structure j5 where
 ea:List cW
 c9:List bB
@[reducible] def xh(El:Nat->Type)(w:j5):Type:=c8 El w.ea×ct El w.c9
@[reducible] def r3(El:Nat->Type):List j5->Type
  |[]=>Empty
  |[w]=>xh El w
  |w::v::r=>xh El w⊕r3 El (v::r)
structure ju (T:bD) where
 bf:List cW
 pbs:List bB
 ws:List j5
 fn:c8 T.El bf×ct T.El pbs->Option (r3 T.El ws)
def B7(E:Env)(bl:List (az E.T.El))(sel:List Nat)(w:j5)(r:xh E.T.El w):D (eX E.T.El):=.ok ⟨.ret (jT (fq (hL sel bl.length) (eK bl sel w.c9) w.ea r.1)),fx bl sel w.c9 r.2,sel⟩
def B8(E:Env)(bl:List (az E.T.El))(sel:List Nat):(ws:List j5)->Option (r3 E.T.El ws)->D (eX E.T.El)
 |[],_=>.no
 |[w],o=>.op o λ d=>B7 E bl sel w d
 |w::v::r,o=>.pL o (λ d=>B7 E bl sel w d) (λ q=>B8 E bl sel (v::r) (some q))
def BI(pbs:List bB):List j5->Bool
 |[]=>true
 |w::r=>ib pbs w.c9&&BI pbs r
def ju.run(E:Env)(c:ju E.T)(ys:List (aE E.T.El))(bl:List (az E.T.El)):D (eX E.T.El):=match gl [] c.bf c.pbs bl ys with
 |(a,b)=>match BI c.pbs c.ws,gY a [] false c.bf c.pbs b with
  |true,some (d,sel)=>B8 E a sel c.ws (c.fn d)
  |_,_=>.no
def Ga{El:Nat->Type}(gn:Nat)(y:aE El)(bl:List (az El))(w:j5):Option (xh El w):=match gl (k4 gn) w.ea w.c9 bl (rK w.ea.length y)with
 |(a,b)=>match gY a (k4 gn) true w.ea w.c9 b with
  |some (d,_)=>some d
  |none=>none
def Gm{El:Nat->Type}(gn:Nat)(y:aE El)(bl:List (az El)):(ws:List j5)->Option (r3 El ws)
 |[]=>none
 |[w]=>Ga gn y bl w
 |w::v::r=>match Ga gn y bl w with
  |some d=>some (.inl d)
  |none=>match Gm gn y bl (v::r)with
   |some q=>some (.inr q)
   |none=>none
def ju.fin{T:bD}(c:ju T)(r:eX T.El):Option (r3 T.El c.ws):=match r.e with
 | .ret y=>Gm c.pbs.length y r.bl c.ws
 | .tP _=>none
def ju.Eq(E:Env)(a4:dW E)(LE:ig E)(f:Nat)(c:ju E.T):Prop:=∀(aH:c8 E.T.El c.bf)(aJ:ct E.T.El c.pbs),(kP E a4 LE f (fq id (cl false c.pbs) c.bf aH) (bA id (cl false c.pbs) false c.pbs aJ)).run c.fin=c.fn (aH,aJ)
section
variable{E:Env}{a4:dW E}{LE:ig E}{f:Nat}
theorem U9{pbs:List bB}:∀ {ws:List j5}{w:j5},BI pbs ws=true->w∈ws->ib pbs w.c9=true
 |[],w,_,h=>by simp at h
 |v::r,w,h,hm=>by simp only[BI,bM]at h;rcases cU.1 hm with rfl |hm;exact h.1;exact U9 h.2 hm
theorem Wi{gn:Nat}{y:aE E.T.El}{bl:List (az E.T.El)}:∀ {ws:List j5}{r:r3 E.T.El ws},Gm gn y bl ws=some r->∃(w:j5)(d:xh E.T.El w),w∈ws/\Ga gn y bl w=some d/\∀bl' sel t,(B8 E bl' sel ws (some r)).out t->(B7 E bl' sel w d).out t
 |[],r,h=>by cases h
 |[w],r,h=>⟨w,r,by simp,h,λ bl' sel t b=>by obtain⟨d,a,al⟩:=b;simp only[aM]at a;subst a;exact al⟩
 |w::v::ws,r,h=>by simp only[Gm]at h;split at h;rename_i d aC;simp only[aM]at h;subst h;refine⟨w,d,by simp,aC,λ bl' sel t b=>?_⟩;rcases b with⟨d',a,al⟩|⟨d',a,al⟩;simp only[aM,Sum.inl.injEq]at a;subst a;exact al;simp at a;split at h;rename_i q c;simp only[aM]at h;subst h;obtain⟨w',d,I,J,e⟩:=Wi c;refine⟨w',d,fD _ I,J,λ bl' sel t b=>?_⟩;rcases b with⟨d',a,al⟩|⟨d',a,al⟩;simp at a;simp only[aM,Sum.inr.injEq]at a;subst a;exact e bl' sel t al;cases h
theorem amH{bl:List (az E.T.El)}{sel:List Nat}:∀ {ws:List j5}{o:Option (r3 E.T.El ws)}{t:eX E.T.El},(B8 E bl sel ws o).out t->∃r,o=some r/\(B8 E bl sel ws (some r)).out t
 |[],o,t,h=>h.elim
 |[w],o,t,h=>by obtain⟨d,a,al⟩:=h;exact⟨d,a,d,rfl,al⟩
 |w::v::r,o,t,h=>by rcases h with⟨d,a,al⟩|⟨d,a,al⟩;exact⟨_,a,.inl ⟨d,rfl,al⟩⟩;exact⟨_,a,.inr ⟨d,rfl,al⟩⟩
def ju.mv(E:Env)(a4:dW E)(LE:ig E)(f:Nat)(c:ju E.T):Prop:=∀(aH:c8 E.T.El c.bf)(aJ:ct E.T.El c.pbs) r,c.fn (aH,aJ)=some r->(kP E a4 LE f (fq id (cl false c.pbs) c.bf aH) (bA id (cl false c.pbs) false c.pbs aJ)).run c.fin=some r
theorem ju.Eq.one{c:ju E.T}(h:c.Eq E a4 LE f):c.mv E a4 LE f:=λ aH aJ _ a=>(h aH aJ).trans a
theorem ab1(P:cJ E)(Q:gH E a4)(ec:oJ E LE)(R:iA E){c:ju E.T}(S:c.mv E a4 LE f):jt E f (c.run E):=by
 intro ys T r g W au X ρ0 w vs U V Y;unfold ju.run at g;cases K:gl [] c.bf c.pbs T ys with
 |mk bl cF=>
 rw[K]at g;obtain⟨ρ,s,t,Z⟩:=vv U K Y;simp only at g;split at g
 ·rename_i d sel u fl;obtain⟨aH,aJ⟩:=d;obtain⟨ia,I,J⟩:=amH g;obtain⟨ap,_,lW⟩:=sD s vm fl;obtain⟨qz,a⟩:=x0 vm fl;obtain⟨fy,bK⟩:=lW (aY (iE X bl ρ sel) (bA id (cl false c.pbs) false c.pbs aJ) (gp ρ sel) w) λ k a=>ap.tS a;have ki:=ap.enter s bK;have A4:=fy vs Z;obtain⟨cE,hq,b⟩:=D.rG (S aH aJ _ I);have AB:=(V.to t).enter R λ k a=>ap.tS a;have hc:=((Eb P Q ec).ok _ _ _ _ hq).2 _ _ _ _ _ vs ki AB A4;unfold ju.fin at b;cases x:cE.e with
  |tP y=>rw[x]at b;cases b
  |ret y=>
   rw[x]at b;simp only at b;obtain⟨iZ,L,hw,l,z⟩:=Wi b;have A:=U9 u hw;have J:=z _ _ _ J;obtain⟨M,N⟩:=L;have J:(⟨.ret (jT (fq (hL sel bl.length) (eK bl sel iZ.c9) iZ.ea M)),fx bl sel iZ.c9 N,sel⟩:eX E.T.El)=r:=J;subst J;refine hc.mono λ e w' aD=>?_;obtain⟨Pf,LY,N7,wX,m⟩:=aD;rw[x]at m;cases e with
   |returned v=>
    have m:ar E.T _ w' Pf cE.bl y v:=m;unfold Ga at l;cases C:gl (k4 c.pbs.length) iZ.ea iZ.c9 cE.bl (rK iZ.ea.length y)with
    |mk zT lx=>
    rw[C]at l;simp only at l;split at l
    ·rename_i L NU o;have b:=eG l;subst b;have q:(rK iZ.ea.length y).length=iZ.ea.length:=by rw[<-Sl C];unfold gY at o;split at o;rename_i Ko;exact JY Ko;cases o
     obtain⟨us,F,pP⟩:=WM q m;obtain⟨uA,fK,N8,F⟩:=vv LY C F;have Cs:=N7.trans N8;obtain⟨G,mP,AX⟩:=sD fK vQ o;obtain⟨sI,AK⟩:=x0 vQ o;obtain⟨vP,nT⟩:=AX (aY (iE X bl ρ sel) (bA id (cl true iZ.c9) true iZ.c9 N) (gp uA NU) w') λ k a=>G.B2 a;have KI:=G.leave fK nT;have K0:=LK (by rw[ap.len,mc]) Cs G (λ j H=>mP (j,j) (vR.2 ⟨H,rfl⟩)) sI A λ j i p h h'=>by obtain⟨B,n,al,aN⟩:=AK j i p h h';exact⟨B,n,al,aN⟩
     obtain⟨bt,dN,fQ,gh⟩:=back (gq:=cl true iZ.c9) s ap qz (λ j i B p h h' O=>by obtain⟨B',n,al,_⟩:=a j i p h O;rw[h']at n;cases n;exact Ln A O al) A (λ i hi=>by obtain⟨j,H,rfl⟩:=jk.1 hi;obtain⟨B,n,_⟩:=a j _ _ (bx H) (bx (by omega:j<c.pbs.length));exact(bg.1 n).1) (λ j=>rfl) KI K0;refine⟨_,bt,t.trans dN,?_,?_⟩;have:=eH.nil.cc t fQ;rwa [jb]at this
     ·show ar E.T _ w' _ _ (jT _) v
      rw[<-pP];exact FP (gh iZ.ea M us (vP us F))
    ·cases l
   |panicked oV=>exact m.elim
   |outgrown=>exact m.elim
 ·exact g.elim
end
def rX{α:Type}:List Nat->List α->List (Nat×α)
 |s::r,y::ys=>(s,y)::rX r ys
 |_,_=>[]
def oh:List bB->List bB->Bool
 | .r _ s::r,.r _ s'::e4=>(s|| !s')&&oh r e4
 |_::r,_::e4=>oh r e4
 |_,_=>true
def yS(E:Env)(gn:Nat)(bl:List (az E.T.El))(f:cf E.T.El)(eS:List Nat)(bf:List cW)(pbs:List bB):Option (c8 E.T.El bf×ct E.T.El pbs):=match ma E bl f [] (eS.map .tmp)with
 |some ys=>match gl (k4 gn) bf pbs bl ys with
  |(a,b)=>match gY a (k4 gn) true bf pbs b with
   |some (d,_)=>some d
   |none=>none
 |none=>none
section
variable{T:bD}{F:Nat->Prop}{w w':World}{ρ:List Value}{bl:List (az T.El)}
theorem aeq{aO:List (Nat×Nat)}{p:bB}{B:az T.El}{r:oE T.El p×List (Nat×Nat)}(h:hj bl aO true p B=some r):hj bl aO false p B=some r:=by
 cases p with
 |c ty ps=>exact h
 |m kt vt=>exact h
 |d=>exact h
 |r t same=>simp only[hj]at h⊢;split at h;split at h;simpa using h;cases h;cases h
theorem SB:∀ {ps:List bB}{aO:List (Nat×Nat)}{k:Nat}{r:ct T.El ps×List (Nat×Nat)},kS bl true aO k ps=some r->kS bl false aO k ps=some r
 |[],aO,k,r,h=>h
 |p::ps,aO,k,r,h=>by simp only[kS]at h⊢;split at h;split at h;split at h;rename_i d a I;rw[aeq I];simp only;split at h;rename_i b c J;rw[SB J];exact h;cases h;cases h;cases h;cases h
theorem aet{aO:List (Nat×Nat)}{bf:List cW}{pbs:List bB}{ys:List (aE T.El)}{r:(c8 T.El bf×ct T.El pbs)×List Nat}(h:gY bl aO true bf pbs ys=some r):gY bl aO false bf pbs ys=some r:=by unfold gY at h⊢;split at h;split at h;rename_i J;rw[SB J];exact h;cases h;cases h
theorem Pa{t:Nat}{y:aE T.El}{a:Act}:∀ {eS:List Nat}{ys:List (aE T.El)},aR T F w ρ bl ys ((eS.map Operand.tmp).map a.eval)->dk (rX eS ys) t=some y->ar T F w ρ bl y (a.tmps.getD t undef)
 |[],ys,_,h=>by simp[rX,dk]at h
 |s::r,[],_,h=>by simp[rX,dk]at h
 |s::r,z::ys,b,h=>by simp only[eZ,aR]at b;obtain⟨u,us,e,I,J⟩:=b;simp only[hH]at e;obtain⟨rfl,rfl⟩:=e;simp only[rX,dk]at h;split at h;rename_i ag;simp only[aM]at h;subst h;rw[<-a8 ag];exact I;exact Pa J h
theorem FZ{σ g σ' g':Nat->Nat}{post post':Bool}:∀ {ps:List bB}{d:ct T.El ps}{j:Nat}{B:az T.El},(bA σ g post ps d)[j]? =some B->∃B',(bA σ' g' post' ps d)[j]? =some B'/\∀u,a_ B' u=a_ B u
 |[],d,j,B,h=>by simp[bA]at h
 |p::r,d,0,B,h=>by simp only[bA,dm,aM]at h;subst h;refine⟨c4 σ' g' post' p d.1,rfl,λ u=>?_⟩;cases p<;>rfl
 |p::r,d,j+1,B,h=>by obtain⟨B',I,J⟩:=FZ (σ':=σ') (g':=g') (post':=post') (ps:=r) (d:=d.2) (j:=j) (by simpa[bA]using h);exact⟨B',by simpa[bA]using I,J⟩
theorem ND{X:Nat->Prop}{σ g σ' g':Nat->Nat}{post post':Bool}{ps:List bB}{d:ct T.El ps}{k:Nat}(h:aY X (bA σ g post ps d) ρ w k):aY X (bA σ' g' post' ps d) ρ w k:=⟨h.1,λ⟨j,B,u,I,J,a⟩=>by obtain⟨B',b,al⟩:=FZ (σ':=σ) (g':=g) (post':=post) I;exact h.2.1 ⟨j,B',u,b,J,by rw[al];exact a⟩,h.2.2⟩
theorem U_:∀ {ps qs:List bB}{j:Nat}{p q:bB},oh ps qs=true->ps[j]? =some p->qs[j]? =some q->sW p q=true->et true (some q)=0 ->et true (some p)=0
 |[],_,j,p,q,_,h,_,_,_=>by simp at h
 |a::r,[],j,p,q,_,_,h,_,_=>by simp at h
 |a::r,b::s,0,p,q,c,h,h',e,d=>by
  simp only[dm,aM]at h h';subst h;subst h';cases a<;>cases b<;>simp only[sW,hT]at e<;>try first |rfl |(simp[et]at d;done)
  simp only[oh,bM,h1,gx]at c;rename_i i f k g;cases f<;>cases g<;>simp[et]at c d⊢
 |a::r,b::s,j+1,p,q,c,h,h',e,d=>by refine U_ (ps:=r) (qs:=s) (j:=j) ?_ (by simpa using h) (by simpa using h') e d;cases a<;>cases b<;>simp only[oh,bM]at c<;>first |exact c.2 |exact c
variable{X:Nat->Prop}{pre cb:List bB}{d0 d1:ct T.El pre}{d2:ct T.El cb}{ρ0 cz gG:List Value}{w0 bT cC:World}
theorem BS{σ g:Nat->Nat}{post:Bool}:∀ {ps:List bB}{d:ct T.El ps}{j:Nat},j<ps.length->∃p a,ps[j]? =some p/\∀σ' g' post',(bA σ' g' post' ps d)[j]? =some (c4 σ' g' post' p a)
 |[],d,j,h=>by simp at h
 |p::r,d,0,h=>⟨p,d.1,rfl,λ _ _ _=>rfl⟩
 |p::r,d,j+1,h=>by obtain⟨q,a,I,J⟩:=BS (σ:=σ) (g:=g) (post:=post) (ps:=r) (d:=d.2) (j:=j) (by simpa using h);exact⟨q,a,by simpa using I,λ σ' g' post'=>by simpa[bA]using J σ' g' post'⟩
theorem anm:To X (bA id (cl false pre) false pre d0) (bA id (cl true pre) true pre d0) ρ0 ρ0 w w:=by
 refine⟨λ k a=>⟨ND a,rfl⟩,⟨λ i h hi=>⟨h,hi,λ _=>rfl,?_⟩⟩,cS _,λ i B' h' hi f k a _=>?_⟩
 ·rcases gw i pre.length with aq |aq
  ·obtain⟨p,j,b,al⟩:=BS (σ:=id) (g:=id) (post:=true) (d:=d0) aq;rw[al,al];cases p with
   |c ty ps=>exact⟨cS _,λ _=>⟨rfl,rfl,cS _,λ _=>rfl⟩⟩
   |r t s=>exact⟨by simp[c4,bJ,et],λ _=>⟨rfl,rfl,by simp[c4,fs,uk],λ e=>by simp[c4,fs,uk]at e⟩⟩
   |m kt vt=>exact⟨cS _,λ _=>⟨rfl,rfl,cS _,λ _=>rfl⟩⟩
   |d=>exact⟨by simp[c4,bJ,et],λ e=>by simp[c4,bJ,et]at e⟩
  ·rw[gM (by rw[mc];exact aq),gM (by rw[mc];exact aq)];exact⟨cS _,λ _=>⟨rfl,rfl,cS _,λ _=>rfl⟩⟩
 ·obtain⟨B,b,al⟩:=FZ (σ':=id) (g':=cl false pre) (post':=false) hi;exact⟨B,h',b,f,by rw[al];exact a⟩
theorem WD(n:ib pre cb=true)(y:oh pre cb=true)(K:ρ0.length=pre.length)(h:To X (bA id (cl false pre) false pre d0) (bA id (cl true pre) true pre d1) ρ0 cz w0 bT)(k:To X (bA id (cl false pre) false pre d1) (bA id (cl true cb) true cb d2) cz gG bT cC) :
 To X (bA id (cl false pre) false pre d0) (bA id (cl true cb) true cb d2) ρ0 gG w0 cC:=by
 have L:=Cb n
 refine⟨λ q l=>?_,⟨λ i u hi=>?_⟩,eY h.sz k.sz,λ i B' h' hi z q l o=>?_⟩
 ·obtain⟨a,al⟩:=h.F q l;obtain⟨aN,bI⟩:=k.F q (ND a);exact⟨aN,bI.trans al⟩
 ·have r:i<pre.length:=by have:=(bg.1 hi).1;omega
  obtain⟨p,M,a,al⟩:=BS (σ:=id) (g:=id) (post:=true) (d:=d0) r;obtain⟨oi,N,b,c⟩:=BS (σ:=id) (g:=id) (post:=true) (d:=d1) r;obtain⟨q,A,s,t⟩:=BS (σ:=id) (g:=id) (post:=true) (d:=d2) (show i<cb.length by omega);rw[a]at b;cases b;have m:=Ca n a s;have C:=U_ y a s m;obtain⟨D,E,G,O,f⟩:=h.L.at_ i u hi;obtain⟨H,I,J,P,j⟩:=k.L.at_ i D E;rw[al,c]at f;rw[c,t]at j;refine⟨H,I,λ ap=>?_,?_⟩;have e:=G ap;rw[J (by rw[e];exact ap),e];rw[al,t];cases p<;>cases q<;>simp only[sW,hT]at m;exact⟨cS _,λ _=>⟨(j rfl).1.trans (f rfl).1,rfl,cS _,λ _=>rfl⟩⟩;exact⟨g_ _,λ e=>by simp[c4,bJ,et]at e⟩;have:=a8 m;subst this;rename_i v x;refine⟨by cases v<;>cases x<;>simp[c4,bJ,et],λ e=>⟨(j ?_).1.trans (f ?_).1,rfl,by simp[c4,fs,uk],λ e=>by simp[c4,fs,uk]at e⟩⟩<;>cases v<;>cases x<;>simp[c4,bJ,et]at e C⊢;exact⟨by simp[c4,bJ,et],λ e=>by simp[c4,bJ,et]at e⟩;exact⟨cS _,λ _=>⟨(j rfl).1.trans (f rfl).1,rfl,cS _,λ _=>rfl⟩⟩;exact⟨g_ _,λ e=>by simp[c4,bJ,et]at e⟩
 ·obtain⟨B,u,a,al,aN⟩:=k.kR i B' h' hi z q l (dr o h.sz);obtain⟨uB,b,c⟩:=FZ (σ':=id) (g':=cl true pre) (post':=true) a;exact h.kR i uB u b al q (by rw[c];exact aN) o
end
section
variable{E:Env}{W w w':World}{au:List Nat}{X:Nat->Prop}{n:cm}{f:cf E.T.El}{bl:List (az E.T.El)}{ρ kD:List Value}{a:Act}{pre pbs:List bB}{bf:List cW}{kM:ct E.T.El pre}{aH:c8 E.T.El bf}{aJ:ct E.T.El pbs}{eS:List Nat}
def Told(E:Env)(W:World)(au:List Nat)(X:Nat->Prop)(eS:List Nat)(bf:List cW)(pbs:List bB)(aH:c8 E.T.El bf)(aJ:ct E.T.El pbs)(ρ:List Value)(a:Act)(w:World)(post:Bool):Prop:=Mem E.T W au X (bA id (cl post pbs) post pbs aJ) ρ w/\aR E.T (aY X (bA id (cl post pbs) post pbs aJ) ρ w) w ρ (bA id (cl post pbs) post pbs aJ) (fq id (cl post pbs) bf aH) ((eS.map Operand.tmp).map a.eval)
theorem V4(h:R E W au X n f bl ρ a w')(u:kD.length=pre.length)(v:ib pre pbs=true)(x:To X (bA id (cl false pre) false pre kM) bl kD ρ w w')(b:yS E pre.length bl f eS bf pbs=some (aH,aJ)) :
 ∃r,(∀post,Told E W au X eS bf pbs aH aJ r a w' post)/\To X (bA id (cl false pre) false pre kM) (bA id (cl true pbs) true pbs aJ) kD r w w':=by
 unfold yS at b
 split at b
 ·rename_i ys y;have z:=yF h (cur:=[]) trivial y;cases s:gl (k4 pre.length) bf pbs bl ys with
  |mk J K=>
  rw[s]at b;simp only at b;split at b
  ·rename_i d sel fl;simp only[aM]at b;subst b;obtain⟨e,c,A,v1⟩:=vv h.mem s z;obtain⟨g,C,D⟩:=sD c vQ fl;obtain⟨t,_,l⟩:=sD c vQ (aet fl);obtain⟨F,G⟩:=x0 vQ fl;refine⟨gp e sel,λ post=>?_,LK u (x.trans A) g (λ j H=>C (j,j) (vR.2 ⟨H,rfl⟩)) F v λ j i p h h'=>?_⟩
   ·cases post with
    |true=>obtain⟨m,o⟩:=D (aY X (bA id (cl true pbs) true pbs aJ) (gp e sel) w') λ k q=>g.B2 q;exact⟨g.leave c o,m _ v1⟩
    |false=>obtain⟨m,o⟩:=l (aY X (bA id (cl false pbs) false pbs aJ) (gp e sel) w') λ k q=>t.B2 q;exact⟨t.leave c o,m _ v1⟩
   ·obtain⟨B,I,al,aN⟩:=G j i p h h';exact⟨B,I,al,aN⟩
  ·cases b
 ·cases b
end
end a9
